/-
  DERIVED. GIVEN WITH THE SEED: THE CARDS: each row of YtigkddloeikpbaaGreatDoorRows.lean that lists a variable, with what it lists TIED to the program's text (the seventh form; the later family's looks); each row that meets fmt, with fmt's text TOLD by the authors' own Lean function (tested against real Go, not proved from fmt's source: count such statements apart). THE CARD IS WHAT COUNTS. Prove the row's statement (the work); the ties are given (YtigkddloeikpbaaGreatDoorTie.lean); close each card by the builder's one call (the guide's Derived/Test/ToyasCard.lean, 'card_holds'). Laid BY PROGRAM, IN A SANDBOX (cutbox-door.mjs). By AI agents, Wed Nov 11 2026. No macro, syntax, notation, axiom, sorry.
-/
import Derived.Test.YtigkddloeikpbaaGreatDoorRows
import GoSem.ClaimSeven
namespace Go.Proofs.YtigkddloeikpbaaGreatDoor
namespace Rows

/-- THE TIED CARD OF 'cleromancylaw13.ElligatorHashes'. -/
def elligatorHashesCard : Claim7 := { stood := { row := elligatorHashesRow, standIns := [], harness := (true, "f52e6cc188067dba24e2435c8d0852d49bae3c5a3f3c5abcd25756069b904b3b"), looks := false }, kinds := [], alts := [], laidByText := true, laidKinds := [.data], laidTests := true, laidLooks := .later }
def ElligatorHashesCardSaid : Prop := Claim7.holds Tryz.pinned (.plain (OpenSpec.ofChange elligatorHashesSpec)) elligatorHashesCard

/-- THE SECOND FORM's CARD OF 'cleromancylaw13.ElligatorHashes'. -/
def elligatorHashesUptoCard : Claim7 := { stood := { row := elligatorHashesUptoRow, standIns := [], harness := (true, "f52e6cc188067dba24e2435c8d0852d49bae3c5a3f3c5abcd25756069b904b3b"), looks := false }, kinds := [], alts := [], laidByText := true, laidKinds := [.data], laidTests := true, laidLooks := .later }
def ElligatorHashesUptoCardSaid : Prop := Claim7.holds Tryz.pinned (.plain (OpenSpec.upto elligatorHashesSpec)) elligatorHashesUptoCard
end Rows
end Go.Proofs.YtigkddloeikpbaaGreatDoor
