/-
  DERIVED. GIVEN WITH THE SEED: THE CARDS: each row of YtigkddloeikpbaaDoorRows.lean that lists a variable, with what it lists TIED to the program's text (the seventh form; the later family's looks); each row that meets fmt, with fmt's text TOLD by the authors' own Lean function (tested against real Go, not proved from fmt's source: count such statements apart). THE CARD IS WHAT COUNTS. Prove the row's statement (the work); the ties are given (YtigkddloeikpbaaDoorTie.lean); close each card by the builder's one call (the guide's Derived/Test/ToyasCard.lean, 'card_holds'). Laid BY PROGRAM, IN A SANDBOX (cutbox-door.mjs). By AI agents, Wed Nov 11 2026. No macro, syntax, notation, axiom, sorry.
-/
import Derived.Test.YtigkddloeikpbaaDoorRows
import GoSem.ClaimSeven
namespace Go.Proofs.YtigkddloeikpbaaDoor
namespace Rows

/-- THE TIED CARD OF 'cleromancylaw13.ElligatorBack'. -/
def elligatorBackCard : Claim7 := { stood := { row := elligatorBackRow, standIns := [], harness := (true, "658315d8b90ae560e1ef723644b70272711168d1f67387d758171d346b869624"), looks := false }, kinds := [], alts := [], laidByText := true, laidKinds := [.data], laidTests := true, laidLooks := .later }
def ElligatorBackCardSaid : Prop := Claim7.holds Tryd.pinned (.plain (OpenSpec.ofChange elligatorBackSpec)) elligatorBackCard

/-- THE SECOND FORM's CARD OF 'cleromancylaw13.ElligatorBack'. -/
def elligatorBackUptoCard : Claim7 := { stood := { row := elligatorBackUptoRow, standIns := [], harness := (true, "658315d8b90ae560e1ef723644b70272711168d1f67387d758171d346b869624"), looks := false }, kinds := [], alts := [], laidByText := true, laidKinds := [.data], laidTests := true, laidLooks := .later }
def ElligatorBackUptoCardSaid : Prop := Claim7.holds Tryd.pinned (.plain (OpenSpec.upto elligatorBackSpec)) elligatorBackUptoCard
end Rows
end Go.Proofs.YtigkddloeikpbaaDoor
