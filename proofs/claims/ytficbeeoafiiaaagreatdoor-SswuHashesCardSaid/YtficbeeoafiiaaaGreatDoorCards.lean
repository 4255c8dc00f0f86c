/-
  DERIVED. GIVEN WITH THE SEED: THE CARDS: each row of YtficbeeoafiiaaaGreatDoorRows.lean that lists a variable, with what it lists TIED to the program's text (the seventh form; the later family's looks); each row that meets fmt, with fmt's text TOLD by the authors' own Lean function (tested against real Go, not proved from fmt's source: count such statements apart). THE CARD IS WHAT COUNTS. Prove the row's statement (the work); the ties are given (YtficbeeoafiiaaaGreatDoorTie.lean); close each card by the builder's one call (the guide's Derived/Test/ToyasCard.lean, 'card_holds'). Laid BY PROGRAM, IN A SANDBOX (cutbox-door.mjs). By AI agents, Wed Nov 11 2026. No macro, syntax, notation, axiom, sorry.
-/
import Derived.Test.YtficbeeoafiiaaaGreatDoorRows
import GoSem.ClaimSeven
namespace Go.Proofs.YtficbeeoafiiaaaGreatDoor
namespace Rows

/-- THE TIED CARD OF 'cleromancylaw39.SswuHashes'. -/
def sswuHashesCard : Claim7 := { stood := { row := sswuHashesRow, standIns := [], harness := (true, "3ee3160827b0ab52963270ee6fcb2769fda7c326cddae35a7d1b362b1cd6df8b"), looks := false }, kinds := [], alts := [], laidByText := true, laidKinds := [.data], laidTests := true, laidLooks := .later }
def SswuHashesCardSaid : Prop := Claim7.holds Tryz.pinned (.plain (OpenSpec.ofChange sswuHashesSpec)) sswuHashesCard

/-- THE SECOND FORM's CARD OF 'cleromancylaw39.SswuHashes'. -/
def sswuHashesUptoCard : Claim7 := { stood := { row := sswuHashesUptoRow, standIns := [], harness := (true, "3ee3160827b0ab52963270ee6fcb2769fda7c326cddae35a7d1b362b1cd6df8b"), looks := false }, kinds := [], alts := [], laidByText := true, laidKinds := [.data], laidTests := true, laidLooks := .later }
def SswuHashesUptoCardSaid : Prop := Claim7.holds Tryz.pinned (.plain (OpenSpec.upto sswuHashesSpec)) sswuHashesUptoCard
end Rows
end Go.Proofs.YtficbeeoafiiaaaGreatDoor
