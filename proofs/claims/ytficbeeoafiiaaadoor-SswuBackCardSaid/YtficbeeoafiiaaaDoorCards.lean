/-
  DERIVED. GIVEN WITH THE SEED: THE CARDS: each row of YtficbeeoafiiaaaDoorRows.lean that lists a variable, with what it lists TIED to the program's text (the seventh form; the later family's looks); each row that meets fmt, with fmt's text TOLD by the authors' own Lean function (tested against real Go, not proved from fmt's source: count such statements apart). THE CARD IS WHAT COUNTS. Prove the row's statement (the work); the ties are given (YtficbeeoafiiaaaDoorTie.lean); close each card by the builder's one call (the guide's Derived/Test/ToyasCard.lean, 'card_holds'). Laid BY PROGRAM, IN A SANDBOX (cutbox-door.mjs). By AI agents, Wed Nov 11 2026. No macro, syntax, notation, axiom, sorry.
-/
import Derived.Test.YtficbeeoafiiaaaDoorRows
import GoSem.ClaimSeven
namespace Go.Proofs.YtficbeeoafiiaaaDoor
namespace Rows

/-- THE TIED CARD OF 'cleromancylaw39.SswuMaps'. -/
def sswuMapsCard : Claim7 := { stood := { row := sswuMapsRow, standIns := [], harness := (true, "e8811bb97e6b3e0458de419f9677e7ddd6e2d716a8ebee751b7ab4161929d9b4"), looks := false }, kinds := [], alts := [], laidByText := true, laidKinds := [.data], laidTests := true, laidLooks := .later }
def SswuMapsCardSaid : Prop := Claim7.holds Tryd.pinned (.plain (OpenSpec.ofChange sswuMapsSpec)) sswuMapsCard

/-- THE TIED CARD OF 'cleromancylaw39.SswuBack'. -/
def sswuBackCard : Claim7 := { stood := { row := sswuBackRow, standIns := [], harness := (true, "e8811bb97e6b3e0458de419f9677e7ddd6e2d716a8ebee751b7ab4161929d9b4"), looks := false }, kinds := [], alts := [], laidByText := true, laidKinds := [.data], laidTests := true, laidLooks := .later }
def SswuBackCardSaid : Prop := Claim7.holds Tryd.pinned (.plain (OpenSpec.ofChange sswuBackSpec)) sswuBackCard

/-- THE SECOND FORM's CARD OF 'cleromancylaw39.SswuMaps'. -/
def sswuMapsUptoCard : Claim7 := { stood := { row := sswuMapsUptoRow, standIns := [], harness := (true, "e8811bb97e6b3e0458de419f9677e7ddd6e2d716a8ebee751b7ab4161929d9b4"), looks := false }, kinds := [], alts := [], laidByText := true, laidKinds := [.data], laidTests := true, laidLooks := .later }
def SswuMapsUptoCardSaid : Prop := Claim7.holds Tryd.pinned (.plain (OpenSpec.upto sswuMapsSpec)) sswuMapsUptoCard

/-- THE SECOND FORM's CARD OF 'cleromancylaw39.SswuBack'. -/
def sswuBackUptoCard : Claim7 := { stood := { row := sswuBackUptoRow, standIns := [], harness := (true, "e8811bb97e6b3e0458de419f9677e7ddd6e2d716a8ebee751b7ab4161929d9b4"), looks := false }, kinds := [], alts := [], laidByText := true, laidKinds := [.data], laidTests := true, laidLooks := .later }
def SswuBackUptoCardSaid : Prop := Claim7.holds Tryd.pinned (.plain (OpenSpec.upto sswuBackSpec)) sswuBackUptoCard
end Rows
end Go.Proofs.YtficbeeoafiiaaaDoor
