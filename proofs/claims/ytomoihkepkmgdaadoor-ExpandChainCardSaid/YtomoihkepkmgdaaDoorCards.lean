/-
  DERIVED. GIVEN WITH THE SEED: THE CARDS: each row of YtomoihkepkmgdaaDoorRows.lean that lists a variable, with what it lists TIED to the program's text (the seventh form; the later family's looks); each row that meets fmt, with fmt's text TOLD by the authors' own Lean function (tested against real Go, not proved from fmt's source: count such statements apart). THE CARD IS WHAT COUNTS. Prove the row's statement (the work); the ties are given (YtomoihkepkmgdaaDoorTie.lean); close each card by the builder's one call (the guide's Derived/Test/ToyasCard.lean, 'card_holds'). Laid BY PROGRAM, IN A SANDBOX (cutbox-door.mjs). By AI agents, Wed Nov 11 2026. No macro, syntax, notation, axiom, sorry.
-/
import Derived.Test.YtomoihkepkmgdaaDoorRows
import GoSem.ClaimSeven
namespace Go.Proofs.YtomoihkepkmgdaaDoor
namespace Rows

/-- THE TIED CARD OF 'cleromancylaw07.MacSums'. -/
def macSumsCard : Claim7 := { stood := { row := macSumsRow, standIns := [], harness := (true, "3b0ec661256084af9d74a93e920f362910ee526e47b87480b9e97b388bcfeb2f"), looks := false }, kinds := [], alts := [], laidByText := true, laidKinds := [.data], laidTests := true, laidLooks := .later }
def MacSumsCardSaid : Prop := Claim7.holds Tryd.pinned (.plain (OpenSpec.ofChange macSumsSpec)) macSumsCard

/-- THE TIED CARD OF 'cleromancylaw07.MacKeys'. -/
def macKeysCard : Claim7 := { stood := { row := macKeysRow, standIns := [], harness := (true, "3b0ec661256084af9d74a93e920f362910ee526e47b87480b9e97b388bcfeb2f"), looks := false }, kinds := [], alts := [], laidByText := true, laidKinds := [.data], laidTests := true, laidLooks := .later }
def MacKeysCardSaid : Prop := Claim7.holds Tryd.pinned (.plain (OpenSpec.ofChange macKeysSpec)) macKeysCard

/-- THE TIED CARD OF 'cleromancylaw09.ExpandBytes'. -/
def expandBytesCard : Claim7 := { stood := { row := expandBytesRow, standIns := [], harness := (true, "3b0ec661256084af9d74a93e920f362910ee526e47b87480b9e97b388bcfeb2f"), looks := false }, kinds := [], alts := [], laidByText := true, laidKinds := [.data], laidTests := true, laidLooks := .later }
def ExpandBytesCardSaid : Prop := Claim7.holds Tryd.pinned (.plain (OpenSpec.ofChange expandBytesSpec)) expandBytesCard

/-- THE TIED CARD OF 'cleromancylaw09.ExpandChain'. -/
def expandChainCard : Claim7 := { stood := { row := expandChainRow, standIns := [], harness := (true, "3b0ec661256084af9d74a93e920f362910ee526e47b87480b9e97b388bcfeb2f"), looks := false }, kinds := [], alts := [], laidByText := true, laidKinds := [.data], laidTests := true, laidLooks := .later }
def ExpandChainCardSaid : Prop := Claim7.holds Tryd.pinned (.plain (OpenSpec.ofChange expandChainSpec)) expandChainCard

/-- THE TIED CARD OF 'cleromancylaw08.NonceTells'. -/
def nonceTellsCard : Claim7 := { stood := { row := nonceTellsRow, standIns := [], harness := (true, "3b0ec661256084af9d74a93e920f362910ee526e47b87480b9e97b388bcfeb2f"), looks := false }, kinds := [], alts := [], laidByText := true, laidKinds := [.data], laidTests := true, laidLooks := .later }
def NonceTellsCardSaid : Prop := Claim7.holds Tryd.pinned (.plain (OpenSpec.ofChange nonceTellsSpec)) nonceTellsCard

/-- THE TIED CARD OF 'cleromancylaw08.NonceAgain'. -/
def nonceAgainCard : Claim7 := { stood := { row := nonceAgainRow, standIns := [], harness := (true, "3b0ec661256084af9d74a93e920f362910ee526e47b87480b9e97b388bcfeb2f"), looks := false }, kinds := [], alts := [], laidByText := true, laidKinds := [.data], laidTests := true, laidLooks := .later }
def NonceAgainCardSaid : Prop := Claim7.holds Tryd.pinned (.plain (OpenSpec.ofChange nonceAgainSpec)) nonceAgainCard

/-- THE SECOND FORM's CARD OF 'cleromancylaw07.MacSums'. -/
def macSumsUptoCard : Claim7 := { stood := { row := macSumsUptoRow, standIns := [], harness := (true, "3b0ec661256084af9d74a93e920f362910ee526e47b87480b9e97b388bcfeb2f"), looks := false }, kinds := [], alts := [], laidByText := true, laidKinds := [.data], laidTests := true, laidLooks := .later }
def MacSumsUptoCardSaid : Prop := Claim7.holds Tryd.pinned (.plain (OpenSpec.upto macSumsSpec)) macSumsUptoCard

/-- THE SECOND FORM's CARD OF 'cleromancylaw07.MacKeys'. -/
def macKeysUptoCard : Claim7 := { stood := { row := macKeysUptoRow, standIns := [], harness := (true, "3b0ec661256084af9d74a93e920f362910ee526e47b87480b9e97b388bcfeb2f"), looks := false }, kinds := [], alts := [], laidByText := true, laidKinds := [.data], laidTests := true, laidLooks := .later }
def MacKeysUptoCardSaid : Prop := Claim7.holds Tryd.pinned (.plain (OpenSpec.upto macKeysSpec)) macKeysUptoCard

/-- THE SECOND FORM's CARD OF 'cleromancylaw09.ExpandBytes'. -/
def expandBytesUptoCard : Claim7 := { stood := { row := expandBytesUptoRow, standIns := [], harness := (true, "3b0ec661256084af9d74a93e920f362910ee526e47b87480b9e97b388bcfeb2f"), looks := false }, kinds := [], alts := [], laidByText := true, laidKinds := [.data], laidTests := true, laidLooks := .later }
def ExpandBytesUptoCardSaid : Prop := Claim7.holds Tryd.pinned (.plain (OpenSpec.upto expandBytesSpec)) expandBytesUptoCard

/-- THE SECOND FORM's CARD OF 'cleromancylaw09.ExpandChain'. -/
def expandChainUptoCard : Claim7 := { stood := { row := expandChainUptoRow, standIns := [], harness := (true, "3b0ec661256084af9d74a93e920f362910ee526e47b87480b9e97b388bcfeb2f"), looks := false }, kinds := [], alts := [], laidByText := true, laidKinds := [.data], laidTests := true, laidLooks := .later }
def ExpandChainUptoCardSaid : Prop := Claim7.holds Tryd.pinned (.plain (OpenSpec.upto expandChainSpec)) expandChainUptoCard

/-- THE SECOND FORM's CARD OF 'cleromancylaw08.NonceTells'. -/
def nonceTellsUptoCard : Claim7 := { stood := { row := nonceTellsUptoRow, standIns := [], harness := (true, "3b0ec661256084af9d74a93e920f362910ee526e47b87480b9e97b388bcfeb2f"), looks := false }, kinds := [], alts := [], laidByText := true, laidKinds := [.data], laidTests := true, laidLooks := .later }
def NonceTellsUptoCardSaid : Prop := Claim7.holds Tryd.pinned (.plain (OpenSpec.upto nonceTellsSpec)) nonceTellsUptoCard

/-- THE SECOND FORM's CARD OF 'cleromancylaw08.NonceAgain'. -/
def nonceAgainUptoCard : Claim7 := { stood := { row := nonceAgainUptoRow, standIns := [], harness := (true, "3b0ec661256084af9d74a93e920f362910ee526e47b87480b9e97b388bcfeb2f"), looks := false }, kinds := [], alts := [], laidByText := true, laidKinds := [.data], laidTests := true, laidLooks := .later }
def NonceAgainUptoCardSaid : Prop := Claim7.holds Tryd.pinned (.plain (OpenSpec.upto nonceAgainSpec)) nonceAgainUptoCard
end Rows
end Go.Proofs.YtomoihkepkmgdaaDoor
