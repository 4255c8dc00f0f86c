/-
  DERIVED. GIVEN WITH THE SEED: THE CARDS: each row of YtbdoieajjhhbpaaDoorRows.lean that lists a variable, with what it lists TIED to the program's text (the seventh form; the later family's looks); each row that meets fmt, with fmt's text TOLD by the authors' own Lean function (tested against real Go, not proved from fmt's source: count such statements apart). THE CARD IS WHAT COUNTS. Prove the row's statement (the work); the ties are given (YtbdoieajjhhbpaaDoorTie.lean); close each card by the builder's one call (the guide's Derived/Test/ToyasCard.lean, 'card_holds'). Laid BY PROGRAM, IN A SANDBOX (cutbox-door.mjs). By AI agents, Wed Nov 11 2026. No macro, syntax, notation, axiom, sorry.
-/
import Derived.Test.YtbdoieajjhhbpaaDoorRows
import GoSem.ClaimSeven
namespace Go.Proofs.YtbdoieajjhhbpaaDoor
namespace Rows

/-- THE TIED CARD OF 'cleromancylaw05.DigestSums'. -/
def digestSumsCard : Claim7 := { stood := { row := digestSumsRow, standIns := [], harness := (true, "764f88056aad10ee2f6923b8f8895bc37d2e1d1851d18bde524240e6971f2076"), looks := false }, kinds := [], alts := [], laidByText := true, laidKinds := [.data], laidTests := true, laidLooks := .later }
def DigestSumsCardSaid : Prop := Claim7.holds Tryd.pinned (.plain (OpenSpec.ofChange digestSumsSpec)) digestSumsCard

/-- THE TIED CARD OF 'cleromancylaw05.DigestTables'. -/
def digestTablesCard : Claim7 := { stood := { row := digestTablesRow, standIns := [], harness := (true, "764f88056aad10ee2f6923b8f8895bc37d2e1d1851d18bde524240e6971f2076"), looks := false }, kinds := [], alts := [], laidByText := true, laidKinds := [.data], laidTests := true, laidLooks := .later }
def DigestTablesCardSaid : Prop := Claim7.holds Tryd.pinned (.plain (OpenSpec.ofChange digestTablesSpec)) digestTablesCard

/-- THE TIED CARD OF 'cleromancylaw06.BroadSums'. -/
def broadSumsCard : Claim7 := { stood := { row := broadSumsRow, standIns := [], harness := (true, "764f88056aad10ee2f6923b8f8895bc37d2e1d1851d18bde524240e6971f2076"), looks := false }, kinds := [], alts := [], laidByText := true, laidKinds := [.data], laidTests := true, laidLooks := .later }
def BroadSumsCardSaid : Prop := Claim7.holds Tryd.pinned (.plain (OpenSpec.ofChange broadSumsSpec)) broadSumsCard

/-- THE TIED CARD OF 'cleromancylaw06.BroadTables'. -/
def broadTablesCard : Claim7 := { stood := { row := broadTablesRow, standIns := [], harness := (true, "764f88056aad10ee2f6923b8f8895bc37d2e1d1851d18bde524240e6971f2076"), looks := false }, kinds := [], alts := [], laidByText := true, laidKinds := [.data], laidTests := true, laidLooks := .later }
def BroadTablesCardSaid : Prop := Claim7.holds Tryd.pinned (.plain (OpenSpec.ofChange broadTablesSpec)) broadTablesCard

/-- THE TIED CARD OF 'cleromancylaw05.DigestPieces'. -/
def digestPiecesCard : Claim7 := { stood := { row := digestPiecesRow, standIns := [], harness := (true, "764f88056aad10ee2f6923b8f8895bc37d2e1d1851d18bde524240e6971f2076"), looks := false }, kinds := [], alts := [], laidByText := true, laidKinds := [.data], laidTests := true, laidLooks := .later }
def DigestPiecesCardSaid : Prop := Claim7.holds Tryd.pinned (.plain (OpenSpec.ofChange digestPiecesSpec)) digestPiecesCard

/-- THE TIED CARD OF 'cleromancylaw06.BroadPieces'. -/
def broadPiecesCard : Claim7 := { stood := { row := broadPiecesRow, standIns := [], harness := (true, "764f88056aad10ee2f6923b8f8895bc37d2e1d1851d18bde524240e6971f2076"), looks := false }, kinds := [], alts := [], laidByText := true, laidKinds := [.data], laidTests := true, laidLooks := .later }
def BroadPiecesCardSaid : Prop := Claim7.holds Tryd.pinned (.plain (OpenSpec.ofChange broadPiecesSpec)) broadPiecesCard

/-- THE SECOND FORM's CARD OF 'cleromancylaw05.DigestSums'. -/
def digestSumsUptoCard : Claim7 := { stood := { row := digestSumsUptoRow, standIns := [], harness := (true, "764f88056aad10ee2f6923b8f8895bc37d2e1d1851d18bde524240e6971f2076"), looks := false }, kinds := [], alts := [], laidByText := true, laidKinds := [.data], laidTests := true, laidLooks := .later }
def DigestSumsUptoCardSaid : Prop := Claim7.holds Tryd.pinned (.plain (OpenSpec.upto digestSumsSpec)) digestSumsUptoCard

/-- THE SECOND FORM's CARD OF 'cleromancylaw05.DigestTables'. -/
def digestTablesUptoCard : Claim7 := { stood := { row := digestTablesUptoRow, standIns := [], harness := (true, "764f88056aad10ee2f6923b8f8895bc37d2e1d1851d18bde524240e6971f2076"), looks := false }, kinds := [], alts := [], laidByText := true, laidKinds := [.data], laidTests := true, laidLooks := .later }
def DigestTablesUptoCardSaid : Prop := Claim7.holds Tryd.pinned (.plain (OpenSpec.upto digestTablesSpec)) digestTablesUptoCard

/-- THE SECOND FORM's CARD OF 'cleromancylaw06.BroadSums'. -/
def broadSumsUptoCard : Claim7 := { stood := { row := broadSumsUptoRow, standIns := [], harness := (true, "764f88056aad10ee2f6923b8f8895bc37d2e1d1851d18bde524240e6971f2076"), looks := false }, kinds := [], alts := [], laidByText := true, laidKinds := [.data], laidTests := true, laidLooks := .later }
def BroadSumsUptoCardSaid : Prop := Claim7.holds Tryd.pinned (.plain (OpenSpec.upto broadSumsSpec)) broadSumsUptoCard

/-- THE SECOND FORM's CARD OF 'cleromancylaw06.BroadTables'. -/
def broadTablesUptoCard : Claim7 := { stood := { row := broadTablesUptoRow, standIns := [], harness := (true, "764f88056aad10ee2f6923b8f8895bc37d2e1d1851d18bde524240e6971f2076"), looks := false }, kinds := [], alts := [], laidByText := true, laidKinds := [.data], laidTests := true, laidLooks := .later }
def BroadTablesUptoCardSaid : Prop := Claim7.holds Tryd.pinned (.plain (OpenSpec.upto broadTablesSpec)) broadTablesUptoCard

/-- THE SECOND FORM's CARD OF 'cleromancylaw05.DigestPieces'. -/
def digestPiecesUptoCard : Claim7 := { stood := { row := digestPiecesUptoRow, standIns := [], harness := (true, "764f88056aad10ee2f6923b8f8895bc37d2e1d1851d18bde524240e6971f2076"), looks := false }, kinds := [], alts := [], laidByText := true, laidKinds := [.data], laidTests := true, laidLooks := .later }
def DigestPiecesUptoCardSaid : Prop := Claim7.holds Tryd.pinned (.plain (OpenSpec.upto digestPiecesSpec)) digestPiecesUptoCard

/-- THE SECOND FORM's CARD OF 'cleromancylaw06.BroadPieces'. -/
def broadPiecesUptoCard : Claim7 := { stood := { row := broadPiecesUptoRow, standIns := [], harness := (true, "764f88056aad10ee2f6923b8f8895bc37d2e1d1851d18bde524240e6971f2076"), looks := false }, kinds := [], alts := [], laidByText := true, laidKinds := [.data], laidTests := true, laidLooks := .later }
def BroadPiecesUptoCardSaid : Prop := Claim7.holds Tryd.pinned (.plain (OpenSpec.upto broadPiecesSpec)) broadPiecesUptoCard
end Rows
end Go.Proofs.YtbdoieajjhhbpaaDoor
