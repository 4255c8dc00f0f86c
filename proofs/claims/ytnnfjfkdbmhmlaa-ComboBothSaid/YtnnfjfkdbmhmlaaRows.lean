/-
  No cell of these rows narrows 'for every input' (looked for: loops, veiled, ifaces, maps, wideKeys, modest, calm, conditions, laid).
  DERIVED. THE GIVEN ROWS OF THIS SEAT. 12 by the template 'for every input the law returns true; each argument reads behind the call as it read before'; 0 by the template 'total and deterministic' (their statements: YtnnfjfkdbmhmlaaTotals.lean).
  GIVEN WITH THE SEED: the statements are not yours to turn. If you find one false, say at which input.
  Laid BY PROGRAM, IN A SANDBOX (cutbox-rows.mjs): the forced cells as the released guide's own fill.sh prints them over the translation 8164ddead514ce9a… (all of the seat's roots in one cut). By AI agents, Wed Nov 11 2026. No macro, syntax, notation, axiom, sorry.
-/
import Derived.Test.YtnnfjfkdbmhmlaaChecked
import GoSem.Claim
import GoSem.ClaimJoined
import GoSem.ClaimMapViews
import Derived.JoinedTies
import Derived.KernelRfl
namespace Go.Proofs.Ytnnfjfkdbmhmlaa
/- THE CELL 'sum', in the pinned program and in every row, IS THE sha256 OF THE DUMP (.gsa) THAT YtnnfjfkdbmhmlaaProg.lean LOADS. Nothing in Lean hashes anything: it is a label: what it is worth is what the hold of that sum in a sandbox is worth. -/
noncomputable def Try.pinned : Pinned := { name := "ytnnfjfkdbmhmlaa", sum := "8164ddead514ce9abf24bc6ec676eca0e4e1787d51799955900ef512a12bd2ba", checked := Try.checked }
namespace Rows
def none {H : Type} : Left H := { results := [], args := [] }

/-- 'cleromancylaw04.FieldRoots': WHATEVER THE INPUT: true; the input reads as it did. -/
def fieldRootsSpec : ChangeSpec := { name := "fieldRoots", fn := fun _ => fun
  | [d1, d2] => { results := [.lit (.bool true)], args := [d1, d2] }
  | _ => none }
def fieldRootsRow : OpenClaim := { program := "ytnnfjfkdbmhmlaa", sum := "8164ddead514ce9abf24bc6ec676eca0e4e1787d51799955900ef512a12bd2ba", func := "cleromancy/cleromancylaw04.FieldRoots", spec := "fieldRoots", inPlace := ["math/bits.Add64"], apart := false }
def FieldRootsSaid : Prop := fieldRootsRow.holds Try.pinned (OpenSpec.ofChange fieldRootsSpec)

/-- ITS FALSE NEIGHBOUR: 'it returns false'. Refute it at one input. -/
def fieldRootsWrong : ChangeSpec := { name := "fieldRoots", fn := fun _ => fun
  | [d1, d2] => { results := [.lit (.bool false)], args := [d1, d2] }
  | _ => none }
def FieldRootsWrongFalsely : Prop := fieldRootsRow.holds Try.pinned (OpenSpec.ofChange fieldRootsWrong)

/-- 'cleromancylaw04.FieldPowers': WHATEVER THE INPUT: true; the input reads as it did. -/
def fieldPowersSpec : ChangeSpec := { name := "fieldPowers", fn := fun _ => fun
  | [d1, d2] => { results := [.lit (.bool true)], args := [d1, d2] }
  | _ => none }
def fieldPowersRow : OpenClaim := { program := "ytnnfjfkdbmhmlaa", sum := "8164ddead514ce9abf24bc6ec676eca0e4e1787d51799955900ef512a12bd2ba", func := "cleromancy/cleromancylaw04.FieldPowers", spec := "fieldPowers", inPlace := ["math/bits.Add64"], apart := false }
def FieldPowersSaid : Prop := fieldPowersRow.holds Try.pinned (OpenSpec.ofChange fieldPowersSpec)

/-- ITS FALSE NEIGHBOUR: 'it returns false'. Refute it at one input. -/
def fieldPowersWrong : ChangeSpec := { name := "fieldPowers", fn := fun _ => fun
  | [d1, d2] => { results := [.lit (.bool false)], args := [d1, d2] }
  | _ => none }
def FieldPowersWrongFalsely : Prop := fieldPowersRow.holds Try.pinned (OpenSpec.ofChange fieldPowersWrong)

/-- 'cleromancylaw04.FieldSums': WHATEVER THE INPUT: true; the input reads as it did. -/
def fieldSumsSpec : ChangeSpec := { name := "fieldSums", fn := fun _ => fun
  | [d1, d2, d3] => { results := [.lit (.bool true)], args := [d1, d2, d3] }
  | _ => none }
def fieldSumsRow : OpenClaim := { program := "ytnnfjfkdbmhmlaa", sum := "8164ddead514ce9abf24bc6ec676eca0e4e1787d51799955900ef512a12bd2ba", func := "cleromancy/cleromancylaw04.FieldSums", spec := "fieldSums", inPlace := ["math/bits.Add64"], apart := false }
def FieldSumsSaid : Prop := fieldSumsRow.holds Try.pinned (OpenSpec.ofChange fieldSumsSpec)

/-- ITS FALSE NEIGHBOUR: 'it returns false'. Refute it at one input. -/
def fieldSumsWrong : ChangeSpec := { name := "fieldSums", fn := fun _ => fun
  | [d1, d2, d3] => { results := [.lit (.bool false)], args := [d1, d2, d3] }
  | _ => none }
def FieldSumsWrongFalsely : Prop := fieldSumsRow.holds Try.pinned (OpenSpec.ofChange fieldSumsWrong)

/-- 'cleromancylaw04.FieldBack': WHATEVER THE INPUT: true; the input reads as it did. -/
def fieldBackSpec : ChangeSpec := { name := "fieldBack", fn := fun _ => fun
  | [d1, d2, d3] => { results := [.lit (.bool true)], args := [d1, d2, d3] }
  | _ => none }
def fieldBackRow : OpenClaim := { program := "ytnnfjfkdbmhmlaa", sum := "8164ddead514ce9abf24bc6ec676eca0e4e1787d51799955900ef512a12bd2ba", func := "cleromancy/cleromancylaw04.FieldBack", spec := "fieldBack", inPlace := ["math/bits.Add64"], unfollowed := true, recurses := true, apart := false }
def FieldBackSaid : Prop := fieldBackRow.holds Try.pinned (OpenSpec.ofChange fieldBackSpec)

/-- ITS FALSE NEIGHBOUR: 'it returns false'. Refute it at one input. -/
def fieldBackWrong : ChangeSpec := { name := "fieldBack", fn := fun _ => fun
  | [d1, d2, d3] => { results := [.lit (.bool false)], args := [d1, d2, d3] }
  | _ => none }
def FieldBackWrongFalsely : Prop := fieldBackRow.holds Try.pinned (OpenSpec.ofChange fieldBackWrong)

/-- 'cleromancylaw04.FieldBytes': WHATEVER THE INPUT: true; the input reads as it did. -/
def fieldBytesSpec : ChangeSpec := { name := "fieldBytes", fn := fun _ => fun
  | [d1, d2, d3] => { results := [.lit (.bool true)], args := [d1, d2, d3] }
  | _ => none }
def fieldBytesRow : OpenClaim := { program := "ytnnfjfkdbmhmlaa", sum := "8164ddead514ce9abf24bc6ec676eca0e4e1787d51799955900ef512a12bd2ba", func := "cleromancy/cleromancylaw04.FieldBytes", spec := "fieldBytes", inPlace := ["math/bits.Add64"], apart := false }
def FieldBytesSaid : Prop := fieldBytesRow.holds Try.pinned (OpenSpec.ofChange fieldBytesSpec)

/-- ITS FALSE NEIGHBOUR: 'it returns false'. Refute it at one input. -/
def fieldBytesWrong : ChangeSpec := { name := "fieldBytes", fn := fun _ => fun
  | [d1, d2, d3] => { results := [.lit (.bool false)], args := [d1, d2, d3] }
  | _ => none }
def FieldBytesWrongFalsely : Prop := fieldBytesRow.holds Try.pinned (OpenSpec.ofChange fieldBytesWrong)

/-- 'cleromancylaw10.EdwardsPairs': WHATEVER THE INPUT: true; the input reads as it did. -/
def edwardsPairsSpec : ChangeSpec := { name := "edwardsPairs", fn := fun _ => fun
  | [d1, d2] => { results := [.lit (.bool true)], args := [d1, d2] }
  | _ => none }
def edwardsPairsRow : OpenClaim := { program := "ytnnfjfkdbmhmlaa", sum := "8164ddead514ce9abf24bc6ec676eca0e4e1787d51799955900ef512a12bd2ba", func := "cleromancy/cleromancylaw10.EdwardsPairs", spec := "edwardsPairs", inPlace := ["math/bits.Add64"], apart := false }
def EdwardsPairsSaid : Prop := edwardsPairsRow.holds Try.pinned (OpenSpec.ofChange edwardsPairsSpec)

/-- ITS FALSE NEIGHBOUR: 'it returns false'. Refute it at one input. -/
def edwardsPairsWrong : ChangeSpec := { name := "edwardsPairs", fn := fun _ => fun
  | [d1, d2] => { results := [.lit (.bool false)], args := [d1, d2] }
  | _ => none }
def EdwardsPairsWrongFalsely : Prop := edwardsPairsRow.holds Try.pinned (OpenSpec.ofChange edwardsPairsWrong)

/-- 'cleromancylaw10.EdwardsBytes': WHATEVER THE INPUT: true; the input reads as it did. -/
def edwardsBytesSpec : ChangeSpec := { name := "edwardsBytes", fn := fun _ => fun
  | [d] => { results := [.lit (.bool true)], args := [d] }
  | _ => none }
def edwardsBytesRow : OpenClaim := { program := "ytnnfjfkdbmhmlaa", sum := "8164ddead514ce9abf24bc6ec676eca0e4e1787d51799955900ef512a12bd2ba", func := "cleromancy/cleromancylaw10.EdwardsBytes", spec := "edwardsBytes", inPlace := ["math/bits.Add64"], apart := false }
def EdwardsBytesSaid : Prop := edwardsBytesRow.holds Try.pinned (OpenSpec.ofChange edwardsBytesSpec)

/-- ITS FALSE NEIGHBOUR: 'it returns false'. Refute it at one input. -/
def edwardsBytesWrong : ChangeSpec := { name := "edwardsBytes", fn := fun _ => fun
  | [d] => { results := [.lit (.bool false)], args := [d] }
  | _ => none }
def EdwardsBytesWrongFalsely : Prop := edwardsBytesRow.holds Try.pinned (OpenSpec.ofChange edwardsBytesWrong)

/-- 'cleromancylaw10.EdwardsAdds': WHATEVER THE INPUT: true; the input reads as it did. -/
def edwardsAddsSpec : ChangeSpec := { name := "edwardsAdds", fn := fun _ => fun
  | [d1, d2] => { results := [.lit (.bool true)], args := [d1, d2] }
  | _ => none }
def edwardsAddsRow : OpenClaim := { program := "ytnnfjfkdbmhmlaa", sum := "8164ddead514ce9abf24bc6ec676eca0e4e1787d51799955900ef512a12bd2ba", func := "cleromancy/cleromancylaw10.EdwardsAdds", spec := "edwardsAdds", inPlace := ["math/bits.Add64"], apart := false }
def EdwardsAddsSaid : Prop := edwardsAddsRow.holds Try.pinned (OpenSpec.ofChange edwardsAddsSpec)

/-- ITS FALSE NEIGHBOUR: 'it returns false'. Refute it at one input. -/
def edwardsAddsWrong : ChangeSpec := { name := "edwardsAdds", fn := fun _ => fun
  | [d1, d2] => { results := [.lit (.bool false)], args := [d1, d2] }
  | _ => none }
def EdwardsAddsWrongFalsely : Prop := edwardsAddsRow.holds Try.pinned (OpenSpec.ofChange edwardsAddsWrong)

/-- 'cleromancylaw10.EdwardsGroup': WHATEVER THE INPUT: true; the input reads as it did. -/
def edwardsGroupSpec : ChangeSpec := { name := "edwardsGroup", fn := fun _ => fun
  | [d1, d2, d3] => { results := [.lit (.bool true)], args := [d1, d2, d3] }
  | _ => none }
def edwardsGroupRow : OpenClaim := { program := "ytnnfjfkdbmhmlaa", sum := "8164ddead514ce9abf24bc6ec676eca0e4e1787d51799955900ef512a12bd2ba", func := "cleromancy/cleromancylaw10.EdwardsGroup", spec := "edwardsGroup", inPlace := ["math/bits.Add64"], apart := false }
def EdwardsGroupSaid : Prop := edwardsGroupRow.holds Try.pinned (OpenSpec.ofChange edwardsGroupSpec)

/-- ITS FALSE NEIGHBOUR: 'it returns false'. Refute it at one input. -/
def edwardsGroupWrong : ChangeSpec := { name := "edwardsGroup", fn := fun _ => fun
  | [d1, d2, d3] => { results := [.lit (.bool false)], args := [d1, d2, d3] }
  | _ => none }
def EdwardsGroupWrongFalsely : Prop := edwardsGroupRow.holds Try.pinned (OpenSpec.ofChange edwardsGroupWrong)

/-- 'cleromancylaw11.ComboMuls': WHATEVER THE INPUT: true; the input reads as it did. -/
def comboMulsSpec : ChangeSpec := { name := "comboMuls", fn := fun _ => fun
  | [d1, d2] => { results := [.lit (.bool true)], args := [d1, d2] }
  | _ => none }
def comboMulsRow : OpenClaim := { program := "ytnnfjfkdbmhmlaa", sum := "8164ddead514ce9abf24bc6ec676eca0e4e1787d51799955900ef512a12bd2ba", func := "cleromancy/cleromancylaw11.ComboMuls", spec := "comboMuls", inPlace := ["math/bits.Add64"], unfollowed := true, recurses := true, apart := false }
def ComboMulsSaid : Prop := comboMulsRow.holds Try.pinned (OpenSpec.ofChange comboMulsSpec)

/-- ITS FALSE NEIGHBOUR: 'it returns false'. Refute it at one input. -/
def comboMulsWrong : ChangeSpec := { name := "comboMuls", fn := fun _ => fun
  | [d1, d2] => { results := [.lit (.bool false)], args := [d1, d2] }
  | _ => none }
def ComboMulsWrongFalsely : Prop := comboMulsRow.holds Try.pinned (OpenSpec.ofChange comboMulsWrong)

/-- 'cleromancylaw11.ComboBoth': WHATEVER THE INPUT: true; the input reads as it did. -/
def comboBothSpec : ChangeSpec := { name := "comboBoth", fn := fun _ => fun
  | [d1, d2, d3] => { results := [.lit (.bool true)], args := [d1, d2, d3] }
  | _ => none }
def comboBothRow : OpenClaim := { program := "ytnnfjfkdbmhmlaa", sum := "8164ddead514ce9abf24bc6ec676eca0e4e1787d51799955900ef512a12bd2ba", func := "cleromancy/cleromancylaw11.ComboBoth", spec := "comboBoth", inPlace := ["math/bits.Add64"], unfollowed := true, recurses := true, apart := false }
def ComboBothSaid : Prop := comboBothRow.holds Try.pinned (OpenSpec.ofChange comboBothSpec)

/-- ITS FALSE NEIGHBOUR: 'it returns false'. Refute it at one input. -/
def comboBothWrong : ChangeSpec := { name := "comboBoth", fn := fun _ => fun
  | [d1, d2, d3] => { results := [.lit (.bool false)], args := [d1, d2, d3] }
  | _ => none }
def ComboBothWrongFalsely : Prop := comboBothRow.holds Try.pinned (OpenSpec.ofChange comboBothWrong)

/-- 'cleromancylaw11.ComboBack': WHATEVER THE INPUT: true; the input reads as it did. -/
def comboBackSpec : ChangeSpec := { name := "comboBack", fn := fun _ => fun
  | [d1, d2, d3] => { results := [.lit (.bool true)], args := [d1, d2, d3] }
  | _ => none }
def comboBackRow : OpenClaim := { program := "ytnnfjfkdbmhmlaa", sum := "8164ddead514ce9abf24bc6ec676eca0e4e1787d51799955900ef512a12bd2ba", func := "cleromancy/cleromancylaw11.ComboBack", spec := "comboBack", inPlace := ["math/bits.Add64", "math/bits.Sub64"], unfollowed := true, recurses := true, apart := false }
def ComboBackSaid : Prop := comboBackRow.holds Try.pinned (OpenSpec.ofChange comboBackSpec)

/-- ITS FALSE NEIGHBOUR: 'it returns false'. Refute it at one input. -/
def comboBackWrong : ChangeSpec := { name := "comboBack", fn := fun _ => fun
  | [d1, d2, d3] => { results := [.lit (.bool false)], args := [d1, d2, d3] }
  | _ => none }
def ComboBackWrongFalsely : Prop := comboBackRow.holds Try.pinned (OpenSpec.ofChange comboBackWrong)

/- THE SECOND FORM. 'bulk': how many values and letters a reading holds, each counted each time it is reached (what is shared counts as often as it is met; a slice's spare places count too). A statement '..UptoSaid' is the law's where the arguments, and the package variables that the reading takes, are together of bulk at most 1048576: NARROWER than '..Said'. Prove '..Said' where nothing that the law and all that it calls make is longer than what came in: it says more and counts as full. Else prove '..UptoSaid'. A law counts once. -/
mutual
def uptoBulk {H : Type} : DataW H → Nat
  | .lit (.string bytes) => bytes.length + 1
  | .lit _ => 1
  | .nil => 1
  | .ptr d => uptoBulk d + 1
  | .slice elems spare => uptoBulkAll elems + uptoBulkAll spare + 1
  | .agg parts => uptoBulkAll parts + 1
  | .iface _ d => uptoBulk d + 1
  | .map entries => uptoBulkEntries entries + 1
  | .held _ => 1
def uptoBulkAll {H : Type} : List (DataW H) → Nat
  | [] => 0
  | d :: r => uptoBulk d + uptoBulkAll r
def uptoBulkEntries {H : Type} : List (Lit × DataW H) → Nat
  | [] => 0
  | x :: r => uptoBulkEntry x + uptoBulkEntries r
def uptoBulkEntry {H : Type} : Lit × DataW H → Nat
  | (.string bytes, d) => bytes.length + uptoBulk d + 1
  | (_, d) => uptoBulk d + 1
 end
def uptoSmall : (H : Type) → List (DataW H) → Bool := fun _ ds => decide (uptoBulkAll ds ≤ 1048576)
def OpenSpec.upto (s : _root_.Go.ChangeSpec) : _root_.Go.OpenSpec := { _root_.Go.OpenSpec.ofChange s with cond := some uptoSmall }

/-- 'cleromancylaw04.FieldRoots', WHERE WHAT IT READS IS OF BULK AT MOST 1048576: true; the input reads as it did. -/
def fieldRootsUptoRow : OpenClaim := { program := "ytnnfjfkdbmhmlaa", sum := "8164ddead514ce9abf24bc6ec676eca0e4e1787d51799955900ef512a12bd2ba", func := "cleromancy/cleromancylaw04.FieldRoots", spec := "fieldRoots", inPlace := ["math/bits.Add64"], apart := false, narrowed := true }
def FieldRootsUptoSaid : Prop := fieldRootsUptoRow.holds Try.pinned (OpenSpec.upto fieldRootsSpec)

/-- 'cleromancylaw04.FieldPowers', WHERE WHAT IT READS IS OF BULK AT MOST 1048576: true; the input reads as it did. -/
def fieldPowersUptoRow : OpenClaim := { program := "ytnnfjfkdbmhmlaa", sum := "8164ddead514ce9abf24bc6ec676eca0e4e1787d51799955900ef512a12bd2ba", func := "cleromancy/cleromancylaw04.FieldPowers", spec := "fieldPowers", inPlace := ["math/bits.Add64"], apart := false, narrowed := true }
def FieldPowersUptoSaid : Prop := fieldPowersUptoRow.holds Try.pinned (OpenSpec.upto fieldPowersSpec)

/-- 'cleromancylaw04.FieldSums', WHERE WHAT IT READS IS OF BULK AT MOST 1048576: true; the input reads as it did. -/
def fieldSumsUptoRow : OpenClaim := { program := "ytnnfjfkdbmhmlaa", sum := "8164ddead514ce9abf24bc6ec676eca0e4e1787d51799955900ef512a12bd2ba", func := "cleromancy/cleromancylaw04.FieldSums", spec := "fieldSums", inPlace := ["math/bits.Add64"], apart := false, narrowed := true }
def FieldSumsUptoSaid : Prop := fieldSumsUptoRow.holds Try.pinned (OpenSpec.upto fieldSumsSpec)

/-- 'cleromancylaw04.FieldBack', WHERE WHAT IT READS IS OF BULK AT MOST 1048576: true; the input reads as it did. -/
def fieldBackUptoRow : OpenClaim := { program := "ytnnfjfkdbmhmlaa", sum := "8164ddead514ce9abf24bc6ec676eca0e4e1787d51799955900ef512a12bd2ba", func := "cleromancy/cleromancylaw04.FieldBack", spec := "fieldBack", inPlace := ["math/bits.Add64"], unfollowed := true, recurses := true, apart := false, narrowed := true }
def FieldBackUptoSaid : Prop := fieldBackUptoRow.holds Try.pinned (OpenSpec.upto fieldBackSpec)

/-- 'cleromancylaw04.FieldBytes', WHERE WHAT IT READS IS OF BULK AT MOST 1048576: true; the input reads as it did. -/
def fieldBytesUptoRow : OpenClaim := { program := "ytnnfjfkdbmhmlaa", sum := "8164ddead514ce9abf24bc6ec676eca0e4e1787d51799955900ef512a12bd2ba", func := "cleromancy/cleromancylaw04.FieldBytes", spec := "fieldBytes", inPlace := ["math/bits.Add64"], apart := false, narrowed := true }
def FieldBytesUptoSaid : Prop := fieldBytesUptoRow.holds Try.pinned (OpenSpec.upto fieldBytesSpec)

/-- 'cleromancylaw10.EdwardsPairs', WHERE WHAT IT READS IS OF BULK AT MOST 1048576: true; the input reads as it did. -/
def edwardsPairsUptoRow : OpenClaim := { program := "ytnnfjfkdbmhmlaa", sum := "8164ddead514ce9abf24bc6ec676eca0e4e1787d51799955900ef512a12bd2ba", func := "cleromancy/cleromancylaw10.EdwardsPairs", spec := "edwardsPairs", inPlace := ["math/bits.Add64"], apart := false, narrowed := true }
def EdwardsPairsUptoSaid : Prop := edwardsPairsUptoRow.holds Try.pinned (OpenSpec.upto edwardsPairsSpec)

/-- 'cleromancylaw10.EdwardsBytes', WHERE WHAT IT READS IS OF BULK AT MOST 1048576: true; the input reads as it did. -/
def edwardsBytesUptoRow : OpenClaim := { program := "ytnnfjfkdbmhmlaa", sum := "8164ddead514ce9abf24bc6ec676eca0e4e1787d51799955900ef512a12bd2ba", func := "cleromancy/cleromancylaw10.EdwardsBytes", spec := "edwardsBytes", inPlace := ["math/bits.Add64"], apart := false, narrowed := true }
def EdwardsBytesUptoSaid : Prop := edwardsBytesUptoRow.holds Try.pinned (OpenSpec.upto edwardsBytesSpec)

/-- 'cleromancylaw10.EdwardsAdds', WHERE WHAT IT READS IS OF BULK AT MOST 1048576: true; the input reads as it did. -/
def edwardsAddsUptoRow : OpenClaim := { program := "ytnnfjfkdbmhmlaa", sum := "8164ddead514ce9abf24bc6ec676eca0e4e1787d51799955900ef512a12bd2ba", func := "cleromancy/cleromancylaw10.EdwardsAdds", spec := "edwardsAdds", inPlace := ["math/bits.Add64"], apart := false, narrowed := true }
def EdwardsAddsUptoSaid : Prop := edwardsAddsUptoRow.holds Try.pinned (OpenSpec.upto edwardsAddsSpec)

/-- 'cleromancylaw10.EdwardsGroup', WHERE WHAT IT READS IS OF BULK AT MOST 1048576: true; the input reads as it did. -/
def edwardsGroupUptoRow : OpenClaim := { program := "ytnnfjfkdbmhmlaa", sum := "8164ddead514ce9abf24bc6ec676eca0e4e1787d51799955900ef512a12bd2ba", func := "cleromancy/cleromancylaw10.EdwardsGroup", spec := "edwardsGroup", inPlace := ["math/bits.Add64"], apart := false, narrowed := true }
def EdwardsGroupUptoSaid : Prop := edwardsGroupUptoRow.holds Try.pinned (OpenSpec.upto edwardsGroupSpec)

/-- 'cleromancylaw11.ComboMuls', WHERE WHAT IT READS IS OF BULK AT MOST 1048576: true; the input reads as it did. -/
def comboMulsUptoRow : OpenClaim := { program := "ytnnfjfkdbmhmlaa", sum := "8164ddead514ce9abf24bc6ec676eca0e4e1787d51799955900ef512a12bd2ba", func := "cleromancy/cleromancylaw11.ComboMuls", spec := "comboMuls", inPlace := ["math/bits.Add64"], unfollowed := true, recurses := true, apart := false, narrowed := true }
def ComboMulsUptoSaid : Prop := comboMulsUptoRow.holds Try.pinned (OpenSpec.upto comboMulsSpec)

/-- 'cleromancylaw11.ComboBoth', WHERE WHAT IT READS IS OF BULK AT MOST 1048576: true; the input reads as it did. -/
def comboBothUptoRow : OpenClaim := { program := "ytnnfjfkdbmhmlaa", sum := "8164ddead514ce9abf24bc6ec676eca0e4e1787d51799955900ef512a12bd2ba", func := "cleromancy/cleromancylaw11.ComboBoth", spec := "comboBoth", inPlace := ["math/bits.Add64"], unfollowed := true, recurses := true, apart := false, narrowed := true }
def ComboBothUptoSaid : Prop := comboBothUptoRow.holds Try.pinned (OpenSpec.upto comboBothSpec)

/-- 'cleromancylaw11.ComboBack', WHERE WHAT IT READS IS OF BULK AT MOST 1048576: true; the input reads as it did. -/
def comboBackUptoRow : OpenClaim := { program := "ytnnfjfkdbmhmlaa", sum := "8164ddead514ce9abf24bc6ec676eca0e4e1787d51799955900ef512a12bd2ba", func := "cleromancy/cleromancylaw11.ComboBack", spec := "comboBack", inPlace := ["math/bits.Add64", "math/bits.Sub64"], unfollowed := true, recurses := true, apart := false, narrowed := true }
def ComboBackUptoSaid : Prop := comboBackUptoRow.holds Try.pinned (OpenSpec.upto comboBackSpec)

end Rows
end Go.Proofs.Ytnnfjfkdbmhmlaa
