/-
  No cell of these rows narrows 'for every input' (looked for: loops, veiled, ifaces, maps, wideKeys, modest, calm, conditions, laid).
  DERIVED. THE GIVEN ROWS OF THIS SEAT. 9 by the template 'for every input the law returns true; each argument reads behind the call as it read before'; 0 by the template 'total and deterministic' (their statements: YthechjccpljljaaTotals.lean).
  GIVEN WITH THE SEED: the statements are not yours to turn. If you find one false, say at which input.
  Laid BY PROGRAM, IN A SANDBOX (cutbox-rows.mjs): the forced cells as the released guide's own fill.sh prints them over the translation 860a29d028fcd3bc… (all of the seat's roots in one cut). By AI agents, Wed Nov 11 2026. No macro, syntax, notation, axiom, sorry.
-/
import Derived.Test.YthechjccpljljaaChecked
import GoSem.Claim
import GoSem.ClaimJoined
import GoSem.ClaimMapViews
import Derived.JoinedTies
import Derived.KernelRfl
namespace Go.Proofs.Ythechjccpljljaa
/- THE CELL 'sum', in the pinned program and in every row, IS THE sha256 OF THE DUMP (.gsa) THAT YthechjccpljljaaProg.lean LOADS. Nothing in Lean hashes anything: it is a label: what it is worth is what the hold of that sum in a sandbox is worth. -/
noncomputable def Try.pinned : Pinned := { name := "ythechjccpljljaa", sum := "860a29d028fcd3bc96e4f14756781dd092c7b3559d11cde9ea9036d947c1553f", checked := Try.checked }
namespace Rows
def none {H : Type} : Left H := { results := [], args := [] }

/-- 'cleromancylaw01.LimbSums': WHATEVER THE INPUT: true; the input reads as it did. -/
def limbSumsSpec : ChangeSpec := { name := "limbSums", fn := fun _ => fun
  | [d1, d2] => { results := [.lit (.bool true)], args := [d1, d2] }
  | _ => none }
def limbSumsRow : OpenClaim := { program := "ythechjccpljljaa", sum := "860a29d028fcd3bc96e4f14756781dd092c7b3559d11cde9ea9036d947c1553f", func := "cleromancy/cleromancylaw01.LimbSums", spec := "limbSums", inPlace := ["math/bits.Add64", "math/bits.Sub64"], apart := false }
def LimbSumsSaid : Prop := limbSumsRow.holds Try.pinned (OpenSpec.ofChange limbSumsSpec)

/-- ITS FALSE NEIGHBOUR: 'it returns false'. Refute it at one input. -/
def limbSumsWrong : ChangeSpec := { name := "limbSums", fn := fun _ => fun
  | [d1, d2] => { results := [.lit (.bool false)], args := [d1, d2] }
  | _ => none }
def LimbSumsWrongFalsely : Prop := limbSumsRow.holds Try.pinned (OpenSpec.ofChange limbSumsWrong)

/-- 'cleromancylaw01.LimbBytes': WHATEVER THE INPUT: true; the input reads as it did. -/
def limbBytesSpec : ChangeSpec := { name := "limbBytes", fn := fun _ => fun
  | [d1, d2, d3] => { results := [.lit (.bool true)], args := [d1, d2, d3] }
  | _ => none }
def limbBytesRow : OpenClaim := { program := "ythechjccpljljaa", sum := "860a29d028fcd3bc96e4f14756781dd092c7b3559d11cde9ea9036d947c1553f", func := "cleromancy/cleromancylaw01.LimbBytes", spec := "limbBytes", inPlace := ["math/bits.Add64"], apart := false }
def LimbBytesSaid : Prop := limbBytesRow.holds Try.pinned (OpenSpec.ofChange limbBytesSpec)

/-- ITS FALSE NEIGHBOUR: 'it returns false'. Refute it at one input. -/
def limbBytesWrong : ChangeSpec := { name := "limbBytes", fn := fun _ => fun
  | [d1, d2, d3] => { results := [.lit (.bool false)], args := [d1, d2, d3] }
  | _ => none }
def LimbBytesWrongFalsely : Prop := limbBytesRow.holds Try.pinned (OpenSpec.ofChange limbBytesWrong)

/-- 'cleromancylaw01.LimbProducts': WHATEVER THE INPUT: true; the input reads as it did. -/
def limbProductsSpec : ChangeSpec := { name := "limbProducts", fn := fun _ => fun
  | [d1, d2, d3] => { results := [.lit (.bool true)], args := [d1, d2, d3] }
  | _ => none }
def limbProductsRow : OpenClaim := { program := "ythechjccpljljaa", sum := "860a29d028fcd3bc96e4f14756781dd092c7b3559d11cde9ea9036d947c1553f", func := "cleromancy/cleromancylaw01.LimbProducts", spec := "limbProducts", inPlace := ["math/bits.Add64"], apart := false }
def LimbProductsSaid : Prop := limbProductsRow.holds Try.pinned (OpenSpec.ofChange limbProductsSpec)

/-- ITS FALSE NEIGHBOUR: 'it returns false'. Refute it at one input. -/
def limbProductsWrong : ChangeSpec := { name := "limbProducts", fn := fun _ => fun
  | [d1, d2, d3] => { results := [.lit (.bool false)], args := [d1, d2, d3] }
  | _ => none }
def LimbProductsWrongFalsely : Prop := limbProductsRow.holds Try.pinned (OpenSpec.ofChange limbProductsWrong)

/-- 'cleromancylaw01.LimbBits': WHATEVER THE INPUT: true; the input reads as it did. -/
def limbBitsSpec : ChangeSpec := { name := "limbBits", fn := fun _ => fun
  | [d1, d2, d3] => { results := [.lit (.bool true)], args := [d1, d2, d3] }
  | _ => none }
def limbBitsRow : OpenClaim := { program := "ythechjccpljljaa", sum := "860a29d028fcd3bc96e4f14756781dd092c7b3559d11cde9ea9036d947c1553f", func := "cleromancy/cleromancylaw01.LimbBits", spec := "limbBits", inPlace := ["math/bits.Add64"], apart := false }
def LimbBitsSaid : Prop := limbBitsRow.holds Try.pinned (OpenSpec.ofChange limbBitsSpec)

/-- ITS FALSE NEIGHBOUR: 'it returns false'. Refute it at one input. -/
def limbBitsWrong : ChangeSpec := { name := "limbBits", fn := fun _ => fun
  | [d1, d2, d3] => { results := [.lit (.bool false)], args := [d1, d2, d3] }
  | _ => none }
def LimbBitsWrongFalsely : Prop := limbBitsRow.holds Try.pinned (OpenSpec.ofChange limbBitsWrong)

/-- 'cleromancylaw01.LimbBack': WHATEVER THE INPUT: true; the input reads as it did. -/
def limbBackSpec : ChangeSpec := { name := "limbBack", fn := fun _ => fun
  | [d1, d2, d3] => { results := [.lit (.bool true)], args := [d1, d2, d3] }
  | _ => none }
def limbBackRow : OpenClaim := { program := "ythechjccpljljaa", sum := "860a29d028fcd3bc96e4f14756781dd092c7b3559d11cde9ea9036d947c1553f", func := "cleromancy/cleromancylaw01.LimbBack", spec := "limbBack", inPlace := ["math/bits.Add64", "math/bits.Sub64"], apart := false }
def LimbBackSaid : Prop := limbBackRow.holds Try.pinned (OpenSpec.ofChange limbBackSpec)

/-- ITS FALSE NEIGHBOUR: 'it returns false'. Refute it at one input. -/
def limbBackWrong : ChangeSpec := { name := "limbBack", fn := fun _ => fun
  | [d1, d2, d3] => { results := [.lit (.bool false)], args := [d1, d2, d3] }
  | _ => none }
def LimbBackWrongFalsely : Prop := limbBackRow.holds Try.pinned (OpenSpec.ofChange limbBackWrong)

/-- 'cleromancylaw03.RingReduces': WHATEVER THE INPUT: true; the input reads as it did. -/
def ringReducesSpec : ChangeSpec := { name := "ringReduces", fn := fun _ => fun
  | [d1, d2, d3] => { results := [.lit (.bool true)], args := [d1, d2, d3] }
  | _ => none }
def ringReducesRow : OpenClaim := { program := "ythechjccpljljaa", sum := "860a29d028fcd3bc96e4f14756781dd092c7b3559d11cde9ea9036d947c1553f", func := "cleromancy/cleromancylaw03.RingReduces", spec := "ringReduces", inPlace := ["math/bits.Add64", "math/bits.Sub64"], apart := false }
def RingReducesSaid : Prop := ringReducesRow.holds Try.pinned (OpenSpec.ofChange ringReducesSpec)

/-- ITS FALSE NEIGHBOUR: 'it returns false'. Refute it at one input. -/
def ringReducesWrong : ChangeSpec := { name := "ringReduces", fn := fun _ => fun
  | [d1, d2, d3] => { results := [.lit (.bool false)], args := [d1, d2, d3] }
  | _ => none }
def RingReducesWrongFalsely : Prop := ringReducesRow.holds Try.pinned (OpenSpec.ofChange ringReducesWrong)

/-- 'cleromancylaw03.RingNumerals': WHATEVER THE INPUT: true; the input reads as it did. -/
def ringNumeralsSpec : ChangeSpec := { name := "ringNumerals", fn := fun _ => fun
  | [d1, d2, d3] => { results := [.lit (.bool true)], args := [d1, d2, d3] }
  | _ => none }
def ringNumeralsRow : OpenClaim := { program := "ythechjccpljljaa", sum := "860a29d028fcd3bc96e4f14756781dd092c7b3559d11cde9ea9036d947c1553f", func := "cleromancy/cleromancylaw03.RingNumerals", spec := "ringNumerals", inPlace := ["math/bits.Add64", "math/bits.Sub64"], apart := false }
def RingNumeralsSaid : Prop := ringNumeralsRow.holds Try.pinned (OpenSpec.ofChange ringNumeralsSpec)

/-- ITS FALSE NEIGHBOUR: 'it returns false'. Refute it at one input. -/
def ringNumeralsWrong : ChangeSpec := { name := "ringNumerals", fn := fun _ => fun
  | [d1, d2, d3] => { results := [.lit (.bool false)], args := [d1, d2, d3] }
  | _ => none }
def RingNumeralsWrongFalsely : Prop := ringNumeralsRow.holds Try.pinned (OpenSpec.ofChange ringNumeralsWrong)

/-- 'cleromancylaw03.RingPowers': WHATEVER THE INPUT: true; the input reads as it did. -/
def ringPowersSpec : ChangeSpec := { name := "ringPowers", fn := fun _ => fun
  | [d1, d2, d3] => { results := [.lit (.bool true)], args := [d1, d2, d3] }
  | _ => none }
def ringPowersRow : OpenClaim := { program := "ythechjccpljljaa", sum := "860a29d028fcd3bc96e4f14756781dd092c7b3559d11cde9ea9036d947c1553f", func := "cleromancy/cleromancylaw03.RingPowers", spec := "ringPowers", inPlace := ["math/bits.Add64", "math/bits.Sub64"], unfollowed := true, recurses := true, apart := false }
def RingPowersSaid : Prop := ringPowersRow.holds Try.pinned (OpenSpec.ofChange ringPowersSpec)

/-- ITS FALSE NEIGHBOUR: 'it returns false'. Refute it at one input. -/
def ringPowersWrong : ChangeSpec := { name := "ringPowers", fn := fun _ => fun
  | [d1, d2, d3] => { results := [.lit (.bool false)], args := [d1, d2, d3] }
  | _ => none }
def RingPowersWrongFalsely : Prop := ringPowersRow.holds Try.pinned (OpenSpec.ofChange ringPowersWrong)

/-- 'cleromancylaw03.RingBack': WHATEVER THE INPUT: true; the input reads as it did. -/
def ringBackSpec : ChangeSpec := { name := "ringBack", fn := fun _ => fun
  | [d1, d2, d3] => { results := [.lit (.bool true)], args := [d1, d2, d3] }
  | _ => none }
def ringBackRow : OpenClaim := { program := "ythechjccpljljaa", sum := "860a29d028fcd3bc96e4f14756781dd092c7b3559d11cde9ea9036d947c1553f", func := "cleromancy/cleromancylaw03.RingBack", spec := "ringBack", inPlace := ["math/bits.Add64", "math/bits.Sub64"], unfollowed := true, recurses := true, apart := false }
def RingBackSaid : Prop := ringBackRow.holds Try.pinned (OpenSpec.ofChange ringBackSpec)

/-- ITS FALSE NEIGHBOUR: 'it returns false'. Refute it at one input. -/
def ringBackWrong : ChangeSpec := { name := "ringBack", fn := fun _ => fun
  | [d1, d2, d3] => { results := [.lit (.bool false)], args := [d1, d2, d3] }
  | _ => none }
def RingBackWrongFalsely : Prop := ringBackRow.holds Try.pinned (OpenSpec.ofChange ringBackWrong)

/- THE SECOND FORM. 'bulk': how many values and letters a reading holds, each counted each time it is reached (what is shared counts as often as it is met; a slice's spare places count too). A statement '..UptoSaid' is the law's where the arguments, and the package variables that the reading takes, are together of bulk at most 1048576: NARROWER than '..Said'. Prove '..Said' where nothing that the law and all that it calls make is longer than what came in: it says more and counts as full. Else prove '..UptoSaid'. A law counts once. -/
mutual
def uptoBulk {H : Type} : DataW H → Nat
  | .lit (.string bytes) => bytes.length + 1
  | .lit _ => 1
  | .nil => 1
  | .ptr d => uptoBulk d + 1
  | .slice elems spare => uptoBulkAll elems + uptoBulkAll spare + 1
  | .agg parts => uptoBulkAll parts + 1
  | .iface _ d => uptoBulk d + 1
  | .map entries => uptoBulkEntries entries + 1
  | .held _ => 1
def uptoBulkAll {H : Type} : List (DataW H) → Nat
  | [] => 0
  | d :: r => uptoBulk d + uptoBulkAll r
def uptoBulkEntries {H : Type} : List (Lit × DataW H) → Nat
  | [] => 0
  | x :: r => uptoBulkEntry x + uptoBulkEntries r
def uptoBulkEntry {H : Type} : Lit × DataW H → Nat
  | (.string bytes, d) => bytes.length + uptoBulk d + 1
  | (_, d) => uptoBulk d + 1
 end
def uptoSmall : (H : Type) → List (DataW H) → Bool := fun _ ds => decide (uptoBulkAll ds ≤ 1048576)
def OpenSpec.upto (s : _root_.Go.ChangeSpec) : _root_.Go.OpenSpec := { _root_.Go.OpenSpec.ofChange s with cond := some uptoSmall }

/-- 'cleromancylaw01.LimbSums', WHERE WHAT IT READS IS OF BULK AT MOST 1048576: true; the input reads as it did. -/
def limbSumsUptoRow : OpenClaim := { program := "ythechjccpljljaa", sum := "860a29d028fcd3bc96e4f14756781dd092c7b3559d11cde9ea9036d947c1553f", func := "cleromancy/cleromancylaw01.LimbSums", spec := "limbSums", inPlace := ["math/bits.Add64", "math/bits.Sub64"], apart := false, narrowed := true }
def LimbSumsUptoSaid : Prop := limbSumsUptoRow.holds Try.pinned (OpenSpec.upto limbSumsSpec)

/-- 'cleromancylaw01.LimbBytes', WHERE WHAT IT READS IS OF BULK AT MOST 1048576: true; the input reads as it did. -/
def limbBytesUptoRow : OpenClaim := { program := "ythechjccpljljaa", sum := "860a29d028fcd3bc96e4f14756781dd092c7b3559d11cde9ea9036d947c1553f", func := "cleromancy/cleromancylaw01.LimbBytes", spec := "limbBytes", inPlace := ["math/bits.Add64"], apart := false, narrowed := true }
def LimbBytesUptoSaid : Prop := limbBytesUptoRow.holds Try.pinned (OpenSpec.upto limbBytesSpec)

/-- 'cleromancylaw01.LimbProducts', WHERE WHAT IT READS IS OF BULK AT MOST 1048576: true; the input reads as it did. -/
def limbProductsUptoRow : OpenClaim := { program := "ythechjccpljljaa", sum := "860a29d028fcd3bc96e4f14756781dd092c7b3559d11cde9ea9036d947c1553f", func := "cleromancy/cleromancylaw01.LimbProducts", spec := "limbProducts", inPlace := ["math/bits.Add64"], apart := false, narrowed := true }
def LimbProductsUptoSaid : Prop := limbProductsUptoRow.holds Try.pinned (OpenSpec.upto limbProductsSpec)

/-- 'cleromancylaw01.LimbBits', WHERE WHAT IT READS IS OF BULK AT MOST 1048576: true; the input reads as it did. -/
def limbBitsUptoRow : OpenClaim := { program := "ythechjccpljljaa", sum := "860a29d028fcd3bc96e4f14756781dd092c7b3559d11cde9ea9036d947c1553f", func := "cleromancy/cleromancylaw01.LimbBits", spec := "limbBits", inPlace := ["math/bits.Add64"], apart := false, narrowed := true }
def LimbBitsUptoSaid : Prop := limbBitsUptoRow.holds Try.pinned (OpenSpec.upto limbBitsSpec)

/-- 'cleromancylaw01.LimbBack', WHERE WHAT IT READS IS OF BULK AT MOST 1048576: true; the input reads as it did. -/
def limbBackUptoRow : OpenClaim := { program := "ythechjccpljljaa", sum := "860a29d028fcd3bc96e4f14756781dd092c7b3559d11cde9ea9036d947c1553f", func := "cleromancy/cleromancylaw01.LimbBack", spec := "limbBack", inPlace := ["math/bits.Add64", "math/bits.Sub64"], apart := false, narrowed := true }
def LimbBackUptoSaid : Prop := limbBackUptoRow.holds Try.pinned (OpenSpec.upto limbBackSpec)

/-- 'cleromancylaw03.RingReduces', WHERE WHAT IT READS IS OF BULK AT MOST 1048576: true; the input reads as it did. -/
def ringReducesUptoRow : OpenClaim := { program := "ythechjccpljljaa", sum := "860a29d028fcd3bc96e4f14756781dd092c7b3559d11cde9ea9036d947c1553f", func := "cleromancy/cleromancylaw03.RingReduces", spec := "ringReduces", inPlace := ["math/bits.Add64", "math/bits.Sub64"], apart := false, narrowed := true }
def RingReducesUptoSaid : Prop := ringReducesUptoRow.holds Try.pinned (OpenSpec.upto ringReducesSpec)

/-- 'cleromancylaw03.RingNumerals', WHERE WHAT IT READS IS OF BULK AT MOST 1048576: true; the input reads as it did. -/
def ringNumeralsUptoRow : OpenClaim := { program := "ythechjccpljljaa", sum := "860a29d028fcd3bc96e4f14756781dd092c7b3559d11cde9ea9036d947c1553f", func := "cleromancy/cleromancylaw03.RingNumerals", spec := "ringNumerals", inPlace := ["math/bits.Add64", "math/bits.Sub64"], apart := false, narrowed := true }
def RingNumeralsUptoSaid : Prop := ringNumeralsUptoRow.holds Try.pinned (OpenSpec.upto ringNumeralsSpec)

/-- 'cleromancylaw03.RingPowers', WHERE WHAT IT READS IS OF BULK AT MOST 1048576: true; the input reads as it did. -/
def ringPowersUptoRow : OpenClaim := { program := "ythechjccpljljaa", sum := "860a29d028fcd3bc96e4f14756781dd092c7b3559d11cde9ea9036d947c1553f", func := "cleromancy/cleromancylaw03.RingPowers", spec := "ringPowers", inPlace := ["math/bits.Add64", "math/bits.Sub64"], unfollowed := true, recurses := true, apart := false, narrowed := true }
def RingPowersUptoSaid : Prop := ringPowersUptoRow.holds Try.pinned (OpenSpec.upto ringPowersSpec)

/-- 'cleromancylaw03.RingBack', WHERE WHAT IT READS IS OF BULK AT MOST 1048576: true; the input reads as it did. -/
def ringBackUptoRow : OpenClaim := { program := "ythechjccpljljaa", sum := "860a29d028fcd3bc96e4f14756781dd092c7b3559d11cde9ea9036d947c1553f", func := "cleromancy/cleromancylaw03.RingBack", spec := "ringBack", inPlace := ["math/bits.Add64", "math/bits.Sub64"], unfollowed := true, recurses := true, apart := false, narrowed := true }
def RingBackUptoSaid : Prop := ringBackUptoRow.holds Try.pinned (OpenSpec.upto ringBackSpec)

end Rows
end Go.Proofs.Ythechjccpljljaa
