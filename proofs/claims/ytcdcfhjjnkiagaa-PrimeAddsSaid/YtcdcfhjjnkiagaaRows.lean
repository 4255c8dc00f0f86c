/-
  No cell of these rows narrows 'for every input' (looked for: loops, veiled, ifaces, maps, wideKeys, modest, calm, conditions, laid).
  DERIVED. THE GIVEN ROWS OF THIS SEAT. 6 by the template 'for every input the law returns true; each argument reads behind the call as it read before'; 0 by the template 'total and deterministic' (their statements: YtcdcfhjjnkiagaaTotals.lean).
  GIVEN WITH THE SEED: the statements are not yours to turn. If you find one false, say at which input.
  Laid BY PROGRAM, IN A SANDBOX (cutbox-rows.mjs): the forced cells as the released guide's own fill.sh prints them over the translation a6972d50cff70cf3… (all of the seat's roots in one cut). By AI agents, Wed Nov 11 2026. No macro, syntax, notation, axiom, sorry.
-/
import Derived.Test.YtcdcfhjjnkiagaaChecked
import GoSem.Claim
import GoSem.ClaimJoined
import GoSem.ClaimMapViews
import Derived.JoinedTies
import Derived.KernelRfl
namespace Go.Proofs.Ytcdcfhjjnkiagaa
/- THE CELL 'sum', in the pinned program and in every row, IS THE sha256 OF THE DUMP (.gsa) THAT YtcdcfhjjnkiagaaProg.lean LOADS. Nothing in Lean hashes anything: it is a label: what it is worth is what the hold of that sum in a sandbox is worth. -/
noncomputable def Try.pinned : Pinned := { name := "ytcdcfhjjnkiagaa", sum := "a6972d50cff70cf34b7ef5b6e56c41860a69c97e00526e063453475bc7da8cad", checked := Try.checked }
namespace Rows
def none {H : Type} : Left H := { results := [], args := [] }

/-- 'cleromancylaw13.ElligatorPairs': WHATEVER THE INPUT: true; the input reads as it did. -/
def elligatorPairsSpec : ChangeSpec := { name := "elligatorPairs", fn := fun _ => fun
  | [d] => { results := [.lit (.bool true)], args := [d] }
  | _ => none }
def elligatorPairsRow : OpenClaim := { program := "ytcdcfhjjnkiagaa", sum := "a6972d50cff70cf34b7ef5b6e56c41860a69c97e00526e063453475bc7da8cad", func := "cleromancy/cleromancylaw13.ElligatorPairs", spec := "elligatorPairs", inPlace := ["math/bits.Add64"], unfollowed := true, recurses := true, apart := false }
def ElligatorPairsSaid : Prop := elligatorPairsRow.holds Try.pinned (OpenSpec.ofChange elligatorPairsSpec)

/-- ITS FALSE NEIGHBOUR: 'it returns false'. Refute it at one input. -/
def elligatorPairsWrong : ChangeSpec := { name := "elligatorPairs", fn := fun _ => fun
  | [d] => { results := [.lit (.bool false)], args := [d] }
  | _ => none }
def ElligatorPairsWrongFalsely : Prop := elligatorPairsRow.holds Try.pinned (OpenSpec.ofChange elligatorPairsWrong)

/-- 'cleromancylaw12.PrimePairs': WHATEVER THE INPUT: true; the input reads as it did. -/
def primePairsSpec : ChangeSpec := { name := "primePairs", fn := fun _ => fun
  | [d1, d2] => { results := [.lit (.bool true)], args := [d1, d2] }
  | _ => none }
def primePairsRow : OpenClaim := { program := "ytcdcfhjjnkiagaa", sum := "a6972d50cff70cf34b7ef5b6e56c41860a69c97e00526e063453475bc7da8cad", func := "cleromancy/cleromancylaw12.PrimePairs", spec := "primePairs", inPlace := ["math/bits.Add64", "math/bits.Sub64"], unfollowed := true, recurses := true, apart := false }
def PrimePairsSaid : Prop := primePairsRow.holds Try.pinned (OpenSpec.ofChange primePairsSpec)

/-- ITS FALSE NEIGHBOUR: 'it returns false'. Refute it at one input. -/
def primePairsWrong : ChangeSpec := { name := "primePairs", fn := fun _ => fun
  | [d1, d2] => { results := [.lit (.bool false)], args := [d1, d2] }
  | _ => none }
def PrimePairsWrongFalsely : Prop := primePairsRow.holds Try.pinned (OpenSpec.ofChange primePairsWrong)

/-- 'cleromancylaw12.PrimeBytes': WHATEVER THE INPUT: true; the input reads as it did. -/
def primeBytesSpec : ChangeSpec := { name := "primeBytes", fn := fun _ => fun
  | [d] => { results := [.lit (.bool true)], args := [d] }
  | _ => none }
def primeBytesRow : OpenClaim := { program := "ytcdcfhjjnkiagaa", sum := "a6972d50cff70cf34b7ef5b6e56c41860a69c97e00526e063453475bc7da8cad", func := "cleromancy/cleromancylaw12.PrimeBytes", spec := "primeBytes", inPlace := ["math/bits.Add64", "math/bits.Sub64"], unfollowed := true, recurses := true, apart := false }
def PrimeBytesSaid : Prop := primeBytesRow.holds Try.pinned (OpenSpec.ofChange primeBytesSpec)

/-- ITS FALSE NEIGHBOUR: 'it returns false'. Refute it at one input. -/
def primeBytesWrong : ChangeSpec := { name := "primeBytes", fn := fun _ => fun
  | [d] => { results := [.lit (.bool false)], args := [d] }
  | _ => none }
def PrimeBytesWrongFalsely : Prop := primeBytesRow.holds Try.pinned (OpenSpec.ofChange primeBytesWrong)

/-- 'cleromancylaw12.PrimeAdds': WHATEVER THE INPUT: true; the input reads as it did. -/
def primeAddsSpec : ChangeSpec := { name := "primeAdds", fn := fun _ => fun
  | [d1, d2] => { results := [.lit (.bool true)], args := [d1, d2] }
  | _ => none }
def primeAddsRow : OpenClaim := { program := "ytcdcfhjjnkiagaa", sum := "a6972d50cff70cf34b7ef5b6e56c41860a69c97e00526e063453475bc7da8cad", func := "cleromancy/cleromancylaw12.PrimeAdds", spec := "primeAdds", inPlace := ["math/bits.Add64", "math/bits.Sub64"], unfollowed := true, recurses := true, apart := false }
def PrimeAddsSaid : Prop := primeAddsRow.holds Try.pinned (OpenSpec.ofChange primeAddsSpec)

/-- ITS FALSE NEIGHBOUR: 'it returns false'. Refute it at one input. -/
def primeAddsWrong : ChangeSpec := { name := "primeAdds", fn := fun _ => fun
  | [d1, d2] => { results := [.lit (.bool false)], args := [d1, d2] }
  | _ => none }
def PrimeAddsWrongFalsely : Prop := primeAddsRow.holds Try.pinned (OpenSpec.ofChange primeAddsWrong)

/-- 'cleromancylaw12.PrimeMuls': WHATEVER THE INPUT: true; the input reads as it did. -/
def primeMulsSpec : ChangeSpec := { name := "primeMuls", fn := fun _ => fun
  | [d1, d2, d3] => { results := [.lit (.bool true)], args := [d1, d2, d3] }
  | _ => none }
def primeMulsRow : OpenClaim := { program := "ytcdcfhjjnkiagaa", sum := "a6972d50cff70cf34b7ef5b6e56c41860a69c97e00526e063453475bc7da8cad", func := "cleromancy/cleromancylaw12.PrimeMuls", spec := "primeMuls", inPlace := ["math/bits.Add64", "math/bits.Sub64"], unfollowed := true, recurses := true, apart := false }
def PrimeMulsSaid : Prop := primeMulsRow.holds Try.pinned (OpenSpec.ofChange primeMulsSpec)

/-- ITS FALSE NEIGHBOUR: 'it returns false'. Refute it at one input. -/
def primeMulsWrong : ChangeSpec := { name := "primeMuls", fn := fun _ => fun
  | [d1, d2, d3] => { results := [.lit (.bool false)], args := [d1, d2, d3] }
  | _ => none }
def PrimeMulsWrongFalsely : Prop := primeMulsRow.holds Try.pinned (OpenSpec.ofChange primeMulsWrong)

/-- 'cleromancylaw12.PrimeGroup': WHATEVER THE INPUT: true; the input reads as it did. -/
def primeGroupSpec : ChangeSpec := { name := "primeGroup", fn := fun _ => fun
  | [d1, d2, d3] => { results := [.lit (.bool true)], args := [d1, d2, d3] }
  | _ => none }
def primeGroupRow : OpenClaim := { program := "ytcdcfhjjnkiagaa", sum := "a6972d50cff70cf34b7ef5b6e56c41860a69c97e00526e063453475bc7da8cad", func := "cleromancy/cleromancylaw12.PrimeGroup", spec := "primeGroup", inPlace := ["math/bits.Add64", "math/bits.Sub64"], unfollowed := true, recurses := true, apart := false }
def PrimeGroupSaid : Prop := primeGroupRow.holds Try.pinned (OpenSpec.ofChange primeGroupSpec)

/-- ITS FALSE NEIGHBOUR: 'it returns false'. Refute it at one input. -/
def primeGroupWrong : ChangeSpec := { name := "primeGroup", fn := fun _ => fun
  | [d1, d2, d3] => { results := [.lit (.bool false)], args := [d1, d2, d3] }
  | _ => none }
def PrimeGroupWrongFalsely : Prop := primeGroupRow.holds Try.pinned (OpenSpec.ofChange primeGroupWrong)

/- THE SECOND FORM. 'bulk': how many values and letters a reading holds, each counted each time it is reached (what is shared counts as often as it is met; a slice's spare places count too). A statement '..UptoSaid' is the law's where the arguments, and the package variables that the reading takes, are together of bulk at most 1048576: NARROWER than '..Said'. Prove '..Said' where nothing that the law and all that it calls make is longer than what came in: it says more and counts as full. Else prove '..UptoSaid'. A law counts once. -/
mutual
def uptoBulk {H : Type} : DataW H → Nat
  | .lit (.string bytes) => bytes.length + 1
  | .lit _ => 1
  | .nil => 1
  | .ptr d => uptoBulk d + 1
  | .slice elems spare => uptoBulkAll elems + uptoBulkAll spare + 1
  | .agg parts => uptoBulkAll parts + 1
  | .iface _ d => uptoBulk d + 1
  | .map entries => uptoBulkEntries entries + 1
  | .held _ => 1
def uptoBulkAll {H : Type} : List (DataW H) → Nat
  | [] => 0
  | d :: r => uptoBulk d + uptoBulkAll r
def uptoBulkEntries {H : Type} : List (Lit × DataW H) → Nat
  | [] => 0
  | x :: r => uptoBulkEntry x + uptoBulkEntries r
def uptoBulkEntry {H : Type} : Lit × DataW H → Nat
  | (.string bytes, d) => bytes.length + uptoBulk d + 1
  | (_, d) => uptoBulk d + 1
 end
def uptoSmall : (H : Type) → List (DataW H) → Bool := fun _ ds => decide (uptoBulkAll ds ≤ 1048576)
def OpenSpec.upto (s : _root_.Go.ChangeSpec) : _root_.Go.OpenSpec := { _root_.Go.OpenSpec.ofChange s with cond := some uptoSmall }

/-- 'cleromancylaw13.ElligatorPairs', WHERE WHAT IT READS IS OF BULK AT MOST 1048576: true; the input reads as it did. -/
def elligatorPairsUptoRow : OpenClaim := { program := "ytcdcfhjjnkiagaa", sum := "a6972d50cff70cf34b7ef5b6e56c41860a69c97e00526e063453475bc7da8cad", func := "cleromancy/cleromancylaw13.ElligatorPairs", spec := "elligatorPairs", inPlace := ["math/bits.Add64"], unfollowed := true, recurses := true, apart := false, narrowed := true }
def ElligatorPairsUptoSaid : Prop := elligatorPairsUptoRow.holds Try.pinned (OpenSpec.upto elligatorPairsSpec)

/-- 'cleromancylaw12.PrimePairs', WHERE WHAT IT READS IS OF BULK AT MOST 1048576: true; the input reads as it did. -/
def primePairsUptoRow : OpenClaim := { program := "ytcdcfhjjnkiagaa", sum := "a6972d50cff70cf34b7ef5b6e56c41860a69c97e00526e063453475bc7da8cad", func := "cleromancy/cleromancylaw12.PrimePairs", spec := "primePairs", inPlace := ["math/bits.Add64", "math/bits.Sub64"], unfollowed := true, recurses := true, apart := false, narrowed := true }
def PrimePairsUptoSaid : Prop := primePairsUptoRow.holds Try.pinned (OpenSpec.upto primePairsSpec)

/-- 'cleromancylaw12.PrimeBytes', WHERE WHAT IT READS IS OF BULK AT MOST 1048576: true; the input reads as it did. -/
def primeBytesUptoRow : OpenClaim := { program := "ytcdcfhjjnkiagaa", sum := "a6972d50cff70cf34b7ef5b6e56c41860a69c97e00526e063453475bc7da8cad", func := "cleromancy/cleromancylaw12.PrimeBytes", spec := "primeBytes", inPlace := ["math/bits.Add64", "math/bits.Sub64"], unfollowed := true, recurses := true, apart := false, narrowed := true }
def PrimeBytesUptoSaid : Prop := primeBytesUptoRow.holds Try.pinned (OpenSpec.upto primeBytesSpec)

/-- 'cleromancylaw12.PrimeAdds', WHERE WHAT IT READS IS OF BULK AT MOST 1048576: true; the input reads as it did. -/
def primeAddsUptoRow : OpenClaim := { program := "ytcdcfhjjnkiagaa", sum := "a6972d50cff70cf34b7ef5b6e56c41860a69c97e00526e063453475bc7da8cad", func := "cleromancy/cleromancylaw12.PrimeAdds", spec := "primeAdds", inPlace := ["math/bits.Add64", "math/bits.Sub64"], unfollowed := true, recurses := true, apart := false, narrowed := true }
def PrimeAddsUptoSaid : Prop := primeAddsUptoRow.holds Try.pinned (OpenSpec.upto primeAddsSpec)

/-- 'cleromancylaw12.PrimeMuls', WHERE WHAT IT READS IS OF BULK AT MOST 1048576: true; the input reads as it did. -/
def primeMulsUptoRow : OpenClaim := { program := "ytcdcfhjjnkiagaa", sum := "a6972d50cff70cf34b7ef5b6e56c41860a69c97e00526e063453475bc7da8cad", func := "cleromancy/cleromancylaw12.PrimeMuls", spec := "primeMuls", inPlace := ["math/bits.Add64", "math/bits.Sub64"], unfollowed := true, recurses := true, apart := false, narrowed := true }
def PrimeMulsUptoSaid : Prop := primeMulsUptoRow.holds Try.pinned (OpenSpec.upto primeMulsSpec)

/-- 'cleromancylaw12.PrimeGroup', WHERE WHAT IT READS IS OF BULK AT MOST 1048576: true; the input reads as it did. -/
def primeGroupUptoRow : OpenClaim := { program := "ytcdcfhjjnkiagaa", sum := "a6972d50cff70cf34b7ef5b6e56c41860a69c97e00526e063453475bc7da8cad", func := "cleromancy/cleromancylaw12.PrimeGroup", spec := "primeGroup", inPlace := ["math/bits.Add64", "math/bits.Sub64"], unfollowed := true, recurses := true, apart := false, narrowed := true }
def PrimeGroupUptoSaid : Prop := primeGroupUptoRow.holds Try.pinned (OpenSpec.upto primeGroupSpec)

end Rows
end Go.Proofs.Ytcdcfhjjnkiagaa
