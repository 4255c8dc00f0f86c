/- A symbolic machine for Go functions, and what the functions that the law reaches come to: BdJ. -/
import Derived.Test.YtigkddloeikpbaaDoorQ28
/- The reference of layer 6: a block. -/
set_option maxRecDepth 10000
namespace Go.Proofs.YtigkddloeikpbaaDoor.H6
open Go.Sym Go.Dig R1
--STOP iw, ix, it, ir, wB, wX, rounds, turnF, kTab, nOK
def lBlk (s : St8) (b : List UInt8) : Plan := { loops := [
  (0, { β := L8 × List UInt8 × List UInt64 × Unit, α := OwnW × Int × Unit, same := [0, 1, 5], keep := [6, 7], inv := fun _ _ x => iw b x.1.l x.2.1, meas := fun _ x => (16 - x.2.1).toNat }),
  (2, { β := L8 × List UInt8 × List UInt64 × Unit, α := OwnW × Int × UInt64 × Int × Unit, same := [0, 1, 5], keep := [6, 7, 8, 9], inv := fun _ a x => x.1 = a.1 ∧ x.2.1 = a.2.1 ∧ ix b a.2.1 x.2.2.1 x.2.2.2.1, meas := fun _ x => (8 - x.2.2.2.1).toNat }),
  (4, { β := L8 × List UInt8 × List UInt64 × Unit, α := OwnW × Int × Unit, same := [0, 1, 5], keep := [6, 10], inv := fun _ _ x => it b x.1.l x.2.1, meas := fun _ x => (80 - x.2.1).toNat }),
  (6, { β := L8 × List UInt8 × List UInt64 × Unit, α := OwnW × O8 × Int × Unit, same := [0, 1, 5], keep := [6, 13, 14], inv := fun _ _ x => ir (wX b 64) s x.1.l x.2.1.v x.2.2.1, meas := fun _ x => (80 - x.2.2.1).toNat })] }
end Go.Proofs.YtigkddloeikpbaaDoor.H6
