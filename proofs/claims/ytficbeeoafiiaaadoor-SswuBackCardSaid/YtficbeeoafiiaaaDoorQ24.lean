/- A symbolic machine for Go functions, and what the functions that the law reaches come to: DgJ. -/
import Derived.Test.YtficbeeoafiiaaaDoorQ23
/- The reference of layer 5: a block. -/
set_option maxRecDepth 10000
namespace Go.Proofs.YtficbeeoafiiaaaDoor.H5
open Go.Sym Go.Dig R1
--STOP iw, ix, it, ir, wB, wX, rounds, turnF, kTab, nOK
def lBlk (s : St8) (b : List UInt8) : Plan := { loops := [
  (0, { β := L8 × List UInt8 × List UInt32 × Unit, α := OwnH × Int × Unit, same := [0, 1, 5], keep := [6, 7], inv := fun _ _ x => iw b x.1.l x.2.1, meas := fun _ x => (16 - x.2.1).toNat }),
  (2, { β := L8 × List UInt8 × List UInt32 × Unit, α := OwnH × Int × UInt32 × Int × Unit, same := [0, 1, 5], keep := [6, 7, 8, 9], inv := fun _ a x => x.1 = a.1 ∧ x.2.1 = a.2.1 ∧ ix b a.2.1 x.2.2.1 x.2.2.2.1, meas := fun _ x => (4 - x.2.2.2.1).toNat }),
  (4, { β := L8 × List UInt8 × List UInt32 × Unit, α := OwnH × Int × Unit, same := [0, 1, 5], keep := [6, 10], inv := fun _ _ x => it b x.1.l x.2.1, meas := fun _ x => (64 - x.2.1).toNat }),
  (6, { β := L8 × List UInt8 × List UInt32 × Unit, α := OwnH × O8 × Int × Unit, same := [0, 1, 5], keep := [6, 13, 14], inv := fun _ _ x => ir (wX b 48) s x.1.l x.2.1.v x.2.2.1, meas := fun _ x => (64 - x.2.2.1).toNat })] }
end Go.Proofs.YtficbeeoafiiaaaDoor.H5
