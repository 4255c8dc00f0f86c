/- A symbolic machine for Go functions, and what the functions that the law reaches come to: Law4b. -/
import Derived.Test.YtigkddloeikpbaaGreatDoorQ14
/- Layer 4's laws: what their bodies come to, by cases. -/
set_option maxRecDepth 10000
namespace Go.Proofs.YtigkddloeikpbaaGreatDoor.F4
open Go.Sym Go.Dig R1
--STOP R1.Sm, Lm, Lh, fCarry, fMul, fSub, fAdd, fNeg, fSq, fSame, fNegB, fSel, fInv, tm

abbrev sAw : SpecF := fspec (α := Unit) total fun _ => true
/-- All that the laws call, where elements are tame, and where they are not. -/
noncomputable def spRef : Specs := (1000008, Sym.sNo) :: (25, nFMod) :: (11, nOfF) :: spI
noncomputable def spAll (b : Bool) : Specs := (1000005, Sym.sNo) :: (1000007, Sym.sNo) :: (1000006, Sym.sNo) :: (spFd ++ spRef)
noncomputable abbrev spT : Specs := spAll true
noncomputable abbrev spF : Specs := spAll false
noncomputable def pwN (x : Nat) : Nat → Nat
  | 0 => x
  | n + 1 => pwN x n * pwN x n % pV
noncomputable def iPow (x : Nat) (n : Int) (y : Nat) (i : Int) : Prop := 0 ≤ i ∧ (i ≤ n ∨ i = 0) ∧ y = pwN x i.toNat
noncomputable def lPow : Plan := { loops := [(0, { β := Int × Num × Unit, α := PFive × Num × Int × Unit, same := [1, 5], keep := [2, 6, 7], inv := fun b x0 x => x.1.v = x0.1.v ∧ iPow b.2.1.n b.1 x.2.1.n x.2.2.1, meas := fun b x => (b.1 - x.2.2.1).toNat })] }
end Go.Proofs.YtigkddloeikpbaaGreatDoor.F4
