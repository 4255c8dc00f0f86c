/- Layer 1, what is added and taken away: the law's body. -/
import Derived.Test.YthechjccpljljaaLaw01
namespace Go.Proofs.Ythechjccpljljaa
open Go.Sym

def eq4 (x y : Four) : Bool := (x.w0 == y.w0) && ((x.w1 == y.w1) && ((x.w2 == y.w2) && ((x.w3 == y.w3) && true)))
def eq8 (x y : Eight) : Bool := (x.e0 == y.e0) && ((x.e1 == y.e1) && ((x.e2 == y.e2) && ((x.e3 == y.e3) && ((x.e4 == y.e4) && ((x.e5 == y.e5) && ((x.e6 == y.e6) && ((x.e7 == y.e7) && true)))))))
def shOf (w : UInt64) : Int := wr ((w % 256).toNat : Int)
def lessBits (x n : Int) : Int := if 0 > wr (x - n) then 0 else wr (x - n)
abbrev ABk := Four × Four × UInt64 × Unit
noncomputable def vBack (p : ABk) : Prop := FnRaw tt spL1 9 [(1, 1, .b false), (6, 2, .b false), (6, 6, .b false), (6, 10, .b false), (6, 15, .b false), (6, 25, .b false), (6, 34, .b false), (9, 14, .b false), (9, 25, .b false), (15, 2, .b true)]
  Try.f7 (fun _ : ABk => true) p
def backE (a b : Four) (w : UInt64) : Prop :=
  (!true) = false ∧ (!eq4 (limb_Sub (limb_Add a b).1 b).1 a) = false ∧ ((limb_Sub (limb_Add a b).1 b).2 != (limb_Add a b).2) = false ∧ ((limb_Of (limb_Bytes a true) true).2 != 0) = false ∧
  (!eq4 (limb_Of (limb_Bytes a true) true).1 a) = false ∧ (limb_Cmp a b != wr (0 - limb_Cmp b a)) = false ∧ (!eq8 (limb_Mul a b) (limb_Mul b a)) = false ∧
  (!eq4 (limb_Right (limb_Left a (shOf w)) (shOf w)) (limb_Right (limb_Left (limb_Right (limb_Left a (shOf w)) (shOf w)) (shOf w)) (shOf w))) = false ∧
  (limb_Bits (limb_Right a (shOf w)) != lessBits (limb_Bits a) (shOf w)) = false ∧
  eq4 (limb_Add (limb_MulWord a w).1 (limb_MulWord b w).1).1 (limb_MulWord (limb_Add a b).1 w).1 = true ∧ Same (.bool true)
theorem back_vc (a b : Four) (w : UInt64) : vBack (a, b, w, ()) = backE a b w := by kernel_rfl
end Go.Proofs.Ythechjccpljljaa
