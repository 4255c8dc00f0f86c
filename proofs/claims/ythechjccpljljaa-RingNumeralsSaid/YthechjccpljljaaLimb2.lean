/- Package limb: shifts, bits, bytes. -/
import Derived.Test.YthechjccpljljaaLimb
import Derived.Test.YthechjccpljljaaSymM
import Derived.Test.YthechjccpljljaaLen64
namespace Go.Proofs.Ythechjccpljljaa
open Go.Sym

/-! math/bits.Len64 -/
def len64 (x : UInt64) : Int := (Lib.bitLen x.toNat : Nat)
abbrev sLen64 : SpecF := fspec (α := UInt64 × Unit) total fun a => len64 a.1
theorem ok_Len64 : SpecOK Try.prog 71 sLen64 := by
  refine spec_of_calls (fn := Try.f71) (c := Try.f71.body.getD .skip) Try.func71 (by decide +kernel) (by kernel_rfl) ?_
  intro svs pre r hs hp at_ w vs hr
  unfold sLen64 fspec at hs
  split at hs
  · rename_i a ha
    simp only [Option.some.injEq, Prod.mk.injEq] at hs
    obtain ⟨rfl, rfl⟩ := hs
    obtain ⟨x, u⟩ := a
    have := Args.ok ha hr
    have hx := u64_lt x
    simp only [Args.encL, Enc.enc, RelL, Rel] at this
    obtain ⟨v, vs', rfl, rfl, rfl⟩ := this
    refine (bits_Len64 _ w (by omega) (by omega)).mono ?_
    rintro e w' ⟨rfl, rfl⟩
    refine ⟨_, rfl, ?_, Go.RowKit.Below.refl _ _⟩
    simp only [RetL.retL, retSV, Enc.enc, Rel, len64, Int.toNat_natCast]
  · cases hs
def sp3 : Specs := (71, sLen64) :: sp2
theorem sp3_ok : SpecsOK Try.prog sp3 := .cons ok_Len64 sp2_ok

def wr (n : Int) : Int := IntKind.i64.wrap n
def limb_Bits (a : Four) : Int :=
  cond (a.w3 != 0) (wr (192 + len64 a.w3)) (cond (a.w2 != 0) (wr (128 + len64 a.w2)) (cond (a.w1 != 0) (wr (64 + len64 a.w1)) (cond (a.w0 != 0) (wr (0 + len64 a.w0)) 0)))
abbrev sBits : SpecF := fspec (α := Four × Unit) total fun a => limb_Bits a.1
theorem ok_Bits : SpecOK Try.prog 40 sBits :=
  fn_ok mixed tt_ok sp3_ok 9 Try.func40 (by decide +kernel) rfl
    (fun p => let a := p.1; let r := SV.i64 (limb_Bits a)
      bcase (a.w3 != 0) (.i64 (wr (192 + len64 a.w3)) = r) (bcase (a.w2 != 0) (.i64 (wr (128 + len64 a.w2)) = r)
        (bcase (a.w1 != 0) (.i64 (wr (64 + len64 a.w1)) = r) (bcase (a.w0 != 0) (.i64 (wr (0 + len64 a.w0)) = r) (.i64 0 = r)))))
    (fun a => by kernel_rfl)
    (fun p _ => by
      simp only [limb_Bits]
      repeat' (refine bcase_intro (fun h => ?_) (fun h => ?_))
      all_goals simp only [*, cond_true, cond_false])

/-! Shifts. -/
def lx (x y : UInt64) (k : Nat) : UInt64 := cond (Nat.blt 0 k) (shl64 x k ||| shr64 y (64 - k)) (shl64 x k)
def rx (x y : UInt64) (k : Nat) : UInt64 := cond (Nat.blt 0 k) (shr64 x k ||| shl64 y (64 - k)) (shr64 x k)
def leftN (a : Four) (n : Nat) : Four :=
  match n / 64 with
  | 0 => ⟨shl64 a.w0 (n % 64), lx a.w1 a.w0 (n % 64), lx a.w2 a.w1 (n % 64), lx a.w3 a.w2 (n % 64)⟩
  | 1 => ⟨0, shl64 a.w0 (n % 64), lx a.w1 a.w0 (n % 64), lx a.w2 a.w1 (n % 64)⟩
  | 2 => ⟨0, 0, shl64 a.w0 (n % 64), lx a.w1 a.w0 (n % 64)⟩
  | _ => ⟨0, 0, 0, shl64 a.w0 (n % 64)⟩
def rightN (a : Four) (n : Nat) : Four :=
  match n / 64 with
  | 0 => ⟨rx a.w0 a.w1 (n % 64), rx a.w1 a.w2 (n % 64), rx a.w2 a.w3 (n % 64), shr64 a.w3 (n % 64)⟩
  | 1 => ⟨rx a.w1 a.w2 (n % 64), rx a.w2 a.w3 (n % 64), shr64 a.w3 (n % 64), 0⟩
  | 2 => ⟨rx a.w2 a.w3 (n % 64), shr64 a.w3 (n % 64), 0, 0⟩
  | _ => ⟨shr64 a.w3 (n % 64), 0, 0, 0⟩
def bitN (a : Four) (n : Nat) : UInt64 :=
  match n / 64 with
  | 0 => shr64 a.w0 (n % 64) &&& 1
  | 1 => shr64 a.w1 (n % 64) &&& 1
  | 2 => shr64 a.w2 (n % 64) &&& 1
  | _ => shr64 a.w3 (n % 64) &&& 1
def zero4 : Four := ⟨0, 0, 0, 0⟩
def limb_Left (a : Four) (n : Int) : Four := if n ≤ 0 then a else if 255 < n then zero4 else leftN a n.toNat
def limb_Right (a : Four) (n : Int) : Four := if n ≤ 0 then a else if 255 < n then zero4 else rightN a n.toNat
def limb_Bit (a : Four) (n : Int) : UInt64 := if n < 0 then 0 else if 255 < n then 0 else bitN a n.toNat

end Go.Proofs.Ythechjccpljljaa
