/- Package limb: what its functions come to, and plain facts on it. -/
import Derived.Test.YthechjccpljljaaP3
import Derived.Test.YthechjccpljljaaLen64
/- Package limb: what its functions come to. -/
namespace Go.Proofs.Ythechjccpljljaa
open Go.Sym

/-! math/bits -/
def mul64 (x y : UInt64) : UInt64 × UInt64 :=
  let x0 := x &&& 4294967295
  let x1 := shr64 x 32
  let y0 := y &&& 4294967295
  let y1 := shr64 y 32
  let w0 := x0 * y0
  let t := x1 * y0 + shr64 w0 32
  let w1 := (t &&& 4294967295) + x0 * y1
  (x1 * y1 + shr64 t 32 + shr64 w1 32, x * y)

/-! limb -/
structure Eight where
  e0 : UInt64
  e1 : UInt64
  e2 : UInt64
  e3 : UInt64
  e4 : UInt64
  e5 : UInt64
  e6 : UInt64
  e7 : UInt64
def Eight.sv (a : Eight) : SV := .agg [.u64 a.e0, .u64 a.e1, .u64 a.e2, .u64 a.e3, .u64 a.e4, .u64 a.e5, .u64 a.e6, .u64 a.e7]
def dEight : SV → Option Eight
  | .agg [.u64 a, .u64 b, .u64 c, .u64 d, .u64 e, .u64 f, .u64 g, .u64 h] => some ⟨a, b, c, d, e, f, g, h⟩
  | _ => none
instance : Enc Eight where
  enc := Eight.sv
  dec := dEight
  ok := by
    intro s a h at_ w v r
    unfold dEight at h
    split at h
    · simp only [Option.some.injEq] at h; subst h; exact r
    · cases h
  nn _ := rfl

def limb_Add (a b : Four) : Four × UInt64 :=
  let c0 := addHi a.w0 b.w0 0
  let c1 := addHi a.w1 b.w1 c0
  let c2 := addHi a.w2 b.w2 c1
  (⟨addLo a.w0 b.w0 0, addLo a.w1 b.w1 c0, addLo a.w2 b.w2 c1, addLo a.w3 b.w3 c2⟩, addHi a.w3 b.w3 c2)
def limb_Sub (a b : Four) : Four × UInt64 :=
  let c0 := subHi a.w0 b.w0 0
  let c1 := subHi a.w1 b.w1 c0
  let c2 := subHi a.w2 b.w2 c1
  (⟨subLo a.w0 b.w0 0, subLo a.w1 b.w1 c0, subLo a.w2 b.w2 c1, subLo a.w3 b.w3 c2⟩, subHi a.w3 b.w3 c2)
/-- x y + o + c: the low word, the high word. -/
def macLo (x y o c : UInt64) : UInt64 := addLo (addLo (mul64 x y).2 o 0) c 0
def macHi (x y o c : UInt64) : UInt64 := (mul64 x y).1 + addHi (mul64 x y).2 o 0 + addHi (addLo (mul64 x y).2 o 0) c 0
structure Row where
  r0 : UInt64
  r1 : UInt64
  r2 : UInt64
  r3 : UInt64
  c : UInt64
def mulRow (x : UInt64) (b : Four) (o0 o1 o2 o3 : UInt64) : Row :=
  let c0 := macHi x b.w0 o0 0
  let c1 := macHi x b.w1 o1 c0
  let c2 := macHi x b.w2 o2 c1
  ⟨macLo x b.w0 o0 0, macLo x b.w1 o1 c0, macLo x b.w2 o2 c1, macLo x b.w3 o3 c2, macHi x b.w3 o3 c2⟩
def limb_Mul (a b : Four) : Eight :=
  let r := mulRow a.w0 b 0 0 0 0
  let s := mulRow a.w1 b r.r1 r.r2 r.r3 r.c
  let t := mulRow a.w2 b s.r1 s.r2 s.r3 s.c
  let u := mulRow a.w3 b t.r1 t.r2 t.r3 t.c
  ⟨r.r0, s.r0, t.r0, u.r0, u.r1, u.r2, u.r3, u.c⟩
def mwLo (x w c : UInt64) : UInt64 := addLo (mul64 x w).2 c 0
def mwHi (x w c : UInt64) : UInt64 := (mul64 x w).1 + addHi (mul64 x w).2 c 0
def limb_MulWord (a : Four) (w : UInt64) : Four × UInt64 :=
  let c0 := mwHi a.w0 w 0
  let c1 := mwHi a.w1 w c0
  let c2 := mwHi a.w2 w c1
  (⟨mwLo a.w0 w 0, mwLo a.w1 w c0, mwLo a.w2 w c1, mwLo a.w3 w c2⟩, mwHi a.w3 w c2)
def limb_Select (c : UInt64) (a b : Four) : Four :=
  let m := 0 - (c &&& 1)
  let f := fun (x y : UInt64) => x &&& m ||| y &&& ~~~m
  ⟨f a.w0 b.w0, f a.w1 b.w1, f a.w2 b.w2, f a.w3 b.w3⟩

theorem addHi_le (x y c : UInt64) (hc : c.toNat ≤ 1) : (addHi x y c).toNat ≤ 1 := by
  rw [addHi_nat x y c hc]; have := u64_lt x; have := u64_lt y; omega
theorem subHi_le (x y c : UInt64) : (subHi x y c).toNat ≤ 1 := by
  rw [subHi_nat]; split <;> omega
theorem zero_le : (0 : UInt64).toNat ≤ 1 := by decide

def sp1 : Specs := [(62, specAdd64), (63, specSub64)]
theorem ok_add64 : SpecOK Try.prog 62 specAdd64 := specAdd64_ok Try.func62 (by decide +kernel) rfl (by kernel_rfl) (by kernel_rfl)
theorem ok_sub64 : SpecOK Try.prog 63 specSub64 := specSub64_ok Try.func63 (by decide +kernel) rfl (by kernel_rfl) (by kernel_rfl)
theorem sp1_ok : SpecsOK Try.prog sp1 := .cons ok_add64 <| .cons ok_sub64 <| .nil _

abbrev sMul64 : SpecF := fspec (α := UInt64 × UInt64 × Unit) total fun a => mul64 a.1 a.2.1
theorem ok_mul64 : SpecOK Try.prog 70 sMul64 :=
  fn_ok mixed tt_ok sp1_ok 9 Try.func70 (by decide +kernel) rfl (fun a => Same (retSV (RetL.retL (mul64 a.1 a.2.1)))) (fun a => by kernel_rfl) (fun _ _ => rfl)
def sp2 : Specs := (70, sMul64) :: sp1
theorem sp2_ok : SpecsOK Try.prog sp2 := .cons ok_mul64 sp1_ok

abbrev sAdd : SpecF := fspec (α := Four × Four × Unit) total fun a => limb_Add a.1 a.2.1
theorem ok_Add : SpecOK Try.prog 14 sAdd :=
  fn_ok mixed tt_ok sp2_ok 9 Try.func14 (by decide +kernel) rfl
    (fun a => conj (cpre (addHi a.1.w0 a.2.1.w0 0)) (conj (cpre (addHi a.1.w1 a.2.1.w1 (addHi a.1.w0 a.2.1.w0 0))) (conj (cpre (addHi a.1.w2 a.2.1.w2 (addHi a.1.w1 a.2.1.w1 (addHi a.1.w0 a.2.1.w0 0)))) (Same (retSV (RetL.retL (limb_Add a.1 a.2.1)))))))
    (fun a => by kernel_rfl)
    (fun _ _ => cpre_conj (addHi_le _ _ _ zero_le) (cpre_conj (addHi_le _ _ _ (addHi_le _ _ _ zero_le)) (cpre_conj (addHi_le _ _ _ (addHi_le _ _ _ (addHi_le _ _ _ zero_le))) rfl)))
abbrev sSub : SpecF := fspec (α := Four × Four × Unit) total fun a => limb_Sub a.1 a.2.1
theorem ok_Sub : SpecOK Try.prog 15 sSub :=
  fn_ok mixed tt_ok sp2_ok 9 Try.func15 (by decide +kernel) rfl
    (fun a => conj (cpre (subHi a.1.w0 a.2.1.w0 0)) (conj (cpre (subHi a.1.w1 a.2.1.w1 (subHi a.1.w0 a.2.1.w0 0))) (conj (cpre (subHi a.1.w2 a.2.1.w2 (subHi a.1.w1 a.2.1.w1 (subHi a.1.w0 a.2.1.w0 0)))) (Same (retSV (RetL.retL (limb_Sub a.1 a.2.1)))))))
    (fun a => by kernel_rfl)
    (fun _ _ => cpre_conj (subHi_le _ _ _) (cpre_conj (subHi_le _ _ _) (cpre_conj (subHi_le _ _ _) rfl)))
abbrev sMul : SpecF := fspec (α := Four × Four × Unit) total fun a => limb_Mul a.1 a.2.1
theorem ok_Mul : SpecOK Try.prog 30 sMul :=
  fn_ok mixed tt_ok sp2_ok 9 Try.func30 (by decide +kernel) rfl
    (fun a => Same (retSV (RetL.retL (limb_Mul a.1 a.2.1)))) (fun a => by kernel_rfl) (fun _ _ => rfl)
abbrev sMulWord : SpecF := fspec (α := Four × UInt64 × Unit) total fun a => limb_MulWord a.1 a.2.1
theorem ok_MulWord : SpecOK Try.prog 33 sMulWord :=
  fn_ok mixed tt_ok sp2_ok 9 Try.func33 (by decide +kernel) rfl
    (fun a => Same (retSV (RetL.retL (limb_MulWord a.1 a.2.1)))) (fun a => by kernel_rfl) (fun _ _ => rfl)
abbrev sSelect : SpecF := fspec (α := UInt64 × Four × Four × Unit) total fun a => limb_Select a.1 a.2.1 a.2.2.1
theorem ok_Select : SpecOK Try.prog 42 sSelect :=
  fn_ok mixed tt_ok sp2_ok 9 Try.func42 (by decide +kernel) rfl
    (fun a => Same (retSV (RetL.retL (limb_Select a.1 a.2.1 a.2.2.1)))) (fun a => by kernel_rfl) (fun _ _ => rfl)
/-- The order of two numbers. -/
def limb_Cmp (a b : Four) : Int :=
  cond (a.w3 != b.w3) (cond (decide (a.w3 < b.w3)) (-1) 1) (cond (a.w2 != b.w2) (cond (decide (a.w2 < b.w2)) (-1) 1)
    (cond (a.w1 != b.w1) (cond (decide (a.w1 < b.w1)) (-1) 1) (cond (a.w0 != b.w0) (cond (decide (a.w0 < b.w0)) (-1) 1) 0)))
theorem bcase_cond {b : Bool} {x y r : SV} (hr : r = cond b x y) : bcase b (x = r) (y = r) := by subst hr; cases b <;> rfl
theorem bcase_intro {b : Bool} {x y : Prop} (ht : b = true → x) (hf : b = false → y) : bcase b x y := by
  cases b
  · exact hf rfl
  · exact ht rfl
abbrev sCmp : SpecF := fspec (α := Four × Four × Unit) total fun a => limb_Cmp a.1 a.2.1
theorem ok_Cmp : SpecOK Try.prog 22 sCmp :=
  fn_ok mixed tt_ok sp2_ok 9 Try.func22 (by decide +kernel) rfl
    (fun p => let a := p.1; let b := p.2.1; let r := SV.i64 (limb_Cmp a b)
      bcase (a.w3 != b.w3) (bcase (decide (a.w3 < b.w3)) (.i64 (-1) = r) (.i64 1 = r)) (bcase (a.w2 != b.w2) (bcase (decide (a.w2 < b.w2)) (.i64 (-1) = r) (.i64 1 = r))
        (bcase (a.w1 != b.w1) (bcase (decide (a.w1 < b.w1)) (.i64 (-1) = r) (.i64 1 = r)) (bcase (a.w0 != b.w0) (bcase (decide (a.w0 < b.w0)) (.i64 (-1) = r) (.i64 1 = r)) (.i64 0 = r)))))
    (fun a => by kernel_rfl)
    (fun p _ => by
      simp only [limb_Cmp]
      repeat' (refine bcase_intro (fun h => ?_) (fun h => ?_))
      all_goals simp only [*, cond_true, cond_false])
end Go.Proofs.Ythechjccpljljaa
/- Package limb: shifts, bits, bytes. -/
namespace Go.Proofs.Ythechjccpljljaa
open Go.Sym

/-! math/bits.Len64 -/
def len64 (x : UInt64) : Int := (Lib.bitLen x.toNat : Nat)
abbrev sLen64 : SpecF := fspec (α := UInt64 × Unit) total fun a => len64 a.1
theorem ok_Len64 : SpecOK Try.prog 71 sLen64 := by
  refine spec_of_calls (fn := Try.f71) (c := Try.f71.body.getD .skip) Try.func71 (by decide +kernel) (by kernel_rfl) ?_
  intro svs pre r hs hp at_ w vs hr
  unfold sLen64 fspec at hs
  split at hs
  · rename_i a ha
    simp only [Option.some.injEq, Prod.mk.injEq] at hs
    obtain ⟨rfl, rfl⟩ := hs
    obtain ⟨x, u⟩ := a
    have := Args.ok ha hr
    have hx := u64_lt x
    simp only [Args.encL, Enc.enc, RelL, Rel] at this
    obtain ⟨v, vs', rfl, rfl, rfl⟩ := this
    refine (bits_Len64 _ w (by omega) (by omega)).mono ?_
    rintro e w' ⟨rfl, rfl⟩
    refine ⟨_, rfl, ?_, Go.RowKit.Below.refl _ _⟩
    simp only [RetL.retL, retSV, Enc.enc, Rel, len64, Int.toNat_natCast]
  · cases hs
def sp3 : Specs := (71, sLen64) :: sp2
theorem sp3_ok : SpecsOK Try.prog sp3 := .cons ok_Len64 sp2_ok

def wr (n : Int) : Int := IntKind.i64.wrap n
def limb_Bits (a : Four) : Int :=
  cond (a.w3 != 0) (wr (192 + len64 a.w3)) (cond (a.w2 != 0) (wr (128 + len64 a.w2)) (cond (a.w1 != 0) (wr (64 + len64 a.w1)) (cond (a.w0 != 0) (wr (0 + len64 a.w0)) 0)))
abbrev sBits : SpecF := fspec (α := Four × Unit) total fun a => limb_Bits a.1
theorem ok_Bits : SpecOK Try.prog 40 sBits :=
  fn_ok mixed tt_ok sp3_ok 9 Try.func40 (by decide +kernel) rfl
    (fun p => let a := p.1; let r := SV.i64 (limb_Bits a)
      bcase (a.w3 != 0) (.i64 (wr (192 + len64 a.w3)) = r) (bcase (a.w2 != 0) (.i64 (wr (128 + len64 a.w2)) = r)
        (bcase (a.w1 != 0) (.i64 (wr (64 + len64 a.w1)) = r) (bcase (a.w0 != 0) (.i64 (wr (0 + len64 a.w0)) = r) (.i64 0 = r)))))
    (fun a => by kernel_rfl)
    (fun p _ => by
      simp only [limb_Bits]
      repeat' (refine bcase_intro (fun h => ?_) (fun h => ?_))
      all_goals simp only [*, cond_true, cond_false])

/-! Shifts. -/
def lx (x y : UInt64) (k : Nat) : UInt64 := cond (Nat.blt 0 k) (shl64 x k ||| shr64 y (64 - k)) (shl64 x k)
def rx (x y : UInt64) (k : Nat) : UInt64 := cond (Nat.blt 0 k) (shr64 x k ||| shl64 y (64 - k)) (shr64 x k)
def leftN (a : Four) (n : Nat) : Four :=
  match n / 64 with
  | 0 => ⟨shl64 a.w0 (n % 64), lx a.w1 a.w0 (n % 64), lx a.w2 a.w1 (n % 64), lx a.w3 a.w2 (n % 64)⟩
  | 1 => ⟨0, shl64 a.w0 (n % 64), lx a.w1 a.w0 (n % 64), lx a.w2 a.w1 (n % 64)⟩
  | 2 => ⟨0, 0, shl64 a.w0 (n % 64), lx a.w1 a.w0 (n % 64)⟩
  | _ => ⟨0, 0, 0, shl64 a.w0 (n % 64)⟩
def rightN (a : Four) (n : Nat) : Four :=
  match n / 64 with
  | 0 => ⟨rx a.w0 a.w1 (n % 64), rx a.w1 a.w2 (n % 64), rx a.w2 a.w3 (n % 64), shr64 a.w3 (n % 64)⟩
  | 1 => ⟨rx a.w1 a.w2 (n % 64), rx a.w2 a.w3 (n % 64), shr64 a.w3 (n % 64), 0⟩
  | 2 => ⟨rx a.w2 a.w3 (n % 64), shr64 a.w3 (n % 64), 0, 0⟩
  | _ => ⟨shr64 a.w3 (n % 64), 0, 0, 0⟩
def bitN (a : Four) (n : Nat) : UInt64 :=
  match n / 64 with
  | 0 => shr64 a.w0 (n % 64) &&& 1
  | 1 => shr64 a.w1 (n % 64) &&& 1
  | 2 => shr64 a.w2 (n % 64) &&& 1
  | _ => shr64 a.w3 (n % 64) &&& 1
def zero4 : Four := ⟨0, 0, 0, 0⟩
def limb_Left (a : Four) (n : Int) : Four := if n ≤ 0 then a else if 255 < n then zero4 else leftN a n.toNat
def limb_Right (a : Four) (n : Int) : Four := if n ≤ 0 then a else if 255 < n then zero4 else rightN a n.toNat
def limb_Bit (a : Four) (n : Int) : UInt64 := if n < 0 then 0 else if 255 < n then 0 else bitN a n.toNat

end Go.Proofs.Ythechjccpljljaa
/- Package limb: shifts and a bit, walked. -/
namespace Go.Proofs.Ythechjccpljljaa
open Go.Sym

def lxK (x y K : UInt64) : UInt64 := shl64 x K.toNat ||| shr64 y ((64 : UInt64) - K).toNat
def rxK (x y K : UInt64) : UInt64 := shr64 x K.toNat ||| shl64 y ((64 : UInt64) - K).toNat
def leftK (a : Four) (K : UInt64) : Nat → Four
  | 0 => ⟨shl64 a.w0 K.toNat, lxK a.w1 a.w0 K, lxK a.w2 a.w1 K, lxK a.w3 a.w2 K⟩
  | 1 => ⟨0, shl64 a.w0 K.toNat, lxK a.w1 a.w0 K, lxK a.w2 a.w1 K⟩
  | 2 => ⟨0, 0, shl64 a.w0 K.toNat, lxK a.w1 a.w0 K⟩
  | _ => ⟨0, 0, 0, shl64 a.w0 K.toNat⟩
def rightK (a : Four) (K : UInt64) : Nat → Four
  | 0 => ⟨rxK a.w0 a.w1 K, rxK a.w1 a.w2 K, rxK a.w2 a.w3 K, shr64 a.w3 K.toNat⟩
  | 1 => ⟨rxK a.w1 a.w2 K, rxK a.w2 a.w3 K, shr64 a.w3 K.toNat, 0⟩
  | 2 => ⟨rxK a.w2 a.w3 K, shr64 a.w3 K.toNat, 0, 0⟩
  | _ => ⟨shr64 a.w3 K.toNat, 0, 0, 0⟩
def left0 (a : Four) : Nat → Four
  | 0 => ⟨shl64 a.w0 0, shl64 a.w1 0, shl64 a.w2 0, shl64 a.w3 0⟩
  | 1 => ⟨0, shl64 a.w0 0, shl64 a.w1 0, shl64 a.w2 0⟩
  | 2 => ⟨0, 0, shl64 a.w0 0, shl64 a.w1 0⟩
  | _ => ⟨0, 0, 0, shl64 a.w0 0⟩
def right0 (a : Four) : Nat → Four
  | 0 => ⟨shr64 a.w0 0, shr64 a.w1 0, shr64 a.w2 0, shr64 a.w3 0⟩
  | 1 => ⟨shr64 a.w1 0, shr64 a.w2 0, shr64 a.w3 0, 0⟩
  | 2 => ⟨shr64 a.w2 0, shr64 a.w3 0, 0, 0⟩
  | _ => ⟨shr64 a.w3 0, 0, 0, 0⟩
def bitK (a : Four) (K : UInt64) : Nat → UInt64
  | 0 => shr64 a.w0 K.toNat &&& 1
  | 1 => shr64 a.w1 K.toNat &&& 1
  | 2 => shr64 a.w2 K.toNat &&& 1
  | _ => shr64 a.w3 K.toNat &&& 1
def lowOf (n : Int) : UInt64 := UInt64.ofInt (n.tmod 64)

abbrev A2 := Four × Int × Unit
noncomputable def vL (D : Dec) (t : Four) (a : A2) : Prop := FnRaw tt sp2 9 D Try.f37 (fun _ : A2 => t) a
noncomputable def vR (D : Dec) (t : Four) (a : A2) : Prop := FnRaw tt sp2 9 D Try.f38 (fun _ : A2 => t) a
noncomputable def vB (D : Dec) (t : UInt64) (a : A2) : Prop := FnRaw tt sp2 9 D Try.f39 (fun _ : A2 => t) a
def dLow : Dec := [(1, 1, .b true)]
def dHigh : Dec := [(1, 1, .b false), (3, 1, .b true)]
def dK (q : Nat) : Dec := [(1, 1, .b false), (3, 1, .b false), (5, 1, .i (Int.ofNat q)), (11, 1, .b true)]
def d0 (q : Nat) : Dec := [(1, 1, .b false), (3, 1, .b false), (5, 1, .i (Int.ofNat q)), (5, 3, .i 0)]
def oK (n : Int) (q : Nat) (r : Prop) : Prop := decide (n ≤ 0) = false ∧ decide (n > 255) = false ∧ wr (n.tdiv 64) = Int.ofNat q ∧ times (4 - q) (decide (0 < lowOf n) = true) r
def o0 (n : Int) (q : Nat) (r : Prop) : Prop := decide (n ≤ 0) = false ∧ decide (n > 255) = false ∧ wr (n.tdiv 64) = Int.ofNat q ∧ n.tmod 64 = 0 ∧ r

theorem left_low (a : Four) (n : Int) : vL dLow a (a, n, ()) = (decide (n ≤ 0) = true ∧ Same a.sv) := by kernel_rfl
theorem left_high (a : Four) (n : Int) : vL dHigh zero4 (a, n, ()) = (decide (n ≤ 0) = false ∧ decide (n > 255) = true ∧ Same zero4.sv) := by kernel_rfl
theorem left_K (a : Four) (n : Int) : (List.range 4).map (fun q => vL (dK q) (leftK a (lowOf n) q) (a, n, ())) = (List.range 4).map fun q => oK n q (Same (leftK a (lowOf n) q).sv) := by kernel_rfl
theorem left_0 (a : Four) (n : Int) : (List.range 4).map (fun q => vL (d0 q) (left0 a q) (a, n, ())) = (List.range 4).map fun q => o0 n q (Same (left0 a q).sv) := by kernel_rfl
theorem right_low (a : Four) (n : Int) : vR dLow a (a, n, ()) = (decide (n ≤ 0) = true ∧ Same a.sv) := by kernel_rfl
theorem right_high (a : Four) (n : Int) : vR dHigh zero4 (a, n, ()) = (decide (n ≤ 0) = false ∧ decide (n > 255) = true ∧ Same zero4.sv) := by kernel_rfl
theorem right_K (a : Four) (n : Int) : (List.range 4).map (fun q => vR (dK q) (rightK a (lowOf n) q) (a, n, ())) = (List.range 4).map fun q => oK n q (Same (rightK a (lowOf n) q).sv) := by kernel_rfl
theorem right_0 (a : Four) (n : Int) : (List.range 4).map (fun q => vR (d0 q) (right0 a q) (a, n, ())) = (List.range 4).map fun q => o0 n q (Same (right0 a q).sv) := by kernel_rfl
theorem bit_low (a : Four) (n : Int) : vB [(1, 1, .b true)] 0 (a, n, ()) = (decide (n < 0) = true ∧ Same (.u64 0)) := by kernel_rfl
theorem bit_high (a : Four) (n : Int) : vB [(1, 1, .b false), (1, 4, .b true)] 0 (a, n, ()) = (decide (n < 0) = false ∧ decide (n > 255) = true ∧ Same (.u64 0)) := by kernel_rfl
theorem bit_K (a : Four) (n : Int) : (List.range 4).map (fun q => vB [(1, 1, .b false), (1, 4, .b false), (3, 1, .i (Int.ofNat q))] (bitK a (lowOf n) q) (a, n, ())) =
    (List.range 4).map fun q => decide (n < 0) = false ∧ decide (n > 255) = false ∧ wr (n.tdiv 64) = Int.ofNat q ∧ Same (.u64 (bitK a (lowOf n) q)) := by kernel_rfl
end Go.Proofs.Ythechjccpljljaa
/- Package limb: shifts and a bit as functions of numbers; bytes. -/
namespace Go.Proofs.Ythechjccpljljaa
open Go.Sym

theorem wr_small {n : Int} (h : -9223372036854775808 ≤ n) (h' : n < 9223372036854775808) : wr n = n := by
  simp only [wr, IntKind.wrap, IntKind.signed, IntKind.bits, Bool.true_and]
  split
  · rename_i k; simp at k; omega
  · rename_i k; simp at k; omega
theorem low_nat {n : Int} (h : 0 ≤ n) : (lowOf n).toNat = n.toNat % 64 := by
  obtain ⟨m, rfl⟩ := Int.eq_ofNat_of_zero_le h
  have e : (m : Int).tmod 64 = ((m % 64 : Nat) : Int) := Int.tmod_eq_emod_of_nonneg (by omega)
  simp only [lowOf, e, Int.toNat_natCast]
  have : (UInt64.ofInt ((m % 64 : Nat) : Int)).toNat = m % 64 := by
    rw [UInt64.ofInt]
    simp
    omega
  exact this
theorem sub_low {K : UInt64} (h : K.toNat < 64) : ((64 : UInt64) - K).toNat = 64 - K.toNat := by
  rw [UInt64.toNat_sub_of_le]
  · rfl
  · rw [UInt64.le_iff_toNat_le]; show _ ≤ 64; omega
theorem lxK_eq (x y K : UInt64) (h0 : 0 < K.toNat) (h : K.toNat < 64) : lxK x y K = lx x y K.toNat := by
  simp only [lxK, lx, sub_low h, show Nat.blt 0 K.toNat = true by rw [Nat.blt_eq]; exact h0, cond_true]
theorem rxK_eq (x y K : UInt64) (h0 : 0 < K.toNat) (h : K.toNat < 64) : rxK x y K = rx x y K.toNat := by
  simp only [rxK, rx, sub_low h, show Nat.blt 0 K.toNat = true by rw [Nat.blt_eq]; exact h0, cond_true]
theorem quo_eq {n : Int} (h : 0 ≤ n) (h' : n ≤ 255) : wr (n.tdiv 64) = Int.ofNat (n.toNat / 64) := by
  obtain ⟨m, rfl⟩ := Int.eq_ofNat_of_zero_le h
  rw [show (m : Int).tdiv 64 = ((m / 64 : Nat) : Int) from Int.tdiv_eq_ediv_of_nonneg (by omega)]
  rw [wr_small (by omega) (by omega)]
  simp
theorem tmod_zero {n : Int} (h : 0 ≤ n) (hk : n.toNat % 64 = 0) : n.tmod 64 = 0 := by
  rw [Int.tmod_eq_emod_of_nonneg h]; omega
theorem left_cases (a : Four) (n : Int) : ∃ D, FnVD tt sp2 9 D Try.f37 (fun p : A2 => limb_Left p.1 p.2.1) (a, n, ()) := by
  by_cases h0 : n ≤ 0
  · refine ⟨dLow, FnVD.of a (by simp [limb_Left, h0]) (left_low a n) ⟨by simp [h0], rfl⟩⟩
  by_cases h1 : 255 < n
  · refine ⟨dHigh, FnVD.of zero4 (by simp [limb_Left, h0, h1]) (left_high a n) ⟨by simp; omega, by simp [h1], rfl⟩⟩
  have hn : n.toNat / 64 < 4 := by omega
  have hlow := low_nat (n := n) (by omega)
  by_cases hk : n.toNat % 64 = 0
  · refine ⟨d0 (n.toNat / 64), FnVD.raw (left0 a (n.toNat / 64)) ?_ (all_of_map 4 (left_0 a n) _ hn ⟨by simp; omega, by simp; omega, quo_eq (by omega) (by omega), tmod_zero (by omega) hk, rfl⟩)⟩
    simp only [limb_Left, h0, h1, if_false, leftN, hk]
    have : n.toNat / 64 = 0 ∨ n.toNat / 64 = 1 ∨ n.toNat / 64 = 2 ∨ n.toNat / 64 = 3 := by omega
    rcases this with e | e | e | e <;> rw [e] <;> rfl
  · have hlt : (lowOf n).toNat < 64 := by omega
    refine ⟨dK (n.toNat / 64), FnVD.raw (leftK a (lowOf n) (n.toNat / 64)) ?_ (all_of_map 4 (left_K a n) _ hn ⟨by simp; omega, by simp; omega, quo_eq (by omega) (by omega), times_mk (by simp [UInt64.lt_iff_toNat_lt]; omega) rfl _⟩)⟩
    simp only [limb_Left, h0, h1, if_false, leftN, ← hlow]
    have : n.toNat / 64 = 0 ∨ n.toNat / 64 = 1 ∨ n.toNat / 64 = 2 ∨ n.toNat / 64 = 3 := by omega
    rcases this with e | e | e | e <;> rw [e] <;> simp only [leftK, lxK_eq _ _ _ (show 0 < (lowOf n).toNat by omega) hlt]
abbrev sLeft : SpecF := fspec (α := A2) total fun p => limb_Left p.1 p.2.1
theorem ok_Left : SpecOK Try.prog 37 sLeft :=
  fn_okD mixed tt_ok sp2_ok 9 Try.func37 (by decide +kernel) rfl (fun ⟨a, n, ()⟩ _ => left_cases a n)
theorem right_cases (a : Four) (n : Int) : ∃ D, FnVD tt sp2 9 D Try.f38 (fun p : A2 => limb_Right p.1 p.2.1) (a, n, ()) := by
  by_cases h0 : n ≤ 0
  · refine ⟨dLow, FnVD.of a (by simp [limb_Right, h0]) (right_low a n) ⟨by simp [h0], rfl⟩⟩
  by_cases h1 : 255 < n
  · refine ⟨dHigh, FnVD.of zero4 (by simp [limb_Right, h0, h1]) (right_high a n) ⟨by simp; omega, by simp [h1], rfl⟩⟩
  have hn : n.toNat / 64 < 4 := by omega
  have hlow := low_nat (n := n) (by omega)
  by_cases hk : n.toNat % 64 = 0
  · refine ⟨d0 (n.toNat / 64), FnVD.raw (right0 a (n.toNat / 64)) ?_ (all_of_map 4 (right_0 a n) _ hn ⟨by simp; omega, by simp; omega, quo_eq (by omega) (by omega), tmod_zero (by omega) hk, rfl⟩)⟩
    simp only [limb_Right, h0, h1, if_false, rightN, hk]
    have : n.toNat / 64 = 0 ∨ n.toNat / 64 = 1 ∨ n.toNat / 64 = 2 ∨ n.toNat / 64 = 3 := by omega
    rcases this with e | e | e | e <;> rw [e] <;> rfl
  · have hlt : (lowOf n).toNat < 64 := by omega
    refine ⟨dK (n.toNat / 64), FnVD.raw (rightK a (lowOf n) (n.toNat / 64)) ?_ (all_of_map 4 (right_K a n) _ hn ⟨by simp; omega, by simp; omega, quo_eq (by omega) (by omega), times_mk (by simp [UInt64.lt_iff_toNat_lt]; omega) rfl _⟩)⟩
    simp only [limb_Right, h0, h1, if_false, rightN, ← hlow]
    have : n.toNat / 64 = 0 ∨ n.toNat / 64 = 1 ∨ n.toNat / 64 = 2 ∨ n.toNat / 64 = 3 := by omega
    rcases this with e | e | e | e <;> rw [e] <;> simp only [rightK, rxK_eq _ _ _ (show 0 < (lowOf n).toNat by omega) hlt]
abbrev sRight : SpecF := fspec (α := A2) total fun p => limb_Right p.1 p.2.1
theorem ok_Right : SpecOK Try.prog 38 sRight :=
  fn_okD mixed tt_ok sp2_ok 9 Try.func38 (by decide +kernel) rfl (fun ⟨a, n, ()⟩ _ => right_cases a n)
theorem bit_cases (a : Four) (n : Int) : ∃ D, FnVD tt sp2 9 D Try.f39 (fun p : A2 => limb_Bit p.1 p.2.1) (a, n, ()) := by
  by_cases h0 : n < 0
  · refine ⟨[(1, 1, .b true)], FnVD.of 0 (by simp [limb_Bit, h0]) (bit_low a n) ⟨by simp [h0], rfl⟩⟩
  by_cases h1 : 255 < n
  · refine ⟨[(1, 1, .b false), (1, 4, .b true)], FnVD.of 0 (by simp [limb_Bit, h0, h1]) (bit_high a n) ⟨by simp; omega, by simp [h1], rfl⟩⟩
  have hn : n.toNat / 64 < 4 := by omega
  have hlow := low_nat (n := n) (by omega)
  refine ⟨_, FnVD.raw (bitK a (lowOf n) (n.toNat / 64)) ?_ (all_of_map 4 (bit_K a n) _ hn ⟨by simp; omega, by simp; omega, quo_eq (by omega) (by omega), rfl⟩)⟩
  simp only [limb_Bit, h0, h1, if_false, bitN, ← hlow]
  have : n.toNat / 64 = 0 ∨ n.toNat / 64 = 1 ∨ n.toNat / 64 = 2 ∨ n.toNat / 64 = 3 := by omega
  rcases this with e | e | e | e <;> rw [e] <;> rfl
abbrev sBit : SpecF := fspec (α := A2) total fun p => limb_Bit p.1 p.2.1
theorem ok_Bit : SpecOK Try.prog 39 sBit :=
  fn_okD mixed tt_ok sp2_ok 9 Try.func39 (by decide +kernel) rfl (fun ⟨a, n, ()⟩ _ => bit_cases a n)
end Go.Proofs.Ythechjccpljljaa
/- Package limb: numbers of bytes, bytes of numbers. -/
namespace Go.Proofs.Ythechjccpljljaa
open Go.Sym

def byteAt (big : Bool) (k : Nat) : Nat := cond big (31 - k) k
def wordOf (xs : List UInt8) (big : Bool) (i : Nat) : UInt64 := (List.range 8).foldl (fun acc j => acc ||| shl64 (xs.getD (byteAt big (8 * i + j)) 0).toUInt64 (8 * j)) 0
def fourOf (xs : List UInt8) (big : Bool) : Four := ⟨wordOf xs big 0, wordOf xs big 1, wordOf xs big 2, wordOf xs big 3⟩
def limb_Of (xs : List UInt8) (big : Bool) : Four × Int := if xs.length = 32 then (fourOf xs big, 0) else (zero4, 2)
def obl : List Int → Int → Prop → Prop
  | [], _, p => p
  | k :: ks, L, p => (0 ≤ k ∧ k < L) ∧ obl ks L p
theorem obl_mk {L : Int} {p : Prop} (hp : p) : ∀ {ks : List Int}, (∀ k ∈ ks, 0 ≤ k ∧ k < L) → obl ks L p
  | [], _ => hp
  | k :: ks, h => ⟨h k (by simp), obl_mk hp (fun x hx => h x (by simp [hx]))⟩
abbrev AOf := List UInt8 × Bool × Unit
noncomputable def vOf (D : Dec) (t : Four × Int) (a : AOf) : Prop := FnRaw tt sp2 40 D Try.f23 (fun _ : AOf => t) a
theorem of_bad (xs : List UInt8) (big : Bool) : vOf [(1, 2, .b true)] (zero4, 2) (xs, big, ()) = (((xs.length : Int) != 32) = true ∧ Same (.tup [zero4.sv, .i64 2])) := by kernel_rfl
theorem of_good (xs : List UInt8) : ([false, true] : List Bool).map (fun big => vOf [(1, 2, .b false)] (fourOf xs big, 0) (xs, big, ())) =
    ([false, true] : List Bool).map fun big => (((xs.length : Int) != 32) = false ∧ obl ((List.range 32).map fun k => ((byteAt big k : Nat) : Int)) (xs.length : Int) (Same (.tup [(fourOf xs big).sv, .i64 0]))) := by kernel_rfl
theorem of_cases (xs : List UInt8) (big : Bool) : ∃ D, FnVD tt sp2 40 D Try.f23 (fun p : AOf => limb_Of p.1 p.2.1) (xs, big, ()) := by
  by_cases h : xs.length = 32
  · refine ⟨[(1, 2, .b false)], ?_⟩
    have h1 := of_good xs
    simp only [List.map_cons, List.map_nil, List.cons.injEq, and_true] at h1
    have key : ∀ big, obl ((List.range 32).map fun k => ((byteAt big k : Nat) : Int)) (xs.length : Int) (Same (.tup [(fourOf xs big).sv, .i64 0])) := by
      intro big
      refine obl_mk rfl fun k hk => ?_
      obtain ⟨m, hm, rfl⟩ := List.mem_map.1 hk
      rw [List.mem_range] at hm
      rw [h]
      cases big <;> simp [byteAt] <;> omega
    cases big
    · exact FnVD.of (fourOf xs false, 0) (by simp [limb_Of, h]) h1.1 ⟨by simp [h], key _⟩
    · exact FnVD.of (fourOf xs true, 0) (by simp [limb_Of, h]) h1.2 ⟨by simp [h], key _⟩
  · refine ⟨[(1, 2, .b true)], FnVD.of (zero4, 2) (by simp [limb_Of, h]) (of_bad xs big) ⟨by simp; omega, rfl⟩⟩
abbrev sOf : SpecF := fspec (α := AOf) total fun p => limb_Of p.1 p.2.1
theorem ok_Of : SpecOK Try.prog 23 sOf :=
  fn_okD mixed tt_ok sp2_ok 40 Try.func23 (by decide +kernel) rfl (fun ⟨xs, big, ()⟩ _ => of_cases xs big)

/-! slices.Reverse of 32 bytes of the caller's own. -/
def sReverse : MSpecF := fun look svs =>
  match svs with
  | [.sl b 0 32] => match look b with
    | some [.own (.bytes xs)] => if xs.length = 32 then some ⟨none, .tup [], [(b, [.own (.bytes xs.reverse)])]⟩ else none
    | _ => none
  | _ => none
def revA (g : Nat → UInt8) : List UInt8 := (List.range 32).map g
def revB (g : Nat → UInt8) : List UInt8 := (List.range 32).map fun i => g (31 - i)
noncomputable def vRev (g : Nat → UInt8) : Prop :=
  vc tt [] 40 [] (Try.f67.body.getD .skip) (initM [.sl 0 0 32] Try.f67.ntmps [[.own (.bytes (revA g))]])
    (finM tt Try.f67.results.toList 1 (fun r M => r = .tup [] ∧ M = [[.own (.bytes (revB g))]]))
def revE (x : SV) (y : List Blk) : Prop := x = x ∧ y = y
theorem revE_ok (x : SV) (y : List Blk) : revE x y := And.intro (Eq.refl x) (Eq.refl y)
def revK : List Int := (List.range 16).flatMap fun k => [((31 - k : Nat) : Int), (k : Int), (k : Int), ((31 - k : Nat) : Int)]
theorem rev_vc (g : Nat → UInt8) : vRev g = obl revK 32 (revE (.tup []) [[.own (.bytes (revB g))]]) := by kernel_rfl
theorem revK_ok : ∀ k ∈ revK, 0 ≤ k ∧ k < (32 : Int) := by decide
theorem rev_awp (g : Nat → UInt8) (at0 : At) (w0 : World) : AWp Try.prog at0 w0 (Try.f67.body.getD .skip) (initM [.sl 0 0 32] Try.f67.ntmps [[.own (.bytes (revA g))]])
    (finM tt Try.f67.results.toList 1 (fun r M => r = .tup [] ∧ M = [[.own (.bytes (revB g))]])) := by
  refine vc_ok mixed tt_ok (SpecsOK.nil _) (fuel := 40) (D := []) _ _ _ ?_
  have e := rev_vc g
  unfold vRev at e
  rw [e]; exact obl_mk (revE_ok _ _) revK_ok
end Go.Proofs.Ythechjccpljljaa
/- Package limb: bytes of numbers. -/
namespace Go.Proofs.Ythechjccpljljaa
open Go.Sym

theorem asU8s_eq : ∀ {cs : List SV} {xs : List UInt8}, asU8s cs = some xs → cs = xs.map .u8
  | [], xs, h => by simp only [asU8s, Option.some.injEq] at h; subst h; rfl
  | c :: cs, xs, h => by
    cases c <;> simp only [asU8s] at h <;> try (cases h; done)
    obtain ⟨ys, h1, h2⟩ := Option.map_eq_some_iff.1 h
    subst h2
    rw [asU8s_eq h1]; rfl
theorem list_range {xs : List UInt8} {n : Nat} (h : xs.length = n) : xs = (List.range n).map fun i => xs.getD i 0 := by
  apply List.ext_getElem
  · simp [h]
  · intro i h1 h2
    simp [h1]
theorem list_rev {xs : List UInt8} (h : xs.length = 32) : xs.reverse = (List.range 32).map fun i => xs.getD (31 - i) 0 := by
  apply List.ext_getElem
  · simp [h]
  · intro i h1 h2
    have : 31 - i < xs.length := by simp at h2; omega
    simp only [List.getElem_reverse, List.getElem_map, List.getElem_range, h]
    rw [List.getD_eq_getElem?_getD, List.getElem?_eq_getElem (by omega)]; rfl
theorem ok_Reverse : MSpecOK Try.prog 67 sReverse := by
  refine mspec_of_awp (c := Try.f67.body.getD .skip) tt_ok Try.func67 (by decide +kernel) (by kernel_rfl) ?_
  intro look svs out hs hp
  unfold sReverse at hs
  split at hs
  · rename_i b
    split at hs
    · rename_i xs hl
      split at hs
      · rename_i hlen
        simp only [Option.some.injEq] at hs
        subst hs
        refine ⟨[b], [[.own (.bytes xs)]], [[.own (.bytes xs.reverse)]], [.sl 0 0 32], [.sl b 0 32], by simp, rfl, ?_, ?_, fun _ _ _ h => h, rfl, rfl, fun at0 w0 _ => ?_⟩
        · intro i c hi
          cases i with
          | zero => simp at hi; subst hi; exact ⟨_, rfl, hl⟩
          | succ i => simp at hi
        · intro c hc
          simp at hc
          subst hc; rfl
        · have key := rev_awp (fun i => xs.getD i 0) at0 w0
          have e1 : revA (fun i => xs.getD i 0) = xs := (list_range hlen).symm
          have e2 : revB (fun i => xs.getD i 0) = xs.reverse := (list_rev hlen).symm
          rw [e1, e2] at key
          exact key
      · cases hs
    · cases hs
  · cases hs
def spB : Specs := (67, .mem sReverse) :: sp2
theorem spB_ok : SpecsOK Try.prog spB := .consM ok_Reverse sp2_ok

def w4 (a : Four) : Nat → UInt64
  | 0 => a.w0
  | 1 => a.w1
  | 2 => a.w2
  | _ => a.w3
def bytesL (a : Four) : List UInt8 := (List.range 32).map fun i => (shr64 (w4 a (i / 8)) (8 * (i % 8))).toUInt8
def limb_Bytes (a : Four) (big : Bool) : List UInt8 := cond big (bytesL a).reverse (bytesL a)
abbrev AB := Four × Bool × Unit
noncomputable def vBy (t : List UInt8) (a : AB) : Prop := FnRaw tt spB 40 [] Try.f27 (fun _ : AB => t) a
def mkOb (n : Int) (p : Prop) : Prop := (0 ≤ n ∧ n = n ∧ n ≤ 1099511627776) ∧ p
theorem bytes_vc (a : Four) : ([false, true] : List Bool).map (fun big => vBy (limb_Bytes a big) (a, big, ())) =
    ([false, true] : List Bool).map fun big => mkOb 32 (obl ((List.range 32).map fun k : Nat => (k : Int)) 32 (Same (.lst (.bytes (limb_Bytes a big))))) := by kernel_rfl
theorem bytes_ob (x : SV) : mkOb 32 (obl ((List.range 32).map fun k : Nat => (k : Int)) 32 (Same x)) := by
  refine And.intro (by decide) (obl_mk (Same.mk _) fun k hk => ?_)
  obtain ⟨m, hm, rfl⟩ := List.mem_map.1 hk
  rw [List.mem_range] at hm
  omega
abbrev sBytes : SpecF := fspec (α := AB) total fun p => limb_Bytes p.1 p.2.1
theorem bytes_cases (a : Four) (big : Bool) : ∃ D, FnVD tt spB 40 D Try.f27 (fun p : AB => limb_Bytes p.1 p.2.1) (a, big, ()) := by
  have h1 := bytes_vc a
  simp only [List.map_cons, List.map_nil, List.cons.injEq, and_true] at h1
  refine ⟨[], ?_⟩
  cases big
  · exact FnVD.of (limb_Bytes a false) (Eq.refl _) h1.1 (bytes_ob _)
  · exact FnVD.of (limb_Bytes a true) (Eq.refl _) h1.2 (bytes_ob _)
theorem ok_Bytes : SpecOK Try.prog 27 sBytes :=
  fn_okD mixed tt_ok spB_ok 40 Try.func27 (by decide +kernel) rfl (fun ⟨a, big, ()⟩ _ => bytes_cases a big)
end Go.Proofs.Ythechjccpljljaa
/- Layer 1's laws: what they begin with. -/
namespace Go.Proofs.Ythechjccpljljaa
open Go.Sym

def spL0 : Specs := [(14, sAdd), (15, sSub), (22, sCmp), (40, sBits), (30, sMul), (33, sMulWord),
  (37, sLeft), (38, sRight), (39, sBit), (23, sOf), (27, sBytes), (42, sSelect)]
theorem spL0_ok : SpecsOK Try.prog spL0 := .cons ok_Add <| .cons ok_Sub <| .cons ok_Cmp <| .cons ok_Bits <| .cons ok_Mul <| .cons ok_MulWord <| .cons ok_Left <| .cons ok_Right <| .cons ok_Bit <| .cons ok_Of <| .cons ok_Bytes <| .cons ok_Select <| .nil _
abbrev sAwake1 : SpecF := fspec (α := Unit) total fun _ => true
theorem ok_awake1 : SpecOK Try.prog 12 sAwake1 :=
  fn_ok mixed tt_ok spL0_ok 9 Try.func12 (by decide +kernel) rfl (fun _ => Same (.bool true)) (fun a => by kernel_rfl) (fun _ _ => Same.mk _)
def spL1 : Specs := (12, sAwake1) :: spL0
theorem spL1_ok : SpecsOK Try.prog spL1 := .cons ok_awake1 spL0_ok
end Go.Proofs.Ythechjccpljljaa
/- Package limb: what its functions come to, as numbers. Plain: no program here but the functions' names. -/
namespace Go.Proofs.Ythechjccpljljaa
open Go.Sym

def nat4 (a : Four) : Nat := a.w0.toNat + 18446744073709551616 * (a.w1.toNat + 18446744073709551616 * (a.w2.toNat + 18446744073709551616 * a.w3.toNat))
def nat8 (a : Eight) : Nat := a.e0.toNat + 18446744073709551616 * (a.e1.toNat + 18446744073709551616 * (a.e2.toNat + 18446744073709551616 * (a.e3.toNat + 18446744073709551616 * (a.e4.toNat + 18446744073709551616 * (a.e5.toNat + 18446744073709551616 * (a.e6.toNat + 18446744073709551616 * a.e7.toNat))))))
theorem nat4_lt (a : Four) : nat4 a < 115792089237316195423570985008687907853269984665640564039457584007913129639936 := by
  have := u64_lt a.w0; have := u64_lt a.w1; have := u64_lt a.w2; have := u64_lt a.w3
  simp only [nat4]; omega
theorem nat4_inj {a b : Four} (h : nat4 a = nat4 b) : a = b := by
  have := u64_lt a.w0; have := u64_lt a.w1; have := u64_lt a.w2; have := u64_lt a.w3
  have := u64_lt b.w0; have := u64_lt b.w1; have := u64_lt b.w2; have := u64_lt b.w3
  simp only [nat4] at h
  obtain ⟨a0, a1, a2, a3⟩ := a
  obtain ⟨b0, b1, b2, b3⟩ := b
  simp only at *
  have e0 : a0 = b0 := UInt64.toNat_inj.1 (by omega)
  have e1 : a1 = b1 := UInt64.toNat_inj.1 (by omega)
  have e2 : a2 = b2 := UInt64.toNat_inj.1 (by omega)
  have e3 : a3 = b3 := UInt64.toNat_inj.1 (by omega)
  subst e0 e1 e2 e3; rfl
theorem nat8_inj {a b : Eight} (h : nat8 a = nat8 b) : a = b := by
  have := u64_lt a.e0; have := u64_lt a.e1; have := u64_lt a.e2; have := u64_lt a.e3; have := u64_lt a.e4; have := u64_lt a.e5; have := u64_lt a.e6; have := u64_lt a.e7
  have := u64_lt b.e0; have := u64_lt b.e1; have := u64_lt b.e2; have := u64_lt b.e3; have := u64_lt b.e4; have := u64_lt b.e5; have := u64_lt b.e6; have := u64_lt b.e7
  simp only [nat8] at h
  obtain ⟨a0, a1, a2, a3, a4, a5, a6, a7⟩ := a
  obtain ⟨b0, b1, b2, b3, b4, b5, b6, b7⟩ := b
  simp only at *
  have e0 : a0 = b0 := UInt64.toNat_inj.1 (by omega)
  have e1 : a1 = b1 := UInt64.toNat_inj.1 (by omega)
  have e2 : a2 = b2 := UInt64.toNat_inj.1 (by omega)
  have e3 : a3 = b3 := UInt64.toNat_inj.1 (by omega)
  have e4 : a4 = b4 := UInt64.toNat_inj.1 (by omega)
  have e5 : a5 = b5 := UInt64.toNat_inj.1 (by omega)
  have e6 : a6 = b6 := UInt64.toNat_inj.1 (by omega)
  have e7 : a7 = b7 := UInt64.toNat_inj.1 (by omega)
  subst e0 e1 e2 e3 e4 e5 e6 e7; rfl

theorem add_word (x y c : UInt64) (hc : c.toNat ≤ 1) : (addLo x y c).toNat + 18446744073709551616 * (addHi x y c).toNat = x.toNat + y.toNat + c.toNat := by
  rw [addLo_nat, addHi_nat x y c hc]; omega
theorem sub_word (x y c : UInt64) (hc : c.toNat ≤ 1) : (subLo x y c).toNat + y.toNat + c.toNat = x.toNat + 18446744073709551616 * (subHi x y c).toNat := by
  rw [subLo_nat, subHi_nat]
  have := u64_lt x; have := u64_lt y
  split <;> omega
theorem add_nat (a b : Four) : nat4 (limb_Add a b).1 + 115792089237316195423570985008687907853269984665640564039457584007913129639936 * (limb_Add a b).2.toNat = nat4 a + nat4 b := by
  have h0 := add_word a.w0 b.w0 0 zero_le
  have l0 := addHi_le a.w0 b.w0 0 zero_le
  have h1 := add_word a.w1 b.w1 _ l0
  have l1 := addHi_le a.w1 b.w1 _ l0
  have h2 := add_word a.w2 b.w2 _ l1
  have l2 := addHi_le a.w2 b.w2 _ l1
  have h3 := add_word a.w3 b.w3 _ l2
  have z : (0 : UInt64).toNat = 0 := rfl
  simp only [nat4, limb_Add]
  omega
theorem add_carry (a b : Four) : (limb_Add a b).2.toNat ≤ 1 := addHi_le _ _ _ (addHi_le _ _ _ (addHi_le _ _ _ (addHi_le _ _ _ zero_le)))
theorem sub_nat (a b : Four) : nat4 (limb_Sub a b).1 + nat4 b = nat4 a + 115792089237316195423570985008687907853269984665640564039457584007913129639936 * (limb_Sub a b).2.toNat := by
  have h0 := sub_word a.w0 b.w0 0 zero_le
  have l0 := subHi_le a.w0 b.w0 0
  have h1 := sub_word a.w1 b.w1 _ l0
  have l1 := subHi_le a.w1 b.w1 (subHi a.w0 b.w0 0)
  have h2 := sub_word a.w2 b.w2 _ l1
  have l2 := subHi_le a.w2 b.w2 (subHi a.w1 b.w1 (subHi a.w0 b.w0 0))
  have h3 := sub_word a.w3 b.w3 _ l2
  have z : (0 : UInt64).toNat = 0 := rfl
  simp only [nat4, limb_Sub]
  omega
theorem sub_borrow (a b : Four) : (limb_Sub a b).2.toNat ≤ 1 := subHi_le _ _ _

theorem shr64_nat (x : UInt64) (n : Nat) : (shr64 x n).toNat = x.toNat / 2 ^ n := by
  simp only [shr64, UInt64.toNat_ofNat']
  have := u64_lt x
  exact Nat.mod_eq_of_lt (Nat.lt_of_le_of_lt (Nat.div_le_self _ _) this)
theorem shl64_nat (x : UInt64) (n : Nat) : (shl64 x n).toNat = x.toNat * 2 ^ n % 18446744073709551616 := by
  simp only [shl64, UInt64.toNat_ofNat']
theorem low32 (x : UInt64) : (x &&& 4294967295).toNat = x.toNat % 4294967296 := by
  rw [UInt64.toNat_and]
  exact Nat.and_two_pow_sub_one_eq_mod x.toNat 32
theorem mul64_nat (x y : UInt64) : (mul64 x y).2.toNat + 18446744073709551616 * (mul64 x y).1.toNat = x.toNat * y.toNat := by
  have hx := u64_lt x; have hy := u64_lt y
  obtain ⟨x0, ex0⟩ : ∃ n, n = x.toNat % 4294967296 := ⟨_, rfl⟩
  obtain ⟨x1, ex1⟩ : ∃ n, n = x.toNat / 4294967296 := ⟨_, rfl⟩
  obtain ⟨y0, ey0⟩ : ∃ n, n = y.toNat % 4294967296 := ⟨_, rfl⟩
  obtain ⟨y1, ey1⟩ : ∃ n, n = y.toNat / 4294967296 := ⟨_, rfl⟩
  have hX : x.toNat = x0 + 4294967296 * x1 := by omega
  have hY : y.toNat = y0 + 4294967296 * y1 := by omega
  have b : ∀ u v : Nat, u ≤ 4294967295 → v ≤ 4294967295 → u * v ≤ 18446744065119617025 := fun u v h1 h2 => Nat.mul_le_mul h1 h2
  have b00 := b x0 y0 (by omega) (by omega)
  have b01 := b x0 y1 (by omega) (by omega)
  have b10 := b x1 y0 (by omega) (by omega)
  have b11 := b x1 y1 (by omega) (by omega)
  have e : x.toNat * y.toNat = x0 * y0 + 4294967296 * (x0 * y1) + 4294967296 * (x1 * y0) + 18446744073709551616 * (x1 * y1) := by rw [hX, hY]; grind
  simp only [mul64, UInt64.toNat_add, UInt64.toNat_mul, shr64_nat, low32, e, ← ex0, ← ex1, ← ey0, ← ey1, Nat.reducePow]
  generalize x0 * y0 = p00 at *
  generalize x0 * y1 = p01 at *
  generalize x1 * y0 = p10 at *
  generalize x1 * y1 = p11 at *
  omega
theorem mac_nat (x y o c : UInt64) : (macLo x y o c).toNat + 18446744073709551616 * (macHi x y o c).toNat = x.toNat * y.toNat + o.toNat + c.toNat := by
  have h0 := mul64_nat x y
  have h1 := add_word (mul64 x y).2 o 0 zero_le
  have h2 := add_word (addLo (mul64 x y).2 o 0) c 0 zero_le
  have z : (0 : UInt64).toNat = 0 := rfl
  have hb : x.toNat * y.toNat ≤ 340282366920938463426481119284349108225 := Nat.mul_le_mul (show x.toNat ≤ 18446744073709551615 by have := u64_lt x; omega) (show y.toNat ≤ 18446744073709551615 by have := u64_lt y; omega)
  have := u64_lt o; have := u64_lt c
  simp only [macLo, macHi, UInt64.toNat_add]
  have := u64_lt (addLo (addLo (mul64 x y).2 o 0) c 0)
  generalize x.toNat * y.toNat = p at *
  omega
theorem row_nat (x : UInt64) (b : Four) (o0 o1 o2 o3 : UInt64) :
    (mulRow x b o0 o1 o2 o3).r0.toNat + 18446744073709551616 * ((mulRow x b o0 o1 o2 o3).r1.toNat + 18446744073709551616 * ((mulRow x b o0 o1 o2 o3).r2.toNat + 18446744073709551616 * ((mulRow x b o0 o1 o2 o3).r3.toNat + 18446744073709551616 * (mulRow x b o0 o1 o2 o3).c.toNat)))
      = x.toNat * nat4 b + (o0.toNat + 18446744073709551616 * (o1.toNat + 18446744073709551616 * (o2.toNat + 18446744073709551616 * o3.toNat))) := by
  have h0 := mac_nat x b.w0 o0 0
  have h1 := mac_nat x b.w1 o1 (macHi x b.w0 o0 0)
  have h2 := mac_nat x b.w2 o2 (macHi x b.w1 o1 (macHi x b.w0 o0 0))
  have h3 := mac_nat x b.w3 o3 (macHi x b.w2 o2 (macHi x b.w1 o1 (macHi x b.w0 o0 0)))
  have z : (0 : UInt64).toNat = 0 := rfl
  have e : x.toNat * nat4 b = x.toNat * b.w0.toNat + 18446744073709551616 * (x.toNat * b.w1.toNat + 18446744073709551616 * (x.toNat * b.w2.toNat + 18446744073709551616 * (x.toNat * b.w3.toNat))) := by simp only [nat4]; grind
  rw [e]
  simp only [mulRow]
  generalize x.toNat * b.w0.toNat = p0 at *
  generalize x.toNat * b.w1.toNat = p1 at *
  generalize x.toNat * b.w2.toNat = p2 at *
  generalize x.toNat * b.w3.toNat = p3 at *
  omega
theorem mul_nat (a b : Four) : nat8 (limb_Mul a b) = nat4 a * nat4 b := by
  have e : nat4 a * nat4 b = a.w0.toNat * nat4 b + 18446744073709551616 * (a.w1.toNat * nat4 b + 18446744073709551616 * (a.w2.toNat * nat4 b + 18446744073709551616 * (a.w3.toNat * nat4 b))) := by rw [nat4]; grind
  have h0 := row_nat a.w0 b 0 0 0 0
  have h1 := row_nat a.w1 b (mulRow a.w0 b 0 0 0 0).r1 (mulRow a.w0 b 0 0 0 0).r2 (mulRow a.w0 b 0 0 0 0).r3 (mulRow a.w0 b 0 0 0 0).c
  have z : (0 : UInt64).toNat = 0 := rfl
  rw [e]
  simp only [nat8, limb_Mul]
  generalize mulRow a.w0 b 0 0 0 0 = r at *
  have h2 := row_nat a.w2 b (mulRow a.w1 b r.r1 r.r2 r.r3 r.c).r1 (mulRow a.w1 b r.r1 r.r2 r.r3 r.c).r2 (mulRow a.w1 b r.r1 r.r2 r.r3 r.c).r3 (mulRow a.w1 b r.r1 r.r2 r.r3 r.c).c
  generalize mulRow a.w1 b r.r1 r.r2 r.r3 r.c = s at *
  have h3 := row_nat a.w3 b (mulRow a.w2 b s.r1 s.r2 s.r3 s.c).r1 (mulRow a.w2 b s.r1 s.r2 s.r3 s.c).r2 (mulRow a.w2 b s.r1 s.r2 s.r3 s.c).r3 (mulRow a.w2 b s.r1 s.r2 s.r3 s.c).c
  generalize mulRow a.w2 b s.r1 s.r2 s.r3 s.c = t at *
  generalize a.w0.toNat * nat4 b = p0 at *
  generalize a.w1.toNat * nat4 b = p1 at *
  generalize a.w2.toNat * nat4 b = p2 at *
  generalize a.w3.toNat * nat4 b = p3 at *
  omega
theorem mw_nat (x w c : UInt64) : (mwLo x w c).toNat + 18446744073709551616 * (mwHi x w c).toNat = x.toNat * w.toNat + c.toNat := by
  have h0 := mul64_nat x w
  have h1 := add_word (mul64 x w).2 c 0 zero_le
  have z : (0 : UInt64).toNat = 0 := rfl
  have hb : x.toNat * w.toNat ≤ 340282366920938463426481119284349108225 := Nat.mul_le_mul (show x.toNat ≤ 18446744073709551615 by have := u64_lt x; omega) (show w.toNat ≤ 18446744073709551615 by have := u64_lt w; omega)
  have := u64_lt c
  simp only [mwLo, mwHi, UInt64.toNat_add]
  generalize x.toNat * w.toNat = p at *
  omega
theorem mulword_nat (a : Four) (w : UInt64) : nat4 (limb_MulWord a w).1 + 115792089237316195423570985008687907853269984665640564039457584007913129639936 * (limb_MulWord a w).2.toNat = nat4 a * w.toNat := by
  have e : nat4 a * w.toNat = a.w0.toNat * w.toNat + 18446744073709551616 * (a.w1.toNat * w.toNat + 18446744073709551616 * (a.w2.toNat * w.toNat + 18446744073709551616 * (a.w3.toNat * w.toNat))) := by simp only [nat4]; grind
  have h0 := mw_nat a.w0 w 0
  have h1 := mw_nat a.w1 w (mwHi a.w0 w 0)
  have h2 := mw_nat a.w2 w (mwHi a.w1 w (mwHi a.w0 w 0))
  have h3 := mw_nat a.w3 w (mwHi a.w2 w (mwHi a.w1 w (mwHi a.w0 w 0)))
  have z : (0 : UInt64).toNat = 0 := rfl
  rw [e]
  simp only [nat4, limb_MulWord]
  generalize a.w0.toNat * w.toNat = p0 at *
  generalize a.w1.toNat * w.toNat = p1 at *
  generalize a.w2.toNat * w.toNat = p2 at *
  generalize a.w3.toNat * w.toNat = p3 at *
  omega
end Go.Proofs.Ythechjccpljljaa
/- Package limb: order, shifts, bits, bytes, as numbers. Plain. -/
namespace Go.Proofs.Ythechjccpljljaa
open Go.Sym

theorem cmp_nat (a b : Four) : limb_Cmp a b = if nat4 a < nat4 b then -1 else if nat4 a = nat4 b then 0 else 1 := by
  have := u64_lt a.w0; have := u64_lt a.w1; have := u64_lt a.w2; have := u64_lt a.w3
  have := u64_lt b.w0; have := u64_lt b.w1; have := u64_lt b.w2; have := u64_lt b.w3
  have key : ∀ (x y : UInt64) (r : Int), cond (x != y) (cond (decide (x < y)) (-1) 1) r = if x.toNat < y.toNat then -1 else if x.toNat = y.toNat then r else 1 := by
    intro x y r
    by_cases h : x = y
    · subst h; simp
    · have h' : x.toNat ≠ y.toNat := fun e => h (UInt64.toNat_inj.1 e)
      have hb : (x != y) = true := by simpa using h
      by_cases hl : x < y
      · have := UInt64.lt_iff_toNat_lt.1 hl
        simp [hb, hl, this]
      · have : ¬ x.toNat < y.toNat := fun e => hl (UInt64.lt_iff_toNat_lt.2 e)
        simp [hb, hl, this, h']
  simp only [limb_Cmp, key, nat4]
  repeat' split
  all_goals first | rfl | omega

/-! Shifts. -/
theorem or_low (x y k : Nat) (hk : k ≤ 64) : (x * 2 ^ k % 18446744073709551616) ||| (y / 2 ^ (64 - k) % 2 ^ k) = x * 2 ^ k % 18446744073709551616 + y / 2 ^ (64 - k) % 2 ^ k := by
  have e : x * 2 ^ k % 18446744073709551616 = (x % 2 ^ (64 - k)) <<< k := by
    rw [Nat.shiftLeft_eq, show 18446744073709551616 = 2 ^ (64 - k) * 2 ^ k by rw [← Nat.pow_add, Nat.sub_add_cancel hk], Nat.mul_mod_mul_right]
  rw [e, ← Nat.shiftLeft_add_eq_or_of_lt (Nat.mod_lt _ (Nat.two_pow_pos k))]
theorem div_low (y : UInt64) (k : Nat) (hk : k ≤ 64) : y.toNat / 2 ^ (64 - k) % 2 ^ k = y.toNat / 2 ^ (64 - k) := by
  apply Nat.mod_eq_of_lt
  rw [Nat.div_lt_iff_lt_mul (Nat.two_pow_pos _), ← Nat.pow_add, Nat.add_sub_cancel' hk]
  exact u64_lt y
theorem lx_nat (x y : UInt64) (k : Nat) (hk : k < 64) : (lx x y k).toNat = x.toNat * 2 ^ k % 18446744073709551616 + y.toNat / 2 ^ (64 - k) := by
  have hy := u64_lt y
  by_cases h : k = 0
  · subst h
    simp only [lx, show Nat.blt 0 0 = false from rfl, cond_false, shl64_nat, Nat.sub_zero]
    have : y.toNat / 2 ^ 64 = 0 := Nat.div_eq_of_lt hy
    omega
  · have e : Nat.blt 0 k = true := by rw [Nat.blt_eq]; omega
    simp only [lx, e, cond_true, UInt64.toNat_or, shl64_nat, shr64_nat]
    have := or_low x.toNat y.toNat k (by omega)
    rw [div_low y k (by omega)] at this
    exact this
theorem rx_nat (x y : UInt64) (k : Nat) (hk : k < 64) : (rx x y k).toNat = x.toNat / 2 ^ k + y.toNat * 2 ^ (64 - k) % 18446744073709551616 := by
  have hx := u64_lt x
  by_cases h : k = 0
  · subst h
    simp only [rx, show Nat.blt 0 0 = false from rfl, cond_false, shr64_nat, Nat.sub_zero]
    have : y.toNat * 2 ^ 64 % 18446744073709551616 = 0 := Nat.mul_mod_left _ _
    omega
  · have e : Nat.blt 0 k = true := by rw [Nat.blt_eq]; omega
    simp only [rx, e, cond_true, UInt64.toNat_or, shl64_nat, shr64_nat]
    have := or_low y.toNat x.toNat (64 - k) (by omega)
    rw [show 64 - (64 - k) = k by omega] at this
    have h2 := div_low x (64 - k) (by omega)
    rw [show 64 - (64 - k) = k by omega] at h2
    rw [h2] at this
    rw [Nat.or_comm, this, Nat.add_comm]

/-- A word parted at a place: what stays and what goes over. -/
theorem part (x : UInt64) (k : Nat) (hk : k ≤ 64) : x.toNat * 2 ^ k = x.toNat * 2 ^ k % 18446744073709551616 + 18446744073709551616 * (x.toNat / 2 ^ (64 - k)) := by
  have e : 18446744073709551616 = 2 ^ (64 - k) * 2 ^ k := by rw [← Nat.pow_add, Nat.sub_add_cancel hk]
  have h := Nat.mod_add_div (x.toNat * 2 ^ k) 18446744073709551616
  have : x.toNat * 2 ^ k / 18446744073709551616 = x.toNat / 2 ^ (64 - k) := by
    rw [e, Nat.mul_div_mul_right _ _ (Nat.two_pow_pos k)]
  rw [this] at h
  exact h.symm
theorem left_nat_aux (a : Four) (q k : Nat) (hk : k < 64) (hq : q < 4) : nat4 (leftN a (64 * q + k)) = nat4 a * 2 ^ (64 * q + k) % 115792089237316195423570985008687907853269984665640564039457584007913129639936 := by
  have h0 := part a.w0 k (by omega)
  have h1 := part a.w1 k (by omega)
  have h2 := part a.w2 k (by omega)
  have h3 := part a.w3 k (by omega)
  have e : nat4 a * 2 ^ k = a.w0.toNat * 2 ^ k + 18446744073709551616 * (a.w1.toNat * 2 ^ k + 18446744073709551616 * (a.w2.toNat * 2 ^ k + 18446744073709551616 * (a.w3.toNat * 2 ^ k))) := by rw [nat4]; grind
  have eq : (64 * q + k) / 64 = q := by omega
  have ek : (64 * q + k) % 64 = k := by omega
  have l0 := (lx_nat a.w1 a.w0 k hk)
  have l1 := (lx_nat a.w2 a.w1 k hk)
  have l2 := (lx_nat a.w3 a.w2 k hk)
  have b0 := u64_lt (lx a.w1 a.w0 k)
  have b1 := u64_lt (lx a.w2 a.w1 k)
  have b2 := u64_lt (lx a.w3 a.w2 k)
  have s0 := shl64_nat a.w0 k
  have z : (0 : UInt64).toNat = 0 := rfl
  rw [Nat.pow_add, Nat.mul_comm (2 ^ (64 * q)), ← Nat.mul_assoc, e]
  simp only [leftN, eq, ek]
  generalize a.w0.toNat * 2 ^ k = p0 at *
  generalize a.w1.toNat * 2 ^ k = p1 at *
  generalize a.w2.toNat * 2 ^ k = p2 at *
  generalize a.w3.toNat * 2 ^ k = p3 at *
  generalize a.w0.toNat / 2 ^ (64 - k) = d0 at *
  generalize a.w1.toNat / 2 ^ (64 - k) = d1 at *
  generalize a.w2.toNat / 2 ^ (64 - k) = d2 at *
  generalize a.w3.toNat / 2 ^ (64 - k) = d3 at *
  have : q = 0 ∨ q = 1 ∨ q = 2 ∨ q = 3 := by omega
  rcases this with rfl | rfl | rfl | rfl
  · simp only [nat4, s0, l0, l1, l2, Nat.mul_zero, Nat.pow_zero, Nat.mul_one]
    omega
  · simp only [nat4, s0, l0, l1, z, Nat.mul_one, show (2 : Nat) ^ 64 = 18446744073709551616 from rfl]
    omega
  · simp only [nat4, s0, l0, z, show (2 : Nat) ^ (64 * 2) = 340282366920938463463374607431768211456 from rfl]
    omega
  · simp only [nat4, s0, z, show (2 : Nat) ^ (64 * 3) = 6277101735386680763835789423207666416102355444464034512896 from rfl]
    omega
theorem right_nat_aux (a : Four) (q k : Nat) (hk : k < 64) (hq : q < 4) : nat4 (rightN a (64 * q + k)) = nat4 a / 2 ^ (64 * q + k) := by
  have eq : (64 * q + k) / 64 = q := by omega
  have ek : (64 * q + k) % 64 = k := by omega
  have l0 := (rx_nat a.w0 a.w1 k hk)
  have l1 := (rx_nat a.w1 a.w2 k hk)
  have l2 := (rx_nat a.w2 a.w3 k hk)
  have s3 := shr64_nat a.w3 k
  have z : (0 : UInt64).toNat = 0 := rfl
  -- x * 2^(64-k) = (low) + 18446744073709551616 * (x / 2^k)
  have pt : ∀ x : UInt64, x.toNat * 2 ^ (64 - k) = x.toNat * 2 ^ (64 - k) % 18446744073709551616 + 18446744073709551616 * (x.toNat / 2 ^ k) := fun x => by
    have h := part x (64 - k) (by omega)
    rw [show 64 - (64 - k) = k by omega] at h
    exact h
  have p1 := pt a.w1
  have p2 := pt a.w2
  have p3 := pt a.w3
  rw [Nat.pow_add, ← Nat.div_div_eq_div_mul]
  simp only [rightN, eq, ek]
  have low : ∀ x : UInt64, ∃ r, r < 2 ^ k ∧ x.toNat = r + 2 ^ k * (x.toNat / 2 ^ k) := fun x => ⟨x.toNat % 2 ^ k, Nat.mod_lt _ (Nat.two_pow_pos k), by have := Nat.mod_add_div x.toNat (2 ^ k); omega⟩
  -- a number by 2^k, of words
  have divk : ∀ (x : UInt64) (y : Nat), (x.toNat + 18446744073709551616 * y) / 2 ^ k = x.toNat / 2 ^ k + 2 ^ (64 - k) * y := fun x y => by
    have : 18446744073709551616 = 2 ^ k * 2 ^ (64 - k) := by rw [← Nat.pow_add, Nat.add_sub_cancel' (by omega)]
    rw [this, Nat.mul_assoc, Nat.add_mul_div_left _ _ (Nat.two_pow_pos k)]
  have m1 : ∀ y : Nat, 2 ^ (64 - k) * y = y * 2 ^ (64 - k) := fun y => Nat.mul_comm _ _
  have full : ∀ (w0 w1 w2 w3 : UInt64), (w0.toNat + 18446744073709551616 * (w1.toNat + 18446744073709551616 * (w2.toNat + 18446744073709551616 * w3.toNat))) / 2 ^ k =
      (w0.toNat / 2 ^ k + w1.toNat * 2 ^ (64 - k) % 18446744073709551616) + 18446744073709551616 * ((w1.toNat / 2 ^ k + w2.toNat * 2 ^ (64 - k) % 18446744073709551616) + 18446744073709551616 * ((w2.toNat / 2 ^ k + w3.toNat * 2 ^ (64 - k) % 18446744073709551616) + 18446744073709551616 * (w3.toNat / 2 ^ k))) := fun w0 w1 w2 w3 => by
    rw [divk]
    have q1 := pt w1; have q2 := pt w2; have q3 := pt w3
    have e : 2 ^ (64 - k) * (w1.toNat + 18446744073709551616 * (w2.toNat + 18446744073709551616 * w3.toNat)) = w1.toNat * 2 ^ (64 - k) + 18446744073709551616 * (w2.toNat * 2 ^ (64 - k) + 18446744073709551616 * (w3.toNat * 2 ^ (64 - k))) := by grind
    rw [e]
    generalize w1.toNat * 2 ^ (64 - k) = u1 at *
    generalize w2.toNat * 2 ^ (64 - k) = u2 at *
    generalize w3.toNat * 2 ^ (64 - k) = u3 at *
    omega
  have h0 := u64_lt a.w0; have h1 := u64_lt a.w1; have h2 := u64_lt a.w2; have h3 := u64_lt a.w3
  have this : q = 0 ∨ q = 1 ∨ q = 2 ∨ q = 3 := by omega
  rcases this with rfl | rfl | rfl | rfl
  · simp only [nat4, l0, l1, l2, s3, Nat.mul_zero, Nat.pow_zero, Nat.div_one, full]
  · have e : nat4 a / 2 ^ (64 * 1) = a.w1.toNat + 18446744073709551616 * (a.w2.toNat + 18446744073709551616 * (a.w3.toNat + 18446744073709551616 * (0 : UInt64).toNat)) := by simp only [nat4, z, Nat.mul_one, show (2 : Nat) ^ 64 = 18446744073709551616 from rfl]; omega
    rw [e, full]; simp only [nat4, l1, l2, s3, z, Nat.zero_div, Nat.zero_mul, Nat.zero_mod, Nat.mul_zero, Nat.add_zero]
  · have e : nat4 a / 2 ^ (64 * 2) = a.w2.toNat + 18446744073709551616 * (a.w3.toNat + 18446744073709551616 * ((0 : UInt64).toNat + 18446744073709551616 * (0 : UInt64).toNat)) := by simp only [nat4, z, show (2 : Nat) ^ (64 * 2) = 340282366920938463463374607431768211456 from rfl]; omega
    rw [e, full]; simp only [nat4, l2, s3, z, Nat.zero_div, Nat.zero_mul, Nat.zero_mod, Nat.mul_zero, Nat.add_zero]
  · have e : nat4 a / 2 ^ (64 * 3) = a.w3.toNat + 18446744073709551616 * ((0 : UInt64).toNat + 18446744073709551616 * ((0 : UInt64).toNat + 18446744073709551616 * (0 : UInt64).toNat)) := by simp only [nat4, z, show (2 : Nat) ^ (64 * 3) = 6277101735386680763835789423207666416102355444464034512896 from rfl]; omega
    rw [e, full]; simp only [nat4, s3, z, Nat.zero_div, Nat.zero_mul, Nat.zero_mod, Nat.mul_zero, Nat.add_zero]
theorem left_nat (a : Four) (n : Nat) (h : n < 256) : nat4 (limb_Left a n) = nat4 a * 2 ^ n % 115792089237316195423570985008687907853269984665640564039457584007913129639936 := by
  have hlt := nat4_lt a
  by_cases h0 : n = 0
  · subst h0
    rw [show limb_Left a ((0 : Nat) : Int) = a by simp [limb_Left], Nat.pow_zero, Nat.mul_one, Nat.mod_eq_of_lt hlt]
  · rw [show limb_Left a (n : Int) = leftN a n by simp only [limb_Left, show ¬ (n : Int) ≤ 0 by omega, show ¬ (255 : Int) < n by omega, if_false, Int.toNat_natCast]]
    have := left_nat_aux a (n / 64) (n % 64) (by omega) (by omega)
    rwa [show 64 * (n / 64) + n % 64 = n by omega] at this
theorem right_nat (a : Four) (n : Nat) (h : n < 256) : nat4 (limb_Right a n) = nat4 a / 2 ^ n := by
  by_cases h0 : n = 0
  · subst h0
    rw [show limb_Right a ((0 : Nat) : Int) = a by simp [limb_Right], Nat.pow_zero, Nat.div_one]
  · rw [show limb_Right a (n : Int) = rightN a n by simp only [limb_Right, show ¬ (n : Int) ≤ 0 by omega, show ¬ (255 : Int) < n by omega, if_false, Int.toNat_natCast]]
    have := right_nat_aux a (n / 64) (n % 64) (by omega) (by omega)
    rwa [show 64 * (n / 64) + n % 64 = n by omega] at this
end Go.Proofs.Ythechjccpljljaa
/- Package limb: how many bits; bytes there and back. Plain. -/
namespace Go.Proofs.Ythechjccpljljaa
open Go.Sym

theorem bitLenAux_spec : ∀ (f x : Nat), x < 2 ^ f → x < 2 ^ Lib.bitLenAux f x ∧ Lib.bitLenAux f x ≤ f ∧ (x ≠ 0 → 0 < Lib.bitLenAux f x ∧ 2 ^ (Lib.bitLenAux f x - 1) ≤ x) ∧ (x = 0 → Lib.bitLenAux f x = 0)
  | 0, x, h => by
    have : x = 0 := by simpa using h
    subst this
    simp [Lib.bitLenAux]
  | f + 1, x, h => by
    by_cases hx : x = 0
    · subst hx; simp [Lib.bitLenAux]
    · have h2 : x / 2 < 2 ^ f := by rw [Nat.pow_succ] at h; omega
      obtain ⟨i1, i2, i3, i4⟩ := bitLenAux_spec f (x / 2) h2
      simp only [Lib.bitLenAux, hx, if_false]
      refine ⟨?_, by omega, fun _ => ⟨by omega, ?_⟩, fun e => e.elim⟩
      · rw [Nat.add_comm, Nat.pow_succ]; omega
      · by_cases h0 : x / 2 = 0
        · rw [i4 h0]; simp; omega
        · obtain ⟨j1, j2⟩ := i3 h0
          rw [Nat.add_sub_cancel_left, show Lib.bitLenAux f (x / 2) = (Lib.bitLenAux f (x / 2) - 1) + 1 by omega, Nat.pow_succ]
          omega
theorem len64_spec (x : UInt64) : ∃ n : Nat, len64 x = n ∧ n ≤ 64 ∧ x.toNat < 2 ^ n ∧ (x.toNat ≠ 0 → 0 < n ∧ 2 ^ (n - 1) ≤ x.toNat) := by
  obtain ⟨h1, h2, h3, _⟩ := bitLenAux_spec 64 x.toNat (u64_lt x)
  exact ⟨_, rfl, h2, h1, h3⟩
/-- A number's bits. -/
def IsBits (m n : Nat) : Prop := m < 2 ^ n ∧ (m ≠ 0 → 0 < n ∧ 2 ^ (n - 1) ≤ m) ∧ (m = 0 → n = 0)
theorem IsBits.unique {m n k : Nat} (h : IsBits m n) (h' : IsBits m k) : n = k := by
  obtain ⟨a1, a2, a3⟩ := h
  obtain ⟨b1, b2, b3⟩ := h'
  by_cases hm : m = 0
  · rw [a3 hm, b3 hm]
  · have c1 := a2 hm; have c2 := b2 hm
    have d1 : 2 ^ (n - 1) < 2 ^ k := Nat.lt_of_le_of_lt c1.2 b1
    have d2 : 2 ^ (k - 1) < 2 ^ n := Nat.lt_of_le_of_lt c2.2 a1
    have e1 := (Nat.pow_lt_pow_iff_right (a := 2) (by omega)).1 d1
    have e2 := (Nat.pow_lt_pow_iff_right (a := 2) (by omega)).1 d2
    omega
theorem IsBits.up {m n l : Nat} (r : Nat) (h : IsBits m n) (hm : m ≠ 0) (hr : r < 2 ^ l) : IsBits (r + 2 ^ l * m) (l + n) := by
  obtain ⟨h1, h2, _⟩ := h
  obtain ⟨h3, h4⟩ := h2 hm
  have hp := Nat.two_pow_pos l
  refine ⟨?_, fun _ => ⟨by omega, ?_⟩, fun e => ?_⟩
  · rw [Nat.pow_add]
    have : 2 ^ l * (m + 1) ≤ 2 ^ l * 2 ^ n := Nat.mul_le_mul_left _ h1
    rw [Nat.mul_add] at this; omega
  · rw [show l + n - 1 = l + (n - 1) by omega, Nat.pow_add]
    have := Nat.mul_le_mul_left (2 ^ l) h4
    omega
  · exfalso
    have := Nat.mul_le_mul_left (2 ^ l) (show 1 ≤ m by omega)
    omega
theorem bits_nat (a : Four) : ∃ n : Nat, limb_Bits a = n ∧ n ≤ 256 ∧ IsBits (nat4 a) n := by
  obtain ⟨n0, e0, l0, p0, q0⟩ := len64_spec a.w0
  obtain ⟨n1, e1, l1, p1, q1⟩ := len64_spec a.w1
  obtain ⟨n2, e2, l2, p2, q2⟩ := len64_spec a.w2
  obtain ⟨n3, e3, l3, p3, q3⟩ := len64_spec a.w3
  have h0 := u64_lt a.w0; have h1 := u64_lt a.w1; have h2 := u64_lt a.w2
  have nz : ∀ x : UInt64, x ≠ 0 → x.toNat ≠ 0 := fun x h e => h (UInt64.toNat_inj.1 e)
  have big : ∀ (x : UInt64) (n : Nat), x ≠ 0 → x.toNat < 2 ^ n → (x.toNat ≠ 0 → 0 < n ∧ 2 ^ (n - 1) ≤ x.toNat) → IsBits x.toNat n := fun x n hx h h' => ⟨h, h', fun e => (nz x hx e).elim⟩
  simp only [limb_Bits]
  by_cases z3 : a.w3 = 0
  · by_cases z2 : a.w2 = 0
    · by_cases z1 : a.w1 = 0
      · by_cases z0 : a.w0 = 0
        · refine ⟨0, by simp [z0, z1, z2, z3], by omega, ?_⟩
          have : nat4 a = 0 := by simp [nat4, z0, z1, z2, z3]
          rw [this]; exact ⟨by simp, fun h => (h rfl).elim, fun _ => rfl⟩
        · refine ⟨n0, ?_, by omega, ?_⟩
          · simp only [z1, z2, z3, bne_self_eq_false, cond_false, show (a.w0 != 0) = true by simpa using z0, cond_true, e0]
            rw [wr_small (by omega) (by omega)]; omega
          · have : nat4 a = a.w0.toNat := by simp [nat4, z1, z2, z3]
            rw [this]; exact big _ _ z0 p0 q0
      · refine ⟨64 + n1, ?_, by omega, ?_⟩
        · simp only [z2, z3, bne_self_eq_false, cond_false, show (a.w1 != 0) = true by simpa using z1, cond_true, e1]
          rw [wr_small (by omega) (by omega)]; omega
        · have : nat4 a = a.w0.toNat + 2 ^ 64 * a.w1.toNat := by simp [nat4, z2, z3]
          rw [this]; exact (big _ _ z1 p1 q1).up _ (nz _ z1) h0
    · refine ⟨128 + n2, ?_, by omega, ?_⟩
      · simp only [z3, bne_self_eq_false, cond_false, show (a.w2 != 0) = true by simpa using z2, cond_true, e2]
        rw [wr_small (by omega) (by omega)]; omega
      · have : nat4 a = (a.w0.toNat + 18446744073709551616 * a.w1.toNat) + 2 ^ 128 * a.w2.toNat := by simp [nat4, z3]; omega
        rw [this]; exact (big _ _ z2 p2 q2).up _ (nz _ z2) (by simp only [Nat.reducePow]; omega)
  · refine ⟨192 + n3, ?_, by omega, ?_⟩
    · simp only [show (a.w3 != 0) = true by simpa using z3, cond_true, e3]
      rw [wr_small (by omega) (by omega)]; omega
    · have : nat4 a = (a.w0.toNat + 18446744073709551616 * (a.w1.toNat + 18446744073709551616 * a.w2.toNat)) + 2 ^ 192 * a.w3.toNat := by simp only [nat4, Nat.reducePow]; omega
      rw [this]; exact (big _ _ z3 p3 q3).up _ (nz _ z3) (by simp only [Nat.reducePow]; omega)
theorem IsBits.down {m n : Nat} (k : Nat) (h : IsBits m n) : IsBits (m / 2 ^ k) (n - k) := by
  obtain ⟨h1, h2, h3⟩ := h
  by_cases hk : n ≤ k
  · have : m / 2 ^ k = 0 := Nat.div_eq_of_lt (Nat.lt_of_lt_of_le h1 (Nat.pow_le_pow_right (by omega) hk))
    rw [this, show n - k = 0 by omega]
    exact ⟨by simp, fun h => (h rfl).elim, fun _ => rfl⟩
  · have hm : m ≠ 0 := fun e => by have := h3 e; omega
    obtain ⟨h4, h5⟩ := h2 hm
    have g : 2 ^ (n - k - 1) ≤ m / 2 ^ k := by
      rw [Nat.le_div_iff_mul_le (Nat.two_pow_pos k), ← Nat.pow_add, show n - k - 1 + k = n - 1 by omega]; exact h5
    have gp := Nat.two_pow_pos (n - k - 1)
    refine ⟨?_, fun _ => ⟨by omega, g⟩, fun e => by omega⟩
    rw [Nat.div_lt_iff_lt_mul (Nat.two_pow_pos k), ← Nat.pow_add, show n - k + k = n by omega]
    exact h1

/-! Bytes. -/
theorem byte_step (acc : UInt64) (b : UInt8) (j : Nat) (hj : j < 8) (h : acc.toNat < 2 ^ (8 * j)) :
    (acc ||| shl64 b.toUInt64 (8 * j)).toNat = acc.toNat + b.toNat * 2 ^ (8 * j) ∧ (acc ||| shl64 b.toUInt64 (8 * j)).toNat < 2 ^ (8 * j + 8) := by
  have hb := u8_lt b
  have hs : b.toNat * 2 ^ (8 * j) < 2 ^ (8 * j + 8) := by
    rw [Nat.pow_add, Nat.mul_comm]; exact Nat.mul_lt_mul_of_pos_left hb (Nat.two_pow_pos _)
  have hB : 2 ^ (8 * j + 8) ≤ 2 ^ 64 := Nat.pow_le_pow_right (by omega) (by omega)
  have e : (acc ||| shl64 b.toUInt64 (8 * j)).toNat = acc.toNat + b.toNat * 2 ^ (8 * j) := by
    rw [UInt64.toNat_or, shl64_nat, UInt8.toNat_toUInt64, Nat.mod_eq_of_lt (show _ < 18446744073709551616 by omega), ← Nat.shiftLeft_eq, Nat.or_comm, ← Nat.shiftLeft_add_eq_or_of_lt h, Nat.add_comm]
  refine ⟨e, ?_⟩
  rw [e, Nat.pow_add]
  have : b.toNat * 2 ^ (8 * j) ≤ 255 * 2 ^ (8 * j) := Nat.mul_le_mul_right _ (by omega)
  omega
theorem wordOf_nat (xs : List UInt8) (big : Bool) (i : Nat) (f : Nat → Nat) (hf : ∀ j, f j = (xs.getD (byteAt big (8 * i + j)) 0).toNat) :
    (wordOf xs big i).toNat = f 0 + 256 * (f 1 + 256 * (f 2 + 256 * (f 3 + 256 * (f 4 + 256 * (f 5 + 256 * (f 6 + 256 * f 7)))))) := by
  have e : wordOf xs big i = (List.range 8).foldl (fun acc j => acc ||| shl64 (xs.getD (byteAt big (8 * i + j)) 0).toUInt64 (8 * j)) 0 := rfl
  rw [e, show List.range 8 = [0, 1, 2, 3, 4, 5, 6, 7] from rfl]
  simp only [List.foldl_cons, List.foldl_nil]
  obtain ⟨e0, l0⟩ := byte_step 0 (xs.getD (byteAt big (8 * i + 0)) 0) 0 (by omega) (by decide)
  obtain ⟨e1, l1⟩ := byte_step _ (xs.getD (byteAt big (8 * i + 1)) 0) 1 (by omega) l0
  obtain ⟨e2, l2⟩ := byte_step _ (xs.getD (byteAt big (8 * i + 2)) 0) 2 (by omega) l1
  obtain ⟨e3, l3⟩ := byte_step _ (xs.getD (byteAt big (8 * i + 3)) 0) 3 (by omega) l2
  obtain ⟨e4, l4⟩ := byte_step _ (xs.getD (byteAt big (8 * i + 4)) 0) 4 (by omega) l3
  obtain ⟨e5, l5⟩ := byte_step _ (xs.getD (byteAt big (8 * i + 5)) 0) 5 (by omega) l4
  obtain ⟨e6, l6⟩ := byte_step _ (xs.getD (byteAt big (8 * i + 6)) 0) 6 (by omega) l5
  obtain ⟨e7, l7⟩ := byte_step _ (xs.getD (byteAt big (8 * i + 7)) 0) 7 (by omega) l6
  rw [e7, e6, e5, e4, e3, e2, e1, e0, ← hf 0, ← hf 1, ← hf 2, ← hf 3, ← hf 4, ← hf 5, ← hf 6, ← hf 7, show (0 : UInt64).toNat = 0 from rfl]
  simp only [Nat.reduceMul, Nat.reducePow]
  omega
theorem bytesL_get (a : Four) (k : Nat) (hk : k < 32) : ((bytesL a).getD k 0).toNat = (w4 a (k / 8)).toNat / 2 ^ (8 * (k % 8)) % 256 := by
  have : (bytesL a).getD k 0 = (shr64 (w4 a (k / 8)) (8 * (k % 8))).toUInt8 := by
    unfold bytesL
    rw [List.getD_eq_getElem?_getD, List.getElem?_map, List.getElem?_range hk]; rfl
  rw [this, UInt64.toNat_toUInt8, shr64_nat]
theorem bytes_get (a : Four) (big : Bool) (k : Nat) (hk : k < 32) : (limb_Bytes a big).getD (byteAt big k) 0 = (bytesL a).getD k 0 := by
  have hl : (bytesL a).length = 32 := by simp [bytesL]
  cases big with
  | false => rfl
  | true =>
    simp only [limb_Bytes, cond_true, byteAt, List.getD_eq_getElem?_getD]
    rw [List.getElem?_reverse (by omega), hl]
    rw [show 32 - 1 - (31 - k) = k by omega]
theorem bytes_len (a : Four) (big : Bool) : (limb_Bytes a big).length = 32 := by cases big <;> simp [limb_Bytes, bytesL]
theorem word_back (a : Four) (big : Bool) (i : Nat) (hi : i < 4) : wordOf (limb_Bytes a big) big i = w4 a i := by
  apply UInt64.toNat_inj.1
  have hf : ∀ j, j < 8 → ((limb_Bytes a big).getD (byteAt big (8 * i + j)) 0).toNat = (w4 a i).toNat / 2 ^ (8 * j) % 256 := fun j hj => by
    rw [bytes_get a big _ (by omega), bytesL_get a _ (by omega), show (8 * i + j) / 8 = i by omega, show (8 * i + j) % 8 = j by omega]
  rw [wordOf_nat _ big i _ (fun j => rfl), hf 0 (by omega), hf 1 (by omega), hf 2 (by omega), hf 3 (by omega), hf 4 (by omega), hf 5 (by omega), hf 6 (by omega), hf 7 (by omega)]
  have := u64_lt (w4 a i)
  simp only [Nat.reduceMul, Nat.reducePow]
  omega
theorem of_bytes (a : Four) (big : Bool) : limb_Of (limb_Bytes a big) big = (a, 0) := by
  simp only [limb_Of, bytes_len, if_true, fourOf, word_back a big 0 (by omega), word_back a big 1 (by omega), word_back a big 2 (by omega), word_back a big 3 (by omega), w4]
end Go.Proofs.Ythechjccpljljaa
/- Layer 1, what is added and taken away: the law's body. -/
namespace Go.Proofs.Ythechjccpljljaa
open Go.Sym

def eq4 (x y : Four) : Bool := (x.w0 == y.w0) && ((x.w1 == y.w1) && ((x.w2 == y.w2) && ((x.w3 == y.w3) && true)))
def eq8 (x y : Eight) : Bool := (x.e0 == y.e0) && ((x.e1 == y.e1) && ((x.e2 == y.e2) && ((x.e3 == y.e3) && ((x.e4 == y.e4) && ((x.e5 == y.e5) && ((x.e6 == y.e6) && ((x.e7 == y.e7) && true)))))))
def shOf (w : UInt64) : Int := wr ((w % 256).toNat : Int)
def lessBits (x n : Int) : Int := if 0 > wr (x - n) then 0 else wr (x - n)
abbrev ABk := Four × Four × UInt64 × Unit
noncomputable def vBack (p : ABk) : Prop := FnRaw tt spL1 9 [(1, 1, .b false), (6, 2, .b false), (6, 6, .b false), (6, 10, .b false), (6, 15, .b false), (6, 25, .b false), (6, 34, .b false), (9, 14, .b false), (9, 25, .b false), (15, 2, .b true)]
  Try.f7 (fun _ : ABk => true) p
def backE (a b : Four) (w : UInt64) : Prop :=
  (!true) = false ∧ (!eq4 (limb_Sub (limb_Add a b).1 b).1 a) = false ∧ ((limb_Sub (limb_Add a b).1 b).2 != (limb_Add a b).2) = false ∧ ((limb_Of (limb_Bytes a true) true).2 != 0) = false ∧
  (!eq4 (limb_Of (limb_Bytes a true) true).1 a) = false ∧ (limb_Cmp a b != wr (0 - limb_Cmp b a)) = false ∧ (!eq8 (limb_Mul a b) (limb_Mul b a)) = false ∧
  (!eq4 (limb_Right (limb_Left a (shOf w)) (shOf w)) (limb_Right (limb_Left (limb_Right (limb_Left a (shOf w)) (shOf w)) (shOf w)) (shOf w))) = false ∧
  (limb_Bits (limb_Right a (shOf w)) != lessBits (limb_Bits a) (shOf w)) = false ∧
  eq4 (limb_Add (limb_MulWord a w).1 (limb_MulWord b w).1).1 (limb_MulWord (limb_Add a b).1 w).1 = true ∧ Same (.bool true)
theorem back_vc (a b : Four) (w : UInt64) : vBack (a, b, w, ()) = backE a b w := by kernel_rfl
end Go.Proofs.Ythechjccpljljaa
/- Layer 1, what is added and taken away: the law holds. -/
namespace Go.Proofs.Ythechjccpljljaa
open Go.Sym

theorem eq4_self (x : Four) : eq4 x x = true := by simp [eq4]
theorem eq8_self (x : Eight) : eq8 x x = true := by simp [eq8]
theorem back_sub (a b : Four) : limb_Sub (limb_Add a b).1 b = (a, (limb_Add a b).2) := by
  have h1 := add_nat a b; have h2 := sub_nat (limb_Add a b).1 b
  have l1 := add_carry a b; have l2 := sub_borrow (limb_Add a b).1 b
  have m1 := nat4_lt a; have m2 := nat4_lt (limb_Sub (limb_Add a b).1 b).1
  have e1 : (limb_Sub (limb_Add a b).1 b).1 = a := nat4_inj (by omega)
  have e2 : (limb_Sub (limb_Add a b).1 b).2 = (limb_Add a b).2 := UInt64.toNat_inj.1 (by omega)
  exact Prod.ext e1 e2
theorem back_cmp (a b : Four) : limb_Cmp a b = wr (0 - limb_Cmp b a) := by
  rw [cmp_nat, cmp_nat]
  by_cases h1 : nat4 a < nat4 b
  · rw [if_pos h1, if_neg (by omega), if_neg (by omega)]; rfl
  · by_cases h2 : nat4 a = nat4 b
    · rw [if_neg h1, if_pos h2, if_neg (by omega), if_pos h2.symm]; rfl
    · rw [if_neg h1, if_neg h2, if_pos (by omega)]; rfl
theorem shOf_nat (w : UInt64) : shOf w = ((w.toNat % 256 : Nat) : Int) := by
  have : (w % 256).toNat = w.toNat % 256 := by rw [UInt64.toNat_mod]; rfl
  rw [shOf, this, wr_small (by omega) (by omega)]
theorem there_back (a : Four) (n : Nat) (h : n < 256) : nat4 (limb_Right (limb_Left a n) n) = nat4 a % 2 ^ (256 - n) := by
  rw [right_nat _ _ h, left_nat _ _ h]
  have e : 115792089237316195423570985008687907853269984665640564039457584007913129639936 = 2 ^ (256 - n) * 2 ^ n := by rw [← Nat.pow_add, Nat.sub_add_cancel (by omega)]
  rw [e, Nat.mul_mod_mul_right, Nat.mul_div_cancel _ (Nat.two_pow_pos n)]
theorem back_shift (a : Four) (n : Nat) (h : n < 256) : limb_Right (limb_Left (limb_Right (limb_Left a n) n) n) n = limb_Right (limb_Left a n) n := by
  apply nat4_inj
  rw [there_back _ _ h, there_back _ _ h, Nat.mod_mod]
theorem back_bits (a : Four) (n : Nat) (h : n < 256) : limb_Bits (limb_Right a n) = lessBits (limb_Bits a) n := by
  obtain ⟨m, e1, l1, h1⟩ := bits_nat a
  obtain ⟨k, e2, l2, h2⟩ := bits_nat (limb_Right a n)
  rw [right_nat _ _ h] at h2
  have := h2.unique (h1.down n)
  rw [e1, e2, lessBits, wr_small (by omega) (by omega)]
  split <;> omega
theorem back_mulword (a b : Four) (w : UInt64) : (limb_Add (limb_MulWord a w).1 (limb_MulWord b w).1).1 = (limb_MulWord (limb_Add a b).1 w).1 := by
  apply nat4_inj
  have h1 := mulword_nat a w; have h2 := mulword_nat b w; have h3 := mulword_nat (limb_Add a b).1 w
  have h4 := add_nat a b; have h5 := add_nat (limb_MulWord a w).1 (limb_MulWord b w).1
  have m1 := nat4_lt (limb_Add (limb_MulWord a w).1 (limb_MulWord b w).1).1
  have m2 := nat4_lt (limb_MulWord (limb_Add a b).1 w).1
  have e : nat4 (limb_Add a b).1 * w.toNat + 115792089237316195423570985008687907853269984665640564039457584007913129639936 * ((limb_Add a b).2.toNat * w.toNat) = nat4 a * w.toNat + nat4 b * w.toNat := by
    rw [← Nat.add_mul, ← h4]; grind
  generalize nat4 a * w.toNat = p at *
  generalize nat4 b * w.toNat = q at *
  generalize nat4 (limb_Add a b).1 * w.toNat = r at *
  generalize (limb_Add a b).2.toNat * w.toNat = s at *
  omega
theorem backE_ok (a b : Four) (w : UInt64) : backE a b w := by
  have hn : w.toNat % 256 < 256 := Nat.mod_lt _ (by decide)
  refine ⟨rfl, ?_, ?_, ?_, ?_, ?_, ?_, ?_, ?_, ?_, rfl⟩
  · rw [back_sub]; simp only [eq4_self, Bool.not_true]
  · rw [back_sub]; simp only [bne_self_eq_false]
  · rw [of_bytes]; rfl
  · rw [of_bytes]; simp only [eq4_self, Bool.not_true]
  · rw [← back_cmp, bne_self_eq_false]
  · rw [nat8_inj (a := limb_Mul a b) (b := limb_Mul b a) (by rw [mul_nat, mul_nat, Nat.mul_comm]), eq8_self]; rfl
  · rw [shOf_nat, back_shift a _ hn, eq4_self]; rfl
  · rw [shOf_nat, back_bits a _ hn, bne_self_eq_false]
  · rw [back_mulword, eq4_self]
abbrev sBack : SpecF := fspec (α := ABk) total fun _ => true
theorem ok_Back : SpecOK Try.prog 7 sBack :=
  fn_okD mixed tt_ok spL1_ok 9 Try.func7 (by decide +kernel) rfl
    (fun ⟨a, b, w, ()⟩ _ => ⟨_, FnVD.of true (Eq.refl _) (back_vc a b w) (backE_ok a b w)⟩)
end Go.Proofs.Ythechjccpljljaa
/- Laws' rows: numbers of eight words. -/
namespace Go.Proofs.Ythechjccpljljaa
open Go.Sym Go.ChangeShapes Go.WideShapes
theorem eight_list {l : List UInt64} (h : l.length = 8) : ∃ a b c d e f g i, l = [a, b, c, d, e, f, g, i] := by
  match l, h with
  | [a, b, c, d, e, f, g, i], _ => exact ⟨a, b, c, d, e, f, g, i, rfl⟩
theorem open_eight {H : Type} {enc : TypeId × Value → H} {P : Program} {W : World} {base b0 : Nat} {spare : Nat → Bool} {held : Bool} {t e : TypeId} {v : Value} {d : DataW H} {ps : List MemPlace} (ht : P.underlying t = some (.array 8 e)) (he : P.underlying e = some (.int .u64)) (hc : P.cellsOf t = 8) (hce : P.cellsOf e = 1) (hval : Value.okWide P W .any b0 t v) (hd : DataW.Trod enc P W base spare held t v d ps) :
    ∃ x : Eight, Rel noAt W x.sv v := by
  obtain ⟨xs, hl, hr⟩ := open_words ht he hc hce hval hd
  obtain ⟨a0, a1, a2, a3, a4, a5, a6, a7, rfl⟩ := eight_list hl
  exact ⟨⟨a0, a1, a2, a3, a4, a5, a6, a7⟩, hr⟩
end Go.Proofs.Ythechjccpljljaa
