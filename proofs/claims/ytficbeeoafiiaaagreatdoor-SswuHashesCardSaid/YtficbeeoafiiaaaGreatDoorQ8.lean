/- A symbolic machine for Go functions, and what the functions that the law reaches come to: Limb. -/
import Derived.Test.YtficbeeoafiiaaaGreatDoorQ3
import Derived.Test.YtficbeeoafiiaaaGreatDoorQ7
/- Package limb: what its functions come to. -/
set_option maxRecDepth 10000
namespace Go.Proofs.YtficbeeoafiiaaaGreatDoor
open Go.Sym

/-! math/bits -/
def mul64 (x y : UInt64) : UInt64 × UInt64 :=
  let x0 := x &&& 4294967295
  let x1 := shr64 x 32
  let y0 := y &&& 4294967295
  let y1 := shr64 y 32
  let w0 := x0 * y0
  let t := x1 * y0 + shr64 w0 32
  let w1 := (t &&& 4294967295) + x0 * y1
  (x1 * y1 + shr64 t 32 + shr64 w1 32, x * y)

/-! limb -/
structure Eight where
  e0 : UInt64
  e1 : UInt64
  e2 : UInt64
  e3 : UInt64
  e4 : UInt64
  e5 : UInt64
  e6 : UInt64
  e7 : UInt64
def Eight.sv (a : Eight) : SV := .agg [.u64 a.e0, .u64 a.e1, .u64 a.e2, .u64 a.e3, .u64 a.e4, .u64 a.e5, .u64 a.e6, .u64 a.e7]
def dEight : SV → Option Eight
  | .agg [.u64 a, .u64 b, .u64 c, .u64 d, .u64 e, .u64 f, .u64 g, .u64 h] => some ⟨a, b, c, d, e, f, g, h⟩
  | _ => none
instance : Enc Eight where
  enc := Eight.sv
  dec := dEight
  ok := by
    intro s a h at_ w v r
    unfold dEight at h
    split at h
    · simp only [Option.some.injEq] at h; subst h; exact r
    · cases h
  nn _ := rfl

def limb_Add (a b : Four) : Four × UInt64 :=
  let c0 := addHi a.w0 b.w0 0
  let c1 := addHi a.w1 b.w1 c0
  let c2 := addHi a.w2 b.w2 c1
  (⟨addLo a.w0 b.w0 0, addLo a.w1 b.w1 c0, addLo a.w2 b.w2 c1, addLo a.w3 b.w3 c2⟩, addHi a.w3 b.w3 c2)
def limb_Sub (a b : Four) : Four × UInt64 :=
  let c0 := subHi a.w0 b.w0 0
  let c1 := subHi a.w1 b.w1 c0
  let c2 := subHi a.w2 b.w2 c1
  (⟨subLo a.w0 b.w0 0, subLo a.w1 b.w1 c0, subLo a.w2 b.w2 c1, subLo a.w3 b.w3 c2⟩, subHi a.w3 b.w3 c2)
/-- x y + o + c: the low word, the high word. -/
def macLo (x y o c : UInt64) : UInt64 := addLo (addLo (mul64 x y).2 o 0) c 0
def macHi (x y o c : UInt64) : UInt64 := (mul64 x y).1 + addHi (mul64 x y).2 o 0 + addHi (addLo (mul64 x y).2 o 0) c 0
structure Row where
  r0 : UInt64
  r1 : UInt64
  r2 : UInt64
  r3 : UInt64
  c : UInt64
def mulRow (x : UInt64) (b : Four) (o0 o1 o2 o3 : UInt64) : Row :=
  let c0 := macHi x b.w0 o0 0
  let c1 := macHi x b.w1 o1 c0
  let c2 := macHi x b.w2 o2 c1
  ⟨macLo x b.w0 o0 0, macLo x b.w1 o1 c0, macLo x b.w2 o2 c1, macLo x b.w3 o3 c2, macHi x b.w3 o3 c2⟩
def limb_Mul (a b : Four) : Eight :=
  let r := mulRow a.w0 b 0 0 0 0
  let s := mulRow a.w1 b r.r1 r.r2 r.r3 r.c
  let t := mulRow a.w2 b s.r1 s.r2 s.r3 s.c
  let u := mulRow a.w3 b t.r1 t.r2 t.r3 t.c
  ⟨r.r0, s.r0, t.r0, u.r0, u.r1, u.r2, u.r3, u.c⟩
def mwLo (x w c : UInt64) : UInt64 := addLo (mul64 x w).2 c 0
def mwHi (x w c : UInt64) : UInt64 := (mul64 x w).1 + addHi (mul64 x w).2 c 0
def limb_MulWord (a : Four) (w : UInt64) : Four × UInt64 :=
  let c0 := mwHi a.w0 w 0
  let c1 := mwHi a.w1 w c0
  let c2 := mwHi a.w2 w c1
  (⟨mwLo a.w0 w 0, mwLo a.w1 w c0, mwLo a.w2 w c1, mwLo a.w3 w c2⟩, mwHi a.w3 w c2)
def limb_Select (c : UInt64) (a b : Four) : Four :=
  let m := 0 - (c &&& 1)
  let f := fun (x y : UInt64) => x &&& m ||| y &&& ~~~m
  ⟨f a.w0 b.w0, f a.w1 b.w1, f a.w2 b.w2, f a.w3 b.w3⟩

theorem addHi_le (x y c : UInt64) (hc : c.toNat ≤ 1) : (addHi x y c).toNat ≤ 1 := by
  rw [addHi_nat x y c hc]; have := u64_lt x; have := u64_lt y; omega
theorem subHi_le (x y c : UInt64) : (subHi x y c).toNat ≤ 1 := by
  rw [subHi_nat]; split <;> omega
theorem zero_le : (0 : UInt64).toNat ≤ 1 := by decide

def sp1 : Specs := [(103, specAdd64), (101, specSub64)]
theorem ok_add64 : SpecOK Tryz.prog 103 specAdd64 := specAdd64_ok Tryz.func103 (by decide +kernel) (by kernel_rfl) (by kernel_rfl) (by kernel_rfl)
theorem ok_sub64 : SpecOK Tryz.prog 101 specSub64 := specSub64_ok Tryz.func101 (by decide +kernel) (by kernel_rfl) (by kernel_rfl) (by kernel_rfl)
theorem sp1_ok : SpecsOK Tryz.prog sp1 := .cons ok_add64 <| .cons ok_sub64 <| .nil _

abbrev sMul64 : SpecF := fspec (α := UInt64 × UInt64 × Unit) total fun a => mul64 a.1 a.2.1
theorem ok_mul64 : SpecOK Tryz.prog 104 sMul64 :=
  fn_ok mixed tt_ok sp1_ok 9 Tryz.func104 (by decide +kernel) (by kernel_rfl) (fun a => Same (retSV (RetL.retL (mul64 a.1 a.2.1)))) (fun a => by kernel_rfl) (fun _ _ => rfl)
def sp2 : Specs := (104, sMul64) :: sp1
theorem sp2_ok : SpecsOK Tryz.prog sp2 := .cons ok_mul64 sp1_ok

abbrev sAdd : SpecF := fspec (α := Four × Four × Unit) total fun a => limb_Add a.1 a.2.1
theorem ok_Add : SpecOK Tryz.prog 83 sAdd :=
  fn_ok mixed tt_ok sp2_ok 9 Tryz.func83 (by decide +kernel) (by kernel_rfl)
    (fun a => conj (cpre (addHi a.1.w0 a.2.1.w0 0)) (conj (cpre (addHi a.1.w1 a.2.1.w1 (addHi a.1.w0 a.2.1.w0 0))) (conj (cpre (addHi a.1.w2 a.2.1.w2 (addHi a.1.w1 a.2.1.w1 (addHi a.1.w0 a.2.1.w0 0)))) (Same (retSV (RetL.retL (limb_Add a.1 a.2.1)))))))
    (fun a => by kernel_rfl)
    (fun _ _ => cpre_conj (addHi_le _ _ _ zero_le) (cpre_conj (addHi_le _ _ _ (addHi_le _ _ _ zero_le)) (cpre_conj (addHi_le _ _ _ (addHi_le _ _ _ (addHi_le _ _ _ zero_le))) rfl)))
abbrev sSub : SpecF := fspec (α := Four × Four × Unit) total fun a => limb_Sub a.1 a.2.1
theorem ok_Sub : SpecOK Tryz.prog 81 sSub :=
  fn_ok mixed tt_ok sp2_ok 9 Tryz.func81 (by decide +kernel) (by kernel_rfl)
    (fun a => conj (cpre (subHi a.1.w0 a.2.1.w0 0)) (conj (cpre (subHi a.1.w1 a.2.1.w1 (subHi a.1.w0 a.2.1.w0 0))) (conj (cpre (subHi a.1.w2 a.2.1.w2 (subHi a.1.w1 a.2.1.w1 (subHi a.1.w0 a.2.1.w0 0)))) (Same (retSV (RetL.retL (limb_Sub a.1 a.2.1)))))))
    (fun a => by kernel_rfl)
    (fun _ _ => cpre_conj (subHi_le _ _ _) (cpre_conj (subHi_le _ _ _) (cpre_conj (subHi_le _ _ _) rfl)))
abbrev sMul : SpecF := fspec (α := Four × Four × Unit) total fun a => limb_Mul a.1 a.2.1
theorem ok_Mul : SpecOK Tryz.prog 86 sMul :=
  fn_ok mixed tt_ok sp2_ok 9 Tryz.func86 (by decide +kernel) (by kernel_rfl)
    (fun a => Same (retSV (RetL.retL (limb_Mul a.1 a.2.1)))) (fun a => by kernel_rfl) (fun _ _ => rfl)
abbrev sMulWord : SpecF := fspec (α := Four × UInt64 × Unit) total fun a => limb_MulWord a.1 a.2.1
theorem ok_MulWord : SpecOK Tryz.prog 1000000 Sym.sNo := Sym.sNo_ok _ _
abbrev sSelect : SpecF := fspec (α := UInt64 × Four × Four × Unit) total fun a => limb_Select a.1 a.2.1 a.2.2.1
theorem ok_Select : SpecOK Tryz.prog 84 sSelect :=
  fn_ok mixed tt_ok sp2_ok 9 Tryz.func84 (by decide +kernel) (by kernel_rfl)
    (fun a => Same (retSV (RetL.retL (limb_Select a.1 a.2.1 a.2.2.1)))) (fun a => by kernel_rfl) (fun _ _ => rfl)
/-- The order of two numbers. -/
def limb_Cmp (a b : Four) : Int :=
  cond (a.w3 != b.w3) (cond (decide (a.w3 < b.w3)) (-1) 1) (cond (a.w2 != b.w2) (cond (decide (a.w2 < b.w2)) (-1) 1)
    (cond (a.w1 != b.w1) (cond (decide (a.w1 < b.w1)) (-1) 1) (cond (a.w0 != b.w0) (cond (decide (a.w0 < b.w0)) (-1) 1) 0)))
theorem bcase_cond {b : Bool} {x y r : SV} (hr : r = cond b x y) : bcase b (x = r) (y = r) := by subst hr; cases b <;> rfl
theorem bcase_intro {b : Bool} {x y : Prop} (ht : b = true → x) (hf : b = false → y) : bcase b x y := by
  cases b
  · exact hf rfl
  · exact ht rfl
abbrev sCmp : SpecF := fspec (α := Four × Four × Unit) total fun a => limb_Cmp a.1 a.2.1
theorem ok_Cmp : SpecOK Tryz.prog 102 sCmp :=
  fn_ok mixed tt_ok sp2_ok 9 Tryz.func102 (by decide +kernel) (by kernel_rfl)
    (fun p => let a := p.1; let b := p.2.1; let r := SV.i64 (limb_Cmp a b)
      bcase (a.w3 != b.w3) (bcase (decide (a.w3 < b.w3)) (.i64 (-1) = r) (.i64 1 = r)) (bcase (a.w2 != b.w2) (bcase (decide (a.w2 < b.w2)) (.i64 (-1) = r) (.i64 1 = r))
        (bcase (a.w1 != b.w1) (bcase (decide (a.w1 < b.w1)) (.i64 (-1) = r) (.i64 1 = r)) (bcase (a.w0 != b.w0) (bcase (decide (a.w0 < b.w0)) (.i64 (-1) = r) (.i64 1 = r)) (.i64 0 = r)))))
    (fun a => by kernel_rfl)
    (fun p _ => by
      simp only [limb_Cmp]
      repeat' (refine bcase_intro (fun h => ?_) (fun h => ?_))
      all_goals simp only [*, cond_true, cond_false])
end Go.Proofs.YtficbeeoafiiaaaGreatDoor
