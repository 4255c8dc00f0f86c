/- A symbolic machine for Go functions, and what the functions that the law reaches come to: ComA, ComB, ComC, ComD, RefY, RefZ, ComE, ComF, ComG. -/
import Derived.Test.YtibdipfpfddliaaQ20
import Derived.Test.YtibdipfpfddliaaQ3
import Derived.Test.YtibdipfpfddliaaQ17
/- Package combo: multiples of points: what the functions come to. -/
set_option maxRecDepth 100000
namespace Go.Proofs.Ytibdipfpfddliaa.C11
open Go.Sym Go.Dig R1 F4 E10

/-! Sums of points, doubles, eight times: as functions that nothing opens. -/
theorem oa_ex : ∃ f : Pt → Pt → Pt, f = eAdd := ⟨_, rfl⟩
noncomputable def oAdd : Pt → Pt → Pt := Classical.choose oa_ex
theorem oAdd_eq : oAdd = eAdd := Classical.choose_spec oa_ex
theorem od_ex : ∃ f : Pt → Pt, f = eDouble := ⟨_, rfl⟩
noncomputable def oDbl : Pt → Pt := Classical.choose od_ex
theorem oDbl_eq : oDbl = eDouble := Classical.choose_spec od_ex
theorem oe_ex : ∃ f : Pt → Pt, f = eEight := ⟨_, rfl⟩
noncomputable def oEight : Pt → Pt := Classical.choose oe_ex
theorem oEight_eq : oEight = eEight := Classical.choose_spec oe_ex
noncomputable def sOAdd : SpecF := fspec (α := Pt × Pt × Unit) total (fun a => oAdd a.1 a.2.1)
noncomputable def sODbl : SpecF := fspec (α := Pt × Unit) total (fun a => oDbl a.1)
noncomputable def sOEight : SpecF := fspec (α := Pt × Unit) total (fun a => oEight a.1)
theorem ok_oAdd : SpecOK Try.prog 10 sOAdd := by unfold sOAdd; rw [oAdd_eq]; exact ok_eAdd
theorem ok_oDbl : SpecOK Try.prog 20 sODbl := by unfold sODbl; rw [oDbl_eq]; exact ok_eDouble
theorem ok_oEight : SpecOK Try.prog 13 sOEight := by unfold sOEight; rw [oEight_eq]; exact ok_eEight
noncomputable def spC0 : Specs := (10, sOAdd) :: (20, sODbl) :: (13, sOEight) :: spE4
theorem spC0_ok : SpecsOK Try.prog spC0 := .cons ok_oAdd <| .cons ok_oDbl <| .cons ok_oEight spE4_ok
/-- A point's multiples. -/
noncomputable def tabF (p : Pt) : Nat → Pt
  | 0 => eZero
  | n + 1 => oAdd (tabF p n) p
noncomputable def tabCells (p : Pt) : List SV := (List.range 16).flatMap fun k => (tabF p k).cells
structure TabV where
  p : Pt
noncomputable instance : RetL TabV := ⟨fun t => [.agg (tabCells t.p)]⟩
noncomputable def sTable : SpecF := fspec (α := Pt × Unit) total (fun a => (⟨a.1⟩ : TabV))
noncomputable def vTable (p : Pt) (Q : SV → Prop) : Prop := LnRaw tt spC0 17 [] {} Try.f30 Q (p, ())
theorem vcTable (p : Pt) (Q : SV → Prop) : vTable p Q = Q (.agg (tabCells p)) := by kernel_rfl
theorem vcSixteen (p : Pt) (Q : SV → Prop) : LnRaw tt spC0 3 [] {} Try.f32 Q (p, ()) =
  (Q
  (SV.agg
    [SV.u64 (Five.x0 (Pt.x (oDbl (oEight p)))), SV.u64 (Five.x1 (Pt.x (oDbl (oEight p)))),
      SV.u64 (Five.x2 (Pt.x (oDbl (oEight p)))), SV.u64 (Five.x3 (Pt.x (oDbl (oEight p)))),
      SV.u64 (Five.x4 (Pt.x (oDbl (oEight p)))), SV.u64 (Five.x0 (Pt.y (oDbl (oEight p)))),
      SV.u64 (Five.x1 (Pt.y (oDbl (oEight p)))), SV.u64 (Five.x2 (Pt.y (oDbl (oEight p)))),
      SV.u64 (Five.x3 (Pt.y (oDbl (oEight p)))), SV.u64 (Five.x4 (Pt.y (oDbl (oEight p)))),
      SV.u64 (Five.x0 (Pt.z (oDbl (oEight p)))), SV.u64 (Five.x1 (Pt.z (oDbl (oEight p)))),
      SV.u64 (Five.x2 (Pt.z (oDbl (oEight p)))), SV.u64 (Five.x3 (Pt.z (oDbl (oEight p)))),
      SV.u64 (Five.x4 (Pt.z (oDbl (oEight p)))), SV.u64 (Five.x0 (Pt.t (oDbl (oEight p)))),
      SV.u64 (Five.x1 (Pt.t (oDbl (oEight p)))), SV.u64 (Five.x2 (Pt.t (oDbl (oEight p)))),
      SV.u64 (Five.x3 (Pt.t (oDbl (oEight p)))), SV.u64 (Five.x4 (Pt.t (oDbl (oEight p))))])) := by kernel_rfl
noncomputable def sSixteen : SpecF := fspec (α := Pt × Unit) total (fun a => oDbl (oEight a.1))

/-! What is kept while a loop runs. -/
abbrev c4 (a : Four) : List SV := [.u64 a.w0, .u64 a.w1, .u64 a.w2, .u64 a.w3]
def dFourC : List SV → Option Four
  | [.u64 a, .u64 b, .u64 c, .u64 d] => some ⟨a, b, c, d⟩
  | _ => none
theorem dFourC_ok {cs : List SV} {r : Four} (h : dFourC cs = some r) : cs = c4 r := by
  unfold dFourC at h
  split at h
  · simp only [Option.some.injEq] at h; subst h; rfl
  · cases h
structure PFour where
  v : Four
instance : LEnc PFour where
  kind := none
  enc nx a := (.ptr nx 0, [c4 a.v])
  dec nx s M := match s, M with
    | .ptr b 0, some cs :: M' => if b = nx then (dFourC cs).map fun r => (none, ⟨r⟩, M') else none
    | _, _ => none
  all P := ∀ v, P ⟨v⟩
  all_ok h a := h a.v
  ok := by
    intro nx s M p a M' h hp
    split at h
    · split at h
      · rename_i hb
        obtain ⟨r, h1, h2⟩ := Option.map_eq_some_iff.1 h
        simp only [Prod.mk.injEq] at h2
        obtain ⟨_, rfl, rfl⟩ := h2
        subst hb
        rw [dFourC_ok h1]
        exact ⟨rfl, fun r => r⟩
      · cases h
    · cases h
structure PPt where
  v : Pt
instance : LEnc PPt where
  kind := none
  enc nx a := (.ptr nx 0, [a.v.cells])
  dec nx s M := match s, M with
    | .ptr b 0, some cs :: M' => if b = nx then (dPtC cs).map fun r => (none, ⟨r⟩, M') else none
    | _, _ => none
  all P := ∀ v, P ⟨v⟩
  all_ok h a := h a.v
  ok := by
    intro nx s M p a M' h hp
    split at h
    · split at h
      · rename_i hb
        obtain ⟨r, h1, h2⟩ := Option.map_eq_some_iff.1 h
        simp only [Prod.mk.injEq] at h2
        obtain ⟨_, rfl, rfl⟩ := h2
        subst hb
        rw [dPtC_ok h1]
        exact ⟨rfl, fun r => r⟩
      · cases h
    · cases h
structure ValV where
  v : Value
instance : Enc ValV where
  enc a := .val a.v
  dec | .val v => some ⟨v⟩
      | _ => none
  ok := by
    intro s a h at_ w v r
    cases s <;> simp only at h <;> first | (cases h; done) | (simp only [Option.some.injEq] at h; subst h; exact r)
  nn _ := rfl
structure RoFour where
  v : Four
instance : Enc RoFour where
  enc a := .ro (c4 a.v) 0
  dec | .ro cs 0 => (dFourC cs).map RoFour.mk
      | _ => none
  ok := by
    intro s a h at_ w v r
    split at h
    · obtain ⟨x, h1, h2⟩ := Option.map_eq_some_iff.1 h
      subst h2
      rw [dFourC_ok h1] at r; exact r
    · cases h
  nn _ := rfl
/-- The function that tells a number's nibbles. -/
structure NibC where
  k : Four
instance : RetL NibC := ⟨fun d => [.fn 50 [.ro (c4 d.k) 0]]⟩
def sNibbles : SpecF := fspec (α := Four × Unit) total fun a => (⟨a.1⟩ : NibC)
theorem vcNibbles (k : Four) (Q : SV → Prop) : LnRaw tt [] 3 [] {} Try.f31 Q (k, ()) =
  (Q (SV.fn 50 [SV.ro [SV.u64 (Four.w0 k), SV.u64 (Four.w1 k), SV.u64 (Four.w2 k), SV.u64 (Four.w3 k)] (0 : Nat)])) := by kernel_rfl
noncomputable def tabW (p : Pt) : List UInt64 := (List.range 16).flatMap fun k => [(tabF p k).x.x0, (tabF p k).x.x1, (tabF p k).x.x2, (tabF p k).x.x3, (tabF p k).x.x4, (tabF p k).y.x0, (tabF p k).y.x1, (tabF p k).y.x2, (tabF p k).y.x3, (tabF p k).y.x4,
  (tabF p k).z.x0, (tabF p k).z.x1, (tabF p k).z.x2, (tabF p k).z.x3, (tabF p k).z.x4, (tabF p k).t.x0, (tabF p k).t.x1, (tabF p k).t.x2, (tabF p k).t.x3, (tabF p k).t.x4]
structure MulS where
  k : Four
  p : Pt
  z : Pt
  l : List UInt64
  out : Pt
def MulS.pk (s : MulS) : List (Option Blk) := [some (c4 s.k), some s.p.cells, some s.z.cells, some [.own (.words s.l)], none, some s.out.cells, none]
def MulS.mk5 (l : List UInt64) : Option Four → Option Pt → Option Pt → Option Pt → Option MulS
  | some k, some p, some z, some o => some ⟨k, p, z, l, o⟩
  | _, _, _, _ => none
def MulS.pd : List (Option Blk) → Option MulS
  | [some kc, some pc, some zc, some [.own (.words l)], none, some oc, none] => MulS.mk5 l (dFourC kc) (dPtC pc) (dPtC zc) (dPtC oc)
  | _ => none
theorem MulS.pok {M : List (Option Blk)} {s : MulS} (h : MulS.pd M = some s) : M = s.pk := by
  unfold MulS.pd at h
  split at h
  · unfold MulS.mk5 at h
    split at h
    · rename_i h1 h2 h3 h4
      simp only [Option.some.injEq] at h; subst h
      simp only [MulS.pk, dFourC_ok h1, dPtC_ok h2, dPtC_ok h3, dPtC_ok h4]
    · cases h
  · cases h
noncomputable def cMul (p : Pt → List UInt64) : CSpec := { β := Unit, γ := PFour × PPt × PPt × Unit, α := PFour × PPt × PPt × ArrW 320 × Unit, same := [], pre := [2, 3, 4], keep := [2, 3, 4, 5], inv := fun _ g a => a.1.v = g.1.v ∧ a.2.1.v = g.2.1.v ∧ a.2.2.1.v = g.2.2.1.v ∧ a.2.2.2.1.l = p g.2.1.v }
/-- Of the words of a number. -/
def wordK (k : Four) : Nat → UInt64
  | 0 => k.w0
  | 1 => k.w1
  | 2 => k.w2
  | _ => k.w3
/-- The nibble at a place, from above. -/
def nibV (k : Four) (c : Nat) : Nat := nat4 k / 2 ^ (252 - 4 * c) % 16
noncomputable def mulAcc (k : Four) (p : Pt) : Nat → Pt
  | 0 => eZero
  | c + 1 => oAdd (oDbl (oEight (mulAcc k p c))) (tabF p (nibV k c))
def iMul (k : Four) (p z : Pt) (tw : List UInt64) (acc : Nat → Pt) (i : Int) (s : MulS) (n : Int) : Prop := s.k = k ∧ s.p = p ∧ s.z = z ∧ s.l = tw ∧ -4 ≤ n ∧ n ≤ 60 ∧ n % 4 = 0 ∧ s.out = acc ((3 - i).toNat * 16 + ((60 - n) / 4).toNat)
noncomputable def rtMul (k : Four) (p z : Pt) (tw : List UInt64) (acc : Nat → Pt) : RTab := [(50, { fn := Try.f50, loops := [(2, { β := ValV × RoFour × Int × Unit, α := Int × Unit, pk := MulS.pk, pd := MulS.pd, pok := MulS.pok, same := [0, 1, 3], keep := [4], inv := fun b _ x => iMul k p z tw acc b.2.2.1 x.1 x.2.1, meas := fun _ x => (x.1 + 4).toNat })] })]
noncomputable def spC1 : Specs := (30, sTable) :: (32, sSixteen) :: (31, sNibbles) :: spC0
def zF : Five := ⟨UInt64.ofNat (Int.toNat 0), UInt64.ofNat (Int.toNat 0), UInt64.ofNat (Int.toNat 0), UInt64.ofNat (Int.toNat 0), UInt64.ofNat (Int.toNat 0)⟩
def zPt : Pt := ⟨zF, zF, zF, zF⟩
/-- The nibble that is told. -/
def nibI (w : UInt64) (n : Int) : Int := IntKind.wrap .i64 ((shr64 w (UInt64.ofInt n).toNat &&& UInt64.ofNat (Int.toNat 15)).toNat : Int)
/-- A row of a table of points. -/
def rowP (l : List UInt64) (j : Nat) : Pt :=
  ⟨⟨l.getD (j * 20 + 0) 0, l.getD (j * 20 + 1) 0, l.getD (j * 20 + 2) 0, l.getD (j * 20 + 3) 0, l.getD (j * 20 + 4) 0⟩, ⟨l.getD (j * 20 + 5) 0, l.getD (j * 20 + 6) 0, l.getD (j * 20 + 7) 0, l.getD (j * 20 + 8) 0, l.getD (j * 20 + 9) 0⟩,
   ⟨l.getD (j * 20 + 10) 0, l.getD (j * 20 + 11) 0, l.getD (j * 20 + 12) 0, l.getD (j * 20 + 13) 0, l.getD (j * 20 + 14) 0⟩, ⟨l.getD (j * 20 + 15) 0, l.getD (j * 20 + 16) 0, l.getD (j * 20 + 17) 0, l.getD (j * 20 + 18) 0, l.getD (j * 20 + 19) 0⟩⟩
/-- The words, one after the other. -/
noncomputable def chainM (I : Int → MulS → Int → Prop) (v : Four) (l1 : Nat) (Q : SV → Prop) : List (Int × UInt64) → MulS → Prop
  | [], s => Q s.out.sv
  | (i, w) :: r, s0 => I i s0 60 ∧ ∀ (s : MulS) (n : Int), I i s n → bcase (decide (n ≥ 0))
      ((l1 = l1) ∧ (0 ≤ nibI w n ∧ nibI w n < ((16 : Nat) : Int)) ∧ ((nibI w n).toNat * 20 + 20 ≤ s.l.length) ∧ (((ValV.mk (.func (.yield l1) ⟨[]⟩ ⟨[]⟩), RoFour.mk v, i, ()) : ValV × RoFour × Int × Unit) = (ValV.mk (.func (.yield l1) ⟨[]⟩ ⟨[]⟩), RoFour.mk v, i, ())) ∧
        (I i ⟨s.k, s.p, s.z, s.l, oAdd (oDbl (oEight s.out)) (rowP s.l (nibI w n).toNat)⟩ (IntKind.wrap .i64 (n - 4))) ∧ ((IntKind.wrap .i64 (n - 4) + 4).toNat < (n + 4).toNat))
      (chainM I v l1 Q r s)
theorem vcMul (k : Four) (p z : Pt) (tw : List UInt64) (acc : Nat → Pt) (Q : SV → Prop) : RnRaw tt spC1 5 [] { cuts := [(1, cMul tabW)] } (rtMul k p z tw acc) Try.f9 Q (k, p, ()) =
  ((((320 : Nat) = 320) ∧ (() = ()) ∧ (k = k) ∧ (p = p) ∧ (zPt = zPt) ∧ (tabW p = tabW p)) ∧ (∀ (v : Four) (v1 v2 : Pt) (l : List UInt64), ((v = k) ∧ (v1 = p) ∧ (v2 = zPt) ∧ (l = tabW p)) → ∀ l1 : Nat,
    chainM (iMul k p z tw acc) v l1 Q [(3, v.w3), (2, v.w2), (1, v.w1), (0, v.w0)] ⟨v, v1, v2, l, eZero⟩)) := by kernel_rfl
end Go.Proofs.Ytibdipfpfddliaa.C11
/- Package combo: multiples of points: what the functions come to is so. -/
set_option maxRecDepth 100000
namespace Go.Proofs.Ytibdipfpfddliaa.C11
open Go.Sym Go.Dig R1 F4 E10

theorem tab_ret (p : Pt) : retSV (RetL.retL (⟨p⟩ : TabV)) = .agg (tabCells p) := by kernel_rfl
attribute [local irreducible] tabCells tabW
theorem ok_Table : SpecOK Try.prog 30 sTable := by
  refine fn_okL (by kernel_rfl) tt_ok spC0_ok 17 Try.func30 (by decide +kernel) (by kernel_rfl) ?_
  rintro ⟨p, _⟩ _
  refine ⟨[], {}, fun x => x = .agg (tabCells p), LnVD.of (vcTable p _) rfl, fun x h at_ w v r => ?_⟩
  have h' : x = .agg (tabCells p) := h
  subst h'
  rw [tab_ret]
  exact r
theorem ok_Sixteen : SpecOK Try.prog 32 sSixteen := by
  refine fn_okL (by kernel_rfl) tt_ok spC0_ok 3 Try.func32 (by decide +kernel) (by kernel_rfl) ?_
  rintro ⟨p, _⟩ _
  exact ⟨[], {}, fun x => x = (oDbl (oEight p)).sv, LnVD.of (vcSixteen p _) rfl, svf⟩
theorem ok_Nibbles : SpecOK Try.prog 31 sNibbles := by
  refine fn_okL (by kernel_rfl) tt_ok (.nil _) 3 Try.func31 (by decide +kernel) (by kernel_rfl) ?_
  rintro ⟨k, _⟩ _
  exact ⟨[], {}, fun x => x = .fn 50 [.ro (c4 k) 0], LnVD.of (vcNibbles k _) rfl, svf⟩
theorem spC1_ok : SpecsOK Try.prog spC1 := .cons ok_Table <| .cons ok_Sixteen <| .cons ok_Nibbles spC0_ok

/-! Nibbles. -/
theorem and_15 (x : UInt64) : (x &&& UInt64.ofNat (Int.toNat 15)).toNat = x.toNat % 16 := by
  have : (x &&& UInt64.ofNat (Int.toNat 15)).toNat = x.toNat &&& 15 := by rw [UInt64.toNat_and]; rfl
  rw [this]
  exact Nat.and_two_pow_sub_one_eq_mod x.toNat 4
theorem ofInt_small {n : Int} (h : 0 ≤ n) (h' : n < 64) : (UInt64.ofInt n).toNat = n.toNat := by
  obtain ⟨m, rfl⟩ := Int.eq_ofNat_of_zero_le h
  have hm : m < 64 := by omega
  rw [Int.toNat_natCast]
  simp only [UInt64.ofInt, UInt64.toNat_ofNat']
  omega
theorem nibI_nat (w : UInt64) {n : Int} (h : 0 ≤ n) (h' : n < 64) : nibI w n = ((w.toNat / 2 ^ n.toNat % 16 : Nat) : Int) := by
  have hl : w.toNat / 2 ^ n.toNat % 16 < 16 := Nat.mod_lt _ (by omega)
  unfold nibI
  rw [and_15, Sym.shr64_nat, ofInt_small h h', R1.wr (by omega)]
theorem div_word (w r n : Nat) (h : n ≤ 60) : (w + 18446744073709551616 * r) / 2 ^ n % 16 = w / 2 ^ n % 16 := by
  have e : (18446744073709551616 : Nat) = 2 ^ n * (16 * 2 ^ (60 - n)) := by
    rw [show (16 : Nat) = 2 ^ 4 from rfl, ← Nat.pow_add, ← Nat.pow_add, show n + (4 + (60 - n)) = 64 by omega]
  rw [e, Nat.mul_assoc, Nat.add_mul_div_left _ _ (Nat.two_pow_pos n), Nat.mul_assoc, Nat.add_mul_mod_self_left]
theorem nat4_word (k : Four) {i : Nat} (hi : i ≤ 3) : ∃ r, nat4 k / 2 ^ (64 * i) = (wordK k i).toNat + 18446744073709551616 * r := by
  have h0 := u64_lt k.w0; have h1 := u64_lt k.w1; have h2 := u64_lt k.w2; have h3 := u64_lt k.w3
  have hi' : i = 0 ∨ i = 1 ∨ i = 2 ∨ i = 3 := by omega
  rcases hi' with rfl | rfl | rfl | rfl
  · refine ⟨(nat4 k - k.w0.toNat) / 18446744073709551616, ?_⟩
    simp only [wordK, nat4, Nat.mul_zero, Nat.pow_zero, Nat.div_one]; omega
  · refine ⟨k.w2.toNat + 18446744073709551616 * k.w3.toNat, ?_⟩
    simp only [wordK, nat4]
    rw [show (2 : Nat) ^ (64 * 1) = 18446744073709551616 from rfl]; omega
  · refine ⟨k.w3.toNat, ?_⟩
    simp only [wordK, nat4]
    rw [show (2 : Nat) ^ (64 * 2) = 340282366920938463463374607431768211456 from rfl]; omega
  · refine ⟨0, ?_⟩
    simp only [wordK, nat4]
    rw [show (2 : Nat) ^ (64 * 3) = 6277101735386680763835789423207666416102355444464034512896 from rfl]; omega
theorem nib_eq (k : Four) {i : Nat} (hi : i ≤ 3) {n : Nat} (hn : n ≤ 60) (hm : n % 4 = 0) : (wordK k i).toNat / 2 ^ n % 16 = nibV k ((3 - i) * 16 + (60 - n) / 4) := by
  obtain ⟨r, hr⟩ := nat4_word k hi
  unfold nibV
  rw [show 252 - 4 * ((3 - i) * 16 + (60 - n) / 4) = 64 * i + n by omega, Nat.pow_add, ← Nat.div_div_eq_div_mul, hr, div_word _ _ _ hn]
theorem tabW_len (p : Pt) : (tabW p).length = 320 := by kernel_rfl
theorem rows_tab (p : Pt) : (List.range 16).map (rowP (tabW p)) = (List.range 16).map (tabF p) := by kernel_rfl
theorem row_tab (p : Pt) {j : Nat} (h : j < 16) : rowP (tabW p) j = tabF p j := by
  have := congrArg (fun l => l[j]?) (rows_tab p)
  simpa only [List.getElem?_map, List.getElem?_range h, Option.map_some, Option.some.injEq] using this
theorem nibV_lt (k : Four) (c : Nat) : nibV k c < 16 := Nat.mod_lt _ (by omega)
theorem chain_step {k : Four} {p : Pt} {i : Int} (i0 : 0 ≤ i) (i3 : i ≤ 3) {w : UInt64} (hw : w = wordK k i.toNat) {v : Four} {l1 : Nat} {Q : SV → Prop} {r : List (Int × UInt64)} {s0 : MulS} (h0 : iMul k p zPt (tabW p) (mulAcc k p) i s0 60)
    (next : ∀ s : MulS, s.k = k → s.p = p → s.z = zPt → s.l = tabW p → s.out = mulAcc k p ((3 - i).toNat * 16 + 16) → chainM (iMul k p zPt (tabW p) (mulAcc k p)) v l1 Q r s) :
    chainM (iMul k p zPt (tabW p) (mulAcc k p)) v l1 Q ((i, w) :: r) s0 := by
  refine ⟨h0, fun s n ⟨e1, e2, e3, e4, n0, n1, nm, e5⟩ => ?_⟩
  rw [R1.bcase_dec]
  refine ⟨fun hn => ?_, fun hn => ?_⟩
  · have hni : nibI w n = (nibV k ((3 - i).toNat * 16 + ((60 - n) / 4).toNat) : Int) := by
      rw [nibI_nat w (by omega) (by omega), hw, nib_eq k (by omega) (by omega) (by omega)]
      congr 2; omega
    have hlt := nibV_lt k ((3 - i).toNat * 16 + ((60 - n) / 4).toNat)
    rw [hni, R1.wr (x := n - 4) (by omega), Int.toNat_natCast]
    refine ⟨rfl, ⟨by omega, by omega⟩, by rw [e4, tabW_len]; omega, rfl, ⟨e1, e2, e3, e4, by omega, by omega, by omega, ?_⟩, by omega⟩
    show oAdd (oDbl (oEight s.out)) (rowP s.l _) = _
    rw [e4, row_tab p hlt, e5, show ((60 - (n - 4)) / 4).toNat = ((60 - n) / 4).toNat + 1 by omega]
    rfl
  · refine next s e1 e2 e3 e4 ?_
    rw [e5, show ((60 - n) / 4).toNat = 16 by omega]
noncomputable def sMul : SpecF := fspec (α := Four × Pt × Unit) total (fun a => mulAcc a.1 a.2.1 64)
theorem ok_Mul : SpecOK Try.prog 9 sMul := by
  refine fn_okR (by kernel_rfl) tt_ok spC1_ok 5 Try.func9 (by decide +kernel) (by kernel_rfl) ?_
  rintro ⟨k, p, _⟩ _
  refine ⟨[], { cuts := [(1, cMul tabW)] }, rtMul k p zPt (tabW p) (mulAcc k p), fun x => x = (mulAcc k p 64).sv, .one Try.func50 (by kernel_rfl) (by kernel_rfl) (show (Try.f50.name == "runtime.NumGoroutine") = false by decide +kernel), RnVD.of (vcMul k p zPt (tabW p) (mulAcc k p) _) ?_, svf⟩
  refine ⟨⟨rfl, rfl, rfl, rfl, rfl, rfl⟩, fun v v1 v2 l ⟨e1, e2, e3, e4⟩ l1 => ?_⟩
  subst e1 e2 e3 e4
  have start : ∀ (i : Int) (s : MulS), 0 ≤ i → i ≤ 3 → s.k = v → s.p = v1 → s.z = zPt → s.l = tabW v1 → s.out = mulAcc v v1 ((3 - i).toNat * 16) → iMul v v1 zPt (tabW v1) (mulAcc v v1) i s 60 := fun i s i0 i3 e1 e2 e3 e4 e5 =>
    ⟨e1, e2, e3, e4, by omega, by omega, by omega, by rw [e5]; congr 1⟩
  refine chain_step (by omega) (by omega) rfl (start 3 _ (by omega) (by omega) rfl rfl rfl rfl rfl) fun s e1 e2 e3 e4 e5 => ?_
  refine chain_step (by omega) (by omega) rfl (start 2 s (by omega) (by omega) e1 e2 e3 e4 e5) fun s e1 e2 e3 e4 e5 => ?_
  refine chain_step (by omega) (by omega) rfl (start 1 s (by omega) (by omega) e1 e2 e3 e4 e5) fun s e1 e2 e3 e4 e5 => ?_
  refine chain_step (by omega) (by omega) rfl (start 0 s (by omega) (by omega) e1 e2 e3 e4 e5) fun s e1 e2 e3 e4 e5 => ?_
  show s.out.sv = _
  rw [e5]
  rfl
end Go.Proofs.Ytibdipfpfddliaa.C11
/- Package combo: sums of two multiples, nibbles by place: what the functions come to. -/
set_option maxRecDepth 100000
namespace Go.Proofs.Ytibdipfpfddliaa.C11
open Go.Sym Go.Dig R1 F4 E10

noncomputable def cNib : CSpec := { β := Unit, γ := Four × Int × Unit, α := Int × ArrW 4 × Unit, same := [], pre := [0, 1], keep := [1, 2], inv := fun _ g a => a.1 = g.2.1 ∧ a.2.1.l = [g.1.w0, g.1.w1, g.1.w2, g.1.w3] }
theorem vcNibble (k : Four) (i : Int) (Q : SV → Prop) : LnRaw tt [] 3 [] { cuts := [(0, cNib)] } Try.f38 Q (k, i, ()) =
  ((((4 : Nat) = (4 : Nat)) ∧
   ((() = ()) ∧
   ((i = i) ∧
   ([Four.w0 k, Four.w1 k, Four.w2 k, Four.w3 k] = [Four.w0 k, Four.w1 k, Four.w2 k, Four.w3 k])))) ∧
  (∀ a : Int,
  (∀ l : List UInt64,
  (((a = i) ∧
  (l = [Four.w0 k, Four.w1 k, Four.w2 k, Four.w3 k])) →
  ((((0 : Int) ≤ IntKind.wrap IntKind.i64 (Int.tdiv a (64 : Int))) ∧
   (IntKind.wrap IntKind.i64 (Int.tdiv a (64 : Int)) < (↑(4 : Nat) : Int))) ∧
  (Q
  (SV.i64
    (IntKind.wrap IntKind.i64
      (↑(UInt64.toNat
            (shr64 (List.getD l (Int.toNat (IntKind.wrap IntKind.i64 (Int.tdiv a (64 : Int)))) (0 : UInt64))
                (UInt64.toNat (UInt64.ofInt (IntKind.wrap IntKind.i64 (Int.tmod a (64 : Int) - (3 : Int))))) &&&
              UInt64.ofNat (Int.toNat (15 : Int)))) :
        Int))))))))) := by kernel_rfl
noncomputable def sNibble : SpecF := fspec (α := Four × Int × Unit) (β := Int) (fun a => some (0 ≤ a.2.1 ∧ a.2.1 ≤ 255 ∧ a.2.1 % 4 = 3)) (fun a => (nibV a.1 ((255 - a.2.1) / 4).toNat : Int))
noncomputable def spC2 : Specs := (38, sNibble) :: (9, sMul) :: spC1
noncomputable def bothAcc (a : Four) (p : Pt) (b : Four) (q : Pt) : Nat → Pt
  | 0 => eZero
  | c + 1 => oAdd (oAdd (oDbl (oEight (bothAcc a p b q c))) (tabF p (nibV a c))) (tabF q (nibV b c))
def iBoth (a b : Four) (t u : List UInt64) (acc : Nat → Pt) (x : PFour × PFour × PPt × ArrW 320 × ArrW 320 × PPt × Int × Unit) : Prop :=
  x.1.v = a ∧ x.2.1.v = b ∧ x.2.2.1.v = zPt ∧ x.2.2.2.1.l = t ∧ x.2.2.2.2.1.l = u ∧ -1 ≤ x.2.2.2.2.2.2.1 ∧ x.2.2.2.2.2.2.1 ≤ 255 ∧ x.2.2.2.2.2.2.1 % 4 = 3 ∧ x.2.2.2.2.2.1.v = acc ((255 - x.2.2.2.2.2.2.1) / 4).toNat
noncomputable def lBoth (a b : Four) (t u : List UInt64) (acc : Nat → Pt) : Plan := { loops := [(0, { β := Unit, α := PFour × PFour × PPt × ArrW 320 × ArrW 320 × PPt × Int × Unit, same := [], keep := [4, 6, 8, 9, 10, 11, 12], inv := fun _ _ x => iBoth a b t u acc x, meas := fun _ x => (x.2.2.2.2.2.2.1 + 4).toNat })] }
theorem vcBoth (a b : Four) (p q : Pt) (t u : List UInt64) (acc : Nat → Pt) (Q : SV → Prop) : LnRaw tt spC2 3 [] (lBoth a b t u acc) Try.f12 Q (a, p, b, q, ()) =
  ((((320 : Nat) = 320) ∧ ((320 : Nat) = 320)) ∧ iBoth a b t u acc (⟨a⟩, ⟨b⟩, ⟨zPt⟩, ⟨tabW p⟩, ⟨tabW q⟩, ⟨eZero⟩, 255, ()) ∧
    ∀ (v v1 : Four) (v2 : Pt) (l l1 : List UInt64) (v3 : Pt) (n : Int), iBoth a b t u acc (⟨v⟩, ⟨v1⟩, ⟨v2⟩, ⟨l⟩, ⟨l1⟩, ⟨v3⟩, n, ()) →
      bcase (decide (n > 0))
        ((0 ≤ n ∧ n ≤ 255 ∧ n % 4 = 3) ∧ (0 ≤ n ∧ n ≤ 255 ∧ n % 4 = 3) ∧ ((0 : Int) ≤ (nibV v ((255 - n) / 4).toNat : Int) ∧ (nibV v ((255 - n) / 4).toNat : Int) < ((16 : Nat) : Int)) ∧ ((nibV v ((255 - n) / 4).toNat : Int).toNat * 20 + 20 ≤ l.length) ∧
          ((0 : Int) ≤ (nibV v1 ((255 - n) / 4).toNat : Int) ∧ (nibV v1 ((255 - n) / 4).toNat : Int) < ((16 : Nat) : Int)) ∧ ((nibV v1 ((255 - n) / 4).toNat : Int).toNat * 20 + 20 ≤ l1.length) ∧ (l.length = 320 ∧ l1.length = 320) ∧ (() = ()) ∧
          iBoth a b t u acc (⟨v⟩, ⟨v1⟩, ⟨v2⟩, ⟨l⟩, ⟨l1⟩, ⟨oAdd (oAdd (oDbl (oEight v3)) (rowP l (nibV v ((255 - n) / 4).toNat : Int).toNat)) (rowP l1 (nibV v1 ((255 - n) / 4).toNat : Int).toNat)⟩, IntKind.wrap .i64 (n - 4), ()) ∧ ((IntKind.wrap .i64 (n - 4) + 4).toNat < (n + 4).toNat))
        (Q v3.sv)) := by kernel_rfl
/-! Multiples, sums of two: as functions that nothing opens. -/
theorem om_ex : ∃ f : Four → Pt → Pt, f = fun k p => mulAcc k p 64 := ⟨_, rfl⟩
noncomputable def oMul : Four → Pt → Pt := Classical.choose om_ex
theorem oMul_eq (k : Four) (p : Pt) : oMul k p = mulAcc k p 64 := congrFun (congrFun (Classical.choose_spec om_ex) k) p
theorem ob_ex : ∃ f : Four → Pt → Four → Pt → Pt, f = fun a p b q => bothAcc a p b q 64 := ⟨_, rfl⟩
noncomputable def oBoth : Four → Pt → Four → Pt → Pt := Classical.choose ob_ex
theorem oBoth_eq (a : Four) (p : Pt) (b : Four) (q : Pt) : oBoth a p b q = bothAcc a p b q 64 := congrFun (congrFun (congrFun (congrFun (Classical.choose_spec ob_ex) a) p) b) q
theorem or_ex : ∃ f : Four, f = ⟨6346243789798364141, 1503914060200516822, 0, 1152921504606846976⟩ := ⟨_, rfl⟩
noncomputable def ordV : Four := Classical.choose or_ex
theorem ordV_eq : ordV = ⟨6346243789798364141, 1503914060200516822, 0, 1152921504606846976⟩ := Classical.choose_spec or_ex
noncomputable def sOMul : SpecF := fspec (α := Four × Pt × Unit) total (fun a => oMul a.1 a.2.1)
noncomputable def sOBoth : SpecF := fspec (α := Four × Pt × Four × Pt × Unit) total (fun a => oBoth a.1 a.2.1 a.2.2.1 a.2.2.2.1)
noncomputable def sOrder : SpecF := fspec (α := Unit) total (fun _ => ordV)
noncomputable def spC3 : Specs := (9, sOMul) :: (12, sOBoth) :: (15, sOrder) :: spC0
noncomputable def sCBase : SpecF := fspec (α := Four × Unit) total (fun a => oMul a.1 eBase)
noncomputable def oPure (p : Pt) : Bool := eSame (oMul ordV p) eZero
noncomputable def sPure : SpecF := fspec (α := Pt × Unit) total (fun a => oPure a.1)
noncomputable def spC4 : Specs := (16, sCBase) :: (18, sPure) :: spC3
end Go.Proofs.Ytibdipfpfddliaa.C11
/- Package combo: nibbles by place, sums of two multiples, the base's, what is pure: what the functions come to is so. -/
set_option maxRecDepth 100000
namespace Go.Proofs.Ytibdipfpfddliaa.C11
open Go.Sym Go.Dig R1 F4 E10

theorem ok_nibble : SpecOK Try.prog 38 sNibble := by
  refine fn_okL (by kernel_rfl) tt_ok (.nil _) 3 Try.func38 (by decide +kernel) (by kernel_rfl) ?_
  rintro ⟨k, i, _⟩ ⟨i0, i1, im⟩
  simp only at i0 i1 im
  refine ⟨[], _, fun x => x = .i64 (nibV k ((255 - i) / 4).toNat : Int), LnVD.of (vcNibble k i _) ?_, svf⟩
  refine ⟨⟨rfl, rfl, rfl, rfl⟩, fun a l ⟨e1, e2⟩ => ?_⟩
  subst e1 e2
  have hd : Int.tdiv a 64 = a / 64 := Int.tdiv_eq_ediv_of_nonneg i0
  have hm : Int.tmod a 64 = a % 64 := Int.tmod_eq_emod_of_nonneg i0
  rw [hd, hm, R1.wr (x := a / 64) (by omega), R1.wr (x := a % 64 - 3) (by omega)]
  refine ⟨⟨by omega, by omega⟩, ?_⟩
  have hw : ([k.w0, k.w1, k.w2, k.w3] : List UInt64).getD (a / 64).toNat 0 = wordK k (a / 64).toNat := by
    have : (a / 64).toNat = 0 ∨ (a / 64).toNat = 1 ∨ (a / 64).toNat = 2 ∨ (a / 64).toNat = 3 := by omega
    rcases this with h | h | h | h <;> rw [h] <;> rfl
  have h1 := nibI_nat (wordK k (a / 64).toNat) (n := a % 64 - 3) (by omega) (by omega)
  unfold nibI at h1
  show SV.i64 _ = SV.i64 _
  rw [hw, h1, nib_eq k (by omega) (by omega) (by omega)]
  congr 3
  omega
theorem ok_Mul' : SpecOK Try.prog 9 sOMul := by
  have : sOMul = sMul := by unfold sOMul sMul; congr 1; funext a; exact oMul_eq _ _
  rw [this]; exact ok_Mul
theorem spC2_ok : SpecsOK Try.prog spC2 := .cons ok_nibble <| .cons ok_Mul spC1_ok
theorem ok_Both0 : SpecOK Try.prog 12 (fspec (α := Four × Pt × Four × Pt × Unit) total (fun a => bothAcc a.1 a.2.1 a.2.2.1 a.2.2.2.1 64)) := by
  refine fn_okL (by kernel_rfl) tt_ok spC2_ok 3 Try.func12 (by decide +kernel) (by kernel_rfl) ?_
  rintro ⟨a, p, b, q, _⟩ _
  refine ⟨[], _, fun x => x = (bothAcc a p b q 64).sv, LnVD.of (vcBoth a b p q (tabW p) (tabW q) (bothAcc a p b q) _) ?_, svf⟩
  refine ⟨⟨rfl, rfl⟩, ⟨rfl, rfl, rfl, rfl, rfl, (show (-1 : Int) ≤ 255 by decide), (show (255 : Int) ≤ 255 by decide), (show (255 : Int) % 4 = 3 by decide), rfl⟩, fun v v1 v2 l l1 v3 n hI => ?_⟩
  obtain ⟨e1, e2, e3, e4, e5, n0, n1, nm, e6⟩ := hI
  simp only at e1 e2 e3 e4 e5 n0 n1 nm e6
  subst e1 e2 e3 e4 e5
  rw [R1.bcase_dec]
  have k1 := nibV_lt v ((255 - n) / 4).toNat
  have k2 := nibV_lt v1 ((255 - n) / 4).toNat
  refine ⟨fun hn => ?_, fun hn => ?_⟩
  · rw [R1.wr (x := n - 4) (by omega), Int.toNat_natCast, Int.toNat_natCast, tabW_len, tabW_len]
    refine ⟨⟨by omega, n1, nm⟩, ⟨by omega, n1, nm⟩, ⟨by omega, by omega⟩, by omega, ⟨by omega, by omega⟩, by omega, ⟨rfl, rfl⟩, rfl, ⟨rfl, rfl, rfl, rfl, rfl, ?_, ?_, ?_, ?_⟩, by omega⟩
    · show -1 ≤ n - 4; omega
    · show n - 4 ≤ 255; omega
    · show (n - 4) % 4 = 3; omega
    · show oAdd (oAdd (oDbl (oEight v3)) (rowP (tabW p) _)) (rowP (tabW q) _) = bothAcc v p v1 q ((255 - (n - 4)) / 4).toNat
      rw [row_tab p k1, row_tab q k2, e6, show ((255 - (n - 4)) / 4).toNat = ((255 - n) / 4).toNat + 1 by omega]
      rfl
  · show v3.sv = _
    rw [e6, show ((255 - n) / 4).toNat = 64 by omega]
theorem ok_Both : SpecOK Try.prog 12 sOBoth := by
  have : sOBoth = fspec (α := Four × Pt × Four × Pt × Unit) total (fun a => bothAcc a.1 a.2.1 a.2.2.1 a.2.2.2.1 64) := by unfold sOBoth; congr 1; funext a; exact oBoth_eq _ _ _ _
  rw [this]; exact ok_Both0
theorem ok_Order : SpecOK Try.prog 15 sOrder := by
  unfold sOrder
  rw [ordV_eq]
  exact fn_ok mixed tt_ok (.nil _) 9 Try.func15 (by decide +kernel) (by kernel_rfl)
    (fun _ => Same (retSV (RetL.retL (⟨6346243789798364141, 1503914060200516822, 0, 1152921504606846976⟩ : Four)))) (fun a => by kernel_rfl) (fun _ _ => rfl)
theorem spC3_ok : SpecsOK Try.prog spC3 := .cons ok_Mul' <| .cons ok_Both <| .cons ok_Order spC0_ok
theorem ok_CBase : SpecOK Try.prog 16 sCBase :=
  fn_ok mixed tt_ok spC3_ok 9 Try.func16 (by decide +kernel) (by kernel_rfl)
    (fun a => Same (retSV (RetL.retL (oMul a.1 eBase)))) (fun a => by kernel_rfl) (fun _ _ => rfl)
theorem ok_Pure : SpecOK Try.prog 18 sPure :=
  fn_ok mixed tt_ok spC3_ok 9 Try.func18 (by decide +kernel) (by kernel_rfl)
    (fun a => Same (retSV (RetL.retL (oPure a.1)))) (fun a => by kernel_rfl) (fun _ _ => rfl)
theorem spC4_ok : SpecsOK Try.prog spC4 := .cons ok_CBase <| .cons ok_Pure spC3_ok
end Go.Proofs.Ytibdipfpfddliaa.C11
/- The reference of layer 10: multiples of points: what the function comes to. -/
set_option maxRecDepth 10000
namespace Go.Proofs.Ytibdipfpfddliaa.E10
open Go.Sym Go.Dig R1 F4
--STOP R1.Sm, Lm, Lh

/-- A loop's own point; one of noughts. -/
structure PRP where
  v : RP
def dRPC : List SV → Option RP
  | [.lst (.num x), .lst (.num y), .lst (.num z), .bool i] => some ⟨x, y, z, i⟩
  | _ => none
def RP.cells (p : RP) : List SV := [.lst (.num p.x), .lst (.num p.y), .lst (.num p.z), .bool p.is]
theorem dRPC_ok {cs : List SV} {p : RP} (h : dRPC cs = some p) : cs = p.cells := by
  unfold dRPC at h
  split at h
  · simp only [Option.some.injEq] at h; subst h; rfl
  · cases h
instance : LEnc PRP where
  kind := none
  enc nx a := (.ptr nx 0, [a.v.cells])
  dec nx s M := match s, M with
    | .ptr b 0, some cs :: M' => if b = nx then (dRPC cs).map fun r => (none, ⟨r⟩, M') else none
    | _, _ => none
  all P := ∀ v, P ⟨v⟩
  all_ok h a := h a.v
  ok := by
    intro nx s M p a M' h hp
    split at h
    · split at h
      · rename_i hb
        obtain ⟨r, h1, h2⟩ := Option.map_eq_some_iff.1 h
        simp only [Prod.mk.injEq] at h2
        obtain ⟨_, rfl, rfl⟩ := h2
        subst hb
        rw [dRPC_ok h1]
        exact ⟨rfl, fun r => r⟩
      · cases h
    · cases h
structure PNil where
  u : Unit
instance : LEnc PNil where
  kind := none
  enc nx _ := (.ptr nx 0, [[.val (.slice none 0 0), .val (.slice none 0 0), .val (.slice none 0 0), .bool false]])
  dec nx s M := match s, M with
    | .ptr b 0, some [.val (.slice none 0 0), .val (.slice none 0 0), .val (.slice none 0 0), .bool false] :: M' => if b = nx then some (none, ⟨()⟩, M') else none
    | _, _ => none
  all P := P ⟨()⟩
  all_ok h _ := h
  ok := by
    intro nx s M p a M' h hp
    split at h
    · split at h
      · rename_i hb
        simp only [Option.some.injEq, Prod.mk.injEq] at h
        obtain ⟨_, _, rfl⟩ := h
        subst hb
        exact ⟨rfl, fun r => r⟩
      · cases h
    · cases h
/-- A multiple, bit by bit from above. -/
noncomputable def rMulAcc (n : Nat) (p : RP) : Nat → RP
  | 0 => rZero
  | c + 1 => if n / 2 ^ (bitsN n - 1 - c) % 2 = 1 then rAdd (rAdd (rMulAcc n p c) (rMulAcc n p c) rD) p rD else rAdd (rMulAcc n p c) (rMulAcc n p c) rD
def iRMul (n : Nat) (p : RP) (acc : Nat → RP) (p' out : RP) (i : Int) : Prop := p' = p ∧ -1 ≤ i ∧ i < (bitsN n : Nat) ∧ out = acc ((bitsN n : Int) - 1 - i).toNat
def lRMul (n : Nat) (p : RP) (acc : Nat → RP) : Plan := { loops := [(0, { β := Num × Num × Unit, α := PRP × PNil × PRP × Int × Unit, same := [0, 5], keep := [3, 4, 6, 7], inv := fun _ _ x => iRMul n p acc x.1.v x.2.2.1.v x.2.2.2.1, meas := fun _ x => (x.2.2.2.1 + 1).toNat })] }
noncomputable def nRMul : SpecF := fspec (α := Num × RP × Unit) (fun a => some (Lh a.1.n ∧ Lh a.2.1.x ∧ Lh a.2.1.y ∧ Lh a.2.1.z)) (fun a => rMulAcc a.1.n a.2.1 (bitsN a.1.n))
end Go.Proofs.Ytibdipfpfddliaa.E10
/- The reference of layer 10: multiples of points: what the function comes to is so. -/
set_option maxRecDepth 10000
namespace Go.Proofs.Ytibdipfpfddliaa.E10
open Go.Sym Go.Dig R1 F4

structure LhP (p : RP) : Prop where
  x : Lh p.x
  y : Lh p.y
  z : Lh p.z
theorem lhM (a b : Nat) : Lh (mM a b) := lhMod _
theorem rAdd_lh (p q : RP) (d : Nat) : LhP (rAdd p q d) := ⟨lhM _ _, lhM _ _, lhM _ _⟩
theorem rMulAcc_lh (n : Nat) (p : RP) : ∀ c, LhP (rMulAcc n p c)
  | 0 => ⟨lhS (show (0 : Nat) < 16777216 by decide), lhS (show (1 : Nat) < 16777216 by decide), lhS (show (1 : Nat) < 16777216 by decide)⟩
  | c + 1 => by
    rw [rMulAcc]
    split
    · exact rAdd_lh _ _ _
    · exact rAdd_lh _ _ _
theorem rD_lh : Lh rD := by rw [rD_eq]; exact lhMod _
theorem ok_RMul : SpecOK Try.prog 1000000 Sym.sNo := Sym.sNo_ok _ _
end Go.Proofs.Ytibdipfpfddliaa.E10
/- Multiples of points: what combo's functions and the reference's come to is the group's. -/
set_option maxRecDepth 100000
namespace Go.Proofs.Ytibdipfpfddliaa.C11
open Go.Sym Go.Dig R1 F4 E10 Go.Alg

noncomputable abbrev G := EE.grp
theorem Rp_add {p q : Pt} {P Q : EPt} (h : Rp p P) (k : Rp q Q) : Rp (oAdd p q) (G.add P Q) := by rw [oAdd_eq]; exact h.add k
theorem Rp_dbl {p : Pt} {P : EPt} (h : Rp p P) : Rp (oDbl p) (G.mul 2 P) := by rw [oDbl_eq, Grp.mul_two]; exact h.double
theorem Rp_eight {p : Pt} {P : EPt} (h : Rp p P) : Rp (oEight p) (G.mul 8 P) := by rw [oEight_eq]; exact h.eight
theorem Rp_sixteen {p : Pt} {P : EPt} (h : Rp p P) : Rp (oDbl (oEight p)) (G.mul 16 P) := by
  have := Rp_dbl (Rp_eight h)
  rw [← Grp.mul_mul] at this
  exact this
theorem Rp_tab {p : Pt} {P : EPt} (h : Rp p P) : ∀ n, Rp (tabF p n) (G.mul n P)
  | 0 => Rp.zero
  | n + 1 => Rp_add (Rp_tab h n) h
/-- One nibble on. -/
theorem nib_step (n c : Nat) (hc : c < 64) : n / 2 ^ (256 - 4 * (c + 1)) = n / 2 ^ (256 - 4 * c) * 16 + n / 2 ^ (252 - 4 * c) % 16 := by
  rw [show 256 - 4 * (c + 1) = 252 - 4 * c by omega, show 256 - 4 * c = 252 - 4 * c + 4 by omega, Nat.pow_add, ← Nat.div_div_eq_div_mul]
  generalize n / 2 ^ (252 - 4 * c) = x
  rw [show (2 : Nat) ^ 4 = 16 from rfl]
  omega
theorem lt256 (k : Four) : nat4 k < 2 ^ 256 := by
  have := nat4_lt k
  rw [show (2 : Nat) ^ 256 = 115792089237316195423570985008687907853269984665640564039457584007913129639936 by decide +kernel]
  exact this
theorem Rp_acc {k : Four} {p : Pt} {P : EPt} (h : Rp p P) : ∀ c, c ≤ 64 → Rp (mulAcc k p c) (G.mul (nat4 k / 2 ^ (256 - 4 * c)) P)
  | 0, _ => by
    rw [Nat.mul_zero, Nat.sub_zero, Nat.div_eq_of_lt (lt256 k)]
    exact Rp.zero
  | c + 1, hc => by
    have ih := Rp_acc (k := k) h c (by omega)
    rw [nib_step _ c (by omega), Grp.mul_add, Grp.mul_mul]
    exact Rp_add (Rp_sixteen ih) (Rp_tab h _)
theorem Rp_mul (k : Four) {p : Pt} {P : EPt} (h : Rp p P) : Rp (oMul k p) (G.mul (nat4 k) P) := by
  have := Rp_acc (k := k) h 64 (by omega)
  rw [oMul_eq]
  rw [show 256 - 4 * 64 = 0 from rfl, Nat.pow_zero, Nat.div_one] at this
  exact this
theorem Rp_bacc {a b : Four} {p q : Pt} {P Q : EPt} (h : Rp p P) (h' : Rp q Q) : ∀ c, c ≤ 64 → Rp (bothAcc a p b q c) (G.add (G.mul (nat4 a / 2 ^ (256 - 4 * c)) P) (G.mul (nat4 b / 2 ^ (256 - 4 * c)) Q))
  | 0, _ => by
    rw [Nat.mul_zero, Nat.sub_zero, Nat.div_eq_of_lt (lt256 a), Nat.div_eq_of_lt (lt256 b), Grp.mul_zero, Grp.mul_zero, Grp.zadd]
    exact Rp.zero
  | c + 1, hc => by
    have ih := Rp_bacc (a := a) (b := b) h h' c (by omega)
    rw [nib_step _ c (by omega), nib_step _ c (by omega), Grp.mul_add, Grp.mul_mul, Grp.mul_add, Grp.mul_mul, Grp.swap, ← Grp.mul_sum, ← Grp.assoc]
    exact Rp_add (Rp_add (Rp_sixteen ih) (Rp_tab h _)) (Rp_tab h' _)
theorem Rp_both (a b : Four) {p q : Pt} {P Q : EPt} (h : Rp p P) (h' : Rp q Q) : Rp (oBoth a p b q) (G.add (G.mul (nat4 a) P) (G.mul (nat4 b) Q)) := by
  have := Rp_bacc (a := a) (b := b) h h' 64 (by omega)
  rw [oBoth_eq]
  rw [show 256 - 4 * 64 = 0 from rfl, Nat.pow_zero, Nat.div_one, Nat.div_one] at this
  exact this
theorem bit_step (n N c : Nat) (hc : c < N) : n / 2 ^ (N - (c + 1)) = n / 2 ^ (N - c) * 2 + n / 2 ^ (N - 1 - c) % 2 := by
  rw [show N - (c + 1) = N - 1 - c by omega, show N - c = N - 1 - c + 1 by omega, Nat.pow_succ, ← Nat.div_div_eq_div_mul]
  generalize n / 2 ^ (N - 1 - c) = x
  omega
theorem RRp_acc {n : Nat} {r : RP} {P : EPt} (h : RRp r P) (hn : n < 2 ^ bitsN n) : ∀ c, c ≤ bitsN n → RRp (rMulAcc n r c) (G.mul (n / 2 ^ (bitsN n - c)) P)
  | 0, _ => by
    rw [Nat.sub_zero, Nat.div_eq_of_lt hn]
    exact RRp.zero
  | c + 1, hc => by
    have ih := RRp_acc h hn c (by omega)
    have two := ih.add ih
    have e2 : EE.add (G.mul (n / 2 ^ (bitsN n - c)) P) (G.mul (n / 2 ^ (bitsN n - c)) P) = G.mul (n / 2 ^ (bitsN n - c) * 2) P := by
      rw [Grp.mul_mul, Grp.mul_two]; rfl
    rw [e2] at two
    rw [bit_step _ _ c (by omega), rMulAcc]
    have hm := Nat.mod_lt (n / 2 ^ (bitsN n - 1 - c)) (show 0 < 2 by omega)
    split
    · rename_i hb
      rw [hb, Grp.mul_succ]
      exact two.add h
    · rename_i hb
      rw [show n / 2 ^ (bitsN n - 1 - c) % 2 = 0 by omega]
      exact two
theorem RRp_mul (n : Nat) {r : RP} {P : EPt} (h : RRp r P) : RRp (rMulAcc n r (bitsN n)) (G.mul n P) := by
  have hn : n < 2 ^ bitsN n := by
    apply Nat.lt_of_not_le
    intro h
    have := bitsN_gt.2 h
    omega
  have := RRp_acc h hn (bitsN n) (Nat.le_refl _)
  rw [Nat.sub_self, Nat.pow_zero, Nat.div_one] at this
  exact this
end Go.Proofs.Ytibdipfpfddliaa.C11
/- Layer 11's laws: what their bodies come to. -/
set_option maxRecDepth 100000
namespace Go.Proofs.Ytibdipfpfddliaa.C11
open Go.Sym Go.Dig R1 F4 E10
--STOP R1.Sm, Lm, Lh

theorem on_ex : ∃ n : Nat, n = 2 ^ 252 + 27742317777372353535851937790883648493 := ⟨_, rfl⟩
/-- The order of the base, told so that no machine computes with it. -/
noncomputable def ordN : Nat := Classical.choose on_ex
theorem ordN_eq : ordN = 2 ^ 252 + 27742317777372353535851937790883648493 := Classical.choose_spec on_ex
noncomputable def nOrd : SpecF := fspec (α := Unit) (β := Num) total (fun _ => ⟨ordN⟩)
def nOf4 : SpecF := fspec (α := Four × Unit) (β := Num) total (fun a => ⟨nat4 a.1⟩)
def dT (l : List (Nat × Nat)) : Dec := l.map fun p => (p.1, p.2, .b true)
def sAw11 : SpecF := fspec (α := Unit) total (fun _ => true)
theorem vcAwake11 (Q : SV → Prop) : LnRaw tt spC4 9 (dT [(2, 6), (2, 12)] ++ [(2, 17, .b false)]) {} Try.f4 Q () =
  ((eSame
    (oMul
      (Four.mk (UInt64.ofNat (Int.toNat (3 : Int))) (UInt64.ofNat (Int.toNat (0 : Int)))
        (UInt64.ofNat (Int.toNat (0 : Int))) (UInt64.ofNat (Int.toNat (0 : Int))))
      eBase)
    (oAdd (oDbl eBase) eBase) =
  true) ∧
  ((eSame
    (oMul
      (Four.mk (UInt64.ofNat (Int.toNat (0 : Int))) (UInt64.ofNat (Int.toNat (0 : Int)))
        (UInt64.ofNat (Int.toNat (0 : Int))) (UInt64.ofNat (Int.toNat (0 : Int))))
      eBase)
    eZero =
  true) ∧
  ((eSame eBase eZero = false) ∧
  (Q (SV.bool !false))))) := by kernel_rfl
noncomputable def spL11 : Specs := (4, sAw11) :: (1000001, Sym.sNo) :: (1000003, Sym.sNo) :: (1000002, Sym.sNo) :: (spC4 ++ spK4)
end Go.Proofs.Ytibdipfpfddliaa.C11
/- Layer 11's laws: what is to be shown of their bodies is so. -/
set_option maxRecDepth 100000
namespace Go.Proofs.Ytibdipfpfddliaa.C11
open Go.Sym Go.Dig R1 F4 E10 Go.Alg

theorem wv_four (a : Four) : wv [a.w0, a.w1, a.w2, a.w3] = nat4 a := by simp only [wv, nat4]; omega
theorem ok_nOf4 : SpecOK Try.prog 1000001 Sym.sNo := Sym.sNo_ok _ _
theorem base_ne : PB ≠ EE.zero := fun h => by
  have h1 := encP_base
  rw [h] at h1
  have h2 : encN EE.zero = 1 := by
    have hx : (EE.zero : EPt).x.val = 0 := by show (0 : K).val = 0; rfl
    have hy : (EE.zero : EPt).y.val = 1 := by show (1 : K).val = 1; rw [← fe_one]; exact fe_lt E10.one_lt
    unfold encN
    rw [hx, hy, if_neg (by omega)]
  unfold encP at h1
  rw [h2] at h1
  revert h1
  decide +kernel
theorem ok_awake11 : SpecOK Try.prog 4 sAw11 := by
  refine fn_okL (by kernel_rfl) tt_ok spC4_ok 9 Try.func4 (by decide +kernel) (by kernel_rfl) ?_
  rintro _ _
  refine ⟨_, {}, fun x => x = .bool true, LnVD.of (vcAwake11 _) ?_, svf⟩
  refine ⟨sameOK (Rp_mul _ Rp.base) (Rp_add (Rp_dbl Rp.base) Rp.base) ?_, sameOK (Rp_mul _ Rp.base) Rp.zero ?_, ?_, rfl⟩
  · show G.mul 3 PB = G.add (G.mul 2 PB) PB
    rw [Grp.mul_succ]
  · rfl
  · rw [Rp.base.same Rp.zero]; exact decide_eq_false base_ne
theorem lh4 (k : Four) : Lh (nat4 k) := by
  have h := lt256 k
  refine Nat.le_trans (len_lt 11 (Nat.lt_of_lt_of_le h ?_)) (by decide)
  decide +kernel
theorem ord_nat : nat4 ordV = ordN := by
  rw [ordV_eq, ordN_eq]
  decide +kernel
theorem ord_sm : Sm ordN := by
  rw [← ord_nat]; exact (lh4 _).sm
theorem fourN_nat (k : Four) : fourN (nat4 k) = k := by
  have h0 := u64_lt k.w0; have h1 := u64_lt k.w1; have h2 := u64_lt k.w2; have h3 := u64_lt k.w3
  have e : ∀ (x : UInt64) (n : Nat), n % 18446744073709551616 = x.toNat → UInt64.ofNat n = x := fun x n h => UInt64.toNat_inj.1 (by rw [UInt64.toNat_ofNat']; exact h)
  have n128 : ∀ m : Nat, m / 2 ^ 128 = m / 18446744073709551616 / 18446744073709551616 := fun m => by rw [Nat.div_div_eq_div_mul]
  have n192 : ∀ m : Nat, m / 2 ^ 192 = m / 18446744073709551616 / 18446744073709551616 / 18446744073709551616 := fun m => by rw [Nat.div_div_eq_div_mul, Nat.div_div_eq_div_mul]
  have n64 : ∀ m : Nat, m / 2 ^ 64 = m / 18446744073709551616 := fun m => rfl
  obtain ⟨a, b, c, d⟩ := k
  simp only [fourN, Four.mk.injEq]
  simp only at h0 h1 h2 h3
  refine ⟨e _ _ ?_, e _ _ ?_, e _ _ ?_, e _ _ ?_⟩ <;> simp only [nat4, n64, n128, n192] <;> omega
theorem eq_self (x : Four) : ((x.w0 == x.w0) && ((x.w1 == x.w1) && ((x.w2 == x.w2) && ((x.w3 == x.w3) && true)))) = true := by simp
theorem whole' {α : Type} (l : List α) : List.drop 0 (List.take (0 + l.length) l) = l := by simp
abbrev sComboMuls : SpecF := fspec (α := List UInt8 × Four × Unit) total fun _ => true
end Go.Proofs.Ytibdipfpfddliaa.C11
