/- A symbolic machine for Go functions, and what the functions that the law reaches come to: ComA, ComB, ComC, ComD. -/
import Derived.Test.YtigkddloeikpbaaDoorQ23
import Derived.Test.YtigkddloeikpbaaDoorQ4
/- Package combo: multiples of points: what the functions come to. -/
set_option maxRecDepth 100000
namespace Go.Proofs.YtigkddloeikpbaaDoor.C11
open Go.Sym Go.Dig R1 F4 E10

/-! Sums of points, doubles, eight times: as functions that nothing opens. -/
theorem oa_ex : ∃ f : Pt → Pt → Pt, f = eAdd := ⟨_, rfl⟩
noncomputable def oAdd : Pt → Pt → Pt := Classical.choose oa_ex
theorem oAdd_eq : oAdd = eAdd := Classical.choose_spec oa_ex
theorem od_ex : ∃ f : Pt → Pt, f = eDouble := ⟨_, rfl⟩
noncomputable def oDbl : Pt → Pt := Classical.choose od_ex
theorem oDbl_eq : oDbl = eDouble := Classical.choose_spec od_ex
theorem oe_ex : ∃ f : Pt → Pt, f = eEight := ⟨_, rfl⟩
noncomputable def oEight : Pt → Pt := Classical.choose oe_ex
theorem oEight_eq : oEight = eEight := Classical.choose_spec oe_ex
noncomputable def sOAdd : SpecF := fspec (α := Pt × Pt × Unit) total (fun a => oAdd a.1 a.2.1)
noncomputable def sODbl : SpecF := fspec (α := Pt × Unit) total (fun a => oDbl a.1)
noncomputable def sOEight : SpecF := fspec (α := Pt × Unit) total (fun a => oEight a.1)
theorem ok_oAdd : SpecOK Tryd.prog 47 sOAdd := by unfold sOAdd; rw [oAdd_eq]; exact ok_eAdd
theorem ok_oDbl : SpecOK Tryd.prog 34 sODbl := by unfold sODbl; rw [oDbl_eq]; exact ok_eDouble
theorem ok_oEight : SpecOK Tryd.prog 18 sOEight := by unfold sOEight; rw [oEight_eq]; exact ok_eEight
noncomputable def spC0 : Specs := (47, sOAdd) :: (34, sODbl) :: (18, sOEight) :: spE4
theorem spC0_ok : SpecsOK Tryd.prog spC0 := .cons ok_oAdd <| .cons ok_oDbl <| .cons ok_oEight spE4_ok
/-- A point's multiples. -/
noncomputable def tabF (p : Pt) : Nat → Pt
  | 0 => eZero
  | n + 1 => oAdd (tabF p n) p
noncomputable def tabCells (p : Pt) : List SV := (List.range 16).flatMap fun k => (tabF p k).cells
structure TabV where
  p : Pt
noncomputable instance : RetL TabV := ⟨fun t => [.agg (tabCells t.p)]⟩
noncomputable def sTable : SpecF := fspec (α := Pt × Unit) total (fun a => (⟨a.1⟩ : TabV))
noncomputable def vTable (p : Pt) (Q : SV → Prop) : Prop := LnRaw tt spC0 17 [] {} Tryd.f44 Q (p, ())
theorem vcTable (p : Pt) (Q : SV → Prop) : vTable p Q = Q (.agg (tabCells p)) := by kernel_rfl
theorem vcSixteen (p : Pt) (Q : SV → Prop) : LnRaw tt spC0 3 [] {} Tryd.f46 Q (p, ()) =
  (Q
  (SV.agg
    [SV.u64 (Five.x0 (Pt.x (oDbl (oEight p)))), SV.u64 (Five.x1 (Pt.x (oDbl (oEight p)))),
      SV.u64 (Five.x2 (Pt.x (oDbl (oEight p)))), SV.u64 (Five.x3 (Pt.x (oDbl (oEight p)))),
      SV.u64 (Five.x4 (Pt.x (oDbl (oEight p)))), SV.u64 (Five.x0 (Pt.y (oDbl (oEight p)))),
      SV.u64 (Five.x1 (Pt.y (oDbl (oEight p)))), SV.u64 (Five.x2 (Pt.y (oDbl (oEight p)))),
      SV.u64 (Five.x3 (Pt.y (oDbl (oEight p)))), SV.u64 (Five.x4 (Pt.y (oDbl (oEight p)))),
      SV.u64 (Five.x0 (Pt.z (oDbl (oEight p)))), SV.u64 (Five.x1 (Pt.z (oDbl (oEight p)))),
      SV.u64 (Five.x2 (Pt.z (oDbl (oEight p)))), SV.u64 (Five.x3 (Pt.z (oDbl (oEight p)))),
      SV.u64 (Five.x4 (Pt.z (oDbl (oEight p)))), SV.u64 (Five.x0 (Pt.t (oDbl (oEight p)))),
      SV.u64 (Five.x1 (Pt.t (oDbl (oEight p)))), SV.u64 (Five.x2 (Pt.t (oDbl (oEight p)))),
      SV.u64 (Five.x3 (Pt.t (oDbl (oEight p)))), SV.u64 (Five.x4 (Pt.t (oDbl (oEight p))))])) := by kernel_rfl
noncomputable def sSixteen : SpecF := fspec (α := Pt × Unit) total (fun a => oDbl (oEight a.1))

/-! What is kept while a loop runs. -/
abbrev c4 (a : Four) : List SV := [.u64 a.w0, .u64 a.w1, .u64 a.w2, .u64 a.w3]
def dFourC : List SV → Option Four
  | [.u64 a, .u64 b, .u64 c, .u64 d] => some ⟨a, b, c, d⟩
  | _ => none
theorem dFourC_ok {cs : List SV} {r : Four} (h : dFourC cs = some r) : cs = c4 r := by
  unfold dFourC at h
  split at h
  · simp only [Option.some.injEq] at h; subst h; rfl
  · cases h
structure PFour where
  v : Four
instance : LEnc PFour where
  kind := none
  enc nx a := (.ptr nx 0, [c4 a.v])
  dec nx s M := match s, M with
    | .ptr b 0, some cs :: M' => if b = nx then (dFourC cs).map fun r => (none, ⟨r⟩, M') else none
    | _, _ => none
  all P := ∀ v, P ⟨v⟩
  all_ok h a := h a.v
  ok := by
    intro nx s M p a M' h hp
    split at h
    · split at h
      · rename_i hb
        obtain ⟨r, h1, h2⟩ := Option.map_eq_some_iff.1 h
        simp only [Prod.mk.injEq] at h2
        obtain ⟨_, rfl, rfl⟩ := h2
        subst hb
        rw [dFourC_ok h1]
        exact ⟨rfl, fun r => r⟩
      · cases h
    · cases h
structure PPt where
  v : Pt
instance : LEnc PPt where
  kind := none
  enc nx a := (.ptr nx 0, [a.v.cells])
  dec nx s M := match s, M with
    | .ptr b 0, some cs :: M' => if b = nx then (dPtC cs).map fun r => (none, ⟨r⟩, M') else none
    | _, _ => none
  all P := ∀ v, P ⟨v⟩
  all_ok h a := h a.v
  ok := by
    intro nx s M p a M' h hp
    split at h
    · split at h
      · rename_i hb
        obtain ⟨r, h1, h2⟩ := Option.map_eq_some_iff.1 h
        simp only [Prod.mk.injEq] at h2
        obtain ⟨_, rfl, rfl⟩ := h2
        subst hb
        rw [dPtC_ok h1]
        exact ⟨rfl, fun r => r⟩
      · cases h
    · cases h
structure ValV where
  v : Value
instance : Enc ValV where
  enc a := .val a.v
  dec | .val v => some ⟨v⟩
      | _ => none
  ok := by
    intro s a h at_ w v r
    cases s <;> simp only at h <;> first | (cases h; done) | (simp only [Option.some.injEq] at h; subst h; exact r)
  nn _ := rfl
structure RoFour where
  v : Four
instance : Enc RoFour where
  enc a := .ro (c4 a.v) 0
  dec | .ro cs 0 => (dFourC cs).map RoFour.mk
      | _ => none
  ok := by
    intro s a h at_ w v r
    split at h
    · obtain ⟨x, h1, h2⟩ := Option.map_eq_some_iff.1 h
      subst h2
      rw [dFourC_ok h1] at r; exact r
    · cases h
  nn _ := rfl
/-- The function that tells a number's nibbles. -/
structure NibC where
  k : Four
instance : RetL NibC := ⟨fun d => [.fn 54 [.ro (c4 d.k) 0]]⟩
def sNibbles : SpecF := fspec (α := Four × Unit) total fun a => (⟨a.1⟩ : NibC)
theorem vcNibbles (k : Four) (Q : SV → Prop) : LnRaw tt [] 3 [] {} Tryd.f45 Q (k, ()) =
  (Q (SV.fn 54 [SV.ro [SV.u64 (Four.w0 k), SV.u64 (Four.w1 k), SV.u64 (Four.w2 k), SV.u64 (Four.w3 k)] (0 : Nat)])) := by kernel_rfl
noncomputable def tabW (p : Pt) : List UInt64 := (List.range 16).flatMap fun k => [(tabF p k).x.x0, (tabF p k).x.x1, (tabF p k).x.x2, (tabF p k).x.x3, (tabF p k).x.x4, (tabF p k).y.x0, (tabF p k).y.x1, (tabF p k).y.x2, (tabF p k).y.x3, (tabF p k).y.x4,
  (tabF p k).z.x0, (tabF p k).z.x1, (tabF p k).z.x2, (tabF p k).z.x3, (tabF p k).z.x4, (tabF p k).t.x0, (tabF p k).t.x1, (tabF p k).t.x2, (tabF p k).t.x3, (tabF p k).t.x4]
structure MulS where
  k : Four
  p : Pt
  z : Pt
  l : List UInt64
  out : Pt
def MulS.pk (s : MulS) : List (Option Blk) := [some (c4 s.k), some s.p.cells, some s.z.cells, some [.own (.words s.l)], none, some s.out.cells, none]
def MulS.mk5 (l : List UInt64) : Option Four → Option Pt → Option Pt → Option Pt → Option MulS
  | some k, some p, some z, some o => some ⟨k, p, z, l, o⟩
  | _, _, _, _ => none
def MulS.pd : List (Option Blk) → Option MulS
  | [some kc, some pc, some zc, some [.own (.words l)], none, some oc, none] => MulS.mk5 l (dFourC kc) (dPtC pc) (dPtC zc) (dPtC oc)
  | _ => none
theorem MulS.pok {M : List (Option Blk)} {s : MulS} (h : MulS.pd M = some s) : M = s.pk := by
  unfold MulS.pd at h
  split at h
  · unfold MulS.mk5 at h
    split at h
    · rename_i h1 h2 h3 h4
      simp only [Option.some.injEq] at h; subst h
      simp only [MulS.pk, dFourC_ok h1, dPtC_ok h2, dPtC_ok h3, dPtC_ok h4]
    · cases h
  · cases h
noncomputable def cMul (p : Pt → List UInt64) : CSpec := { β := Unit, γ := PFour × PPt × PPt × Unit, α := PFour × PPt × PPt × ArrW 320 × Unit, same := [], pre := [2, 3, 4], keep := [2, 3, 4, 5], inv := fun _ g a => a.1.v = g.1.v ∧ a.2.1.v = g.2.1.v ∧ a.2.2.1.v = g.2.2.1.v ∧ a.2.2.2.1.l = p g.2.1.v }
/-- Of the words of a number. -/
def wordK (k : Four) : Nat → UInt64
  | 0 => k.w0
  | 1 => k.w1
  | 2 => k.w2
  | _ => k.w3
/-- The nibble at a place, from above. -/
def nibV (k : Four) (c : Nat) : Nat := nat4 k / 2 ^ (252 - 4 * c) % 16
noncomputable def mulAcc (k : Four) (p : Pt) : Nat → Pt
  | 0 => eZero
  | c + 1 => oAdd (oDbl (oEight (mulAcc k p c))) (tabF p (nibV k c))
def iMul (k : Four) (p z : Pt) (tw : List UInt64) (acc : Nat → Pt) (i : Int) (s : MulS) (n : Int) : Prop := s.k = k ∧ s.p = p ∧ s.z = z ∧ s.l = tw ∧ -4 ≤ n ∧ n ≤ 60 ∧ n % 4 = 0 ∧ s.out = acc ((3 - i).toNat * 16 + ((60 - n) / 4).toNat)
noncomputable def rtMul (k : Four) (p z : Pt) (tw : List UInt64) (acc : Nat → Pt) : RTab := [(54, { fn := Tryd.f54, loops := [(2, { β := ValV × RoFour × Int × Unit, α := Int × Unit, pk := MulS.pk, pd := MulS.pd, pok := MulS.pok, same := [0, 1, 3], keep := [4], inv := fun b _ x => iMul k p z tw acc b.2.2.1 x.1 x.2.1, meas := fun _ x => (x.1 + 4).toNat })] })]
noncomputable def spC1 : Specs := (44, sTable) :: (46, sSixteen) :: (45, sNibbles) :: spC0
def zF : Five := ⟨UInt64.ofNat (Int.toNat 0), UInt64.ofNat (Int.toNat 0), UInt64.ofNat (Int.toNat 0), UInt64.ofNat (Int.toNat 0), UInt64.ofNat (Int.toNat 0)⟩
def zPt : Pt := ⟨zF, zF, zF, zF⟩
/-- The nibble that is told. -/
def nibI (w : UInt64) (n : Int) : Int := IntKind.wrap .i64 ((shr64 w (UInt64.ofInt n).toNat &&& UInt64.ofNat (Int.toNat 15)).toNat : Int)
/-- A row of a table of points. -/
def rowP (l : List UInt64) (j : Nat) : Pt :=
  ⟨⟨l.getD (j * 20 + 0) 0, l.getD (j * 20 + 1) 0, l.getD (j * 20 + 2) 0, l.getD (j * 20 + 3) 0, l.getD (j * 20 + 4) 0⟩, ⟨l.getD (j * 20 + 5) 0, l.getD (j * 20 + 6) 0, l.getD (j * 20 + 7) 0, l.getD (j * 20 + 8) 0, l.getD (j * 20 + 9) 0⟩,
   ⟨l.getD (j * 20 + 10) 0, l.getD (j * 20 + 11) 0, l.getD (j * 20 + 12) 0, l.getD (j * 20 + 13) 0, l.getD (j * 20 + 14) 0⟩, ⟨l.getD (j * 20 + 15) 0, l.getD (j * 20 + 16) 0, l.getD (j * 20 + 17) 0, l.getD (j * 20 + 18) 0, l.getD (j * 20 + 19) 0⟩⟩
/-- The words, one after the other. -/
noncomputable def chainM (I : Int → MulS → Int → Prop) (v : Four) (l1 : Nat) (Q : SV → Prop) : List (Int × UInt64) → MulS → Prop
  | [], s => Q s.out.sv
  | (i, w) :: r, s0 => I i s0 60 ∧ ∀ (s : MulS) (n : Int), I i s n → bcase (decide (n ≥ 0))
      ((l1 = l1) ∧ (0 ≤ nibI w n ∧ nibI w n < ((16 : Nat) : Int)) ∧ ((nibI w n).toNat * 20 + 20 ≤ s.l.length) ∧ (((ValV.mk (.func (.yield l1) ⟨[]⟩ ⟨[]⟩), RoFour.mk v, i, ()) : ValV × RoFour × Int × Unit) = (ValV.mk (.func (.yield l1) ⟨[]⟩ ⟨[]⟩), RoFour.mk v, i, ())) ∧
        (I i ⟨s.k, s.p, s.z, s.l, oAdd (oDbl (oEight s.out)) (rowP s.l (nibI w n).toNat)⟩ (IntKind.wrap .i64 (n - 4))) ∧ ((IntKind.wrap .i64 (n - 4) + 4).toNat < (n + 4).toNat))
      (chainM I v l1 Q r s)
theorem vcMul (k : Four) (p z : Pt) (tw : List UInt64) (acc : Nat → Pt) (Q : SV → Prop) : RnRaw tt spC1 5 [] { cuts := [(1, cMul tabW)] } (rtMul k p z tw acc) Tryd.f32 Q (k, p, ()) =
  ((((320 : Nat) = 320) ∧ (() = ()) ∧ (k = k) ∧ (p = p) ∧ (zPt = zPt) ∧ (tabW p = tabW p)) ∧ (∀ (v : Four) (v1 v2 : Pt) (l : List UInt64), ((v = k) ∧ (v1 = p) ∧ (v2 = zPt) ∧ (l = tabW p)) → ∀ l1 : Nat,
    chainM (iMul k p z tw acc) v l1 Q [(3, v.w3), (2, v.w2), (1, v.w1), (0, v.w0)] ⟨v, v1, v2, l, eZero⟩)) := by kernel_rfl
end Go.Proofs.YtigkddloeikpbaaDoor.C11
/- Package combo: multiples of points: what the functions come to is so. -/
set_option maxRecDepth 100000
namespace Go.Proofs.YtigkddloeikpbaaDoor.C11
open Go.Sym Go.Dig R1 F4 E10

theorem tab_ret (p : Pt) : retSV (RetL.retL (⟨p⟩ : TabV)) = .agg (tabCells p) := by kernel_rfl
attribute [local irreducible] tabCells tabW
theorem ok_Table : SpecOK Tryd.prog 44 sTable := by
  refine fn_okL (by kernel_rfl) tt_ok spC0_ok 17 Tryd.func44 (by decide +kernel) (by kernel_rfl) ?_
  rintro ⟨p, _⟩ _
  refine ⟨[], {}, fun x => x = .agg (tabCells p), LnVD.of (vcTable p _) rfl, fun x h at_ w v r => ?_⟩
  have h' : x = .agg (tabCells p) := h
  subst h'
  rw [tab_ret]
  exact r
theorem ok_Sixteen : SpecOK Tryd.prog 46 sSixteen := by
  refine fn_okL (by kernel_rfl) tt_ok spC0_ok 3 Tryd.func46 (by decide +kernel) (by kernel_rfl) ?_
  rintro ⟨p, _⟩ _
  exact ⟨[], {}, fun x => x = (oDbl (oEight p)).sv, LnVD.of (vcSixteen p _) rfl, svf⟩
theorem ok_Nibbles : SpecOK Tryd.prog 45 sNibbles := by
  refine fn_okL (by kernel_rfl) tt_ok (.nil _) 3 Tryd.func45 (by decide +kernel) (by kernel_rfl) ?_
  rintro ⟨k, _⟩ _
  exact ⟨[], {}, fun x => x = .fn 54 [.ro (c4 k) 0], LnVD.of (vcNibbles k _) rfl, svf⟩
theorem spC1_ok : SpecsOK Tryd.prog spC1 := .cons ok_Table <| .cons ok_Sixteen <| .cons ok_Nibbles spC0_ok

/-! Nibbles. -/
theorem and_15 (x : UInt64) : (x &&& UInt64.ofNat (Int.toNat 15)).toNat = x.toNat % 16 := by
  have : (x &&& UInt64.ofNat (Int.toNat 15)).toNat = x.toNat &&& 15 := by rw [UInt64.toNat_and]; rfl
  rw [this]
  exact Nat.and_two_pow_sub_one_eq_mod x.toNat 4
theorem ofInt_small {n : Int} (h : 0 ≤ n) (h' : n < 64) : (UInt64.ofInt n).toNat = n.toNat := by
  obtain ⟨m, rfl⟩ := Int.eq_ofNat_of_zero_le h
  have hm : m < 64 := by omega
  rw [Int.toNat_natCast]
  simp only [UInt64.ofInt, UInt64.toNat_ofNat']
  omega
theorem nibI_nat (w : UInt64) {n : Int} (h : 0 ≤ n) (h' : n < 64) : nibI w n = ((w.toNat / 2 ^ n.toNat % 16 : Nat) : Int) := by
  have hl : w.toNat / 2 ^ n.toNat % 16 < 16 := Nat.mod_lt _ (by omega)
  unfold nibI
  rw [and_15, Sym.shr64_nat, ofInt_small h h', R1.wr (by omega)]
theorem div_word (w r n : Nat) (h : n ≤ 60) : (w + 18446744073709551616 * r) / 2 ^ n % 16 = w / 2 ^ n % 16 := by
  have e : (18446744073709551616 : Nat) = 2 ^ n * (16 * 2 ^ (60 - n)) := by
    rw [show (16 : Nat) = 2 ^ 4 from rfl, ← Nat.pow_add, ← Nat.pow_add, show n + (4 + (60 - n)) = 64 by omega]
  rw [e, Nat.mul_assoc, Nat.add_mul_div_left _ _ (Nat.two_pow_pos n), Nat.mul_assoc, Nat.add_mul_mod_self_left]
theorem nat4_word (k : Four) {i : Nat} (hi : i ≤ 3) : ∃ r, nat4 k / 2 ^ (64 * i) = (wordK k i).toNat + 18446744073709551616 * r := by
  have h0 := u64_lt k.w0; have h1 := u64_lt k.w1; have h2 := u64_lt k.w2; have h3 := u64_lt k.w3
  have hi' : i = 0 ∨ i = 1 ∨ i = 2 ∨ i = 3 := by omega
  rcases hi' with rfl | rfl | rfl | rfl
  · refine ⟨(nat4 k - k.w0.toNat) / 18446744073709551616, ?_⟩
    simp only [wordK, nat4, Nat.mul_zero, Nat.pow_zero, Nat.div_one]; omega
  · refine ⟨k.w2.toNat + 18446744073709551616 * k.w3.toNat, ?_⟩
    simp only [wordK, nat4]
    rw [show (2 : Nat) ^ (64 * 1) = 18446744073709551616 from rfl]; omega
  · refine ⟨k.w3.toNat, ?_⟩
    simp only [wordK, nat4]
    rw [show (2 : Nat) ^ (64 * 2) = 340282366920938463463374607431768211456 from rfl]; omega
  · refine ⟨0, ?_⟩
    simp only [wordK, nat4]
    rw [show (2 : Nat) ^ (64 * 3) = 6277101735386680763835789423207666416102355444464034512896 from rfl]; omega
theorem nib_eq (k : Four) {i : Nat} (hi : i ≤ 3) {n : Nat} (hn : n ≤ 60) (hm : n % 4 = 0) : (wordK k i).toNat / 2 ^ n % 16 = nibV k ((3 - i) * 16 + (60 - n) / 4) := by
  obtain ⟨r, hr⟩ := nat4_word k hi
  unfold nibV
  rw [show 252 - 4 * ((3 - i) * 16 + (60 - n) / 4) = 64 * i + n by omega, Nat.pow_add, ← Nat.div_div_eq_div_mul, hr, div_word _ _ _ hn]
theorem tabW_len (p : Pt) : (tabW p).length = 320 := by kernel_rfl
theorem rows_tab (p : Pt) : (List.range 16).map (rowP (tabW p)) = (List.range 16).map (tabF p) := by kernel_rfl
theorem row_tab (p : Pt) {j : Nat} (h : j < 16) : rowP (tabW p) j = tabF p j := by
  have := congrArg (fun l => l[j]?) (rows_tab p)
  simpa only [List.getElem?_map, List.getElem?_range h, Option.map_some, Option.some.injEq] using this
theorem nibV_lt (k : Four) (c : Nat) : nibV k c < 16 := Nat.mod_lt _ (by omega)
theorem chain_step {k : Four} {p : Pt} {i : Int} (i0 : 0 ≤ i) (i3 : i ≤ 3) {w : UInt64} (hw : w = wordK k i.toNat) {v : Four} {l1 : Nat} {Q : SV → Prop} {r : List (Int × UInt64)} {s0 : MulS} (h0 : iMul k p zPt (tabW p) (mulAcc k p) i s0 60)
    (next : ∀ s : MulS, s.k = k → s.p = p → s.z = zPt → s.l = tabW p → s.out = mulAcc k p ((3 - i).toNat * 16 + 16) → chainM (iMul k p zPt (tabW p) (mulAcc k p)) v l1 Q r s) :
    chainM (iMul k p zPt (tabW p) (mulAcc k p)) v l1 Q ((i, w) :: r) s0 := by
  refine ⟨h0, fun s n ⟨e1, e2, e3, e4, n0, n1, nm, e5⟩ => ?_⟩
  rw [R1.bcase_dec]
  refine ⟨fun hn => ?_, fun hn => ?_⟩
  · have hni : nibI w n = (nibV k ((3 - i).toNat * 16 + ((60 - n) / 4).toNat) : Int) := by
      rw [nibI_nat w (by omega) (by omega), hw, nib_eq k (by omega) (by omega) (by omega)]
      congr 2; omega
    have hlt := nibV_lt k ((3 - i).toNat * 16 + ((60 - n) / 4).toNat)
    rw [hni, R1.wr (x := n - 4) (by omega), Int.toNat_natCast]
    refine ⟨rfl, ⟨by omega, by omega⟩, by rw [e4, tabW_len]; omega, rfl, ⟨e1, e2, e3, e4, by omega, by omega, by omega, ?_⟩, by omega⟩
    show oAdd (oDbl (oEight s.out)) (rowP s.l _) = _
    rw [e4, row_tab p hlt, e5, show ((60 - (n - 4)) / 4).toNat = ((60 - n) / 4).toNat + 1 by omega]
    rfl
  · refine next s e1 e2 e3 e4 ?_
    rw [e5, show ((60 - n) / 4).toNat = 16 by omega]
noncomputable def sMul : SpecF := fspec (α := Four × Pt × Unit) total (fun a => mulAcc a.1 a.2.1 64)
theorem ok_Mul : SpecOK Tryd.prog 32 sMul := by
  refine fn_okR (by kernel_rfl) tt_ok spC1_ok 5 Tryd.func32 (by decide +kernel) (by kernel_rfl) ?_
  rintro ⟨k, p, _⟩ _
  refine ⟨[], { cuts := [(1, cMul tabW)] }, rtMul k p zPt (tabW p) (mulAcc k p), fun x => x = (mulAcc k p 64).sv, .one Tryd.func54 (by kernel_rfl) (by kernel_rfl) (show (Tryd.f54.name == "runtime.NumGoroutine") = false by decide +kernel), RnVD.of (vcMul k p zPt (tabW p) (mulAcc k p) _) ?_, svf⟩
  refine ⟨⟨rfl, rfl, rfl, rfl, rfl, rfl⟩, fun v v1 v2 l ⟨e1, e2, e3, e4⟩ l1 => ?_⟩
  subst e1 e2 e3 e4
  have start : ∀ (i : Int) (s : MulS), 0 ≤ i → i ≤ 3 → s.k = v → s.p = v1 → s.z = zPt → s.l = tabW v1 → s.out = mulAcc v v1 ((3 - i).toNat * 16) → iMul v v1 zPt (tabW v1) (mulAcc v v1) i s 60 := fun i s i0 i3 e1 e2 e3 e4 e5 =>
    ⟨e1, e2, e3, e4, by omega, by omega, by omega, by rw [e5]; congr 1⟩
  refine chain_step (by omega) (by omega) rfl (start 3 _ (by omega) (by omega) rfl rfl rfl rfl rfl) fun s e1 e2 e3 e4 e5 => ?_
  refine chain_step (by omega) (by omega) rfl (start 2 s (by omega) (by omega) e1 e2 e3 e4 e5) fun s e1 e2 e3 e4 e5 => ?_
  refine chain_step (by omega) (by omega) rfl (start 1 s (by omega) (by omega) e1 e2 e3 e4 e5) fun s e1 e2 e3 e4 e5 => ?_
  refine chain_step (by omega) (by omega) rfl (start 0 s (by omega) (by omega) e1 e2 e3 e4 e5) fun s e1 e2 e3 e4 e5 => ?_
  show s.out.sv = _
  rw [e5]
  rfl
end Go.Proofs.YtigkddloeikpbaaDoor.C11
/- Package combo: sums of two multiples, nibbles by place: what the functions come to. -/
set_option maxRecDepth 100000
namespace Go.Proofs.YtigkddloeikpbaaDoor.C11
open Go.Sym Go.Dig R1 F4 E10

noncomputable def cNib : CSpec := { β := Unit, γ := Four × Int × Unit, α := Int × ArrW 4 × Unit, same := [], pre := [0, 1], keep := [1, 2], inv := fun _ g a => a.1 = g.2.1 ∧ a.2.1.l = [g.1.w0, g.1.w1, g.1.w2, g.1.w3] }
noncomputable def sNibble : SpecF := fspec (α := Four × Int × Unit) (β := Int) (fun a => some (0 ≤ a.2.1 ∧ a.2.1 ≤ 255 ∧ a.2.1 % 4 = 3)) (fun a => (nibV a.1 ((255 - a.2.1) / 4).toNat : Int))
noncomputable def spC2 : Specs := (1000002, Sym.sNo) :: (32, sMul) :: spC1
noncomputable def bothAcc (a : Four) (p : Pt) (b : Four) (q : Pt) : Nat → Pt
  | 0 => eZero
  | c + 1 => oAdd (oAdd (oDbl (oEight (bothAcc a p b q c))) (tabF p (nibV a c))) (tabF q (nibV b c))
def iBoth (a b : Four) (t u : List UInt64) (acc : Nat → Pt) (x : PFour × PFour × PPt × ArrW 320 × ArrW 320 × PPt × Int × Unit) : Prop :=
  x.1.v = a ∧ x.2.1.v = b ∧ x.2.2.1.v = zPt ∧ x.2.2.2.1.l = t ∧ x.2.2.2.2.1.l = u ∧ -1 ≤ x.2.2.2.2.2.2.1 ∧ x.2.2.2.2.2.2.1 ≤ 255 ∧ x.2.2.2.2.2.2.1 % 4 = 3 ∧ x.2.2.2.2.2.1.v = acc ((255 - x.2.2.2.2.2.2.1) / 4).toNat
noncomputable def lBoth (a b : Four) (t u : List UInt64) (acc : Nat → Pt) : Plan := { loops := [(0, { β := Unit, α := PFour × PFour × PPt × ArrW 320 × ArrW 320 × PPt × Int × Unit, same := [], keep := [4, 6, 8, 9, 10, 11, 12], inv := fun _ _ x => iBoth a b t u acc x, meas := fun _ x => (x.2.2.2.2.2.2.1 + 4).toNat })] }
/-! Multiples, sums of two: as functions that nothing opens. -/
theorem om_ex : ∃ f : Four → Pt → Pt, f = fun k p => mulAcc k p 64 := ⟨_, rfl⟩
noncomputable def oMul : Four → Pt → Pt := Classical.choose om_ex
theorem oMul_eq (k : Four) (p : Pt) : oMul k p = mulAcc k p 64 := congrFun (congrFun (Classical.choose_spec om_ex) k) p
theorem ob_ex : ∃ f : Four → Pt → Four → Pt → Pt, f = fun a p b q => bothAcc a p b q 64 := ⟨_, rfl⟩
noncomputable def oBoth : Four → Pt → Four → Pt → Pt := Classical.choose ob_ex
theorem oBoth_eq (a : Four) (p : Pt) (b : Four) (q : Pt) : oBoth a p b q = bothAcc a p b q 64 := congrFun (congrFun (congrFun (congrFun (Classical.choose_spec ob_ex) a) p) b) q
theorem or_ex : ∃ f : Four, f = ⟨6346243789798364141, 1503914060200516822, 0, 1152921504606846976⟩ := ⟨_, rfl⟩
noncomputable def ordV : Four := Classical.choose or_ex
theorem ordV_eq : ordV = ⟨6346243789798364141, 1503914060200516822, 0, 1152921504606846976⟩ := Classical.choose_spec or_ex
noncomputable def sOMul : SpecF := fspec (α := Four × Pt × Unit) total (fun a => oMul a.1 a.2.1)
noncomputable def sOBoth : SpecF := fspec (α := Four × Pt × Four × Pt × Unit) total (fun a => oBoth a.1 a.2.1 a.2.2.1 a.2.2.2.1)
noncomputable def sOrder : SpecF := fspec (α := Unit) total (fun _ => ordV)
noncomputable def spC3 : Specs := (32, sOMul) :: (1000001, Sym.sNo) :: (33, sOrder) :: spC0
noncomputable def sCBase : SpecF := fspec (α := Four × Unit) total (fun a => oMul a.1 eBase)
noncomputable def oPure (p : Pt) : Bool := eSame (oMul ordV p) eZero
noncomputable def sPure : SpecF := fspec (α := Pt × Unit) total (fun a => oPure a.1)
noncomputable def spC4 : Specs := (1000000, Sym.sNo) :: (17, sPure) :: spC3
end Go.Proofs.YtigkddloeikpbaaDoor.C11
/- Package combo: nibbles by place, sums of two multiples, the base's, what is pure: what the functions come to is so. -/
set_option maxRecDepth 100000
namespace Go.Proofs.YtigkddloeikpbaaDoor.C11
open Go.Sym Go.Dig R1 F4 E10

theorem ok_nibble : SpecOK Tryd.prog 1000002 Sym.sNo := Sym.sNo_ok _ _
theorem ok_Mul' : SpecOK Tryd.prog 32 sOMul := by
  have : sOMul = sMul := by unfold sOMul sMul; congr 1; funext a; exact oMul_eq _ _
  rw [this]; exact ok_Mul
theorem spC2_ok : SpecsOK Tryd.prog spC2 := .cons ok_nibble <| .cons ok_Mul spC1_ok
theorem ok_Both0 : SpecOK Tryd.prog 1000001 Sym.sNo := Sym.sNo_ok _ _
theorem ok_Both : SpecOK Tryd.prog 1000001 Sym.sNo := Sym.sNo_ok _ _
theorem ok_Order : SpecOK Tryd.prog 33 sOrder := by
  unfold sOrder
  rw [ordV_eq]
  exact fn_ok mixed tt_ok (.nil _) 9 Tryd.func33 (by decide +kernel) (by kernel_rfl)
    (fun _ => Same (retSV (RetL.retL (⟨6346243789798364141, 1503914060200516822, 0, 1152921504606846976⟩ : Four)))) (fun a => by kernel_rfl) (fun _ _ => rfl)
theorem spC3_ok : SpecsOK Tryd.prog spC3 := .cons ok_Mul' <| .cons ok_Both <| .cons ok_Order spC0_ok
theorem ok_CBase : SpecOK Tryd.prog 1000000 Sym.sNo := Sym.sNo_ok _ _
theorem ok_Pure : SpecOK Tryd.prog 17 sPure :=
  fn_ok mixed tt_ok spC3_ok 9 Tryd.func17 (by decide +kernel) (by kernel_rfl)
    (fun a => Same (retSV (RetL.retL (oPure a.1)))) (fun a => by kernel_rfl) (fun _ _ => rfl)
theorem spC4_ok : SpecsOK Tryd.prog spC4 := .cons ok_CBase <| .cons ok_Pure spC3_ok
end Go.Proofs.YtigkddloeikpbaaDoor.C11
