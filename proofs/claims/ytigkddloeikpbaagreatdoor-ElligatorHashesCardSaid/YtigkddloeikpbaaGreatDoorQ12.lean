/- A symbolic machine for Go functions, and what the functions that the law reaches come to: FieldC. -/
import Derived.Test.YtigkddloeikpbaaGreatDoorQ11
/- Package field: whole elements, powers, roots: what its functions compute, and what that is as numbers. -/
namespace Go.Proofs.YtigkddloeikpbaaGreatDoor
open Go.Sym Go.NumP

def wCarry (a : Five) : Five :=
  let c0 := shr64 (a.x0 + 19) 51
  let c1 := shr64 (a.x1 + c0) 51
  let c2 := shr64 (a.x2 + c1) 51
  let c3 := shr64 (a.x3 + c2) 51
  let c4 := shr64 (a.x4 + c3) 51
  let y0 := a.x0 + 19 * c4
  let y1 := a.x1 + shr64 y0 51
  let y2 := a.x2 + shr64 y1 51
  let y3 := a.x3 + shr64 y2 51
  let y4 := a.x4 + shr64 y3 51
  ⟨y0 &&& 2251799813685247, y1 &&& 2251799813685247, y2 &&& 2251799813685247, y3 &&& 2251799813685247, y4 &&& 2251799813685247⟩
def fWhole (a : Five) : Five := wCarry (fCarry (fCarry a))
/-- The limbs of the number itself. -/
def IsW (a : Five) : Prop := a.x0.toNat < 2251799813685248 ∧ a.x1.toNat < 2251799813685248 ∧ a.x2.toNat < 2251799813685248 ∧ a.x3.toNat < 2251799813685248 ∧ a.x4.toNat < 2251799813685248
theorem wCarry_ok {a : Five} (h : a.x0.toNat < 2251799813685248 + 19 * 8192 ∧ a.x1.toNat < 2251799813685248 ∧ a.x2.toNat < 2251799813685248 ∧ a.x3.toNat < 2251799813685248 ∧ a.x4.toNat < 2251799813685248) (hv : V a < 2 * p5) : IsW (wCarry a) ∧ V (wCarry a) = V a % p5 := by
  obtain ⟨h0, h1, h2, h3, h4⟩ := h
  unfold wCarry
  simp only
  have n19 : (19 : UInt64).toNat = 19 := rfl
  have e0 : (a.x0 + 19).toNat = a.x0.toNat + 19 := by rw [add_small (by omega), n19]
  have s0 := shr51 (a.x0 + 19)
  generalize shr64 (a.x0 + 19) 51 = c0 at *
  have e1 : (a.x1 + c0).toNat = a.x1.toNat + c0.toNat := add_small (by omega)
  have s1 := shr51 (a.x1 + c0)
  generalize shr64 (a.x1 + c0) 51 = c1 at *
  have e2 : (a.x2 + c1).toNat = a.x2.toNat + c1.toNat := add_small (by omega)
  have s2 := shr51 (a.x2 + c1)
  generalize shr64 (a.x2 + c1) 51 = c2 at *
  have e3 : (a.x3 + c2).toNat = a.x3.toNat + c2.toNat := add_small (by omega)
  have s3 := shr51 (a.x3 + c2)
  generalize shr64 (a.x3 + c2) 51 = c3 at *
  have e4 : (a.x4 + c3).toNat = a.x4.toNat + c3.toNat := add_small (by omega)
  have s4 := shr51 (a.x4 + c3)
  generalize shr64 (a.x4 + c3) 51 = c4 at *
  obtain ⟨A, hA⟩ : ∃ A, A = V a := ⟨_, rfl⟩
  rw [← hA] at hv ⊢
  replace hA : A = a.x0.toNat + 2251799813685248 * a.x1.toNat + 5070602400912917605986812821504 * a.x2.toNat + 11417981541647679048466287755595961091061972992 * a.x3.toNat + 25711008708143844408671393477458601640355247900524685364822016 * a.x4.toNat := hA
  replace hv : A < 2 * 57896044618658097711785492504343953926634992332820282019728792003956564819949 := hv
  have hc : c4.toNat = (A + 19) / 57896044618658097711785492504343953926634992332820282019728792003956564819968 := by omega
  have hc1 : c4.toNat ≤ 1 := by omega
  have e5 : (19 * c4).toNat = 19 * c4.toNat := by rw [UInt64.toNat_mul, n19]; omega
  have f0 : (a.x0 + 19 * c4).toNat = a.x0.toNat + 19 * c4.toNat := by rw [add_small (by omega), e5]
  generalize a.x0 + 19 * c4 = y0 at *
  have t0 := shr51 y0
  have m0 := and51 y0
  have f1 : (a.x1 + shr64 y0 51).toNat = a.x1.toNat + (shr64 y0 51).toNat := add_small (by omega)
  generalize a.x1 + shr64 y0 51 = y1 at *
  have t1 := shr51 y1
  have m1 := and51 y1
  have f2 : (a.x2 + shr64 y1 51).toNat = a.x2.toNat + (shr64 y1 51).toNat := add_small (by omega)
  generalize a.x2 + shr64 y1 51 = y2 at *
  have t2 := shr51 y2
  have m2 := and51 y2
  have f3 : (a.x3 + shr64 y2 51).toNat = a.x3.toNat + (shr64 y2 51).toNat := add_small (by omega)
  generalize a.x3 + shr64 y2 51 = y3 at *
  have t3 := shr51 y3
  have m3 := and51 y3
  have f4 : (a.x4 + shr64 y3 51).toNat = a.x4.toNat + (shr64 y3 51).toNat := add_small (by omega)
  generalize a.x4 + shr64 y3 51 = y4 at *
  have m4 := and51 y4
  refine ⟨?_, ?_⟩
  · simp only [IsW]
    refine ⟨?_, ?_, ?_, ?_, ?_⟩ <;> omega
  · simp only [V, m0, m1, m2, m3, m4]
    show _ = A % 57896044618658097711785492504343953926634992332820282019728792003956564819949
    by_cases hle : c4.toNat = 0
    · rw [Nat.mod_eq_of_lt (a := A) (by omega)]; omega
    · rw [Nat.mod_eq_sub_mod (a := A) (by omega), Nat.mod_eq_of_lt (a := A - _) (by omega)]; omega
theorem V_lt_carry {a : Five} (h : a.x0.toNat < 2251799813685248 + 19 * 8192 ∧ a.x1.toNat < 2251799813685248 ∧ a.x2.toNat < 2251799813685248 ∧ a.x3.toNat < 2251799813685248 ∧ a.x4.toNat < 2251799813685248) : V a < 2 * p5 := by
  obtain ⟨h0, h1, h2, h3, h4⟩ := h
  simp only [V, p5]; omega
theorem fWhole_ok {a : Five} (h : Tame a) : IsW (fWhole a) ∧ V (fWhole a) = V a % p5 := by
  obtain ⟨h0, h1, h2, h3, h4⟩ := h
  obtain ⟨⟨k, hk⟩, g⟩ := fCarry_ok a (by omega) (by omega) (by omega) (by omega) (by omega)
  obtain ⟨g0, g1, g2, g3, g4⟩ := g
  obtain ⟨⟨k', hk'⟩, g'⟩ := fCarry_ok (fCarry a) (by omega) (by omega) (by omega) (by omega) (by omega)
  obtain ⟨w1, w2⟩ := wCarry_ok g' (V_lt_carry g')
  exact ⟨w1, w2.trans ((mod_of_add hk').trans (mod_of_add hk))⟩
theorem IsW.ext {a b : Five} (ha : IsW a) (hb : IsW b) (h : V a = V b) : a = b := by
  obtain ⟨a0, a1, a2, a3, a4⟩ := ha
  obtain ⟨b0, b1, b2, b3, b4⟩ := hb
  unfold V at h
  have e0 : a.x0 = b.x0 := UInt64.toNat_inj.1 (by omega)
  have e1 : a.x1 = b.x1 := UInt64.toNat_inj.1 (by omega)
  have e2 : a.x2 = b.x2 := UInt64.toNat_inj.1 (by omega)
  have e3 : a.x3 = b.x3 := UInt64.toNat_inj.1 (by omega)
  have e4 : a.x4 = b.x4 := UInt64.toNat_inj.1 (by omega)
  cases a; cases b; simp_all
theorem IsW.tame {a : Five} (ha : IsW a) : Tame a := by
  obtain ⟨a0, a1, a2, a3, a4⟩ := ha
  refine ⟨?_, ?_, ?_, ?_, ?_⟩ <;> omega
/-- An element's number. -/
def N5 (a : Five) : Nat := V a % p5
theorem N5_lt (a : Five) : N5 a < p5 := Nat.mod_lt _ (by decide)
def eq5 (x y : Five) : Bool := (x.x0 == y.x0) && ((x.x1 == y.x1) && ((x.x2 == y.x2) && ((x.x3 == y.x3) && ((x.x4 == y.x4) && true))))
theorem eq5_iff {x y : Five} : eq5 x y = true ↔ x = y := by
  cases x; cases y; simp [eq5]
def fSame (a b : Five) : Bool := eq5 (fWhole a) (fWhole b)
theorem fSame_ok {a b : Five} (ha : Tame a) (hb : Tame b) : fSame a b = decide (N5 a = N5 b) := by
  obtain ⟨a1, a2⟩ := fWhole_ok ha
  obtain ⟨b1, b2⟩ := fWhole_ok hb
  rw [Bool.eq_iff_iff]
  simp only [fSame, eq5_iff, decide_eq_true_eq]
  unfold N5
  constructor
  · intro h; rw [← a2, ← b2, h]
  · intro h; exact IsW.ext a1 b1 (by rw [a2, b2, h])
def fNegB (a : Five) : Bool := ((fWhole a).x0 &&& 1) == 1
theorem and1 (x : UInt64) : (x &&& 1).toNat = x.toNat % 2 := by
  rw [UInt64.toNat_and, show (1 : UInt64).toNat = 2 ^ 1 - 1 from rfl, Nat.and_two_pow_sub_one_eq_mod]
theorem fNegB_ok {a : Five} (ha : Tame a) : fNegB a = decide (N5 a % 2 = 1) := by
  obtain ⟨a1, a2⟩ := fWhole_ok ha
  rw [Bool.eq_iff_iff]
  simp only [fNegB, beq_iff_eq, decide_eq_true_eq]
  unfold N5
  rw [← a2, ← UInt64.toNat_inj, and1, show (1 : UInt64).toNat = 1 from rfl]
  unfold V
  omega
def sel (c x y : UInt64) : UInt64 := x &&& (0 - (c &&& 1)) ||| y &&& ~~~(0 - (c &&& 1))
def fSel (c : UInt64) (a b : Five) : Five := ⟨sel c a.x0 b.x0, sel c a.x1 b.x1, sel c a.x2 b.x2, sel c a.x3 b.x3, sel c a.x4 b.x4⟩
theorem sel_ok (c x y : UInt64) : sel c x y = if c.toNat % 2 = 1 then x else y := by
  have h := and1 c
  unfold sel
  split
  · rename_i h1
    have : c &&& 1 = 1 := UInt64.toNat_inj.1 (by rw [h, h1]; rfl)
    rw [this, show (0 - 1 : UInt64) = -1 from rfl]
    have e : ~~~(-1 : UInt64) = 0 := rfl
    rw [e, UInt64.and_zero, UInt64.or_zero, UInt64.and_neg_one]
  · rename_i h1
    have : c &&& 1 = 0 := UInt64.toNat_inj.1 (by rw [h]; show _ = 0; omega)
    rw [this, show (0 - 0 : UInt64) = 0 from rfl, UInt64.and_zero, UInt64.zero_or]
    have e : ~~~(0 : UInt64) = -1 := rfl
    rw [e, UInt64.and_neg_one]
theorem fSel_ok (c : UInt64) (a b : Five) : fSel c a b = if c.toNat % 2 = 1 then a else b := by
  unfold fSel
  simp only [sel_ok]
  split <;> rfl
def fSmall (n : UInt32) : Five := ⟨n.toUInt64, 0, 0, 0, 0⟩
theorem fSmall_ok (n : UInt32) : Tame (fSmall n) ∧ V (fSmall n) = n.toNat := by
  have := u32_lt n
  have e : (n.toUInt64).toNat = n.toNat := UInt32.toNat_toUInt64 n
  have z : (0 : UInt64).toNat = 0 := rfl
  refine ⟨⟨?_, ?_, ?_, ?_, ?_⟩, ?_⟩ <;> simp only [fSmall, V, e, z] <;> omega
theorem fZero_ok : Tame fZero ∧ V fZero = 0 := by
  refine ⟨⟨?_, ?_, ?_, ?_, ?_⟩, ?_⟩ <;> decide
theorem fNeg_ok {a : Five} (ha : Tame a) : Tame (fNeg a) ∧ N5 (fNeg a) = (p5 - N5 a) % p5 := by
  obtain ⟨h1, h2⟩ := fSub_ok fZero_ok.1 ha
  refine ⟨h1, ?_⟩
  unfold N5
  show V (fSub fZero a) % p5 = _
  rw [h2, fZero_ok.2]
  obtain ⟨a0, a1, a2, a3, a4⟩ := ha
  have : V a < 4 * p5 := by simp only [V, p5]; omega
  generalize V a = x at *
  simp only [p5] at *
  omega

/-! Powers. -/
theorem fSq_ok {a : Five} (ha : Tame a) : ∀ n : Nat, Tame (fSq n a) ∧ V (fSq n a) % p5 = V a ^ (2 ^ n) % p5
  | 0 => ⟨ha, by simp [fSq]⟩
  | n + 1 => by
    obtain ⟨h1, h2⟩ := fSq_ok ha n
    obtain ⟨k1, k2⟩ := fMul_ok h1 h1
    refine ⟨k1, ?_⟩
    show V (fMul (fSq n a) (fSq n a)) % p5 = _
    rw [k2, Nat.mul_mod, h2, ← Nat.mul_mod, ← Nat.pow_add]
    congr 2
    rw [Nat.pow_succ]; omega
/-- It is that power. -/
def Pw (x : Nat) (a : Five) (e : Nat) : Prop := Tame a ∧ V a % p5 = x ^ e % p5
theorem Pw.sq {x e : Nat} {a : Five} (h : Pw x a e) (n : Nat) : Pw x (fSq n a) (e * 2 ^ n) := by
  obtain ⟨h1, h2⟩ := fSq_ok h.1 n
  refine ⟨h1, ?_⟩
  rw [h2, Nat.pow_mod, h.2, ← Nat.pow_mod, ← Nat.pow_mul]
theorem Pw.mul {x e f : Nat} {a b : Five} (h : Pw x a e) (k : Pw x b f) : Pw x (fMul a b) (e + f) := by
  obtain ⟨h1, h2⟩ := fMul_ok h.1 k.1
  refine ⟨h1, ?_⟩
  rw [h2, Nat.mul_mod, h.2, k.2, ← Nat.mul_mod, ← Nat.pow_add]
theorem Pw.one {a : Five} (h : Tame a) : Pw (V a) a 1 := ⟨h, by rw [Nat.pow_one]⟩
structure PartsV where
  f250 : Five
  eleven : Five
def fNine (a : Five) : Five := fMul (fSq 2 (fSq 1 a)) a
def fEleven (a : Five) : Five := fMul (fNine a) (fSq 1 a)
def f5 (a : Five) : Five := fMul (fSq 1 (fEleven a)) (fNine a)
def f10 (a : Five) : Five := fMul (fSq 5 (f5 a)) (f5 a)
def f20 (a : Five) : Five := fMul (fSq 10 (f10 a)) (f10 a)
def f40 (a : Five) : Five := fMul (fSq 20 (f20 a)) (f20 a)
def f50 (a : Five) : Five := fMul (fSq 10 (f40 a)) (f10 a)
def f100 (a : Five) : Five := fMul (fSq 50 (f50 a)) (f50 a)
def f200 (a : Five) : Five := fMul (fSq 100 (f100 a)) (f100 a)
def f250 (a : Five) : Five := fMul (fSq 50 (f200 a)) (f50 a)
theorem parts_ok {x : Nat} {a : Five} (h : Pw x a 1) : Pw x (fEleven a) 11 ∧ Pw x (f250 a) (2 ^ 250 - 1) := by
  have h2 : Pw x (fSq 1 a) 2 := h.sq 1
  have h9 : Pw x (fNine a) 9 := (h2.sq 2).mul h
  have h11 : Pw x (fEleven a) 11 := h9.mul h2
  have h5 : Pw x (f5 a) 31 := (h11.sq 1).mul h9
  have h10 : Pw x (f10 a) 1023 := (h5.sq 5).mul h5
  have h20 : Pw x (f20 a) (2 ^ 20 - 1) := (h10.sq 10).mul h10
  have h40 : Pw x (f40 a) (2 ^ 40 - 1) := (h20.sq 20).mul h20
  have h50 : Pw x (f50 a) (2 ^ 50 - 1) := (h40.sq 10).mul h10
  have h100 : Pw x (f100 a) (2 ^ 100 - 1) := (h50.sq 50).mul h50
  have h200 : Pw x (f200 a) (2 ^ 200 - 1) := (h100.sq 100).mul h100
  exact ⟨h11, (h200.sq 50).mul h50⟩
def fInv (a : Five) : Five := fMul (fSq 5 (f250 a)) (fEleven a)
theorem fInv_ok {a : Five} (h : Tame a) : Pw (V a) (fInv a) (p5 - 2) := by
  obtain ⟨h1, h2⟩ := parts_ok (Pw.one h)
  exact (h2.sq 5).mul h1
def fEven (a : Five) : Five := fSel (if fNegB a then 1 else 0) (fNeg a) a
def fImag : Five := fEven (fMul (fSq 3 (f250 (fSmall 2))) (fSmall 8))
theorem fEven_ok {a : Five} (h : Tame a) : Tame (fEven a) ∧ N5 (fEven a) = if N5 a % 2 = 1 then p5 - N5 a else N5 a := by
  unfold fEven
  rw [fSel_ok, fNegB_ok h]
  have hn := fNeg_ok h
  have := N5_lt a
  by_cases h1 : N5 a % 2 = 1
  · simp only [h1, decide_true, if_true]
    rw [if_pos (by rfl)]
    refine ⟨hn.1, ?_⟩
    rw [hn.2, Nat.mod_eq_of_lt (by omega)]
  · simp only [h1, decide_false, Bool.false_eq_true, if_false]
    rw [if_neg (by decide)]
    exact ⟨h, rfl⟩
end Go.Proofs.YtigkddloeikpbaaGreatDoor
