/- A symbolic machine for Go functions, and what the functions that the law reaches come to: FieldP, FieldQ, SymS, Law4c. -/
import Derived.Test.YtigkddloeikpbaaGreatDoorQ10
import Derived.Test.YtigkddloeikpbaaGreatDoorQ14
import Derived.Test.YtigkddloeikpbaaGreatDoorQ3
import Derived.Test.YtigkddloeikpbaaGreatDoorQ15
/- 2^255 - 19 is a prime; numbers modulo it: inverses, roots of squares. Plain. -/
set_option maxRecDepth 10000
namespace Go.NumP

theorem prime_of' {n r a k : Nat} (hr : Prime r) (hn : 2 ≤ n) (hd : (n - 1) % r = 0) (hk : n < 2 ^ k) (h1 : pm n k a (n - 1) = 1) (h2 : Nat.gcd (pm n k a ((n - 1) / r) + (n - 1)) n = 1) (h3 : n / (r * r) + 1 < (n - 1) / r % r) : Prime n := by
  refine prime_of (a := a) hr hn hd ?_ ?_ h3
  · rw [← pm_ok n k a (n - 1) (by omega)]; exact h1
  · have : (n - 1) / r ≤ n - 1 := Nat.div_le_self _ _
    rw [← pm_ok n k a ((n - 1) / r) (by omega)]; exact h2
theorem prime_a : Prime 8574133 := prime_small 2930 (by decide) (by decide +kernel) (by decide)
theorem prime_b : Prime 1919519569386763 := prime_of' (a := 2) (k := 60) prime_a (by decide) (by decide +kernel) (by decide +kernel) (by decide +kernel) (by decide +kernel) (by decide +kernel)
theorem prime_c : Prime 75445702479781427272750846543864801 := prime_of' (a := 2) (k := 130) prime_b (by decide) (by decide +kernel) (by decide +kernel) (by decide +kernel) (by decide +kernel) (by decide +kernel)
theorem prime_d : Prime 74058212732561358302231226437062788676166966415465897661863160754340907 := prime_of' (a := 2) (k := 255) prime_c (by decide) (by decide +kernel) (by decide +kernel) (by decide +kernel) (by decide +kernel) (by decide +kernel)
theorem prime_p : Prime 57896044618658097711785492504343953926634992332820282019728792003956564819949 := prime_of' (a := 2) (k := 256) prime_d (by decide) (by decide +kernel) (by decide +kernel) (by decide +kernel) (by decide +kernel) (by decide +kernel)
/-! Numbers modulo a prime. -/
theorem lt_not_dvd {p a : Nat} (h0 : 0 < a) (h : a < p) : ¬ p ∣ a := fun hd => by have := Nat.le_of_dvd h0 hd; omega
section
variable {p : Nat} (hp : Prime p)
include hp
theorem fermat_lt {a : Nat} (h0 : 0 < a) (h : a < p) : a ^ (p - 1) % p = 1 := fermat hp (lt_not_dvd h0 h)
/-- What is the same times what is not nought is the same. -/
theorem cancel {a x y : Nat} (h0 : 0 < a) (h : a < p) (e : x * a % p = y * a % p) : x % p = y % p := by
  have h2 := hp.1
  have key : ∀ z : Nat, z * a % p * a ^ (p - 2) % p = z % p := fun z => by
    rw [Nat.mod_mul_mod, Nat.mul_assoc, ← Nat.pow_succ', show (p - 2).succ = p - 1 by omega, Nat.mul_mod, fermat_lt hp h0 h, Nat.mul_one, Nat.mod_mod]
  have := key x
  rw [e, key y] at this
  exact this.symm
/-- Squares that are the same. -/
theorem sq_eq {x y : Nat} (hx : x < p) (hy : y < p) (h : x * x % p = y * y % p) : x = y ∨ x + y = p ∨ (x = 0 ∧ y = 0) := by
  have key : ∀ {x y : Nat}, x < p → y ≤ x → x * x % p = y * y % p → x = y ∨ x + y = p ∨ (x = 0 ∧ y = 0) := fun {x y} hx hle h => by
    have hd : p ∣ x * x - y * y := sub_dvd h
    have e : x * x - y * y = (x + y) * (x - y) := by
      obtain ⟨d, rfl⟩ : ∃ d, x = y + d := ⟨x - y, by omega⟩
      rw [Nat.add_sub_cancel_left]
      have : (y + d) * (y + d) = y * y + (y + d + y) * d := by grind
      omega
    rw [e] at hd
    rcases euclid hp hd with h1 | h1
    · obtain ⟨c, hc⟩ := h1
      have : c = 0 ∨ c = 1 := by
        rcases c with _ | _ | c
        · exact .inl rfl
        · exact .inr rfl
        · exfalso
          have : p * 2 ≤ p * (c + 1 + 1) := Nat.mul_le_mul_left p (by omega)
          omega
      rcases this with rfl | rfl
      · exact .inr (.inr (by omega))
      · exact .inr (.inl (by omega))
    · left
      have := Nat.eq_zero_of_dvd_of_lt h1 (by omega)
      omega
  by_cases hle : y ≤ x
  · exact key hx hle h
  · rcases key hy (Nat.le_of_not_le hle) h.symm with h | h | h
    · exact .inl h.symm
    · exact .inr (.inl (by omega))
    · exact .inr (.inr ⟨h.2, h.1⟩)
end
end Go.NumP
/- Package field: roots, inverses and signs as numbers. -/
set_option maxRecDepth 10000
namespace Go.Proofs.YtigkddloeikpbaaGreatDoor.F4
open Go.Sym Go.Dig R1

theorem mulC {a a' b b' p : Nat} (h : a % p = a' % p) (k : b % p = b' % p) : a * b % p = a' * b' % p := by rw [Nat.mul_mod, h, k, ← Nat.mul_mod]
theorem powC {a a' p : Nat} (h : a % p = a' % p) (n : Nat) : a ^ n % p = a' ^ n % p := by rw [Nat.pow_mod, h, ← Nat.pow_mod]
theorem hp5 : NumP.Prime p5 := NumP.prime_p
theorem N5_mod (a : Five) : N5 a % p5 = N5 a := Nat.mod_eq_of_lt (N5_lt a)
theorem N5_mul {a b : Five} (ha : Tame a) (hb : Tame b) : N5 (fMul a b) = N5 a * N5 b % p5 := by
  unfold N5; rw [(fMul_ok ha hb).2, Nat.mul_mod]
theorem N5_add {a b : Five} (ha : Tame a) (hb : Tame b) : N5 (fAdd a b) = (N5 a + N5 b) % p5 := by
  unfold N5; rw [(fAdd_ok ha hb).2, Nat.add_mod]
theorem N5_sub {a b : Five} (ha : Tame a) (hb : Tame b) : N5 (fSub a b) = (N5 a + p5 - N5 b) % p5 := by
  unfold N5
  rw [(fSub_ok ha hb).2]
  have hV : V b ≤ 4 * p5 := by
    obtain ⟨a0, a1, a2, a3, a4⟩ := hb
    simp only [V, p5]; omega
  generalize V a = x at *
  generalize V b = y at *
  simp only [p5] at *
  omega
theorem tame_mul {a b : Five} (ha : Tame a) (hb : Tame b) : Tame (fMul a b) := (fMul_ok ha hb).1
theorem tame_iff (a : Five) : tm a = true ↔ Tame a := by
  unfold tm Tame
  simp only [Bool.and_eq_true, Bool.not_eq_true', decide_eq_false_iff_not, UInt64.le_iff_toNat_le]
  rw [show (4503599627370496 : UInt64).toNat = 4503599627370496 from rfl]
  omega
theorem N5_small (n : UInt32) : Tame (smallV n) ∧ N5 (smallV n) = n.toNat := by
  rw [smallV_eq]
  refine ⟨(fSmall_ok n).1, ?_⟩
  unfold N5
  rw [(fSmall_ok n).2]
  have := u32_lt n
  exact Nat.mod_eq_of_lt (by simp only [p5]; omega)
theorem N5_zero : Tame fZero ∧ N5 fZero = 0 := ⟨fZero_ok.1, by unfold N5; rw [fZero_ok.2]; exact Nat.zero_mod _⟩
/-- A power, as a number. -/
theorem Pw.n5 {x e : Nat} {a : Five} (h : Pw x a e) : N5 a = x ^ e % p5 := h.2

/-! Roots. -/
theorem e8_ex : ∃ e : Nat, e = 7237005577332262213973186563042994240829374041602535252466099000494570602493 := ⟨_, rfl⟩
/-- (p - 5) / 8. -/
noncomputable def E8 : Nat := Classical.choose e8_ex
theorem E8_eq : E8 = 7237005577332262213973186563042994240829374041602535252466099000494570602493 := Classical.choose_spec e8_ex
theorem v3_ok {v : Five} (hv : Tame v) : Tame (v3 v) ∧ N5 (v3 v) = N5 v ^ 3 % p5 := by
  have h1 := tame_mul hv hv
  refine ⟨tame_mul h1 hv, ?_⟩
  unfold v3
  rw [N5_mul h1 hv, N5_mul hv hv, Nat.mod_mul_mod]
  congr 1
  grind
theorem uv7_ok {u v : Five} (hu : Tame u) (hv : Tame v) : Tame (uv7 u v) ∧ N5 (uv7 u v) = N5 u * N5 v ^ 7 % p5 := by
  obtain ⟨t3, e3⟩ := v3_ok hv
  have h6 := tame_mul t3 t3
  have hvu := tame_mul hv hu
  refine ⟨tame_mul h6 hvu, ?_⟩
  unfold uv7
  rw [N5_mul h6 hvu, N5_mul t3 t3, N5_mul hv hu, e3]
  refine (mulC ((Nat.mod_mod _ _).trans (mulC (Nat.mod_mod _ _) (Nat.mod_mod _ _))) (Nat.mod_mod _ _)).trans ?_
  congr 1
  grind
/-- The number that is tried. -/
noncomputable def candN (u v : Nat) : Nat := u * v ^ 3 * (u * v ^ 7) ^ E8 % p5
theorem cand_ok {u v : Five} (hu : Tame u) (hv : Tame v) : Tame (fCand u v) ∧ N5 (fCand u v) = candN (N5 u) (N5 v) := by
  obtain ⟨t3, e3⟩ := v3_ok hv
  obtain ⟨t7, e7⟩ := uv7_ok hu hv
  have hP := ((parts_ok (Pw.one t7)).2.sq 2).mul (Pw.one t7)
  have ht := tame_mul hu t3
  refine ⟨tame_mul ht hP.1, ?_⟩
  unfold fCand
  rw [N5_mul ht hP.1, N5_mul hu t3, e3, Pw.n5 hP, show (2 ^ 250 - 1) * 2 ^ 2 + 1 = E8 by rw [E8_eq]]
  have e7' : V (uv7 u v) % p5 = N5 u * N5 v ^ 7 % p5 := e7
  exact mulC ((Nat.mod_mod _ _).trans (mulC rfl (Nat.mod_mod _ _))) ((Nat.mod_mod _ _).trans (powC e7' _))
theorem check_ok {u v : Five} (hu : Tame u) (hv : Tame v) : Tame (fCheck u v) ∧ N5 (fCheck u v) = N5 v * (candN (N5 u) (N5 v) * candN (N5 u) (N5 v)) % p5 := by
  obtain ⟨tc, ec⟩ := cand_ok hu hv
  have h2 := tame_mul tc tc
  refine ⟨tame_mul hv h2, ?_⟩
  unfold fCheck
  rw [N5_mul hv h2, N5_mul tc tc, ec]
  exact mulC rfl (Nat.mod_mod _ _)

theorem p5_pos : 0 < p5 := by decide
theorem fm {a : Nat} (h0 : a % p5 ≠ 0) : a ^ (p5 - 1) % p5 = 1 := by
  have := NumP.fermat_lt hp5 (a := a % p5) (by omega) (Nat.mod_lt _ p5_pos)
  exact (powC (Nat.mod_mod _ _).symm _).trans this
theorem powid2 (u v x y : Nat) : x * u * (v ^ 3 * y) = u * v ^ 3 * (x * y) := by grind
theorem pow_of {m a e c : Nat} (k : Nat) (he : e < 2 ^ k) (h : NumP.pm m k a e = c) : a ^ e % m = c := (NumP.pm_ok m k a e he).symm.trans h
/-- What the reference tries is the same number. -/
theorem rt1_eq {u v : Nat} (h0 : v % p5 ≠ 0) : rt1 (u * (v ^ (p5 - 2) % p5) % p5) = candN u v := by
  unfold rt1 candN
  rw [pV_eq, show (p5 + 3) / 8 = E8 + 1 by rw [E8_eq]; decide +kernel]
  have h1 : (u * (v ^ (p5 - 2) % p5) % p5) ^ (E8 + 1) % p5 = (u * v ^ (p5 - 2)) ^ (E8 + 1) % p5 := powC ((Nat.mod_mod _ _).trans (mulC rfl (Nat.mod_mod _ _))) _
  rw [h1, Nat.mul_pow, ← Nat.pow_mul, show (p5 - 2) * (E8 + 1) = (3 + 7 * E8) + (p5 - 1) * E8 by rw [E8_eq]; decide +kernel, Nat.pow_add v (3 + 7 * E8), Nat.pow_mul v (p5 - 1)]
  have h2 : (v ^ (p5 - 1)) ^ E8 % p5 = 1 := by
    rw [Nat.pow_mod, fm h0, Nat.one_pow]; decide
  have h3 : u ^ (E8 + 1) * (v ^ (3 + 7 * E8) * (v ^ (p5 - 1)) ^ E8) % p5 = u ^ (E8 + 1) * (v ^ (3 + 7 * E8) * 1) % p5 := mulC rfl (mulC rfl (by rw [h2]; decide))
  rw [h3, Nat.mul_one]
  generalize E8 = k
  refine congrArg (· % p5) ?_
  rw [Nat.mul_pow, ← Nat.pow_mul, Nat.pow_add v 3, Nat.pow_succ]
  exact powid2 _ _ _ _
theorem evN_eq (a : Nat) : evN a = if a % 2 = 1 then (p5 - a) % p5 else a := by unfold evN; rw [pV_eq]
theorem even_ok {a : Five} (h : Tame a) : Tame (fEven a) ∧ N5 (fEven a) = evN (N5 a) := by
  refine ⟨(fEven_ok h).1, ?_⟩
  rw [(fEven_ok h).2, evN_eq]
  have := N5_lt a
  split
  · rw [Nat.mod_eq_of_lt (by omega)]
  · rfl
theorem evN_lt {a : Nat} (h : a < p5) : evN a < p5 := by
  rw [evN_eq]; split
  · exact Nat.mod_lt _ p5_pos
  · exact h
theorem evN_neg {z : Nat} (h : z < p5) : evN ((p5 - z) % p5) = evN z := by
  rw [evN_eq, evN_eq]
  by_cases h0 : z = 0
  · subst h0; rw [Nat.sub_zero, Nat.mod_self]; rfl
  · have e : (p5 - z) % p5 = p5 - z := Nat.mod_eq_of_lt (by omega)
    rw [e]
    have hodd : p5 % 2 = 1 := by decide
    by_cases hz : z % 2 = 1
    · rw [if_neg (by omega), if_pos hz]
    · rw [if_pos (by omega), if_neg hz, show p5 - (p5 - z) = z by omega]
      exact Nat.mod_eq_of_lt h
theorem two_pow {x : Nat} (h : x % p5 = 2 % p5) {e c : Nat} (he : e < 2 ^ 256) (k : NumP.pm p5 256 2 e = c) : x ^ e % p5 = c := (powC h e).trans (pow_of 256 he k)
/-- The reference's root of -1. -/
abbrev im0 : Nat := 19681161376707505956807079304988542015446066515923890162744021073123829784752
theorem im_pow : 2 ^ ((pV - 1) / 4) % pV = im0 := by
  rewrite [pV_eq]
  exact pow_of 256 (by decide +kernel) (by decide +kernel)
theorem im_sq : im0 * im0 % p5 = p5 - 1 := by decide +kernel
theorem imV_ok : Tame imV ∧ N5 imV = evN im0 := by
  have hs2 := N5_small 2
  have hs8 := N5_small 8
  have hP := (parts_ok (Pw.one hs2.1)).2.sq 3
  have ht := tame_mul hP.1 hs8.1
  rw [imV_eq]
  obtain ⟨t, e⟩ := even_ok ht
  refine ⟨t, e.trans (congrArg evN ?_)⟩
  rw [N5_mul hP.1 hs8.1, Pw.n5 hP, hs8.2]
  obtain ⟨E, hE⟩ : ∃ E : Nat, E = (2 ^ 250 - 1) * 2 ^ 3 := ⟨_, rfl⟩
  have e2 : V (smallV 2) ^ E % p5 = 2460145172088438244600884913123567751930758314490486270343002634140478723094 := two_pow (hs2.2.trans (by decide)) (by rw [hE]; decide +kernel) (by rw [hE]; decide +kernel)
  rewrite [← hE, e2]
  decide +kernel
theorem modP (n : Nat) : n % p5 < p5 := Nat.mod_lt _ p5_pos
/-- Either root of -1 comes to the same even number. -/
theorem ev_im {c : Nat} : evN (c * evN im0 % p5) = evN (c * im0 % p5) := by
  rw [show evN im0 = im0 by rw [evN_eq]; decide +kernel]

theorem inv_mul {w : Nat} (h : w % p5 ≠ 0) : w * (w ^ (p5 - 2) % p5) % p5 = 1 := by
  have e : w * w ^ (p5 - 2) = w ^ (p5 - 1) := by rw [show p5 - 1 = (p5 - 2) + 1 from rfl, Nat.pow_succ, Nat.mul_comm]
  exact (mulC rfl (Nat.mod_mod _ _)).trans ((congrArg (· % p5) e).trans (fm h))
theorem neg_iff {q u : Nat} (hq : q < p5) (hu : u < p5) : q = (p5 - u) % p5 ↔ (q + u) % p5 = 0 := by
  simp only [p5] at *; omega
theorem neg_iff' {q a : Nat} (hq : q < p5) (ha : a < p5) : (p5 - q) % p5 = a ↔ (q + a) % p5 = 0 := by
  simp only [p5] at *; omega
theorem neg_mul {q : Nat} (hq : q < p5) : q * (p5 - 1) % p5 = (p5 - q) % p5 := by
  by_cases h0 : q = 0
  · subst h0; rw [Nat.zero_mul]; decide
  · have : q * (p5 - 1) = (p5 - q) + p5 * (q - 1) := by
      obtain ⟨k, rfl⟩ : ∃ k, q = k + 1 := ⟨q - 1, by omega⟩
      simp only [p5] at *
      rw [Nat.add_sub_cancel]; omega
    rw [this, Nat.add_mul_mod_self_left]
/-- What is tested of roots. -/
theorem tests {U W a c : Nat} (hU : U < p5) (hW0 : 0 < W) (hW : W < p5) (ha : a < p5) (hWa : W * a % p5 = U) :
    (W * (c * c) % p5 = U ↔ c * c % p5 = a) ∧ (W * (c * c) % p5 = (p5 - U) % p5 ↔ (c * c + a) % p5 = 0) ∧ (c * im0 % p5 * (c * im0 % p5) % p5 = a ↔ (c * c + a) % p5 = 0) := by
  refine ⟨⟨fun h => ?_, fun h => ?_⟩, ?_, ?_⟩
  · have := NumP.cancel hp5 (a := W) (x := c * c) (y := a) hW0 hW (by rw [Nat.mul_comm, h, Nat.mul_comm a, hWa])
    rw [this, Nat.mod_eq_of_lt ha]
  · rw [← hWa]; exact mulC rfl (h.trans (Nat.mod_eq_of_lt ha).symm)
  · have hs : W * (c * c + a) % p5 = (W * (c * c) % p5 + U) % p5 := by
      rw [Nat.mul_add, Nat.add_mod, hWa, Nat.add_mod _ U, Nat.mod_mod, Nat.mod_eq_of_lt hU]
    rw [neg_iff (modP _) hU, ← hs]
    constructor
    · intro h
      have := NumP.cancel hp5 (a := W) (x := c * c + a) (y := 0) hW0 hW (by rw [Nat.mul_comm, h, Nat.zero_mul]; decide)
      rw [this]; decide
    · intro h
      exact (mulC rfl (h.trans (by decide : 0 = 0 % p5))).trans (by rw [Nat.mul_zero]; decide)
  · have e1 : c * im0 % p5 * (c * im0 % p5) % p5 = c * c % p5 * (p5 - 1) % p5 := by
      refine (mulC (Nat.mod_mod _ _) (Nat.mod_mod _ _)).trans ?_
      have e : c * im0 * (c * im0) = c * c * (im0 * im0) := by generalize im0 = i; grind
      rw [e]
      exact mulC (Nat.mod_mod _ _).symm (im_sq.trans (by decide))
    have h2 : (c * c + a) % p5 = (c * c % p5 + a) % p5 := by rw [Nat.add_mod, Nat.mod_eq_of_lt ha]
    rw [e1, h2, neg_mul (modP _)]
    exact neg_iff' (modP _) ha
theorem ratio_0 : ratioN 0 0 = (⟨0⟩, true, ()) := by
  unfold ratioN
  rw [if_neg (fun h => Nat.lt_irrefl 0 h.2), Nat.zero_mul, Nat.zero_mod]
  have : rt1 0 = 0 := by unfold rt1; rw [Nat.zero_pow (by rw [pV_eq]; decide), Nat.zero_mod]
  unfold rootN
  rw [this, Nat.zero_mul, Nat.zero_mod, if_pos rfl, evN_eq, if_neg (by decide)]
theorem ratio_1 {U : Nat} (h : 0 < U) : ratioN U 0 = (⟨0⟩, false, ()) := by unfold ratioN; rw [if_pos ⟨rfl, h⟩]
theorem cand_0 : candN 0 0 = 0 := by
  unfold candN
  generalize E8 = k
  have e : (0 : Nat) * 0 ^ 3 * (0 * 0 ^ 7) ^ k = 0 := by rw [Nat.mul_assoc, Nat.zero_mul]
  rw [e]; decide
/-- The quotient, and what is tried for its root. -/
theorem ratio_2 {U W : Nat} (hU : U < p5) (h0 : W ≠ 0) (hW : W < p5) : ∃ a, a < p5 ∧ W * a % p5 = U ∧ ratioN U W = rootN a ∧ rt1 a = candN U W := by
  have hWm : W % p5 ≠ 0 := by rw [Nat.mod_eq_of_lt hW]; exact h0
  refine ⟨U * (W ^ (p5 - 2) % p5) % p5, modP _, ?_, by unfold ratioN; rw [if_neg (fun h => h0 h.1), pV_eq], rt1_eq hWm⟩
  have e : W * (U * (W ^ (p5 - 2) % p5)) = U * (W * (W ^ (p5 - 2) % p5)) := Nat.mul_left_comm _ _ _
  have h1 : W * (U * (W ^ (p5 - 2) % p5) % p5) % p5 = U * 1 % p5 := (mulC rfl (Nat.mod_mod _ _)).trans ((congrArg (· % p5) e).trans (mulC rfl ((inv_mul hWm).trans (by decide))))
  rw [h1, Nat.mul_one, Nat.mod_eq_of_lt hU]
theorem root_1 {a c : Nat} (h : rt1 a = c) (h1 : c * c % p5 = a) : rootN a = (⟨evN c⟩, true, ()) := by unfold rootN; rw [h, pV_eq, if_pos h1]
theorem rt2_eq {a c : Nat} (h : rt1 a = c) : rt2 a = c * im0 % p5 := by unfold rt2; rw [im_pow, h, pV_eq]
theorem root_2 {a c : Nat} (h : rt1 a = c) (h1 : c * c % p5 ≠ a) (h2 : c * im0 % p5 * (c * im0 % p5) % p5 = a) : rootN a = (⟨evN (c * im0 % p5)⟩, true, ()) := by
  unfold rootN; rw [rt2_eq h, h, pV_eq, if_neg h1, if_pos h2]
theorem root_3 {a c : Nat} (h : rt1 a = c) (h1 : c * c % p5 ≠ a) (h2 : c * im0 % p5 * (c * im0 % p5) % p5 ≠ a) : rootN a = (⟨0⟩, false, ()) := by
  unfold rootN; rw [rt2_eq h, h, pV_eq, if_neg h1, if_neg h2]
theorem root_ok {u v : Five} (hu : Tame u) (hv : Tame v) :
    Tame (fRootV u v).1 ∧ (fRootV u v).2 = (ratioN (N5 u) (N5 v)).2.1 ∧ N5 (fRootV u v).1 = (ratioN (N5 u) (N5 v)).1.n := by
  obtain ⟨tc, ec⟩ := cand_ok hu hv
  obtain ⟨tk, ek⟩ := check_ok hu hv
  obtain ⟨ti, ei⟩ := imV_ok
  have hnu := fNeg_ok hu
  have lu := N5_lt u
  have lv := N5_lt v
  have s1 := fSame_ok tk hu
  have s2 := fSame_ok tk hnu.1
  have s3 := fSame_ok hv N5_zero.1
  have s4 := fSame_ok hu N5_zero.1
  rw [ek] at s1 s2
  rw [hnu.2] at s2
  rw [N5_zero.2] at s3 s4
  by_cases hW : N5 v = 0
  · rw [hW] at s1 s2 ec ⊢
    have e0 : 0 * (candN (N5 u) 0 * candN (N5 u) 0) % p5 = 0 := by rw [Nat.zero_mul]; decide
    rw [e0] at s1 s2
    by_cases hU : N5 u = 0
    · have r : fRootV u v = (fEven (fCand u v), true) := by
        rw [fRoot_A (by rw [s1]; exact decide_eq_true hU.symm), fRootE_2 (by rw [s3]; exact decide_eq_true hW) (by rw [s4]; exact decide_eq_true hU)]
      rw [r, hU, ratio_0]
      refine ⟨(even_ok tc).1, rfl, ?_⟩
      show N5 (fEven (fCand u v)) = 0
      rw [(even_ok tc).2, ec, hU, cand_0, evN_eq]; rfl
    · have r : fRootV u v = (fZero, false) := by
        refine fRoot_C ?_ ?_
        · rw [s1]; exact decide_eq_false (fun h => hU h.symm)
        · rw [s2]
          refine decide_eq_false (fun h => hU ?_)
          have := (neg_iff p5_pos lu).1 h
          rw [Nat.zero_add, Nat.mod_eq_of_lt lu] at this
          exact this
      rw [r, ratio_1 (Nat.pos_of_ne_zero hU)]
      exact ⟨N5_zero.1, rfl, N5_zero.2⟩
  · obtain ⟨a, la, hWa, rat, hrt⟩ := ratio_2 lu hW lv
    obtain ⟨k1, k2, i2⟩ := tests (c := candN (N5 u) (N5 v)) lu (Nat.pos_of_ne_zero hW) lv la hWa
    have c3 : fSame v fZero = false := by rw [s3]; exact decide_eq_false hW
    rw [rat]
    by_cases h1 : candN (N5 u) (N5 v) * candN (N5 u) (N5 v) % p5 = a
    · have r : fRootV u v = (fEven (fCand u v), true) := by rw [fRoot_A (by rw [s1]; exact decide_eq_true (k1.2 h1)), fRootE_1 c3]
      rw [r, root_1 hrt h1]
      refine ⟨(even_ok tc).1, rfl, ?_⟩
      show N5 (fEven (fCand u v)) = _
      rw [(even_ok tc).2, ec]
    · have n1 : fSame (fCheck u v) u = false := by rw [s1]; exact decide_eq_false (fun h => h1 (k1.1 h))
      by_cases h2 : (candN (N5 u) (N5 v) * candN (N5 u) (N5 v) + a) % p5 = 0
      · have tci := tame_mul tc ti
        have r : fRootV u v = (fEven (fMul (fCand u v) imV), true) := by rw [fRoot_B n1 (by rw [s2]; exact decide_eq_true (k2.2 h2)), fRootE_1 c3]
        rw [r, root_2 hrt h1 (i2.2 h2)]
        refine ⟨(even_ok tci).1, rfl, ?_⟩
        show N5 (fEven (fMul (fCand u v) imV)) = _
        rw [(even_ok tci).2, N5_mul tc ti, ec, ei, ev_im]
      · have r : fRootV u v = (fZero, false) := fRoot_C n1 (by rw [s2]; exact decide_eq_false (fun h => h2 (k2.1 h)))
        rw [r, root_3 hrt h1 (fun h => h2 (i2.1 h))]
        exact ⟨N5_zero.1, rfl, N5_zero.2⟩
end Go.Proofs.YtigkddloeikpbaaGreatDoor.F4

/- As fn_okL, the table chosen by the arguments. -/
set_option maxRecDepth 10000
namespace Go.Sym
open Go.RowKit
/-- As fn_okL, with the table of callees chosen by the arguments. -/
theorem fn_okS [GLob] {P : Program} {tt : TT} {α β : Type} [Args α] [RetL β] (hm : P.follows .mixedOrders = true) (hT : TTOK P tt) (fuel : Nat) {f : FuncId} {fn : Func} (hf : P.funcs[f]? = some fn) (hname : (fn.name == "runtime.NumGoroutine") = false) (hb : fn.body.isSome = true) {pre : α → Option Prop} {g : α → β}
    (H : ∀ a, Ok (pre a) → ∃ sp, SpecsOK P sp ∧ ∃ D L, ∃ Q : SV → Prop, LnVD tt sp fuel D L fn Q a ∧ ∀ x, Q x → ∀ (at_ : At) (w : World) (v : Value), Rel at_ w x v → Rel at_ w (retSV (RetL.retL (g a))) v) : SpecOK P f (fspec pre g) := by
  obtain ⟨c, hc⟩ := Option.isSome_iff_exists.1 hb
  intro at_ w svs vs pr r hat hout hgl hs hp hr
  unfold fspec at hs
  split at hs
  · rename_i a ha
    simp only [Option.some.injEq, Prod.mk.injEq] at hs
    obtain ⟨rfl, rfl⟩ := hs
    have hrun : (callFunc f (List.toArray vs)).run P w = .ok (.enter f (List.toArray vs)) w := by
      have h1 : fn.name ≠ "runtime.NumGoroutine" := by simpa using hname
      simp [callFunc, hf, h1, hc]
    rw [hrun]
    obtain ⟨sp, hS, D, L, Q, ⟨h⟩, hQ⟩ := H a hp
    unfold LnRaw at h
    rw [hc] at h
    refine (calls_of_awp hm hT hS hf hc (fun B _ _ hcl => vcl_ok hm hT hS hcl c 0 _ _ h) (Args.nn a) hat hout hgl (Args.ok ha hr)).mono ?_
    rintro e w' ⟨v, h1, r', h2, h3, h4⟩
    exact ⟨v, h1, hQ _ h2 _ _ _ h3, h4⟩
  · cases hs
end Go.Sym
/- Layer 4's laws: what is to be shown of their bodies is so. -/
set_option maxRecDepth 10000
namespace Go.Proofs.YtigkddloeikpbaaGreatDoor.F4
open Go.Sym Go.Dig R1

theorem svf {y : SV} (x : SV) (h : (fun x => x = y) x) (at_ : At) (w : World) (v : Value) (r : Rel at_ w x v) : Rel at_ w y v := by have h' : x = y := h; subst h'; exact r
theorem tmc (c : UInt64) (hc : c = 4503599627370496) (a : Five) (F T : Prop) (hT : tm a = true → T) (hF : tm a = false → F) :
    bcase (decide (c ≤ a.x0)) F (bcase (decide (c ≤ a.x1)) F (bcase (decide (c ≤ a.x2)) F (bcase (decide (c ≤ a.x3)) F (bcase (decide (c ≤ a.x4)) F T)))) := by
  subst hc
  unfold tm at hT hF
  revert hT hF
  generalize decide ((4503599627370496 : UInt64) ≤ a.x0) = c0
  generalize decide ((4503599627370496 : UInt64) ≤ a.x1) = c1
  generalize decide ((4503599627370496 : UInt64) ≤ a.x2) = c2
  generalize decide ((4503599627370496 : UInt64) ≤ a.x3) = c3
  generalize decide ((4503599627370496 : UInt64) ≤ a.x4) = c4
  cases c0 <;> cases c1 <;> cases c2 <;> cases c3 <;> cases c4 <;> simp [bcase]
theorem c52 : UInt64.ofNat (Int.toNat (4503599627370496 : Int)) = 4503599627370496 := by decide +kernel
theorem qb {x b : Bool} (h : x = b) : (fun y => y = SV.bool b) (SV.bool x) := by subst h; exact rfl
theorem ok_is : SpecOK Tryz.prog 1000004 Sym.sNo := Sym.sNo_ok _ _
theorem spFd_ok : SpecsOK Tryz.prog spFd := .cons ok_fRoot <| .cons ok_fOf <| .consF ok_fBytes <| .cons ok_fWide spF8_ok

/-! The package is awake. -/
def top : List UInt8 := [236, 255, 255, 255, 255, 255, 255, 255, 255, 255, 255, 255, 255, 255, 255, 255, 255, 255, 255, 255, 255, 255, 255, 255, 255, 255, 255, 255, 255, 255, 255, 127]
theorem top_eq : fBytesO (fSub (Five.mk (UInt64.ofNat (Int.toNat (0 : Int))) (UInt64.ofNat (Int.toNat (0 : Int))) (UInt64.ofNat (Int.toNat (0 : Int))) (UInt64.ofNat (Int.toNat (0 : Int))) (UInt64.ofNat (Int.toNat (0 : Int)))) (smallV (UInt32.ofNat (Int.toNat (1 : Int))))) = top := by
  rw [fBytesO_eq, smallV_eq]; decide +kernel
theorem of_over : (fOfO (237 :: top.tail)).2 = false := by rw [fOfO_eq]; decide +kernel
theorem rt1_4 : rt1 4 = 39362322753415011913614158609977084030892133031847780325488042146247659569504 := by
  unfold rt1
  rewrite [pV_eq]
  exact pow_of 256 (by decide +kernel) (by decide +kernel)
theorem four_two : ratioN 4 1 = (⟨2⟩, true, ()) := by
  obtain ⟨a, la, h1, h2, h3⟩ := ratio_2 (U := 4) (W := 1) (by decide) (by decide) (by decide)
  have ha : a = 4 := by rw [Nat.one_mul, Nat.mod_eq_of_lt la] at h1; exact h1
  subst ha
  rw [h2, root_2 rt1_4 (by decide +kernel) (by decide +kernel), evN_eq]
  have e : (if 39362322753415011913614158609977084030892133031847780325488042146247659569504 * im0 % p5 % 2 = 1 then (p5 - 39362322753415011913614158609977084030892133031847780325488042146247659569504 * im0 % p5) % p5 else 39362322753415011913614158609977084030892133031847780325488042146247659569504 * im0 % p5) = 2 := by decide +kernel
  rw [e]
theorem ok_awake : SpecOK Tryz.prog 1000003 Sym.sNo := Sym.sNo_ok _ _
theorem spRef_ok : SpecsOK Tryz.prog spRef := .cons ok_Ratio <| .cons ok_ModF <| .cons ok_OfF spI_ok
/-! Sums. -/
abbrev sSums : SpecF := fspec (α := Five × Five × UInt32 × Unit) total fun _ => true
theorem Nof (a : Five) : V a % pV = N5 a := by rw [pV_eq]; rfl
theorem lhN (a : Five) : Lh (N5 a) := by rw [← Nof]; exact lhMod _
theorem ok_Sums : SpecOK Tryz.prog 1000002 Sym.sNo := Sym.sNo_ok _ _
/-! Powers. -/
abbrev sPowers : SpecF := fspec (α := Five × Int × Unit) total fun _ => true
theorem sq_pw {a : Five} (h : Tame a) : ∀ n, Tame (fSq n a) ∧ N5 (fSq n a) = pwN (N5 a) n
  | 0 => ⟨h, rfl⟩
  | n + 1 => by
    obtain ⟨h1, h2⟩ := sq_pw h n
    refine ⟨tame_mul h1 h1, ?_⟩
    show N5 (fMul (fSq n a) (fSq n a)) = pwN (N5 a) n * pwN (N5 a) n % pV
    rw [N5_mul h1 h1, h2, pV_eq]
theorem lhPw {x : Nat} (h : Lh x) : ∀ n, Lh (pwN x n)
  | 0 => h
  | _ + 1 => lhMod _
theorem ok_Powers : SpecOK Tryz.prog 1000000 Sym.sNo := Sym.sNo_ok _ _
/-! Roots. -/
abbrev sRoots : SpecF := fspec (α := Five × Five × Unit) total fun _ => true
theorem ok_Roots : SpecOK Tryz.prog 1000001 Sym.sNo := Sym.sNo_ok _ _
end Go.Proofs.YtigkddloeikpbaaGreatDoor.F4

