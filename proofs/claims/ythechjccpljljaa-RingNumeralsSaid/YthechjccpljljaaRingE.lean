/- Package ring: what its functions come to, as numbers. -/
import Derived.Test.YthechjccpljljaaRingD
namespace Go.Proofs.Ythechjccpljljaa
open Go.Sym Go.Dig

theorem mul64_lo (x y : UInt64) : (mul64 x y).2 = x * y := rfl
theorem row_zero (t k : UInt64) (m : Four) (o1 o2 o3 : UInt64) (hk : m.w0 * k = 0 - 1) : (mulRow (t * k) m t o1 o2 o3).r0 = 0 := by
  have : (mulRow (t * k) m t o1 o2 o3).r0 = t * k * m.w0 + t + 0 + 0 + 0 := rfl
  rw [this]
  grind
theorem shrV_nat (k : UInt64) (m : Four) (t : Eight) (hk : m.w0 * k = 0 - 1) :
    ∃ Q : Nat, Q < 115792089237316195423570985008687907853269984665640564039457584007913129639936 ∧ nat8 t + Q * nat4 m = 115792089237316195423570985008687907853269984665640564039457584007913129639936 * (nat4 (shrV k m t).high + 115792089237316195423570985008687907853269984665640564039457584007913129639936 * (shrV k m t).o4.toNat) := by
  have z : (0 : UInt64).toNat = 0 := rfl
  have zl := zero_le
  obtain ⟨r, hr⟩ : ∃ r, r = shr1 k m t := ⟨_, rfl⟩
  have r0 : r.r0.toNat = 0 := by rw [hr]; unfold shr1; rw [row_zero _ _ _ _ _ _ hk, z]
  have h1 := row_nat (t.e0 * k) m t.e0 t.e1 t.e2 t.e3
  have hr' : mulRow (t.e0 * k) m t.e0 t.e1 t.e2 t.e3 = r := hr.symm
  rw [hr', r0] at h1
  have a4 := add_word t.e4 r.c 0 zl
  have c1 : (addHi t.e4 r.c 0).toNat ≤ 1 := addHi_le _ _ _ zl
  obtain ⟨s, hs⟩ : ∃ s, s = shr2 k m t r := ⟨_, rfl⟩
  have s0 : s.r0.toNat = 0 := by rw [hs]; unfold shr2; rw [row_zero _ _ _ _ _ _ hk, z]
  have h2 := row_nat (r.r1 * k) m r.r1 r.r2 r.r3 (addLo t.e4 r.c 0)
  have hs' : mulRow (r.r1 * k) m r.r1 r.r2 r.r3 (addLo t.e4 r.c 0) = s := hs.symm
  rw [hs', s0] at h2
  obtain ⟨o1, ho1⟩ : ∃ o, o = addHi t.e4 r.c 0 := ⟨_, rfl⟩
  rw [← ho1] at a4 c1
  have a5 := add_word t.e5 s.c o1 c1
  have c2 : (addHi t.e5 s.c o1).toNat ≤ 1 := addHi_le _ _ _ c1
  obtain ⟨o2, ho2⟩ : ∃ o, o = addHi t.e5 s.c o1 := ⟨_, rfl⟩
  obtain ⟨u, hu⟩ : ∃ u, u = shr3 k m t o1 s := ⟨_, rfl⟩
  have u0 : u.r0.toNat = 0 := by rw [hu]; unfold shr3; rw [row_zero _ _ _ _ _ _ hk, z]
  have h3 := row_nat (s.r1 * k) m s.r1 s.r2 s.r3 (addLo t.e5 s.c o1)
  have hu' : mulRow (s.r1 * k) m s.r1 s.r2 s.r3 (addLo t.e5 s.c o1) = u := hu.symm
  rw [hu', u0] at h3
  rw [← ho2] at a5 c2
  have a6 := add_word t.e6 u.c o2 c2
  have c3 : (addHi t.e6 u.c o2).toNat ≤ 1 := addHi_le _ _ _ c2
  obtain ⟨o3, ho3⟩ : ∃ o, o = addHi t.e6 u.c o2 := ⟨_, rfl⟩
  obtain ⟨v, hv⟩ : ∃ v, v = shr4 k m t o2 u := ⟨_, rfl⟩
  have v0 : v.r0.toNat = 0 := by rw [hv]; unfold shr4; rw [row_zero _ _ _ _ _ _ hk, z]
  have h4 := row_nat (u.r1 * k) m u.r1 u.r2 u.r3 (addLo t.e6 u.c o2)
  have hv' : mulRow (u.r1 * k) m u.r1 u.r2 u.r3 (addLo t.e6 u.c o2) = v := hv.symm
  rw [hv', v0] at h4
  rw [← ho3] at a6 c3
  have a7 := add_word t.e7 v.c o3 c3
  have e : shrV k m t = ⟨o1, o2, o3, addHi t.e7 v.c o3, ⟨v.r1, v.r2, v.r3, addLo t.e7 v.c o3⟩⟩ := by
    rw [hv, ho3, hu, ho2, hs, ho1, hr]; rfl
  rw [e]
  have q0 := u64_lt (t.e0 * k); have q1 := u64_lt (r.r1 * k); have q2 := u64_lt (s.r1 * k); have q3 := u64_lt (u.r1 * k)
  refine ⟨(t.e0 * k).toNat + 18446744073709551616 * ((r.r1 * k).toNat + 18446744073709551616 * ((s.r1 * k).toNat + 18446744073709551616 * (u.r1 * k).toNat)), by omega, ?_⟩
  have em : ((t.e0 * k).toNat + 18446744073709551616 * ((r.r1 * k).toNat + 18446744073709551616 * ((s.r1 * k).toNat + 18446744073709551616 * (u.r1 * k).toNat))) * nat4 m = (t.e0 * k).toNat * nat4 m + 18446744073709551616 * ((r.r1 * k).toNat * nat4 m + 18446744073709551616 * ((s.r1 * k).toNat * nat4 m + 18446744073709551616 * ((u.r1 * k).toNat * nat4 m))) := by
    simp only [Nat.add_mul, Nat.mul_assoc]
  rw [em]
  generalize (t.e0 * k).toNat * nat4 m = p0 at *
  generalize (r.r1 * k).toNat * nat4 m = p1 at *
  generalize (s.r1 * k).toNat * nat4 m = p2 at *
  generalize (u.r1 * k).toNat * nat4 m = p3 at *
  simp only [nat8, nat4]
  omega
theorem p2_256 : (2 : Nat) ^ 256 = 115792089237316195423570985008687907853269984665640564039457584007913129639936 := by decide +kernel
theorem shrink_nat (k : UInt64) (m : Four) (t : Eight) (hk : m.w0 * k = 0 - 1) (ho : nat4 m % 2 = 1) (ht : nat8 t < 115792089237316195423570985008687907853269984665640564039457584007913129639936 * nat4 m) : nat4 (shrinkF k m t) = unR (nat4 m) (nat8 t) := by
  obtain ⟨Q, hQ, e⟩ := shrV_nat k m t hk
  have hm : 0 < nat4 m := by omega
  have o4 : (shrV k m t).o4.toNat ≤ 1 := addHi_le _ _ _ (addHi_le _ _ _ (addHi_le _ _ _ (addHi_le _ _ _ zero_le)))
  have hQM : Q * nat4 m < 115792089237316195423570985008687907853269984665640564039457584007913129639936 * nat4 m := Nat.mul_lt_mul_of_pos_right hQ hm
  have hH : nat4 (shrV k m t).high + 115792089237316195423570985008687907853269984665640564039457584007913129639936 * (shrV k m t).o4.toNat < 2 * nat4 m := by omega
  have hl := less_nat (shrV k m t).high m (shrV k m t).o4 o4 hH
  unfold shrinkF
  rw [hl]
  refine unR_of ho (Nat.mod_lt _ hm) ?_
  rw [mod_mul_l, p2_256, Nat.mul_comm _ 115792089237316195423570985008687907853269984665640564039457584007913129639936, ← e, Nat.add_mul_mod_self_right]

/-- What a ring's words have to be. -/
structure RGood (r : RingV) : Prop where
  odd : nat4 r.m % 2 = 1
  big : 1 < nat4 r.m
  back : r.m.w0 * r.back = 0 - 1
  one : nat4 r.one = 2 ^ 256 % nat4 r.m
  two : nat4 r.two = 2 ^ 256 * 2 ^ 256 % nat4 r.m
theorem goodM_odd {m : Four} (h : goodM m = true) : m.w0 &&& 1 = 1 ∧ nat4 m % 2 = 1 ∧ 1 < nat4 m := by
  unfold goodM at h
  simp only [Bool.and_eq_true, Bool.not_eq_true', beq_eq_false_iff_ne] at h
  have h1 : (m.w0 &&& 1).toNat = 1 := by
    have e := and_one m.w0
    by_cases h0 : (m.w0 &&& 1).toNat = 0
    · exact absurd (UInt64.toNat_inj.1 h0) h.1
    · omega
  have h2 := and_one m.w0
  have h3 : nat4 m % 2 = 1 := by simp only [nat4]; omega
  refine ⟨UInt64.toNat_inj.1 h1, h3, ?_⟩
  by_cases hone : nat4 m = 1
  · have : m = ⟨1, 0, 0, 0⟩ := nat4_inj (by rw [hone]; rfl)
    rw [this, eq4_self] at h
    cases h.2
  · omega
theorem dblN_nat {m : Four} (h : 1 < nat4 m) : ∀ n, nat4 (dblN m n) = 2 ^ n % nat4 m
  | 0 => by
    have : nat4 (dblN m 0) = 1 := rfl
    rw [this, Nat.pow_zero, Nat.mod_eq_of_lt h]
  | n + 1 => by
    have ih := dblN_nat h n
    have hl : nat4 (dblN m n) < nat4 m := by rw [ih]; exact Nat.mod_lt _ (by omega)
    have : dblN m (n + 1) = ringPlus m (dblN m n) (dblN m n) := rfl
    rw [this, ringPlus_nat _ _ _ hl hl, ih, ← Nat.add_mod, Nat.pow_succ]
    congr 1
    omega
theorem dbl2_nat {m : Four} (h : 1 < nat4 m) (k : Nat) : nat4 (dblN m (k + k)) = 2 ^ k * 2 ^ k % nat4 m := by rw [dblN_nat h, Nat.pow_add]
theorem ringOf_good {m : Four} (h : goodM m = true) : RGood (ringOf m) := by
  obtain ⟨h1, h2, h3⟩ := goodM_odd h
  refine ⟨h2, h3, ?_, dblN_nat h3 256, dbl2_nat h3 256⟩
  have := newt_inv m.w0 h1
  show m.w0 * (0 - newt m.w0 6) = 0 - 1
  grind

section
variable {r : RingV} (g : RGood r)
include g
theorem times_nat (a b : Four) (h : nat4 a < nat4 r.m ∨ nat4 b < nat4 r.m) : nat4 (timesR r a b) = unR (nat4 r.m) (nat4 a * nat4 b) := by
  have e := mul_nat a b
  have la := nat4_lt a; have lb := nat4_lt b
  have := shrink_nat r.back r.m (limb_Mul a b) g.back g.odd (by
    rw [e]
    rcases h with h | h
    · rw [Nat.mul_comm]; exact Nat.mul_lt_mul_of_lt_of_le lb (Nat.le_of_lt h) (by have := g.big; omega)
    · exact Nat.mul_lt_mul_of_lt_of_le la (Nat.le_of_lt h) (by have := g.big; omega))
  rw [e] at this
  exact this
theorem two_lt : nat4 r.two < nat4 r.m := by rw [g.two]; exact Nat.mod_lt _ (by have := g.big; omega)
theorem one_lt : nat4 r.one < nat4 r.m := by rw [g.one]; exact Nat.mod_lt _ (by have := g.big; omega)
omit g in
theorem one4_nat : nat4 one4 = 1 := rfl
theorem in_nat (a : Four) : nat4 (timesR r a r.two) = nat4 a * 2 ^ 256 % nat4 r.m := by
  rw [times_nat g a r.two (.inr (two_lt g)), g.two]
  have := unR_mul g.odd (nat4 a * 2 ^ 256)
  unfold unR at this ⊢
  rw [← mod_mul_l, mod_mul_r, mod_mul_l, ← Nat.mul_assoc, this]
theorem out_nat (a : Four) : nat4 (timesR r a one4) = unR (nat4 r.m) (nat4 a) := by
  rw [times_nat g a one4 (.inr (by rw [one4_nat]; exact g.big)), one4_nat, Nat.mul_one]
theorem redR_nat (a : Four) : nat4 (redR r a) = nat4 a % nat4 r.m := by
  unfold redR
  rw [out_nat g, in_nat g, unR_mod, unR_mul g.odd]
theorem isR_good : isR (some r) = true := by
  unfold isR
  have := g.odd
  have h1 := and_one r.m.w0
  have : (r.m.w0 &&& 1) = 1 := UInt64.toNat_inj.1 (by rw [h1]; simp only [nat4] at this; show _ = 1; omega)
  simp [this]
theorem onR_good (f : RingV → Four) : onR (some r) f = f r := onR_t (by rw [isR_good g]; rfl)
theorem resR_nat (a : Four) : nat4 (resR r a) = nat4 a % nat4 r.m := by
  have hc := cmp_nat a r.m
  unfold resR
  split
  · rename_i h
    rw [hc] at h
    rw [Nat.mod_eq_of_lt]
    split at h
    · assumption
    · split at h <;> omega
  · rw [onR_good g, redR_nat g]
theorem resR_lt (a : Four) : nat4 (resR r a) < nat4 r.m := by rw [resR_nat g]; exact Nat.mod_lt _ (by have := g.big; omega)
theorem plusR_nat (a b : Four) : nat4 (plusR r a b) = (nat4 a + nat4 b) % nat4 r.m := by
  unfold plusR
  rw [ringPlus_nat _ _ _ (resR_lt g a) (resR_lt g b), resR_nat g, resR_nat g, ← Nat.add_mod]
theorem mulR_nat (a b : Four) : nat4 (mulR r a b) = unR (nat4 r.m) (nat4 a * nat4 b) := by
  unfold mulR
  rw [times_nat g _ _ (.inl (resR_lt g a)), resR_nat g, resR_nat g]
  unfold unR
  rw [Nat.mul_mod, ← Nat.mul_mod (nat4 a), ← Nat.mul_mod]
theorem minusR_nat (a b : Four) : nat4 (minusR r a b) = (nat4 a % nat4 r.m + nat4 r.m - nat4 b % nat4 r.m) % nat4 r.m := by
  have ha := resR_nat g a; have hb := resR_nat g b
  have la := resR_lt g a; have lb := resR_lt g b
  unfold minusR
  rw [← ha, ← hb]
  generalize resR r a = x at *
  generalize resR r b = y at *
  have h1 := sub_nat x y; have h2 := sub_borrow x y
  have h3 := add_nat (limb_Sub x y).1 r.m; have h4 := add_carry (limb_Sub x y).1 r.m
  have l1 := nat4_lt (limb_Sub x y).1; have l2 := nat4_lt (limb_Add (limb_Sub x y).1 r.m).1; have l3 := nat4_lt r.m
  by_cases hc : (limb_Sub x y).2.toNat = 1
  · rw [select_one _ _ _ (by omega), Nat.mod_eq_of_lt (by omega)]
    omega
  · rw [select_zero _ _ _ (by omega)]
    have : nat4 x + nat4 r.m - nat4 y = nat4 (limb_Sub x y).1 + nat4 r.m := by omega
    rw [this, Nat.add_mod_right, Nat.mod_eq_of_lt (by omega)]
theorem wideR_nat (w : Eight) : nat4 (wideR r w) = nat8 w % nat4 r.m := by
  unfold wideR
  have h1 := redR_nat g ⟨w.e0, w.e1, w.e2, w.e3⟩
  have h2 := in_nat g ⟨w.e4, w.e5, w.e6, w.e7⟩
  have hp : 0 < nat4 r.m := by have := g.big; omega
  rw [ringPlus_nat _ _ _ (by rw [h1]; exact Nat.mod_lt _ hp) (by rw [h2]; exact Nat.mod_lt _ hp), h1, h2, ← Nat.add_mod, p2_256]
  congr 1
  simp only [nat8, nat4]
  omega
end
end Go.Proofs.Ythechjccpljljaa
