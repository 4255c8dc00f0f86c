/- Package limb: order, shifts, bits, bytes, as numbers. Plain. -/
import Derived.Test.YthechjccpljljaaLimbLaws
namespace Go.Proofs.Ythechjccpljljaa
open Go.Sym

theorem cmp_nat (a b : Four) : limb_Cmp a b = if nat4 a < nat4 b then -1 else if nat4 a = nat4 b then 0 else 1 := by
  have := u64_lt a.w0; have := u64_lt a.w1; have := u64_lt a.w2; have := u64_lt a.w3
  have := u64_lt b.w0; have := u64_lt b.w1; have := u64_lt b.w2; have := u64_lt b.w3
  have key : ∀ (x y : UInt64) (r : Int), cond (x != y) (cond (decide (x < y)) (-1) 1) r = if x.toNat < y.toNat then -1 else if x.toNat = y.toNat then r else 1 := by
    intro x y r
    by_cases h : x = y
    · subst h; simp
    · have h' : x.toNat ≠ y.toNat := fun e => h (UInt64.toNat_inj.1 e)
      have hb : (x != y) = true := by simpa using h
      by_cases hl : x < y
      · have := UInt64.lt_iff_toNat_lt.1 hl
        simp [hb, hl, this]
      · have : ¬ x.toNat < y.toNat := fun e => hl (UInt64.lt_iff_toNat_lt.2 e)
        simp [hb, hl, this, h']
  simp only [limb_Cmp, key, nat4]
  repeat' split
  all_goals first | rfl | omega

/-! Shifts. -/
theorem or_low (x y k : Nat) (hk : k ≤ 64) : (x * 2 ^ k % 18446744073709551616) ||| (y / 2 ^ (64 - k) % 2 ^ k) = x * 2 ^ k % 18446744073709551616 + y / 2 ^ (64 - k) % 2 ^ k := by
  have e : x * 2 ^ k % 18446744073709551616 = (x % 2 ^ (64 - k)) <<< k := by
    rw [Nat.shiftLeft_eq, show 18446744073709551616 = 2 ^ (64 - k) * 2 ^ k by rw [← Nat.pow_add, Nat.sub_add_cancel hk], Nat.mul_mod_mul_right]
  rw [e, ← Nat.shiftLeft_add_eq_or_of_lt (Nat.mod_lt _ (Nat.two_pow_pos k))]
theorem div_low (y : UInt64) (k : Nat) (hk : k ≤ 64) : y.toNat / 2 ^ (64 - k) % 2 ^ k = y.toNat / 2 ^ (64 - k) := by
  apply Nat.mod_eq_of_lt
  rw [Nat.div_lt_iff_lt_mul (Nat.two_pow_pos _), ← Nat.pow_add, Nat.add_sub_cancel' hk]
  exact u64_lt y
theorem lx_nat (x y : UInt64) (k : Nat) (hk : k < 64) : (lx x y k).toNat = x.toNat * 2 ^ k % 18446744073709551616 + y.toNat / 2 ^ (64 - k) := by
  have hy := u64_lt y
  by_cases h : k = 0
  · subst h
    simp only [lx, show Nat.blt 0 0 = false from rfl, cond_false, shl64_nat, Nat.sub_zero]
    have : y.toNat / 2 ^ 64 = 0 := Nat.div_eq_of_lt hy
    omega
  · have e : Nat.blt 0 k = true := by rw [Nat.blt_eq]; omega
    simp only [lx, e, cond_true, UInt64.toNat_or, shl64_nat, shr64_nat]
    have := or_low x.toNat y.toNat k (by omega)
    rw [div_low y k (by omega)] at this
    exact this
theorem rx_nat (x y : UInt64) (k : Nat) (hk : k < 64) : (rx x y k).toNat = x.toNat / 2 ^ k + y.toNat * 2 ^ (64 - k) % 18446744073709551616 := by
  have hx := u64_lt x
  by_cases h : k = 0
  · subst h
    simp only [rx, show Nat.blt 0 0 = false from rfl, cond_false, shr64_nat, Nat.sub_zero]
    have : y.toNat * 2 ^ 64 % 18446744073709551616 = 0 := Nat.mul_mod_left _ _
    omega
  · have e : Nat.blt 0 k = true := by rw [Nat.blt_eq]; omega
    simp only [rx, e, cond_true, UInt64.toNat_or, shl64_nat, shr64_nat]
    have := or_low y.toNat x.toNat (64 - k) (by omega)
    rw [show 64 - (64 - k) = k by omega] at this
    have h2 := div_low x (64 - k) (by omega)
    rw [show 64 - (64 - k) = k by omega] at h2
    rw [h2] at this
    rw [Nat.or_comm, this, Nat.add_comm]

/-- A word parted at a place: what stays and what goes over. -/
theorem part (x : UInt64) (k : Nat) (hk : k ≤ 64) : x.toNat * 2 ^ k = x.toNat * 2 ^ k % 18446744073709551616 + 18446744073709551616 * (x.toNat / 2 ^ (64 - k)) := by
  have e : 18446744073709551616 = 2 ^ (64 - k) * 2 ^ k := by rw [← Nat.pow_add, Nat.sub_add_cancel hk]
  have h := Nat.mod_add_div (x.toNat * 2 ^ k) 18446744073709551616
  have : x.toNat * 2 ^ k / 18446744073709551616 = x.toNat / 2 ^ (64 - k) := by
    rw [e, Nat.mul_div_mul_right _ _ (Nat.two_pow_pos k)]
  rw [this] at h
  exact h.symm
theorem left_nat_aux (a : Four) (q k : Nat) (hk : k < 64) (hq : q < 4) : nat4 (leftN a (64 * q + k)) = nat4 a * 2 ^ (64 * q + k) % 115792089237316195423570985008687907853269984665640564039457584007913129639936 := by
  have h0 := part a.w0 k (by omega)
  have h1 := part a.w1 k (by omega)
  have h2 := part a.w2 k (by omega)
  have h3 := part a.w3 k (by omega)
  have e : nat4 a * 2 ^ k = a.w0.toNat * 2 ^ k + 18446744073709551616 * (a.w1.toNat * 2 ^ k + 18446744073709551616 * (a.w2.toNat * 2 ^ k + 18446744073709551616 * (a.w3.toNat * 2 ^ k))) := by rw [nat4]; grind
  have eq : (64 * q + k) / 64 = q := by omega
  have ek : (64 * q + k) % 64 = k := by omega
  have l0 := (lx_nat a.w1 a.w0 k hk)
  have l1 := (lx_nat a.w2 a.w1 k hk)
  have l2 := (lx_nat a.w3 a.w2 k hk)
  have b0 := u64_lt (lx a.w1 a.w0 k)
  have b1 := u64_lt (lx a.w2 a.w1 k)
  have b2 := u64_lt (lx a.w3 a.w2 k)
  have s0 := shl64_nat a.w0 k
  have z : (0 : UInt64).toNat = 0 := rfl
  rw [Nat.pow_add, Nat.mul_comm (2 ^ (64 * q)), ← Nat.mul_assoc, e]
  simp only [leftN, eq, ek]
  generalize a.w0.toNat * 2 ^ k = p0 at *
  generalize a.w1.toNat * 2 ^ k = p1 at *
  generalize a.w2.toNat * 2 ^ k = p2 at *
  generalize a.w3.toNat * 2 ^ k = p3 at *
  generalize a.w0.toNat / 2 ^ (64 - k) = d0 at *
  generalize a.w1.toNat / 2 ^ (64 - k) = d1 at *
  generalize a.w2.toNat / 2 ^ (64 - k) = d2 at *
  generalize a.w3.toNat / 2 ^ (64 - k) = d3 at *
  have : q = 0 ∨ q = 1 ∨ q = 2 ∨ q = 3 := by omega
  rcases this with rfl | rfl | rfl | rfl
  · simp only [nat4, s0, l0, l1, l2, Nat.mul_zero, Nat.pow_zero, Nat.mul_one]
    omega
  · simp only [nat4, s0, l0, l1, z, Nat.mul_one, show (2 : Nat) ^ 64 = 18446744073709551616 from rfl]
    omega
  · simp only [nat4, s0, l0, z, show (2 : Nat) ^ (64 * 2) = 340282366920938463463374607431768211456 from rfl]
    omega
  · simp only [nat4, s0, z, show (2 : Nat) ^ (64 * 3) = 6277101735386680763835789423207666416102355444464034512896 from rfl]
    omega
theorem right_nat_aux (a : Four) (q k : Nat) (hk : k < 64) (hq : q < 4) : nat4 (rightN a (64 * q + k)) = nat4 a / 2 ^ (64 * q + k) := by
  have eq : (64 * q + k) / 64 = q := by omega
  have ek : (64 * q + k) % 64 = k := by omega
  have l0 := (rx_nat a.w0 a.w1 k hk)
  have l1 := (rx_nat a.w1 a.w2 k hk)
  have l2 := (rx_nat a.w2 a.w3 k hk)
  have s3 := shr64_nat a.w3 k
  have z : (0 : UInt64).toNat = 0 := rfl
  -- x * 2^(64-k) = (low) + 18446744073709551616 * (x / 2^k)
  have pt : ∀ x : UInt64, x.toNat * 2 ^ (64 - k) = x.toNat * 2 ^ (64 - k) % 18446744073709551616 + 18446744073709551616 * (x.toNat / 2 ^ k) := fun x => by
    have h := part x (64 - k) (by omega)
    rw [show 64 - (64 - k) = k by omega] at h
    exact h
  have p1 := pt a.w1
  have p2 := pt a.w2
  have p3 := pt a.w3
  rw [Nat.pow_add, ← Nat.div_div_eq_div_mul]
  simp only [rightN, eq, ek]
  have low : ∀ x : UInt64, ∃ r, r < 2 ^ k ∧ x.toNat = r + 2 ^ k * (x.toNat / 2 ^ k) := fun x => ⟨x.toNat % 2 ^ k, Nat.mod_lt _ (Nat.two_pow_pos k), by have := Nat.mod_add_div x.toNat (2 ^ k); omega⟩
  -- a number by 2^k, of words
  have divk : ∀ (x : UInt64) (y : Nat), (x.toNat + 18446744073709551616 * y) / 2 ^ k = x.toNat / 2 ^ k + 2 ^ (64 - k) * y := fun x y => by
    have : 18446744073709551616 = 2 ^ k * 2 ^ (64 - k) := by rw [← Nat.pow_add, Nat.add_sub_cancel' (by omega)]
    rw [this, Nat.mul_assoc, Nat.add_mul_div_left _ _ (Nat.two_pow_pos k)]
  have m1 : ∀ y : Nat, 2 ^ (64 - k) * y = y * 2 ^ (64 - k) := fun y => Nat.mul_comm _ _
  have full : ∀ (w0 w1 w2 w3 : UInt64), (w0.toNat + 18446744073709551616 * (w1.toNat + 18446744073709551616 * (w2.toNat + 18446744073709551616 * w3.toNat))) / 2 ^ k =
      (w0.toNat / 2 ^ k + w1.toNat * 2 ^ (64 - k) % 18446744073709551616) + 18446744073709551616 * ((w1.toNat / 2 ^ k + w2.toNat * 2 ^ (64 - k) % 18446744073709551616) + 18446744073709551616 * ((w2.toNat / 2 ^ k + w3.toNat * 2 ^ (64 - k) % 18446744073709551616) + 18446744073709551616 * (w3.toNat / 2 ^ k))) := fun w0 w1 w2 w3 => by
    rw [divk]
    have q1 := pt w1; have q2 := pt w2; have q3 := pt w3
    have e : 2 ^ (64 - k) * (w1.toNat + 18446744073709551616 * (w2.toNat + 18446744073709551616 * w3.toNat)) = w1.toNat * 2 ^ (64 - k) + 18446744073709551616 * (w2.toNat * 2 ^ (64 - k) + 18446744073709551616 * (w3.toNat * 2 ^ (64 - k))) := by grind
    rw [e]
    generalize w1.toNat * 2 ^ (64 - k) = u1 at *
    generalize w2.toNat * 2 ^ (64 - k) = u2 at *
    generalize w3.toNat * 2 ^ (64 - k) = u3 at *
    omega
  have h0 := u64_lt a.w0; have h1 := u64_lt a.w1; have h2 := u64_lt a.w2; have h3 := u64_lt a.w3
  have this : q = 0 ∨ q = 1 ∨ q = 2 ∨ q = 3 := by omega
  rcases this with rfl | rfl | rfl | rfl
  · simp only [nat4, l0, l1, l2, s3, Nat.mul_zero, Nat.pow_zero, Nat.div_one, full]
  · have e : nat4 a / 2 ^ (64 * 1) = a.w1.toNat + 18446744073709551616 * (a.w2.toNat + 18446744073709551616 * (a.w3.toNat + 18446744073709551616 * (0 : UInt64).toNat)) := by simp only [nat4, z, Nat.mul_one, show (2 : Nat) ^ 64 = 18446744073709551616 from rfl]; omega
    rw [e, full]; simp only [nat4, l1, l2, s3, z, Nat.zero_div, Nat.zero_mul, Nat.zero_mod, Nat.mul_zero, Nat.add_zero]
  · have e : nat4 a / 2 ^ (64 * 2) = a.w2.toNat + 18446744073709551616 * (a.w3.toNat + 18446744073709551616 * ((0 : UInt64).toNat + 18446744073709551616 * (0 : UInt64).toNat)) := by simp only [nat4, z, show (2 : Nat) ^ (64 * 2) = 340282366920938463463374607431768211456 from rfl]; omega
    rw [e, full]; simp only [nat4, l2, s3, z, Nat.zero_div, Nat.zero_mul, Nat.zero_mod, Nat.mul_zero, Nat.add_zero]
  · have e : nat4 a / 2 ^ (64 * 3) = a.w3.toNat + 18446744073709551616 * ((0 : UInt64).toNat + 18446744073709551616 * ((0 : UInt64).toNat + 18446744073709551616 * (0 : UInt64).toNat)) := by simp only [nat4, z, show (2 : Nat) ^ (64 * 3) = 6277101735386680763835789423207666416102355444464034512896 from rfl]; omega
    rw [e, full]; simp only [nat4, s3, z, Nat.zero_div, Nat.zero_mul, Nat.zero_mod, Nat.mul_zero, Nat.add_zero]
theorem left_nat (a : Four) (n : Nat) (h : n < 256) : nat4 (limb_Left a n) = nat4 a * 2 ^ n % 115792089237316195423570985008687907853269984665640564039457584007913129639936 := by
  have hlt := nat4_lt a
  by_cases h0 : n = 0
  · subst h0
    rw [show limb_Left a ((0 : Nat) : Int) = a by simp [limb_Left], Nat.pow_zero, Nat.mul_one, Nat.mod_eq_of_lt hlt]
  · rw [show limb_Left a (n : Int) = leftN a n by simp only [limb_Left, show ¬ (n : Int) ≤ 0 by omega, show ¬ (255 : Int) < n by omega, if_false, Int.toNat_natCast]]
    have := left_nat_aux a (n / 64) (n % 64) (by omega) (by omega)
    rwa [show 64 * (n / 64) + n % 64 = n by omega] at this
theorem right_nat (a : Four) (n : Nat) (h : n < 256) : nat4 (limb_Right a n) = nat4 a / 2 ^ n := by
  by_cases h0 : n = 0
  · subst h0
    rw [show limb_Right a ((0 : Nat) : Int) = a by simp [limb_Right], Nat.pow_zero, Nat.div_one]
  · rw [show limb_Right a (n : Int) = rightN a n by simp only [limb_Right, show ¬ (n : Int) ≤ 0 by omega, show ¬ (255 : Int) < n by omega, if_false, Int.toNat_natCast]]
    have := right_nat_aux a (n / 64) (n % 64) (by omega) (by omega)
    rwa [show 64 * (n / 64) + n % 64 = n by omega] at this
end Go.Proofs.Ythechjccpljljaa
