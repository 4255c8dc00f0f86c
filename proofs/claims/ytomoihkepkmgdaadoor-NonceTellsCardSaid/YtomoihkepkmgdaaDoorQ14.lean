/- A symbolic machine for Go functions, and what the functions that the law reaches come to: LimbLaws2, LimbLaws3, NoF, NoG, NoH, SymS, NoI. -/
import Derived.Test.YtomoihkepkmgdaaDoorQ13
import Derived.Test.YtomoihkepkmgdaaDoorQ12
import Derived.Test.YtomoihkepkmgdaaDoorQ2
/- Package limb: order, shifts, bits, bytes, as numbers. Plain. -/
namespace Go.Proofs.YtomoihkepkmgdaaDoor
open Go.Sym

theorem cmp_nat (a b : Four) : limb_Cmp a b = if nat4 a < nat4 b then -1 else if nat4 a = nat4 b then 0 else 1 := by
  have := u64_lt a.w0; have := u64_lt a.w1; have := u64_lt a.w2; have := u64_lt a.w3
  have := u64_lt b.w0; have := u64_lt b.w1; have := u64_lt b.w2; have := u64_lt b.w3
  have key : ∀ (x y : UInt64) (r : Int), cond (x != y) (cond (decide (x < y)) (-1) 1) r = if x.toNat < y.toNat then -1 else if x.toNat = y.toNat then r else 1 := by
    intro x y r
    by_cases h : x = y
    · subst h; simp
    · have h' : x.toNat ≠ y.toNat := fun e => h (UInt64.toNat_inj.1 e)
      have hb : (x != y) = true := by simpa using h
      by_cases hl : x < y
      · have := UInt64.lt_iff_toNat_lt.1 hl
        simp [hb, hl, this]
      · have : ¬ x.toNat < y.toNat := fun e => hl (UInt64.lt_iff_toNat_lt.2 e)
        simp [hb, hl, this, h']
  simp only [limb_Cmp, key, nat4]
  repeat' split
  all_goals first | rfl | omega

/-! Shifts. -/
theorem or_low (x y k : Nat) (hk : k ≤ 64) : (x * 2 ^ k % 18446744073709551616) ||| (y / 2 ^ (64 - k) % 2 ^ k) = x * 2 ^ k % 18446744073709551616 + y / 2 ^ (64 - k) % 2 ^ k := by
  have e : x * 2 ^ k % 18446744073709551616 = (x % 2 ^ (64 - k)) <<< k := by
    rw [Nat.shiftLeft_eq, show 18446744073709551616 = 2 ^ (64 - k) * 2 ^ k by rw [← Nat.pow_add, Nat.sub_add_cancel hk], Nat.mul_mod_mul_right]
  rw [e, ← Nat.shiftLeft_add_eq_or_of_lt (Nat.mod_lt _ (Nat.two_pow_pos k))]
theorem div_low (y : UInt64) (k : Nat) (hk : k ≤ 64) : y.toNat / 2 ^ (64 - k) % 2 ^ k = y.toNat / 2 ^ (64 - k) := by
  apply Nat.mod_eq_of_lt
  rw [Nat.div_lt_iff_lt_mul (Nat.two_pow_pos _), ← Nat.pow_add, Nat.add_sub_cancel' hk]
  exact u64_lt y
theorem lx_nat (x y : UInt64) (k : Nat) (hk : k < 64) : (lx x y k).toNat = x.toNat * 2 ^ k % 18446744073709551616 + y.toNat / 2 ^ (64 - k) := by
  have hy := u64_lt y
  by_cases h : k = 0
  · subst h
    simp only [lx, show Nat.blt 0 0 = false from rfl, cond_false, shl64_nat, Nat.sub_zero]
    have : y.toNat / 2 ^ 64 = 0 := Nat.div_eq_of_lt hy
    omega
  · have e : Nat.blt 0 k = true := by rw [Nat.blt_eq]; omega
    simp only [lx, e, cond_true, UInt64.toNat_or, shl64_nat, shr64_nat]
    have := or_low x.toNat y.toNat k (by omega)
    rw [div_low y k (by omega)] at this
    exact this
theorem rx_nat (x y : UInt64) (k : Nat) (hk : k < 64) : (rx x y k).toNat = x.toNat / 2 ^ k + y.toNat * 2 ^ (64 - k) % 18446744073709551616 := by
  have hx := u64_lt x
  by_cases h : k = 0
  · subst h
    simp only [rx, show Nat.blt 0 0 = false from rfl, cond_false, shr64_nat, Nat.sub_zero]
    have : y.toNat * 2 ^ 64 % 18446744073709551616 = 0 := Nat.mul_mod_left _ _
    omega
  · have e : Nat.blt 0 k = true := by rw [Nat.blt_eq]; omega
    simp only [rx, e, cond_true, UInt64.toNat_or, shl64_nat, shr64_nat]
    have := or_low y.toNat x.toNat (64 - k) (by omega)
    rw [show 64 - (64 - k) = k by omega] at this
    have h2 := div_low x (64 - k) (by omega)
    rw [show 64 - (64 - k) = k by omega] at h2
    rw [h2] at this
    rw [Nat.or_comm, this, Nat.add_comm]

/-- A word parted at a place: what stays and what goes over. -/
theorem part (x : UInt64) (k : Nat) (hk : k ≤ 64) : x.toNat * 2 ^ k = x.toNat * 2 ^ k % 18446744073709551616 + 18446744073709551616 * (x.toNat / 2 ^ (64 - k)) := by
  have e : 18446744073709551616 = 2 ^ (64 - k) * 2 ^ k := by rw [← Nat.pow_add, Nat.sub_add_cancel hk]
  have h := Nat.mod_add_div (x.toNat * 2 ^ k) 18446744073709551616
  have : x.toNat * 2 ^ k / 18446744073709551616 = x.toNat / 2 ^ (64 - k) := by
    rw [e, Nat.mul_div_mul_right _ _ (Nat.two_pow_pos k)]
  rw [this] at h
  exact h.symm
theorem left_nat_aux (a : Four) (q k : Nat) (hk : k < 64) (hq : q < 4) : nat4 (leftN a (64 * q + k)) = nat4 a * 2 ^ (64 * q + k) % 115792089237316195423570985008687907853269984665640564039457584007913129639936 := by
  have h0 := part a.w0 k (by omega)
  have h1 := part a.w1 k (by omega)
  have h2 := part a.w2 k (by omega)
  have h3 := part a.w3 k (by omega)
  have e : nat4 a * 2 ^ k = a.w0.toNat * 2 ^ k + 18446744073709551616 * (a.w1.toNat * 2 ^ k + 18446744073709551616 * (a.w2.toNat * 2 ^ k + 18446744073709551616 * (a.w3.toNat * 2 ^ k))) := by rw [nat4]; grind
  have eq : (64 * q + k) / 64 = q := by omega
  have ek : (64 * q + k) % 64 = k := by omega
  have l0 := (lx_nat a.w1 a.w0 k hk)
  have l1 := (lx_nat a.w2 a.w1 k hk)
  have l2 := (lx_nat a.w3 a.w2 k hk)
  have b0 := u64_lt (lx a.w1 a.w0 k)
  have b1 := u64_lt (lx a.w2 a.w1 k)
  have b2 := u64_lt (lx a.w3 a.w2 k)
  have s0 := shl64_nat a.w0 k
  have z : (0 : UInt64).toNat = 0 := rfl
  rw [Nat.pow_add, Nat.mul_comm (2 ^ (64 * q)), ← Nat.mul_assoc, e]
  simp only [leftN, eq, ek]
  generalize a.w0.toNat * 2 ^ k = p0 at *
  generalize a.w1.toNat * 2 ^ k = p1 at *
  generalize a.w2.toNat * 2 ^ k = p2 at *
  generalize a.w3.toNat * 2 ^ k = p3 at *
  generalize a.w0.toNat / 2 ^ (64 - k) = d0 at *
  generalize a.w1.toNat / 2 ^ (64 - k) = d1 at *
  generalize a.w2.toNat / 2 ^ (64 - k) = d2 at *
  generalize a.w3.toNat / 2 ^ (64 - k) = d3 at *
  have : q = 0 ∨ q = 1 ∨ q = 2 ∨ q = 3 := by omega
  rcases this with rfl | rfl | rfl | rfl
  · simp only [nat4, s0, l0, l1, l2, Nat.mul_zero, Nat.pow_zero, Nat.mul_one]
    omega
  · simp only [nat4, s0, l0, l1, z, Nat.mul_one, show (2 : Nat) ^ 64 = 18446744073709551616 from rfl]
    omega
  · simp only [nat4, s0, l0, z, show (2 : Nat) ^ (64 * 2) = 340282366920938463463374607431768211456 from rfl]
    omega
  · simp only [nat4, s0, z, show (2 : Nat) ^ (64 * 3) = 6277101735386680763835789423207666416102355444464034512896 from rfl]
    omega
theorem right_nat_aux (a : Four) (q k : Nat) (hk : k < 64) (hq : q < 4) : nat4 (rightN a (64 * q + k)) = nat4 a / 2 ^ (64 * q + k) := by
  have eq : (64 * q + k) / 64 = q := by omega
  have ek : (64 * q + k) % 64 = k := by omega
  have l0 := (rx_nat a.w0 a.w1 k hk)
  have l1 := (rx_nat a.w1 a.w2 k hk)
  have l2 := (rx_nat a.w2 a.w3 k hk)
  have s3 := shr64_nat a.w3 k
  have z : (0 : UInt64).toNat = 0 := rfl
  -- x * 2^(64-k) = (low) + 18446744073709551616 * (x / 2^k)
  have pt : ∀ x : UInt64, x.toNat * 2 ^ (64 - k) = x.toNat * 2 ^ (64 - k) % 18446744073709551616 + 18446744073709551616 * (x.toNat / 2 ^ k) := fun x => by
    have h := part x (64 - k) (by omega)
    rw [show 64 - (64 - k) = k by omega] at h
    exact h
  have p1 := pt a.w1
  have p2 := pt a.w2
  have p3 := pt a.w3
  rw [Nat.pow_add, ← Nat.div_div_eq_div_mul]
  simp only [rightN, eq, ek]
  have low : ∀ x : UInt64, ∃ r, r < 2 ^ k ∧ x.toNat = r + 2 ^ k * (x.toNat / 2 ^ k) := fun x => ⟨x.toNat % 2 ^ k, Nat.mod_lt _ (Nat.two_pow_pos k), by have := Nat.mod_add_div x.toNat (2 ^ k); omega⟩
  -- a number by 2^k, of words
  have divk : ∀ (x : UInt64) (y : Nat), (x.toNat + 18446744073709551616 * y) / 2 ^ k = x.toNat / 2 ^ k + 2 ^ (64 - k) * y := fun x y => by
    have : 18446744073709551616 = 2 ^ k * 2 ^ (64 - k) := by rw [← Nat.pow_add, Nat.add_sub_cancel' (by omega)]
    rw [this, Nat.mul_assoc, Nat.add_mul_div_left _ _ (Nat.two_pow_pos k)]
  have m1 : ∀ y : Nat, 2 ^ (64 - k) * y = y * 2 ^ (64 - k) := fun y => Nat.mul_comm _ _
  have full : ∀ (w0 w1 w2 w3 : UInt64), (w0.toNat + 18446744073709551616 * (w1.toNat + 18446744073709551616 * (w2.toNat + 18446744073709551616 * w3.toNat))) / 2 ^ k =
      (w0.toNat / 2 ^ k + w1.toNat * 2 ^ (64 - k) % 18446744073709551616) + 18446744073709551616 * ((w1.toNat / 2 ^ k + w2.toNat * 2 ^ (64 - k) % 18446744073709551616) + 18446744073709551616 * ((w2.toNat / 2 ^ k + w3.toNat * 2 ^ (64 - k) % 18446744073709551616) + 18446744073709551616 * (w3.toNat / 2 ^ k))) := fun w0 w1 w2 w3 => by
    rw [divk]
    have q1 := pt w1; have q2 := pt w2; have q3 := pt w3
    have e : 2 ^ (64 - k) * (w1.toNat + 18446744073709551616 * (w2.toNat + 18446744073709551616 * w3.toNat)) = w1.toNat * 2 ^ (64 - k) + 18446744073709551616 * (w2.toNat * 2 ^ (64 - k) + 18446744073709551616 * (w3.toNat * 2 ^ (64 - k))) := by grind
    rw [e]
    generalize w1.toNat * 2 ^ (64 - k) = u1 at *
    generalize w2.toNat * 2 ^ (64 - k) = u2 at *
    generalize w3.toNat * 2 ^ (64 - k) = u3 at *
    omega
  have h0 := u64_lt a.w0; have h1 := u64_lt a.w1; have h2 := u64_lt a.w2; have h3 := u64_lt a.w3
  have this : q = 0 ∨ q = 1 ∨ q = 2 ∨ q = 3 := by omega
  rcases this with rfl | rfl | rfl | rfl
  · simp only [nat4, l0, l1, l2, s3, Nat.mul_zero, Nat.pow_zero, Nat.div_one, full]
  · have e : nat4 a / 2 ^ (64 * 1) = a.w1.toNat + 18446744073709551616 * (a.w2.toNat + 18446744073709551616 * (a.w3.toNat + 18446744073709551616 * (0 : UInt64).toNat)) := by simp only [nat4, z, Nat.mul_one, show (2 : Nat) ^ 64 = 18446744073709551616 from rfl]; omega
    rw [e, full]; simp only [nat4, l1, l2, s3, z, Nat.zero_div, Nat.zero_mul, Nat.zero_mod, Nat.mul_zero, Nat.add_zero]
  · have e : nat4 a / 2 ^ (64 * 2) = a.w2.toNat + 18446744073709551616 * (a.w3.toNat + 18446744073709551616 * ((0 : UInt64).toNat + 18446744073709551616 * (0 : UInt64).toNat)) := by simp only [nat4, z, show (2 : Nat) ^ (64 * 2) = 340282366920938463463374607431768211456 from rfl]; omega
    rw [e, full]; simp only [nat4, l2, s3, z, Nat.zero_div, Nat.zero_mul, Nat.zero_mod, Nat.mul_zero, Nat.add_zero]
  · have e : nat4 a / 2 ^ (64 * 3) = a.w3.toNat + 18446744073709551616 * ((0 : UInt64).toNat + 18446744073709551616 * ((0 : UInt64).toNat + 18446744073709551616 * (0 : UInt64).toNat)) := by simp only [nat4, z, show (2 : Nat) ^ (64 * 3) = 6277101735386680763835789423207666416102355444464034512896 from rfl]; omega
    rw [e, full]; simp only [nat4, s3, z, Nat.zero_div, Nat.zero_mul, Nat.zero_mod, Nat.mul_zero, Nat.add_zero]
theorem left_nat (a : Four) (n : Nat) (h : n < 256) : nat4 (limb_Left a n) = nat4 a * 2 ^ n % 115792089237316195423570985008687907853269984665640564039457584007913129639936 := by
  have hlt := nat4_lt a
  by_cases h0 : n = 0
  · subst h0
    rw [show limb_Left a ((0 : Nat) : Int) = a by simp [limb_Left], Nat.pow_zero, Nat.mul_one, Nat.mod_eq_of_lt hlt]
  · rw [show limb_Left a (n : Int) = leftN a n by simp only [limb_Left, show ¬ (n : Int) ≤ 0 by omega, show ¬ (255 : Int) < n by omega, if_false, Int.toNat_natCast]]
    have := left_nat_aux a (n / 64) (n % 64) (by omega) (by omega)
    rwa [show 64 * (n / 64) + n % 64 = n by omega] at this
theorem right_nat (a : Four) (n : Nat) (h : n < 256) : nat4 (limb_Right a n) = nat4 a / 2 ^ n := by
  by_cases h0 : n = 0
  · subst h0
    rw [show limb_Right a ((0 : Nat) : Int) = a by simp [limb_Right], Nat.pow_zero, Nat.div_one]
  · rw [show limb_Right a (n : Int) = rightN a n by simp only [limb_Right, show ¬ (n : Int) ≤ 0 by omega, show ¬ (255 : Int) < n by omega, if_false, Int.toNat_natCast]]
    have := right_nat_aux a (n / 64) (n % 64) (by omega) (by omega)
    rwa [show 64 * (n / 64) + n % 64 = n by omega] at this
end Go.Proofs.YtomoihkepkmgdaaDoor
/- Package limb: how many bits; bytes there and back. Plain. -/
namespace Go.Proofs.YtomoihkepkmgdaaDoor
open Go.Sym

theorem bitLenAux_spec : ∀ (f x : Nat), x < 2 ^ f → x < 2 ^ Lib.bitLenAux f x ∧ Lib.bitLenAux f x ≤ f ∧ (x ≠ 0 → 0 < Lib.bitLenAux f x ∧ 2 ^ (Lib.bitLenAux f x - 1) ≤ x) ∧ (x = 0 → Lib.bitLenAux f x = 0)
  | 0, x, h => by
    have : x = 0 := by simpa using h
    subst this
    simp [Lib.bitLenAux]
  | f + 1, x, h => by
    by_cases hx : x = 0
    · subst hx; simp [Lib.bitLenAux]
    · have h2 : x / 2 < 2 ^ f := by rw [Nat.pow_succ] at h; omega
      obtain ⟨i1, i2, i3, i4⟩ := bitLenAux_spec f (x / 2) h2
      simp only [Lib.bitLenAux, hx, if_false]
      refine ⟨?_, by omega, fun _ => ⟨by omega, ?_⟩, fun e => e.elim⟩
      · rw [Nat.add_comm, Nat.pow_succ]; omega
      · by_cases h0 : x / 2 = 0
        · rw [i4 h0]; simp; omega
        · obtain ⟨j1, j2⟩ := i3 h0
          rw [Nat.add_sub_cancel_left, show Lib.bitLenAux f (x / 2) = (Lib.bitLenAux f (x / 2) - 1) + 1 by omega, Nat.pow_succ]
          omega
theorem len64_spec (x : UInt64) : ∃ n : Nat, len64 x = n ∧ n ≤ 64 ∧ x.toNat < 2 ^ n ∧ (x.toNat ≠ 0 → 0 < n ∧ 2 ^ (n - 1) ≤ x.toNat) := by
  obtain ⟨h1, h2, h3, _⟩ := bitLenAux_spec 64 x.toNat (u64_lt x)
  exact ⟨_, rfl, h2, h1, h3⟩
/-- A number's bits. -/
def IsBits (m n : Nat) : Prop := m < 2 ^ n ∧ (m ≠ 0 → 0 < n ∧ 2 ^ (n - 1) ≤ m) ∧ (m = 0 → n = 0)
theorem IsBits.unique {m n k : Nat} (h : IsBits m n) (h' : IsBits m k) : n = k := by
  obtain ⟨a1, a2, a3⟩ := h
  obtain ⟨b1, b2, b3⟩ := h'
  by_cases hm : m = 0
  · rw [a3 hm, b3 hm]
  · have c1 := a2 hm; have c2 := b2 hm
    have d1 : 2 ^ (n - 1) < 2 ^ k := Nat.lt_of_le_of_lt c1.2 b1
    have d2 : 2 ^ (k - 1) < 2 ^ n := Nat.lt_of_le_of_lt c2.2 a1
    have e1 := (Nat.pow_lt_pow_iff_right (a := 2) (by omega)).1 d1
    have e2 := (Nat.pow_lt_pow_iff_right (a := 2) (by omega)).1 d2
    omega
theorem IsBits.up {m n l : Nat} (r : Nat) (h : IsBits m n) (hm : m ≠ 0) (hr : r < 2 ^ l) : IsBits (r + 2 ^ l * m) (l + n) := by
  obtain ⟨h1, h2, _⟩ := h
  obtain ⟨h3, h4⟩ := h2 hm
  have hp := Nat.two_pow_pos l
  refine ⟨?_, fun _ => ⟨by omega, ?_⟩, fun e => ?_⟩
  · rw [Nat.pow_add]
    have : 2 ^ l * (m + 1) ≤ 2 ^ l * 2 ^ n := Nat.mul_le_mul_left _ h1
    rw [Nat.mul_add] at this; omega
  · rw [show l + n - 1 = l + (n - 1) by omega, Nat.pow_add]
    have := Nat.mul_le_mul_left (2 ^ l) h4
    omega
  · exfalso
    have := Nat.mul_le_mul_left (2 ^ l) (show 1 ≤ m by omega)
    omega
theorem bits_nat (a : Four) : ∃ n : Nat, limb_Bits a = n ∧ n ≤ 256 ∧ IsBits (nat4 a) n := by
  obtain ⟨n0, e0, l0, p0, q0⟩ := len64_spec a.w0
  obtain ⟨n1, e1, l1, p1, q1⟩ := len64_spec a.w1
  obtain ⟨n2, e2, l2, p2, q2⟩ := len64_spec a.w2
  obtain ⟨n3, e3, l3, p3, q3⟩ := len64_spec a.w3
  have h0 := u64_lt a.w0; have h1 := u64_lt a.w1; have h2 := u64_lt a.w2
  have nz : ∀ x : UInt64, x ≠ 0 → x.toNat ≠ 0 := fun x h e => h (UInt64.toNat_inj.1 e)
  have big : ∀ (x : UInt64) (n : Nat), x ≠ 0 → x.toNat < 2 ^ n → (x.toNat ≠ 0 → 0 < n ∧ 2 ^ (n - 1) ≤ x.toNat) → IsBits x.toNat n := fun x n hx h h' => ⟨h, h', fun e => (nz x hx e).elim⟩
  simp only [limb_Bits]
  by_cases z3 : a.w3 = 0
  · by_cases z2 : a.w2 = 0
    · by_cases z1 : a.w1 = 0
      · by_cases z0 : a.w0 = 0
        · refine ⟨0, by simp [z0, z1, z2, z3], by omega, ?_⟩
          have : nat4 a = 0 := by simp [nat4, z0, z1, z2, z3]
          rw [this]; exact ⟨by simp, fun h => (h rfl).elim, fun _ => rfl⟩
        · refine ⟨n0, ?_, by omega, ?_⟩
          · simp only [z1, z2, z3, bne_self_eq_false, cond_false, show (a.w0 != 0) = true by simpa using z0, cond_true, e0]
            rw [wr_small (by omega) (by omega)]; omega
          · have : nat4 a = a.w0.toNat := by simp [nat4, z1, z2, z3]
            rw [this]; exact big _ _ z0 p0 q0
      · refine ⟨64 + n1, ?_, by omega, ?_⟩
        · simp only [z2, z3, bne_self_eq_false, cond_false, show (a.w1 != 0) = true by simpa using z1, cond_true, e1]
          rw [wr_small (by omega) (by omega)]; omega
        · have : nat4 a = a.w0.toNat + 2 ^ 64 * a.w1.toNat := by simp [nat4, z2, z3]
          rw [this]; exact (big _ _ z1 p1 q1).up _ (nz _ z1) h0
    · refine ⟨128 + n2, ?_, by omega, ?_⟩
      · simp only [z3, bne_self_eq_false, cond_false, show (a.w2 != 0) = true by simpa using z2, cond_true, e2]
        rw [wr_small (by omega) (by omega)]; omega
      · have : nat4 a = (a.w0.toNat + 18446744073709551616 * a.w1.toNat) + 2 ^ 128 * a.w2.toNat := by simp [nat4, z3]; omega
        rw [this]; exact (big _ _ z2 p2 q2).up _ (nz _ z2) (by simp only [Nat.reducePow]; omega)
  · refine ⟨192 + n3, ?_, by omega, ?_⟩
    · simp only [show (a.w3 != 0) = true by simpa using z3, cond_true, e3]
      rw [wr_small (by omega) (by omega)]; omega
    · have : nat4 a = (a.w0.toNat + 18446744073709551616 * (a.w1.toNat + 18446744073709551616 * a.w2.toNat)) + 2 ^ 192 * a.w3.toNat := by simp only [nat4, Nat.reducePow]; omega
      rw [this]; exact (big _ _ z3 p3 q3).up _ (nz _ z3) (by simp only [Nat.reducePow]; omega)
theorem IsBits.down {m n : Nat} (k : Nat) (h : IsBits m n) : IsBits (m / 2 ^ k) (n - k) := by
  obtain ⟨h1, h2, h3⟩ := h
  by_cases hk : n ≤ k
  · have : m / 2 ^ k = 0 := Nat.div_eq_of_lt (Nat.lt_of_lt_of_le h1 (Nat.pow_le_pow_right (by omega) hk))
    rw [this, show n - k = 0 by omega]
    exact ⟨by simp, fun h => (h rfl).elim, fun _ => rfl⟩
  · have hm : m ≠ 0 := fun e => by have := h3 e; omega
    obtain ⟨h4, h5⟩ := h2 hm
    have g : 2 ^ (n - k - 1) ≤ m / 2 ^ k := by
      rw [Nat.le_div_iff_mul_le (Nat.two_pow_pos k), ← Nat.pow_add, show n - k - 1 + k = n - 1 by omega]; exact h5
    have gp := Nat.two_pow_pos (n - k - 1)
    refine ⟨?_, fun _ => ⟨by omega, g⟩, fun e => by omega⟩
    rw [Nat.div_lt_iff_lt_mul (Nat.two_pow_pos k), ← Nat.pow_add, show n - k + k = n by omega]
    exact h1

/-! Bytes. -/
theorem byte_step (acc : UInt64) (b : UInt8) (j : Nat) (hj : j < 8) (h : acc.toNat < 2 ^ (8 * j)) :
    (acc ||| shl64 b.toUInt64 (8 * j)).toNat = acc.toNat + b.toNat * 2 ^ (8 * j) ∧ (acc ||| shl64 b.toUInt64 (8 * j)).toNat < 2 ^ (8 * j + 8) := by
  have hb := u8_lt b
  have hs : b.toNat * 2 ^ (8 * j) < 2 ^ (8 * j + 8) := by
    rw [Nat.pow_add, Nat.mul_comm]; exact Nat.mul_lt_mul_of_pos_left hb (Nat.two_pow_pos _)
  have hB : 2 ^ (8 * j + 8) ≤ 2 ^ 64 := Nat.pow_le_pow_right (by omega) (by omega)
  have e : (acc ||| shl64 b.toUInt64 (8 * j)).toNat = acc.toNat + b.toNat * 2 ^ (8 * j) := by
    rw [UInt64.toNat_or, shl64_nat, UInt8.toNat_toUInt64, Nat.mod_eq_of_lt (show _ < 18446744073709551616 by omega), ← Nat.shiftLeft_eq, Nat.or_comm, ← Nat.shiftLeft_add_eq_or_of_lt h, Nat.add_comm]
  refine ⟨e, ?_⟩
  rw [e, Nat.pow_add]
  have : b.toNat * 2 ^ (8 * j) ≤ 255 * 2 ^ (8 * j) := Nat.mul_le_mul_right _ (by omega)
  omega
theorem wordOf_nat (xs : List UInt8) (big : Bool) (i : Nat) (f : Nat → Nat) (hf : ∀ j, f j = (xs.getD (byteAt big (8 * i + j)) 0).toNat) :
    (wordOf xs big i).toNat = f 0 + 256 * (f 1 + 256 * (f 2 + 256 * (f 3 + 256 * (f 4 + 256 * (f 5 + 256 * (f 6 + 256 * f 7)))))) := by
  have e : wordOf xs big i = (List.range 8).foldl (fun acc j => acc ||| shl64 (xs.getD (byteAt big (8 * i + j)) 0).toUInt64 (8 * j)) 0 := rfl
  rw [e, show List.range 8 = [0, 1, 2, 3, 4, 5, 6, 7] from rfl]
  simp only [List.foldl_cons, List.foldl_nil]
  obtain ⟨e0, l0⟩ := byte_step 0 (xs.getD (byteAt big (8 * i + 0)) 0) 0 (by omega) (by decide)
  obtain ⟨e1, l1⟩ := byte_step _ (xs.getD (byteAt big (8 * i + 1)) 0) 1 (by omega) l0
  obtain ⟨e2, l2⟩ := byte_step _ (xs.getD (byteAt big (8 * i + 2)) 0) 2 (by omega) l1
  obtain ⟨e3, l3⟩ := byte_step _ (xs.getD (byteAt big (8 * i + 3)) 0) 3 (by omega) l2
  obtain ⟨e4, l4⟩ := byte_step _ (xs.getD (byteAt big (8 * i + 4)) 0) 4 (by omega) l3
  obtain ⟨e5, l5⟩ := byte_step _ (xs.getD (byteAt big (8 * i + 5)) 0) 5 (by omega) l4
  obtain ⟨e6, l6⟩ := byte_step _ (xs.getD (byteAt big (8 * i + 6)) 0) 6 (by omega) l5
  obtain ⟨e7, l7⟩ := byte_step _ (xs.getD (byteAt big (8 * i + 7)) 0) 7 (by omega) l6
  rw [e7, e6, e5, e4, e3, e2, e1, e0, ← hf 0, ← hf 1, ← hf 2, ← hf 3, ← hf 4, ← hf 5, ← hf 6, ← hf 7, show (0 : UInt64).toNat = 0 from rfl]
  simp only [Nat.reduceMul, Nat.reducePow]
  omega
theorem bytesL_get (a : Four) (k : Nat) (hk : k < 32) : ((bytesL a).getD k 0).toNat = (w4 a (k / 8)).toNat / 2 ^ (8 * (k % 8)) % 256 := by
  have : (bytesL a).getD k 0 = (shr64 (w4 a (k / 8)) (8 * (k % 8))).toUInt8 := by
    unfold bytesL
    rw [List.getD_eq_getElem?_getD, List.getElem?_map, List.getElem?_range hk]; rfl
  rw [this, UInt64.toNat_toUInt8, shr64_nat]
theorem bytes_get (a : Four) (big : Bool) (k : Nat) (hk : k < 32) : (limb_Bytes a big).getD (byteAt big k) 0 = (bytesL a).getD k 0 := by
  have hl : (bytesL a).length = 32 := by simp [bytesL]
  cases big with
  | false => rfl
  | true =>
    simp only [limb_Bytes, cond_true, byteAt, List.getD_eq_getElem?_getD]
    rw [List.getElem?_reverse (by omega), hl]
    rw [show 32 - 1 - (31 - k) = k by omega]
theorem bytes_len (a : Four) (big : Bool) : (limb_Bytes a big).length = 32 := by cases big <;> simp [limb_Bytes, bytesL]
theorem word_back (a : Four) (big : Bool) (i : Nat) (hi : i < 4) : wordOf (limb_Bytes a big) big i = w4 a i := by
  apply UInt64.toNat_inj.1
  have hf : ∀ j, j < 8 → ((limb_Bytes a big).getD (byteAt big (8 * i + j)) 0).toNat = (w4 a i).toNat / 2 ^ (8 * j) % 256 := fun j hj => by
    rw [bytes_get a big _ (by omega), bytesL_get a _ (by omega), show (8 * i + j) / 8 = i by omega, show (8 * i + j) % 8 = j by omega]
  rw [wordOf_nat _ big i _ (fun j => rfl), hf 0 (by omega), hf 1 (by omega), hf 2 (by omega), hf 3 (by omega), hf 4 (by omega), hf 5 (by omega), hf 6 (by omega), hf 7 (by omega)]
  have := u64_lt (w4 a i)
  simp only [Nat.reduceMul, Nat.reducePow]
  omega
theorem of_bytes (a : Four) (big : Bool) : limb_Of (limb_Bytes a big) big = (a, 0) := by
  simp only [limb_Of, bytes_len, if_true, fourOf, word_back a big 0 (by omega), word_back a big 1 (by omega), word_back a big 2 (by omega), word_back a big 3 (by omega), w4]
end Go.Proofs.YtomoihkepkmgdaaDoor
/- Layer 8: a source is made, and asked: the bodies hold. -/
set_option maxRecDepth 10000
namespace Go.Proofs.YtomoihkepkmgdaaDoor.H8
open Go.Sym Go.Dig R1 H5 H7
theorem byO_len (a : Four) : (byO a).length = 32 := by rw [byO_eq]; exact bytes_len a true
theorem redV_len (a q : Four) : (redV a q).length = 32 := by
  rw [redV_eq]; unfold red0
  split <;> exact byO_len _
theorem both_len (q x : Four) (h : List UInt8) : (both8 q x h).length = 64 := by
  unfold both8; rw [List.length_append, redV_len, redV_len]
theorem spNew_ok : SpecsOK Tryd.prog spNew := .cons ok_OfO <| .cons ok_Bt4 <| .consN ok_Repeat.toN <| .consF ok_Re <| .consN ok_Stir (.nil _)
theorem QF_eq {o : Option SrcV} {e : Int} {x : SV} (h : QF (fun a b => a = o ∧ b = e) x) : x = retSV (RetL.retL (o, e, ())) := by
  unfold QF at h
  split at h
  · split at h
    · rename_i s hs
      obtain ⟨rfl, rfl⟩ := h
      rw [dSrc_ok hs]; rfl
    · exact h.elim
  · obtain ⟨rfl, rfl⟩ := h; rfl
  · exact h.elim
theorem QF_fin {o : Option SrcV} {e : Int} (x : SV) (h : QF (fun a b => a = o ∧ b = e) x) (at_ : At) (n : Nat) (w : World) (v : Value) (r : FRel at_ n w x v) : FRel at_ n w (retSV (RetL.retL (o, e, ()))) v := by rw [← QF_eq h]; exact r
theorem ok_New8 : FSpecOK Tryd.prog 23 sNew8 := by
  unfold sNew8
  rw [newV_eq]
  refine fn_okF (by kernel_rfl) tt_ok spNew_ok 9 Tryd.func23 (by decide +kernel) (by kernel_rfl) ?_
  rintro ⟨q, x, h, _⟩ _
  show ∃ D L, ∃ Q : SV → Prop, LfVD tt spNew 9 D L _ Q (q, x, h, ()) ∧ ∀ z, Q z → ∀ (at_ : At) (n : Nat) (w : World) (v : Value), FRel at_ n w z v → FRel at_ n w (retSV (RetL.retL ((new0 q x h).1, (new0 q x h).2, ()))) v
  unfold new0
  cases c1 : ((ofO h).2 != 0) with
  | true =>
    rw [if_pos rfl]
    exact ⟨_, {}, _, LfVD.of (vcNewE1 q x h (fun a b => a = none ∧ b = 2)) ⟨rfl, c1, rfl, rfl⟩, QF_fin⟩
  | false =>
    rw [if_neg Bool.false_ne_true]
    cases c2 : (bt4 q != 256) with
    | true =>
      rw [if_pos rfl]
      exact ⟨_, {}, _, LfVD.of (vcNewE2 q x h (fun a b => a = none ∧ b = 2)) ⟨rfl, c1, c2, rfl, rfl⟩, QF_fin⟩
    | false =>
      rw [if_neg Bool.false_ne_true]
      refine ⟨_, {}, _, LfVD.of (vcNewG q x h (fun a b => a = some (srcN q x h) ∧ b = 0)) ?_, QF_fin⟩
      have hb := both_len q x h
      have l1 := redV_len x q
      have l2 := redV_len (ofO h).1 q
      have e : redV x q ++ redV (ofO h).1 q = both8 q x h := rfl
      simp only [fl, tf, e]
      have h0 : (b0 ++ both8 q x h).length = 65 := by rw [List.length_append, hb]; rfl
      have h1 : (b1 ++ both8 q x h).length = 65 := by rw [List.length_append, hb]; rfl
      refine ⟨trivial, c1, c2, ⟨by decide, trivial, by decide⟩, ⟨rfl, trivial⟩, ⟨by omega, by simp only [appLim]; omega⟩, ⟨trivial, ?_⟩, ⟨by omega, by show List.length zeros32 ≤ 1000; decide, by show List.length ones32 ≤ 1000; decide, ?_⟩, ⟨trivial, ?_⟩, ⟨by omega, ?_, ?_, ?_⟩, rfl, by first | trivial | rfl⟩
      · show (b0 ++ both8 q x h).length ≤ _; rw [h0]; decide
      · show (b0 ++ both8 q x h).length ≤ _; rw [h0]; decide
      · show (b1 ++ both8 q x h).length ≤ _; rw [h1]; decide
      · show (macV _ _).length ≤ _; rw [macV_len]; decide
      · show (macV _ _).length ≤ _; rw [macV_len]; decide
      · show (b1 ++ both8 q x h).length ≤ _; rw [h1]; decide
theorem srcN_len (q x : Four) (h : List UInt8) : lenS (srcN q x h) := by
  refine ⟨?_, ?_, ?_⟩
  · show 0 < (macV _ _).length; rw [macV_len]; decide
  · show (macV _ _).length ≤ _; rw [macV_len]; decide
  · show (macV _ _).length ≤ _; rw [macV_len]; decide
/-! The next number. -/
theorem stir_len (s : SrcV) (m : List UInt8) : lenS (stirV s m) := by
  refine ⟨?_, ?_, ?_⟩
  · show 0 < (macV _ _).length; rw [macV_len]; decide
  · show (macV _ _).length ≤ _; rw [macV_len]; decide
  · show (macV _ _).length ≤ _; rw [macV_len]; decide
theorem try_len {s : SrcV} (h : lenS s) : ∀ st, lenS (tryS st s)
  | true => ⟨(stir_len s b0).1, (stir_len s b0).2.1, by show (macV _ _).length ≤ _; rw [macV_len]; decide⟩
  | false => ⟨h.1, h.2.1, by show (macV _ _).length ≤ _; rw [macV_len]; decide⟩
theorem tr_good {st : Bool} {s : SrcV} (n : Nat) (h : good (tryS st s)) : trV (n + 1) st s = (tryS st s, (ofO (tryS st s).v).1) := by rw [trV, if_pos h]
theorem tr_bad {st : Bool} {s : SrcV} (n : Nat) (h : ¬ good (tryS st s)) : trV (n + 1) st s = trV n true (tryS st s) := by rw [trV, if_neg h]
theorem tr_told (n : Nat) (s : SrcV) : trV (n + 1) true s = trV (n + 1) false (stirV s b0) := by
  have e : tryS true s = tryS false (stirV s b0) := rfl
  rw [trV, trV, e]
theorem ok_b0 {s : SrcV} (h : lenS s) : okS s b0 := ⟨h.2.1, h.2.2, by decide⟩
theorem spNx_ok : SpecsOK Tryd.prog spNx := .consN ok_Mac.toN <| .cons ok_OfO <| .cons ok_Cm4 <| .consN ok_Stir (.nil _)
/-- A try, and on. -/
theorem iNx_next {R : SrcV × Four} {s : SrcV} {a o : Four} {i : Int} (h : iNx R s a o i) (hi : i < 1000) (hb : ¬ good (tryS (decide (0 < i)) s)) : iNx R (tryS (decide (0 < i)) s) a o (IntKind.wrap .i64 (i + 1)) := by
  obtain ⟨h1, h2, h3, h4, h5, h6⟩ := h
  rw [R1.wr (by omega)]
  refine ⟨h1, h2, by omega, by omega, try_len h5 _, ?_⟩
  have e : (1000 - i).toNat = (1000 - (i + 1)).toNat + 1 := by omega
  rw [e, tr_bad _ hb] at h6
  rw [decide_eq_true (show 0 < i + 1 by omega)]
  exact h6
theorem iNx_good {R : SrcV × Four} {s : SrcV} {a o : Four} {i : Int} (h : iNx R s a o i) (hi : i < 1000) (hb : good (tryS (decide (0 < i)) s)) : R = (tryS (decide (0 < i)) s, (ofO (tryS (decide (0 < i)) s).v).1) := by
  obtain ⟨h1, h2, h3, h4, h5, h6⟩ := h
  have e : (1000 - i).toNat = (1000 - (i + 1)).toNat + 1 := by omega
  rw [e, tr_good _ hb] at h6
  exact h6.symm
def QX (s : SrcV) (a : Four) (t : Bool) (s' : SrcV) : Prop := a = (nextR s).2 ∧ t = nzB (nextR s).2 ∧ s' = nextS s
theorem walk_Next (s : SrcV) (hs : lenS s) : NnVD tt spNx 9 Tryd.f26 [.ptr 0 0] [s.cells] (QN (QX s)) := by
  refine NnVD.of (vcNx (nextR s) s (QX s)) ?_
  have hR : nextR s = trV 1000 s.told s := by rw [nextR_eq]
  rw [bcase_iff]
  refine ⟨fun h => ?_, fun _ => ?_⟩
  · have h1 := beq_iff_eq.1 h
    have := hs.1
    omega
  rw [bcase_iff]
  refine ⟨fun ht => ⟨⟨by decide, ok_b0 hs⟩, ⟨rfl, rfl, by omega, by omega, stir_len s _, ?_⟩, ?_⟩, fun ht => ⟨⟨rfl, rfl, by omega, by omega, hs, ?_⟩, ?_⟩⟩
  · rw [hR, ht]; exact (tr_told 999 s).symm
  rotate_left
  · rw [hR, ht]; rfl
  all_goals
    rintro v a o i hI
    obtain ⟨ha, ho, h0, h1, hl, hq⟩ := id hI
    rw [bcase_dec]
    refine ⟨fun hi => ?_, fun hi => ?_⟩
    · have hm : Int.toNat (1000 - IntKind.wrap .i64 (i + 1)) < Int.toNat (1000 - i) := by rw [R1.wr (by omega)]; omega
      rw [bcase_dec]
      refine ⟨fun hp => ⟨⟨by decide, ok_b0 hl⟩, ⟨?_, by decide, fun p h => mem1 ?_ h⟩, rfl, ?_⟩, fun hp => ⟨⟨?_, by decide, fun p h => mem1 ?_ h⟩, rfl, ?_⟩⟩
      · show (macV _ _).length ≤ _; rw [macV_len]; decide
      · show (macV _ _).length ≤ _; rw [macV_len]; decide
      · have ep : decide (0 < i) = true := decide_eq_true hp
        have hn := fun hb => iNx_next hI hi hb
        have hg := fun hb => iNx_good hI hi hb
        rw [ep] at hn hg
        rw [bcase_iff]
        refine ⟨fun hz => ?_, fun hz => ⟨rfl, hn fun g => ?_, hm⟩⟩
        · rw [bcase_dec]
          refine ⟨fun hc => ?_, fun hc => ⟨rfl, hn fun g => hc g.2, hm⟩⟩
          have e := hg ⟨hz, hc⟩
          unfold QX nextS
          rw [e]
          exact ⟨rfl, rfl, rfl⟩
        · have := g.1
          exact absurd (this.symm.trans hz) (by decide)
      · exact Nat.le_trans hl.2.1 (by decide)
      · exact Nat.le_trans hl.2.2 (by decide)
      · have ep : decide (0 < i) = false := decide_eq_false hp
        have hn := fun hb => iNx_next hI hi hb
        have hg := fun hb => iNx_good hI hi hb
        rw [ep] at hn hg
        rw [bcase_iff]
        refine ⟨fun hz => ?_, fun hz => ⟨rfl, hn fun g => ?_, hm⟩⟩
        · rw [bcase_dec]
          refine ⟨fun hc => ?_, fun hc => ⟨rfl, hn fun g => hc g.2, hm⟩⟩
          have e := hg ⟨hz, hc⟩
          unfold QX nextS
          rw [e]
          exact ⟨rfl, rfl, rfl⟩
        · have := g.1
          exact absurd (this.symm.trans hz) (by decide)
    · have e0 : (1000 - i).toNat = 0 := by omega
      rw [e0, trV] at hq
      subst ho
      unfold QX nextS
      rw [← hq]
      exact ⟨rfl, rfl, rfl⟩
theorem QN_eq {s s' : SrcV} {a : Four} {t : Bool} {r : SV} {M : List (Option Blk)} (h : QN (fun a' t' s'' => a' = a ∧ t' = t ∧ s'' = s') r M) : r = .tup [.agg [.u64 a.w0, .u64 a.w1, .u64 a.w2, .u64 a.w3], .bool t] ∧ M[0]? = some (some s'.cells) ∧ M[5000]? = none := by
  unfold QN at h
  split at h
  · rename_i cs hM
    split at h
    · rename_i s2 hs
      split at h
      · rename_i h5
        unfold QA at h
        split at h
        · obtain ⟨rfl, rfl, rfl⟩ := h
          exact ⟨rfl, by rw [hM, dSrc_ok hs], h5⟩
        · exact h.elim
      · exact h.elim
    · exact h.elim
  · exact h.elim
theorem ok_Next : NSpecOK Tryd.prog 26 sNext := by
  refine fn_okN (by kernel_rfl) tt_ok spNx_ok 9 (fn := Tryd.f26) Tryd.func26 (by decide +kernel) (by kernel_rfl) (fun look fresh svs out h hp => ?_)
  unfold sNext at h
  split at h
  · obtain rfl := Option.some.inj h
    refine ⟨[], [], [.val (.pointer none)], [.val (.pointer none)], _, by simp, rfl, nmN, nnN, fun _ _ _ r => r, rfl, NnVD.of (vcNxN (fun a t => a = z4 ∧ t = false)) ⟨rfl, rfl⟩, ?_⟩
    intro r M' hr
    unfold QA at hr
    split at hr
    · obtain ⟨e, rfl⟩ := hr
      refine ⟨M'.length, 0, ?_⟩
      cases e
      simp [backAll, back1, backM, newL, SV.noName, noNameL]
    · exact hr.elim
  · rename_i b
    split at h
    · rename_i cs hb
      split at h
      · rename_i s hs
        have ec := dSrc_ok hs
        subst ec
        obtain rfl := Option.some.inj h
        refine ⟨[some b], [s.cells], [.ptr 0 0], [.ptr b 0], _, by simp, rfl, nmC (fun n e => by cases e; exact ⟨_, hb, rfl⟩) nmN, nnC (fun e => by cases e) nnN, fun _ _ _ r => r, rfl, walk_Next s hp, ?_⟩
        intro r M' hr
        obtain ⟨rfl, h0, h5⟩ := QN_eq (s := s) hr
        refine ⟨5000, 0, ?_⟩
        simp [backAll, back1, backM, backL, newL, h0, h5, SrcV.cells, SrcV.rest, SV.noName, noNameL]
      · cases h
    · cases h
  · cases h
end Go.Proofs.YtomoihkepkmgdaaDoor.H8
/- Layer 8's laws: what is said of them. -/
set_option maxRecDepth 10000
namespace Go.Proofs.YtomoihkepkmgdaaDoor.H8
open Go.Sym Go.Dig R1 H5 H7
theorem wv_four (a : Four) : wv [a.w0, a.w1, a.w2, a.w3] = nat4 a := by simp only [wv, nat4]; omega
def nOf4 : SpecF := fspec (α := Four × Unit) (β := Num) total fun a => ⟨nat4 a.1⟩
theorem ok_nOf4 : SpecOK Tryd.prog 51 nOf4 := fspec_weaken R1.ok_Of id (fun _ _ _ _ h => h) (fun _ => rfl) (fun _ h => h) (fun a _ _ _ _ r => by
  have : wv [a.1.w0, a.1.w1, a.1.w2, a.1.w3] = nat4 a.1 := wv_four _
  simpa only [id, this] using r)
def spMay : Specs := [(51, nOf4), (50, nBits)]
def may0 (q : Four) (h : List UInt8) : Bool := ((bitsN (nat4 q) : Int) == 256) && ((h.length : Int) == 32)
theorem may_ex : ∃ f : Four → List UInt8 → Bool, f = may0 := ⟨_, rfl⟩
noncomputable def mayB : Four → List UInt8 → Bool := Classical.choose may_ex
theorem mayB_eq : mayB = may0 := Classical.choose_spec may_ex
noncomputable def sMay : SpecF := fspec (α := Four × List UInt8 × Unit) total fun a => mayB a.1 a.2.1
theorem so_ex : ∃ f : Four → Four → List UInt8 → SrcV, f = srcN := ⟨_, rfl⟩
noncomputable def srcO : Four → Four → List UInt8 → SrcV := Classical.choose so_ex
theorem srcO_eq : srcO = srcN := Classical.choose_spec so_ex
noncomputable def sNewG : SpecF := fspec (α := Four × Four × List UInt8 × Unit) (β := Option SrcV × Int × Unit) (fun a => some (newV a.1 a.2.1 a.2.2.1 = (some (srcO a.1 a.2.1 a.2.2.1), 0))) fun a => (some (srcO a.1 a.2.1 a.2.2.1), 0, ())
noncomputable def sNewB : SpecF := fspec (α := Four × Four × List UInt8 × Unit) (β := Option SrcV × Int × Unit) (fun a => some (newV a.1 a.2.1 a.2.2.1 = (none, 2))) fun _ => (none, 2, ())
theorem ok_NewG : FSpecOK Tryd.prog 23 sNewG := by
  intro at_ w svs vs pr r hat hout hgl hs hp hr
  unfold sNewG fspec at hs
  split at hs
  · rename_i a ha
    simp only [Option.some.injEq, Prod.mk.injEq] at hs
    obtain ⟨rfl, rfl⟩ := hs
    have hp' : newV a.1 a.2.1 a.2.2.1 = (some (srcO a.1 a.2.1 a.2.2.1), 0) := hp
    refine ok_New8 at_ w svs vs none _ hat hout hgl ?_ trivial hr
    unfold sNew8 fspec
    rw [ha]
    simp only [hp']
    rfl
  · cases hs
theorem ok_NewB : FSpecOK Tryd.prog 23 sNewB := by
  intro at_ w svs vs pr r hat hout hgl hs hp hr
  unfold sNewB fspec at hs
  split at hs
  · rename_i a ha
    simp only [Option.some.injEq, Prod.mk.injEq] at hs
    obtain ⟨rfl, rfl⟩ := hs
    have hp' : newV a.1 a.2.1 a.2.2.1 = (none, 2) := hp
    refine ok_New8 at_ w svs vs none _ hat hout hgl ?_ trivial hr
    unfold sNew8 fspec
    rw [ha]
    simp only [hp']
    rfl
  · cases hs
noncomputable def spAw8 : Specs := [(14, .fresh sDSum), (23, .fresh sNewG), (26, .memf sNext)]
def sAw8 : SpecF := fspec (α := Unit) total fun _ => true
noncomputable def spAg (b : Bool) : Specs := [(22, sAw8), (23, .fresh (cond b sNewG sNewB)), (26, .memf sNext), (24, sMay), (28, sCm4)]
def iAg (q0 : Four) (q : Four) (s t : SrcV) (i : Int) : Prop := q = q0 ∧ t = s ∧ lenS s ∧ s.q = q0 ∧ 0 ≤ i ∧ i ≤ 4
def lAg (q0 : Four) : Plan := { loops := [(0, { β := Unit, α := PF4 × PSrc × PSrc × Int × Unit, same := [], keep := [3, 10, 12, 63], inv := fun _ _ x => iAg q0 x.1.v x.2.1.v x.2.2.1.v x.2.2.2.1, meas := fun _ x => (4 - x.2.2.2.1).toNat })] }
end Go.Proofs.YtomoihkepkmgdaaDoor.H8
/- Layer 8's laws: what the bodies come to. -/
set_option maxRecDepth 10000
namespace Go.Proofs.YtomoihkepkmgdaaDoor.H8
open Go.Sym Go.Dig R1 H5 H7
--STOP macV, digV, ofO, cm4, bt4, stirV, trV, newV, srcO, nextR, mayB, bitsN, nat4, iAg, lenS, nzB, Sm
theorem vcMay (q : Four) (h : List UInt8) (Q : SV → Prop) : LnRaw tt spMay 9 [] {} Tryd.f24 Q (q, h, ()) =
  ((Sm (nat4 q)) ∧
  bcase ((↑(bitsN (nat4 q)) : Int) == (256 : Int))
    ((Q (SV.bool ((↑(List.length h) : Int) == (32 : Int)))))
    ((Q (SV.bool false)))) := by kernel_rfl
theorem vcAw8 (Q : SV → Prop) : LnRaw tt spAw8 9 [] {} Tryd.f22 Q () =
  (((6 : Nat) ≤ (1073741824 : Nat)) ∧
  ((newV
    (Four.mk (UInt64.ofNat (Int.toNat (17562291160714782033 : Int)))
      (UInt64.ofNat (Int.toNat (13611842547513532036 : Int))) (UInt64.ofNat (Int.toNat (18446744073709551615 : Int)))
      (UInt64.ofNat (Int.toNat (18446744069414584320 : Int))))
    (Four.mk (UInt64.ofNat (Int.toNat (8902035550577321761 : Int)))
      (UInt64.ofNat (Int.toNat (5643225679381699346 : Int))) (UInt64.ofNat (Int.toNat (7736094919201248915 : Int)))
      (UInt64.ofNat (Int.toNat (14533021268895757590 : Int))))
    (List.drop (0 : Nat)
      (List.take
        ((0 : Nat) +
          List.length
            (digV
              [UInt8.ofNat (Int.toNat (115 : Int)), UInt8.ofNat (Int.toNat (97 : Int)),
                UInt8.ofNat (Int.toNat (109 : Int)), UInt8.ofNat (Int.toNat (112 : Int)),
                UInt8.ofNat (Int.toNat (108 : Int)), UInt8.ofNat (Int.toNat (101 : Int))]))
        (digV
          [UInt8.ofNat (Int.toNat (115 : Int)), UInt8.ofNat (Int.toNat (97 : Int)), UInt8.ofNat (Int.toNat (109 : Int)),
            UInt8.ofNat (Int.toNat (112 : Int)), UInt8.ofNat (Int.toNat (108 : Int)),
            UInt8.ofNat (Int.toNat (101 : Int))]))) =
  (some
      (srcO
        (Four.mk (UInt64.ofNat (Int.toNat (17562291160714782033 : Int)))
          (UInt64.ofNat (Int.toNat (13611842547513532036 : Int)))
          (UInt64.ofNat (Int.toNat (18446744073709551615 : Int)))
          (UInt64.ofNat (Int.toNat (18446744069414584320 : Int))))
        (Four.mk (UInt64.ofNat (Int.toNat (8902035550577321761 : Int)))
          (UInt64.ofNat (Int.toNat (5643225679381699346 : Int))) (UInt64.ofNat (Int.toNat (7736094919201248915 : Int)))
          (UInt64.ofNat (Int.toNat (14533021268895757590 : Int))))
        (List.drop (0 : Nat)
          (List.take
            ((0 : Nat) +
              List.length
                (digV
                  [UInt8.ofNat (Int.toNat (115 : Int)), UInt8.ofNat (Int.toNat (97 : Int)),
                    UInt8.ofNat (Int.toNat (109 : Int)), UInt8.ofNat (Int.toNat (112 : Int)),
                    UInt8.ofNat (Int.toNat (108 : Int)), UInt8.ofNat (Int.toNat (101 : Int))]))
            (digV
              [UInt8.ofNat (Int.toNat (115 : Int)), UInt8.ofNat (Int.toNat (97 : Int)),
                UInt8.ofNat (Int.toNat (109 : Int)), UInt8.ofNat (Int.toNat (112 : Int)),
                UInt8.ofNat (Int.toNat (108 : Int)), UInt8.ofNat (Int.toNat (101 : Int))])))),
    (0 : Int))) ∧
  ((lenS
  (srcO
    (Four.mk (UInt64.ofNat (Int.toNat (17562291160714782033 : Int)))
      (UInt64.ofNat (Int.toNat (13611842547513532036 : Int))) (UInt64.ofNat (Int.toNat (18446744073709551615 : Int)))
      (UInt64.ofNat (Int.toNat (18446744069414584320 : Int))))
    (Four.mk (UInt64.ofNat (Int.toNat (8902035550577321761 : Int)))
      (UInt64.ofNat (Int.toNat (5643225679381699346 : Int))) (UInt64.ofNat (Int.toNat (7736094919201248915 : Int)))
      (UInt64.ofNat (Int.toNat (14533021268895757590 : Int))))
    (List.drop (0 : Nat)
      (List.take
        ((0 : Nat) +
          List.length
            (digV
              [UInt8.ofNat (Int.toNat (115 : Int)), UInt8.ofNat (Int.toNat (97 : Int)),
                UInt8.ofNat (Int.toNat (109 : Int)), UInt8.ofNat (Int.toNat (112 : Int)),
                UInt8.ofNat (Int.toNat (108 : Int)), UInt8.ofNat (Int.toNat (101 : Int))]))
        (digV
          [UInt8.ofNat (Int.toNat (115 : Int)), UInt8.ofNat (Int.toNat (97 : Int)), UInt8.ofNat (Int.toNat (109 : Int)),
            UInt8.ofNat (Int.toNat (112 : Int)), UInt8.ofNat (Int.toNat (108 : Int)),
            UInt8.ofNat (Int.toNat (101 : Int))]))))) ∧
  bcase (nzB
  (Prod.snd
    (nextR
      (srcO
        (Four.mk (UInt64.ofNat (Int.toNat (17562291160714782033 : Int)))
          (UInt64.ofNat (Int.toNat (13611842547513532036 : Int)))
          (UInt64.ofNat (Int.toNat (18446744073709551615 : Int)))
          (UInt64.ofNat (Int.toNat (18446744069414584320 : Int))))
        (Four.mk (UInt64.ofNat (Int.toNat (8902035550577321761 : Int)))
          (UInt64.ofNat (Int.toNat (5643225679381699346 : Int))) (UInt64.ofNat (Int.toNat (7736094919201248915 : Int)))
          (UInt64.ofNat (Int.toNat (14533021268895757590 : Int))))
        (List.drop (0 : Nat)
          (List.take
            ((0 : Nat) +
              List.length
                (digV
                  [UInt8.ofNat (Int.toNat (115 : Int)), UInt8.ofNat (Int.toNat (97 : Int)),
                    UInt8.ofNat (Int.toNat (109 : Int)), UInt8.ofNat (Int.toNat (112 : Int)),
                    UInt8.ofNat (Int.toNat (108 : Int)), UInt8.ofNat (Int.toNat (101 : Int))]))
            (digV
              [UInt8.ofNat (Int.toNat (115 : Int)), UInt8.ofNat (Int.toNat (97 : Int)),
                UInt8.ofNat (Int.toNat (109 : Int)), UInt8.ofNat (Int.toNat (112 : Int)),
                UInt8.ofNat (Int.toNat (108 : Int)), UInt8.ofNat (Int.toNat (101 : Int))])))))))
    ((Q
  (SV.bool
    (Four.w3
        (Prod.snd
          (nextR
            (srcO
              (Four.mk (UInt64.ofNat (Int.toNat (17562291160714782033 : Int)))
                (UInt64.ofNat (Int.toNat (13611842547513532036 : Int)))
                (UInt64.ofNat (Int.toNat (18446744073709551615 : Int)))
                (UInt64.ofNat (Int.toNat (18446744069414584320 : Int))))
              (Four.mk (UInt64.ofNat (Int.toNat (8902035550577321761 : Int)))
                (UInt64.ofNat (Int.toNat (5643225679381699346 : Int)))
                (UInt64.ofNat (Int.toNat (7736094919201248915 : Int)))
                (UInt64.ofNat (Int.toNat (14533021268895757590 : Int))))
              (List.drop (0 : Nat)
                (List.take
                  ((0 : Nat) +
                    List.length
                      (digV
                        [UInt8.ofNat (Int.toNat (115 : Int)), UInt8.ofNat (Int.toNat (97 : Int)),
                          UInt8.ofNat (Int.toNat (109 : Int)), UInt8.ofNat (Int.toNat (112 : Int)),
                          UInt8.ofNat (Int.toNat (108 : Int)), UInt8.ofNat (Int.toNat (101 : Int))]))
                  (digV
                    [UInt8.ofNat (Int.toNat (115 : Int)), UInt8.ofNat (Int.toNat (97 : Int)),
                      UInt8.ofNat (Int.toNat (109 : Int)), UInt8.ofNat (Int.toNat (112 : Int)),
                      UInt8.ofNat (Int.toNat (108 : Int)), UInt8.ofNat (Int.toNat (101 : Int))])))))) ==
      UInt64.ofNat (Int.toNat (12025672574162353808 : Int))))))
    ((Q (SV.bool false)))))) := by kernel_rfl
theorem vcAgB (q x : Four) (h : List UInt8) (Q : SV → Prop) : LnRaw tt (spAg false) 9 [] {} Tryd.f8 Q (q, x, h, ()) =
  ((newV q x h = (none, (2 : Int))) ∧
  ((newV q x h = (none, (2 : Int))) ∧
  bcase (!mayB q h)
    ((Q (SV.bool ((2 : Int) == (2 : Int)))))
    ((Q (SV.bool false))))) := by kernel_rfl
theorem vcAgG (q x : Four) (h : List UInt8) (Q : SV → Prop) : LnRaw tt (spAg true) 9 [] (lAg q) Tryd.f8 Q (q, x, h, ()) =
  ((newV q x h = (some (srcO q x h), (0 : Int))) ∧
  ((newV q x h = (some (srcO q x h), (0 : Int))) ∧
  ((iAg q q (srcO q x h) (srcO q x h) (0 : Int)) ∧
  (∀ v : Four,
  (∀ v_1 : SrcV,
  (∀ v_2 : SrcV,
  (∀ a : Int,
  ((iAg q v v_1 v_2 a) →
  bcase (decide (a < (4 : Int)))
    (((lenS v_1) ∧
    ((lenS v_2) ∧
    bcase (!(Four.w0 (Prod.snd (nextR v_1)) == Four.w0 (Prod.snd (nextR v_2)) &&
    (Four.w1 (Prod.snd (nextR v_1)) == Four.w1 (Prod.snd (nextR v_2)) &&
      (Four.w2 (Prod.snd (nextR v_1)) == Four.w2 (Prod.snd (nextR v_2)) &&
        (Four.w3 (Prod.snd (nextR v_1)) == Four.w3 (Prod.snd (nextR v_2)) && true)))))
      ((Q (SV.bool false)))
      (bcase (!nzB (Prod.snd (nextR v_1)) == nzB (Prod.snd (nextR v_2)))
        ((Q (SV.bool false)))
        (bcase (nzB (Prod.snd (nextR v_1)))
          (bcase (Four.w0 (Prod.snd (nextR v_1)) == UInt64.ofNat (Int.toNat (0 : Int)) &&
  (Four.w1 (Prod.snd (nextR v_1)) == UInt64.ofNat (Int.toNat (0 : Int)) &&
    (Four.w2 (Prod.snd (nextR v_1)) == UInt64.ofNat (Int.toNat (0 : Int)) &&
      (Four.w3 (Prod.snd (nextR v_1)) == UInt64.ofNat (Int.toNat (0 : Int)) && true))))
            ((Q (SV.bool false)))
            (bcase (decide (cm4 (Prod.snd (nextR v_1)) v ≥ (0 : Int)))
              ((Q (SV.bool false)))
              (bcase (!nzB (Prod.snd (nextR v_1)))
                (bcase (!(Four.w0 (Prod.snd (nextR v_1)) == UInt64.ofNat (Int.toNat (0 : Int)) &&
    (Four.w1 (Prod.snd (nextR v_1)) == UInt64.ofNat (Int.toNat (0 : Int)) &&
      (Four.w2 (Prod.snd (nextR v_1)) == UInt64.ofNat (Int.toNat (0 : Int)) &&
        (Four.w3 (Prod.snd (nextR v_1)) == UInt64.ofNat (Int.toNat (0 : Int)) && true)))))
                  ((Q (SV.bool false)))
                  (((() = ()) ∧
                  ((iAg q v (nextS v_1) (nextS v_2) (IntKind.wrap IntKind.i64 (a + (1 : Int)))) ∧
                  (Int.toNat ((4 : Int) - IntKind.wrap IntKind.i64 (a + (1 : Int))) < Int.toNat ((4 : Int) - a))))))
                (((() = ()) ∧
                ((iAg q v (nextS v_1) (nextS v_2) (IntKind.wrap IntKind.i64 (a + (1 : Int)))) ∧
                (Int.toNat ((4 : Int) - IntKind.wrap IntKind.i64 (a + (1 : Int))) < Int.toNat ((4 : Int) - a))))))))
          (bcase (!nzB (Prod.snd (nextR v_1)))
            (bcase (!(Four.w0 (Prod.snd (nextR v_1)) == UInt64.ofNat (Int.toNat (0 : Int)) &&
    (Four.w1 (Prod.snd (nextR v_1)) == UInt64.ofNat (Int.toNat (0 : Int)) &&
      (Four.w2 (Prod.snd (nextR v_1)) == UInt64.ofNat (Int.toNat (0 : Int)) &&
        (Four.w3 (Prod.snd (nextR v_1)) == UInt64.ofNat (Int.toNat (0 : Int)) && true)))))
              ((Q (SV.bool false)))
              (((() = ()) ∧
              ((iAg q v (nextS v_1) (nextS v_2) (IntKind.wrap IntKind.i64 (a + (1 : Int)))) ∧
              (Int.toNat ((4 : Int) - IntKind.wrap IntKind.i64 (a + (1 : Int))) < Int.toNat ((4 : Int) - a))))))
            (((() = ()) ∧
            ((iAg q v (nextS v_1) (nextS v_2) (IntKind.wrap IntKind.i64 (a + (1 : Int)))) ∧
            (Int.toNat ((4 : Int) - IntKind.wrap IntKind.i64 (a + (1 : Int))) < Int.toNat ((4 : Int) - a)))))))))))
    ((Q (SV.bool true))))))))))) := by kernel_rfl
end Go.Proofs.YtomoihkepkmgdaaDoor.H8
/- As fn_okL, the table chosen by the arguments. -/
set_option maxRecDepth 10000
namespace Go.Sym
open Go.RowKit
/-- As fn_okL, with the table of callees chosen by the arguments. -/
theorem fn_okS [GLob] {P : Program} {tt : TT} {α β : Type} [Args α] [RetL β] (hm : P.follows .mixedOrders = true) (hT : TTOK P tt) (fuel : Nat) {f : FuncId} {fn : Func} (hf : P.funcs[f]? = some fn) (hname : (fn.name == "runtime.NumGoroutine") = false) (hb : fn.body.isSome = true) {pre : α → Option Prop} {g : α → β}
    (H : ∀ a, Ok (pre a) → ∃ sp, SpecsOK P sp ∧ ∃ D L, ∃ Q : SV → Prop, LnVD tt sp fuel D L fn Q a ∧ ∀ x, Q x → ∀ (at_ : At) (w : World) (v : Value), Rel at_ w x v → Rel at_ w (retSV (RetL.retL (g a))) v) : SpecOK P f (fspec pre g) := by
  obtain ⟨c, hc⟩ := Option.isSome_iff_exists.1 hb
  intro at_ w svs vs pr r hat hout hgl hs hp hr
  unfold fspec at hs
  split at hs
  · rename_i a ha
    simp only [Option.some.injEq, Prod.mk.injEq] at hs
    obtain ⟨rfl, rfl⟩ := hs
    have hrun : (callFunc f (List.toArray vs)).run P w = .ok (.enter f (List.toArray vs)) w := by
      have h1 : fn.name ≠ "runtime.NumGoroutine" := by simpa using hname
      simp [callFunc, hf, h1, hc]
    rw [hrun]
    obtain ⟨sp, hS, D, L, Q, ⟨h⟩, hQ⟩ := H a hp
    unfold LnRaw at h
    rw [hc] at h
    refine (calls_of_awp hm hT hS hf hc (fun B _ _ hcl => vcl_ok hm hT hS hcl c 0 _ _ h) (Args.nn a) hat hout hgl (Args.ok ha hr)).mono ?_
    rintro e w' ⟨v, h1, r', h2, h3, h4⟩
    exact ⟨v, h1, hQ _ h2 _ _ _ h3, h4⟩
  · cases hs
end Go.Sym
/- Layer 8: may, the example, and the law that numbers are told again: they hold. -/
set_option maxRecDepth 100000
namespace Go.Proofs.YtomoihkepkmgdaaDoor.H8
open Go.Sym Go.Dig R1 H5 H7
theorem nat4_lt256 (q : Four) : nat4 q < 2 ^ 256 := nat4_lt q
theorem nat4_sm (q : Four) : Sm (nat4 q) := Sm.of 11 (Nat.lt_trans (nat4_lt q) (by decide +kernel)) (by decide)
theorem spMay_ok : SpecsOK Tryd.prog spMay := .cons ok_nOf4 <| .cons ok_nBits (.nil _)
theorem ok_May : SpecOK Tryd.prog 24 sMay := by
  unfold sMay
  rw [mayB_eq]
  refine fn_okL (by kernel_rfl) tt_ok spMay_ok 9 Tryd.func24 (by decide +kernel) (by kernel_rfl) ?_
  rintro ⟨q, h, _⟩ _
  refine ⟨[], {}, fun x => x = .bool (may0 q h), LnVD.of (vcMay q h _) ⟨nat4_sm q, ?_⟩, svf⟩
  rw [bcase_iff]
  unfold may0
  exact ⟨fun e => by rw [e]; rfl, fun e => by rw [e]; rfl⟩
theorem bt4_bits (q : Four) : bt4 q = (bitsN (nat4 q) : Int) := by
  rw [bt4_eq]
  obtain ⟨n, h1, _, h2, h3, h4⟩ := bits_nat q
  rw [h1, bitsN_of h2 h3 h4]
theorem of_err (h : List UInt8) : (ofO h).2 = if h.length = 32 then 0 else 2 := by
  rw [ofO_eq]; show (limb_Of h true).2 = _
  unfold limb_Of
  split <;> rfl
theorem new_may {q x : Four} {h : List UInt8} : newV q x h = if mayB q h = true then (some (srcO q x h), 0) else (none, 2) := by
  rw [newV_eq, mayB_eq, srcO_eq]
  unfold new0 may0
  rw [of_err, bt4_bits]
  by_cases h1 : h.length = 32
  · have e1 : (((h.length : Int)) == 32) = true := by rw [h1]; rfl
    rw [e1, Bool.and_true]
    simp only [h1, if_true]
    rw [if_neg (by decide)]
    by_cases h2 : ((bitsN (nat4 q) : Int)) = 256
    · rw [h2]; rfl
    · have n1 : (((bitsN (nat4 q) : Int)) != 256) = true := bne_iff_ne.2 h2
      have n2 : (((bitsN (nat4 q) : Int)) == 256) = false := by rw [bne, Bool.not_eq_true'] at n1; exact n1
      rw [n1, n2, if_pos rfl, if_neg Bool.false_ne_true]
  · have e1 : (((h.length : Int)) == 32) = false := by
      apply Bool.eq_false_iff.2
      intro e
      have := beq_iff_eq.1 e
      omega
    rw [e1, Bool.and_false, if_neg h1, if_pos (by decide), if_neg Bool.false_ne_true]
/-! What the next number is. -/
theorem try_q (st : Bool) (s : SrcV) : (tryS st s).q = s.q := by cases st <;> rfl
theorem tr_facts : ∀ (n : Nat) (st : Bool) (s : SrcV), lenS s → lenS (trV n st s).1 ∧ (trV n st s).1.q = s.q ∧ (nzB (trV n st s).2 = true → cm4 (trV n st s).2 s.q < 0)
  | 0, _, s, h => ⟨h, rfl, fun e => absurd (show nzB z4 = true from e) (by decide)⟩
  | n + 1, st, s, h => by
    by_cases g : good (tryS st s)
    · rw [tr_good n g]
      exact ⟨try_len h st, try_q st s, fun _ => by have := g.2; rw [try_q] at this; exact this⟩
    · rw [tr_bad n g]
      have := tr_facts n true (tryS st s) (try_len h st)
      rw [try_q] at this
      exact this
theorem next_facts {s : SrcV} (h : lenS s) : lenS (nextS s) ∧ (nextS s).q = s.q ∧ (nzB (nextR s).2 = true → cm4 (nextR s).2 s.q < 0) := by
  have k := tr_facts 1000 s.told s h
  have e : nextR s = trV 1000 s.told s := by rw [nextR_eq]
  rw [← e] at k
  exact ⟨k.1, k.2.1, k.2.2⟩
/-! The example. -/
abbrev qA : Four := ⟨UInt64.ofNat (Int.toNat (17562291160714782033 : Int)), UInt64.ofNat (Int.toNat (13611842547513532036 : Int)), UInt64.ofNat (Int.toNat (18446744073709551615 : Int)), UInt64.ofNat (Int.toNat (18446744069414584320 : Int))⟩
abbrev xA : Four := ⟨UInt64.ofNat (Int.toNat (8902035550577321761 : Int)), UInt64.ofNat (Int.toNat (5643225679381699346 : Int)), UInt64.ofNat (Int.toNat (7736094919201248915 : Int)), UInt64.ofNat (Int.toNat (14533021268895757590 : Int))⟩
abbrev sA : List UInt8 := [UInt8.ofNat (Int.toNat (115 : Int)), UInt8.ofNat (Int.toNat (97 : Int)), UInt8.ofNat (Int.toNat (109 : Int)), UInt8.ofNat (Int.toNat (112 : Int)), UInt8.ofNat (Int.toNat (108 : Int)), UInt8.ofNat (Int.toNat (101 : Int))]
abbrev hA : List UInt8 := [175, 43, 219, 225, 170, 155, 110, 193, 226, 173, 225, 214, 148, 244, 31, 199, 26, 131, 29, 2, 104, 233, 137, 21, 98, 17, 61, 138, 98, 173, 209, 191]
abbrev boA : List UInt8 := [201, 175, 169, 216, 69, 186, 117, 22, 107, 92, 33, 87, 103, 177, 214, 147, 78, 80, 195, 219, 54, 232, 155, 18, 123, 138, 98, 43, 18, 15, 103, 33, 175, 43, 219, 225, 170, 155, 110, 193, 226, 173, 225, 214, 148, 244, 31, 199, 26, 131, 29, 2, 104, 233, 137, 21, 98, 17, 61, 138, 98, 173, 209, 191]
abbrev k1A : List UInt8 := [18, 45, 177, 222, 152, 218, 228, 223, 163, 63, 45, 168, 233, 132, 148, 200, 11, 255, 128, 123, 71, 159, 215, 146, 97, 179, 126, 37, 242, 103, 238, 88]
abbrev v1A : List UInt8 := [201, 148, 120, 3, 167, 71, 252, 96, 194, 53, 53, 253, 204, 19, 181, 202, 86, 107, 72, 34, 28, 166, 125, 73, 100, 210, 45, 170, 72, 39, 88, 68]
abbrev k2A : List UInt8 := [182, 212, 249, 142, 186, 231, 10, 161, 90, 34, 56, 173, 228, 226, 10, 179, 35, 252, 30, 119, 125, 34, 240, 197, 130, 216, 239, 46, 107, 167, 53, 105]
abbrev v2A : List UInt8 := [186, 229, 127, 226, 86, 222, 45, 232, 6, 177, 6, 53, 73, 114, 55, 231, 186, 233, 103, 84, 88, 37, 102, 56, 76, 71, 198, 195, 65, 100, 148, 209]
abbrev vtA : List UInt8 := [166, 227, 197, 125, 208, 26, 190, 144, 8, 101, 56, 57, 131, 85, 221, 76, 59, 23, 170, 135, 51, 130, 176, 242, 77, 97, 41, 73, 61, 138, 173, 96]
theorem e_h : digV sA = hA := by rw [digC_eq]; decide +kernel
theorem e_bo : both8 qA xA hA = boA := by
  unfold both8
  rw [redV_eq, ofO_eq]
  unfold red0
  rw [cm4_eq, sb4_eq, byO_eq]
  decide +kernel
theorem e_k1 : macV zeros32 (List.flatten [ones32, b0 ++ boA]) = k1A := by rw [macC_eq]; decide +kernel
theorem e_v1 : macV k1A (List.flatten [ones32]) = v1A := by rw [macC_eq]; decide +kernel
theorem e_k2 : macV k1A (List.flatten [v1A, b1 ++ boA]) = k2A := by rw [macC_eq]; decide +kernel
theorem e_v2 : macV k2A (List.flatten [v1A]) = v2A := by rw [macC_eq]; decide +kernel
theorem e_vt : macV k2A (List.flatten [v2A]) = vtA := by rw [macC_eq]; decide +kernel
theorem e_src : srcO qA xA hA = ⟨k2A, v2A, qA, false⟩ := by
  rw [srcO_eq]
  unfold srcN
  rw [e_bo]
  have s1 : stirV ⟨zeros32, ones32, qA, false⟩ (b0 ++ boA) = ⟨k1A, v1A, qA, false⟩ := by
    unfold stirV
    show SrcV.mk (macV zeros32 (List.flatten [ones32, b0 ++ boA])) (macV (macV zeros32 (List.flatten [ones32, b0 ++ boA])) (List.flatten [ones32])) qA false = _
    rw [e_k1, e_v1]
  rw [s1]
  unfold stirV
  show SrcV.mk (macV k1A (List.flatten [v1A, b1 ++ boA])) (macV (macV k1A (List.flatten [v1A, b1 ++ boA])) (List.flatten [v1A])) qA false = _
  rw [e_k2, e_v2]
theorem e_try : tryS false (srcO qA xA hA) = ⟨k2A, vtA, qA, false⟩ := by
  rw [e_src]
  show SrcV.mk k2A (macV k2A (List.flatten [v2A])) qA false = _
  rw [e_vt]
abbrev nA : Four := ⟨5575783208203234656, 4258059470363603186, 604951544618933580, 12025672574162353808⟩
deriving instance DecidableEq for Four
theorem e_of0 : (limb_Of vtA true).1 = nA := by decide +kernel
theorem e_of : (ofO vtA).1 = nA := by rw [ofO_eq]; exact e_of0
theorem e_next : (nextR (srcO qA xA hA)).2 = nA := by
  have g : good (tryS false (srcO qA xA hA)) := by
    unfold good
    rw [e_try, e_of, cm4_eq]
    decide +kernel
  have e : nextR (srcO qA xA hA) = trV (999 + 1) false (srcO qA xA hA) := by
    rw [nextR_eq]
    show trV 1000 (srcO qA xA hA).told _ = _
    rw [e_src]
  rw [e, tr_good _ g, e_try]
  exact e_of
theorem e_may : mayB qA hA = true := by rw [mayB_eq]; unfold may0; decide +kernel
theorem spAw8_ok : SpecsOK Tryd.prog spAw8 := .consF ok_DSumF <| .consF ok_NewG <| .consN ok_Next (.nil _)
theorem ok_Aw8 : SpecOK Tryd.prog 22 sAw8 := by
  refine fn_okL (by kernel_rfl) tt_ok spAw8_ok 9 Tryd.func22 (by decide +kernel) (by kernel_rfl) ?_
  rintro ⟨⟩ _
  refine ⟨_, {}, fun t => t = .bool true, LnVD.of (vcAw8 _) ?_, svf⟩
  have e : List.drop 0 (List.take (0 + (digV sA).length) (digV sA)) = hA := by rw [fl, e_h]
  rw [e]
  refine ⟨by decide, by rw [new_may, if_pos e_may], ?_, ?_⟩
  · rw [srcO_eq]; exact srcN_len _ _ _
  · rw [bcase_iff, e_next]
    exact ⟨fun _ => rfl, fun h => absurd h (by decide)⟩
/-! Again. -/
theorem spAg_ok : ∀ b, SpecsOK Tryd.prog (spAg b)
  | true => .cons ok_Aw8 <| .consF ok_NewG <| .consN ok_Next <| .cons ok_May <| .cons ok_Cm4 (.nil _)
  | false => .cons ok_Aw8 <| .consF ok_NewB <| .consN ok_Next <| .cons ok_May <| .cons ok_Cm4 (.nil _)
theorem same4 (a : Four) : (!(a.w0 == a.w0 && (a.w1 == a.w1 && (a.w2 == a.w2 && (a.w3 == a.w3 && true))))) = false := by simp
theorem sameB (b : Bool) : (!(b == b)) = false := by simp
theorem srcO_q (q x : Four) (h : List UInt8) : (srcO q x h).q = q := by rw [srcO_eq]; rfl
theorem iAg_next {q0 q : Four} {s t : SrcV} {i : Int} (h : iAg q0 q s t i) (hi : i < 4) : iAg q0 q (nextS s) (nextS t) (IntKind.wrap .i64 (i + 1)) ∧ Int.toNat (4 - IntKind.wrap .i64 (i + 1)) < Int.toNat (4 - i) := by
  obtain ⟨h1, h2, h3, h4, h5, h6⟩ := h
  obtain ⟨k1, k2, _⟩ := next_facts h3
  rw [R1.wr (by omega)]
  exact ⟨⟨h1, by rw [h2], k1, by rw [k2, h4], by omega, by omega⟩, by omega⟩
abbrev sNonceAgain : SpecF := fspec (α := Four × Four × List UInt8 × Unit) total fun _ => true
theorem ok_NonceAgain : SpecOK Tryd.prog 8 sNonceAgain := by
  refine fn_okS (by kernel_rfl) tt_ok 9 Tryd.func8 (by decide +kernel) (by kernel_rfl) ?_
  rintro ⟨q, x, h, _⟩ _
  cases hm : mayB q h with
  | false =>
    have e : newV q x h = (none, 2) := by rw [new_may, hm, if_neg Bool.false_ne_true]
    refine ⟨_, spAg_ok false, _, {}, fun t => t = .bool true, LnVD.of (vcAgB q x h _) ⟨e, e, ?_⟩, svf⟩
    rw [hm]
    exact (rfl : SV.bool ((2 : Int) == 2) = .bool true)
  | true =>
    have e : newV q x h = (some (srcO q x h), 0) := by rw [new_may, hm, if_pos rfl]
    have hl : lenS (srcO q x h) := by rw [srcO_eq]; exact srcN_len _ _ _
    refine ⟨_, spAg_ok true, _, lAg q, fun t => t = .bool true, LnVD.of (vcAgG q x h _) ⟨e, e, ⟨rfl, rfl, hl, srcO_q q x h, by omega, by omega⟩, ?_⟩, svf⟩
    intro p s t i hI
    obtain ⟨h1, h2, h3, h4, h5, h6⟩ := id hI
    rw [bcase_dec]
    refine ⟨fun hi => ?_, fun _ => rfl⟩
    have hn := iAg_next hI hi
    subst h1
    subst h2
    obtain ⟨k1, k2, k3⟩ := next_facts h3
    refine ⟨h3, h3, ?_⟩
    rw [bcase_iff]
    refine ⟨fun c => (by rw [same4] at c; cases c), fun _ => ?_⟩
    rw [bcase_iff]
    refine ⟨fun c => (by rw [sameB] at c; cases c), fun _ => ?_⟩
    rw [bcase_iff]
    refine ⟨fun hz => ?_, fun hz => ?_⟩
    · rw [bcase_iff]
      refine ⟨fun c => ?_, fun c => ?_⟩
      · exact absurd hz (by show ¬ (!(_ : Bool)) = true; rw [c]; decide)
      · have hc := k3 hz
        rw [h4] at hc
        rw [bcase_dec]
        refine ⟨fun c => absurd hc (by omega), fun _ => ?_⟩
        rw [bcase_iff]
        refine ⟨fun c => (by rw [hz] at c; cases c), fun _ => ⟨rfl, hn.1, hn.2⟩⟩
    · rw [bcase_iff]
      refine ⟨fun _ => ?_, fun c => (by rw [hz] at c; cases c)⟩
      rw [bcase_iff]
      exact ⟨fun c => absurd (show nzB (nextR t).2 = true from c) (by rw [hz]; decide), fun _ => ⟨rfl, hn.1, hn.2⟩⟩
end Go.Proofs.YtomoihkepkmgdaaDoor.H8
