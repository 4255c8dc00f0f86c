/- A symbolic machine for Go functions, and what the functions that the law reaches come to: LimbLaws2, LimbLaws3, LawBack2, LawsA, Lev, LawsB, RingA, RingB, RingC, RingD, RingE, RefD, RefE, RingF, SymS, RingG, RefW, RefX, RingH, RingI. -/
import Derived.Test.YtficbeeoafiiaaaGreatDoorQ11
import Derived.Test.YtficbeeoafiiaaaGreatDoorQ10
import Derived.Test.YtficbeeoafiiaaaGreatDoorQ7
import Derived.Test.YtficbeeoafiiaaaGreatDoorQ3
import Derived.Test.YtficbeeoafiiaaaGreatDoorQ4
/- Package limb: order, shifts, bits, bytes, as numbers. Plain. -/
namespace Go.Proofs.YtficbeeoafiiaaaGreatDoor
open Go.Sym

theorem cmp_nat (a b : Four) : limb_Cmp a b = if nat4 a < nat4 b then -1 else if nat4 a = nat4 b then 0 else 1 := by
  have := u64_lt a.w0; have := u64_lt a.w1; have := u64_lt a.w2; have := u64_lt a.w3
  have := u64_lt b.w0; have := u64_lt b.w1; have := u64_lt b.w2; have := u64_lt b.w3
  have key : ∀ (x y : UInt64) (r : Int), cond (x != y) (cond (decide (x < y)) (-1) 1) r = if x.toNat < y.toNat then -1 else if x.toNat = y.toNat then r else 1 := by
    intro x y r
    by_cases h : x = y
    · subst h; simp
    · have h' : x.toNat ≠ y.toNat := fun e => h (UInt64.toNat_inj.1 e)
      have hb : (x != y) = true := by simpa using h
      by_cases hl : x < y
      · have := UInt64.lt_iff_toNat_lt.1 hl
        simp [hb, hl, this]
      · have : ¬ x.toNat < y.toNat := fun e => hl (UInt64.lt_iff_toNat_lt.2 e)
        simp [hb, hl, this, h']
  simp only [limb_Cmp, key, nat4]
  repeat' split
  all_goals first | rfl | omega

/-! Shifts. -/
theorem or_low (x y k : Nat) (hk : k ≤ 64) : (x * 2 ^ k % 18446744073709551616) ||| (y / 2 ^ (64 - k) % 2 ^ k) = x * 2 ^ k % 18446744073709551616 + y / 2 ^ (64 - k) % 2 ^ k := by
  have e : x * 2 ^ k % 18446744073709551616 = (x % 2 ^ (64 - k)) <<< k := by
    rw [Nat.shiftLeft_eq, show 18446744073709551616 = 2 ^ (64 - k) * 2 ^ k by rw [← Nat.pow_add, Nat.sub_add_cancel hk], Nat.mul_mod_mul_right]
  rw [e, ← Nat.shiftLeft_add_eq_or_of_lt (Nat.mod_lt _ (Nat.two_pow_pos k))]
theorem div_low (y : UInt64) (k : Nat) (hk : k ≤ 64) : y.toNat / 2 ^ (64 - k) % 2 ^ k = y.toNat / 2 ^ (64 - k) := by
  apply Nat.mod_eq_of_lt
  rw [Nat.div_lt_iff_lt_mul (Nat.two_pow_pos _), ← Nat.pow_add, Nat.add_sub_cancel' hk]
  exact u64_lt y
theorem lx_nat (x y : UInt64) (k : Nat) (hk : k < 64) : (lx x y k).toNat = x.toNat * 2 ^ k % 18446744073709551616 + y.toNat / 2 ^ (64 - k) := by
  have hy := u64_lt y
  by_cases h : k = 0
  · subst h
    simp only [lx, show Nat.blt 0 0 = false from rfl, cond_false, shl64_nat, Nat.sub_zero]
    have : y.toNat / 2 ^ 64 = 0 := Nat.div_eq_of_lt hy
    omega
  · have e : Nat.blt 0 k = true := by rw [Nat.blt_eq]; omega
    simp only [lx, e, cond_true, UInt64.toNat_or, shl64_nat, shr64_nat]
    have := or_low x.toNat y.toNat k (by omega)
    rw [div_low y k (by omega)] at this
    exact this
theorem rx_nat (x y : UInt64) (k : Nat) (hk : k < 64) : (rx x y k).toNat = x.toNat / 2 ^ k + y.toNat * 2 ^ (64 - k) % 18446744073709551616 := by
  have hx := u64_lt x
  by_cases h : k = 0
  · subst h
    simp only [rx, show Nat.blt 0 0 = false from rfl, cond_false, shr64_nat, Nat.sub_zero]
    have : y.toNat * 2 ^ 64 % 18446744073709551616 = 0 := Nat.mul_mod_left _ _
    omega
  · have e : Nat.blt 0 k = true := by rw [Nat.blt_eq]; omega
    simp only [rx, e, cond_true, UInt64.toNat_or, shl64_nat, shr64_nat]
    have := or_low y.toNat x.toNat (64 - k) (by omega)
    rw [show 64 - (64 - k) = k by omega] at this
    have h2 := div_low x (64 - k) (by omega)
    rw [show 64 - (64 - k) = k by omega] at h2
    rw [h2] at this
    rw [Nat.or_comm, this, Nat.add_comm]

/-- A word parted at a place: what stays and what goes over. -/
theorem part (x : UInt64) (k : Nat) (hk : k ≤ 64) : x.toNat * 2 ^ k = x.toNat * 2 ^ k % 18446744073709551616 + 18446744073709551616 * (x.toNat / 2 ^ (64 - k)) := by
  have e : 18446744073709551616 = 2 ^ (64 - k) * 2 ^ k := by rw [← Nat.pow_add, Nat.sub_add_cancel hk]
  have h := Nat.mod_add_div (x.toNat * 2 ^ k) 18446744073709551616
  have : x.toNat * 2 ^ k / 18446744073709551616 = x.toNat / 2 ^ (64 - k) := by
    rw [e, Nat.mul_div_mul_right _ _ (Nat.two_pow_pos k)]
  rw [this] at h
  exact h.symm
theorem left_nat_aux (a : Four) (q k : Nat) (hk : k < 64) (hq : q < 4) : nat4 (leftN a (64 * q + k)) = nat4 a * 2 ^ (64 * q + k) % 115792089237316195423570985008687907853269984665640564039457584007913129639936 := by
  have h0 := part a.w0 k (by omega)
  have h1 := part a.w1 k (by omega)
  have h2 := part a.w2 k (by omega)
  have h3 := part a.w3 k (by omega)
  have e : nat4 a * 2 ^ k = a.w0.toNat * 2 ^ k + 18446744073709551616 * (a.w1.toNat * 2 ^ k + 18446744073709551616 * (a.w2.toNat * 2 ^ k + 18446744073709551616 * (a.w3.toNat * 2 ^ k))) := by rw [nat4]; grind
  have eq : (64 * q + k) / 64 = q := by omega
  have ek : (64 * q + k) % 64 = k := by omega
  have l0 := (lx_nat a.w1 a.w0 k hk)
  have l1 := (lx_nat a.w2 a.w1 k hk)
  have l2 := (lx_nat a.w3 a.w2 k hk)
  have b0 := u64_lt (lx a.w1 a.w0 k)
  have b1 := u64_lt (lx a.w2 a.w1 k)
  have b2 := u64_lt (lx a.w3 a.w2 k)
  have s0 := shl64_nat a.w0 k
  have z : (0 : UInt64).toNat = 0 := rfl
  rw [Nat.pow_add, Nat.mul_comm (2 ^ (64 * q)), ← Nat.mul_assoc, e]
  simp only [leftN, eq, ek]
  generalize a.w0.toNat * 2 ^ k = p0 at *
  generalize a.w1.toNat * 2 ^ k = p1 at *
  generalize a.w2.toNat * 2 ^ k = p2 at *
  generalize a.w3.toNat * 2 ^ k = p3 at *
  generalize a.w0.toNat / 2 ^ (64 - k) = d0 at *
  generalize a.w1.toNat / 2 ^ (64 - k) = d1 at *
  generalize a.w2.toNat / 2 ^ (64 - k) = d2 at *
  generalize a.w3.toNat / 2 ^ (64 - k) = d3 at *
  have : q = 0 ∨ q = 1 ∨ q = 2 ∨ q = 3 := by omega
  rcases this with rfl | rfl | rfl | rfl
  · simp only [nat4, s0, l0, l1, l2, Nat.mul_zero, Nat.pow_zero, Nat.mul_one]
    omega
  · simp only [nat4, s0, l0, l1, z, Nat.mul_one, show (2 : Nat) ^ 64 = 18446744073709551616 from rfl]
    omega
  · simp only [nat4, s0, l0, z, show (2 : Nat) ^ (64 * 2) = 340282366920938463463374607431768211456 from rfl]
    omega
  · simp only [nat4, s0, z, show (2 : Nat) ^ (64 * 3) = 6277101735386680763835789423207666416102355444464034512896 from rfl]
    omega
theorem right_nat_aux (a : Four) (q k : Nat) (hk : k < 64) (hq : q < 4) : nat4 (rightN a (64 * q + k)) = nat4 a / 2 ^ (64 * q + k) := by
  have eq : (64 * q + k) / 64 = q := by omega
  have ek : (64 * q + k) % 64 = k := by omega
  have l0 := (rx_nat a.w0 a.w1 k hk)
  have l1 := (rx_nat a.w1 a.w2 k hk)
  have l2 := (rx_nat a.w2 a.w3 k hk)
  have s3 := shr64_nat a.w3 k
  have z : (0 : UInt64).toNat = 0 := rfl
  -- x * 2^(64-k) = (low) + 18446744073709551616 * (x / 2^k)
  have pt : ∀ x : UInt64, x.toNat * 2 ^ (64 - k) = x.toNat * 2 ^ (64 - k) % 18446744073709551616 + 18446744073709551616 * (x.toNat / 2 ^ k) := fun x => by
    have h := part x (64 - k) (by omega)
    rw [show 64 - (64 - k) = k by omega] at h
    exact h
  have p1 := pt a.w1
  have p2 := pt a.w2
  have p3 := pt a.w3
  rw [Nat.pow_add, ← Nat.div_div_eq_div_mul]
  simp only [rightN, eq, ek]
  have low : ∀ x : UInt64, ∃ r, r < 2 ^ k ∧ x.toNat = r + 2 ^ k * (x.toNat / 2 ^ k) := fun x => ⟨x.toNat % 2 ^ k, Nat.mod_lt _ (Nat.two_pow_pos k), by have := Nat.mod_add_div x.toNat (2 ^ k); omega⟩
  -- a number by 2^k, of words
  have divk : ∀ (x : UInt64) (y : Nat), (x.toNat + 18446744073709551616 * y) / 2 ^ k = x.toNat / 2 ^ k + 2 ^ (64 - k) * y := fun x y => by
    have : 18446744073709551616 = 2 ^ k * 2 ^ (64 - k) := by rw [← Nat.pow_add, Nat.add_sub_cancel' (by omega)]
    rw [this, Nat.mul_assoc, Nat.add_mul_div_left _ _ (Nat.two_pow_pos k)]
  have m1 : ∀ y : Nat, 2 ^ (64 - k) * y = y * 2 ^ (64 - k) := fun y => Nat.mul_comm _ _
  have full : ∀ (w0 w1 w2 w3 : UInt64), (w0.toNat + 18446744073709551616 * (w1.toNat + 18446744073709551616 * (w2.toNat + 18446744073709551616 * w3.toNat))) / 2 ^ k =
      (w0.toNat / 2 ^ k + w1.toNat * 2 ^ (64 - k) % 18446744073709551616) + 18446744073709551616 * ((w1.toNat / 2 ^ k + w2.toNat * 2 ^ (64 - k) % 18446744073709551616) + 18446744073709551616 * ((w2.toNat / 2 ^ k + w3.toNat * 2 ^ (64 - k) % 18446744073709551616) + 18446744073709551616 * (w3.toNat / 2 ^ k))) := fun w0 w1 w2 w3 => by
    rw [divk]
    have q1 := pt w1; have q2 := pt w2; have q3 := pt w3
    have e : 2 ^ (64 - k) * (w1.toNat + 18446744073709551616 * (w2.toNat + 18446744073709551616 * w3.toNat)) = w1.toNat * 2 ^ (64 - k) + 18446744073709551616 * (w2.toNat * 2 ^ (64 - k) + 18446744073709551616 * (w3.toNat * 2 ^ (64 - k))) := by grind
    rw [e]
    generalize w1.toNat * 2 ^ (64 - k) = u1 at *
    generalize w2.toNat * 2 ^ (64 - k) = u2 at *
    generalize w3.toNat * 2 ^ (64 - k) = u3 at *
    omega
  have h0 := u64_lt a.w0; have h1 := u64_lt a.w1; have h2 := u64_lt a.w2; have h3 := u64_lt a.w3
  have this : q = 0 ∨ q = 1 ∨ q = 2 ∨ q = 3 := by omega
  rcases this with rfl | rfl | rfl | rfl
  · simp only [nat4, l0, l1, l2, s3, Nat.mul_zero, Nat.pow_zero, Nat.div_one, full]
  · have e : nat4 a / 2 ^ (64 * 1) = a.w1.toNat + 18446744073709551616 * (a.w2.toNat + 18446744073709551616 * (a.w3.toNat + 18446744073709551616 * (0 : UInt64).toNat)) := by simp only [nat4, z, Nat.mul_one, show (2 : Nat) ^ 64 = 18446744073709551616 from rfl]; omega
    rw [e, full]; simp only [nat4, l1, l2, s3, z, Nat.zero_div, Nat.zero_mul, Nat.zero_mod, Nat.mul_zero, Nat.add_zero]
  · have e : nat4 a / 2 ^ (64 * 2) = a.w2.toNat + 18446744073709551616 * (a.w3.toNat + 18446744073709551616 * ((0 : UInt64).toNat + 18446744073709551616 * (0 : UInt64).toNat)) := by simp only [nat4, z, show (2 : Nat) ^ (64 * 2) = 340282366920938463463374607431768211456 from rfl]; omega
    rw [e, full]; simp only [nat4, l2, s3, z, Nat.zero_div, Nat.zero_mul, Nat.zero_mod, Nat.mul_zero, Nat.add_zero]
  · have e : nat4 a / 2 ^ (64 * 3) = a.w3.toNat + 18446744073709551616 * ((0 : UInt64).toNat + 18446744073709551616 * ((0 : UInt64).toNat + 18446744073709551616 * (0 : UInt64).toNat)) := by simp only [nat4, z, show (2 : Nat) ^ (64 * 3) = 6277101735386680763835789423207666416102355444464034512896 from rfl]; omega
    rw [e, full]; simp only [nat4, s3, z, Nat.zero_div, Nat.zero_mul, Nat.zero_mod, Nat.mul_zero, Nat.add_zero]
theorem left_nat (a : Four) (n : Nat) (h : n < 256) : nat4 (limb_Left a n) = nat4 a * 2 ^ n % 115792089237316195423570985008687907853269984665640564039457584007913129639936 := by
  have hlt := nat4_lt a
  by_cases h0 : n = 0
  · subst h0
    rw [show limb_Left a ((0 : Nat) : Int) = a by simp [limb_Left], Nat.pow_zero, Nat.mul_one, Nat.mod_eq_of_lt hlt]
  · rw [show limb_Left a (n : Int) = leftN a n by simp only [limb_Left, show ¬ (n : Int) ≤ 0 by omega, show ¬ (255 : Int) < n by omega, if_false, Int.toNat_natCast]]
    have := left_nat_aux a (n / 64) (n % 64) (by omega) (by omega)
    rwa [show 64 * (n / 64) + n % 64 = n by omega] at this
theorem right_nat (a : Four) (n : Nat) (h : n < 256) : nat4 (limb_Right a n) = nat4 a / 2 ^ n := by
  by_cases h0 : n = 0
  · subst h0
    rw [show limb_Right a ((0 : Nat) : Int) = a by simp [limb_Right], Nat.pow_zero, Nat.div_one]
  · rw [show limb_Right a (n : Int) = rightN a n by simp only [limb_Right, show ¬ (n : Int) ≤ 0 by omega, show ¬ (255 : Int) < n by omega, if_false, Int.toNat_natCast]]
    have := right_nat_aux a (n / 64) (n % 64) (by omega) (by omega)
    rwa [show 64 * (n / 64) + n % 64 = n by omega] at this
end Go.Proofs.YtficbeeoafiiaaaGreatDoor
/- Package limb: how many bits; bytes there and back. Plain. -/
namespace Go.Proofs.YtficbeeoafiiaaaGreatDoor
open Go.Sym

theorem bitLenAux_spec : ∀ (f x : Nat), x < 2 ^ f → x < 2 ^ Lib.bitLenAux f x ∧ Lib.bitLenAux f x ≤ f ∧ (x ≠ 0 → 0 < Lib.bitLenAux f x ∧ 2 ^ (Lib.bitLenAux f x - 1) ≤ x) ∧ (x = 0 → Lib.bitLenAux f x = 0)
  | 0, x, h => by
    have : x = 0 := by simpa using h
    subst this
    simp [Lib.bitLenAux]
  | f + 1, x, h => by
    by_cases hx : x = 0
    · subst hx; simp [Lib.bitLenAux]
    · have h2 : x / 2 < 2 ^ f := by rw [Nat.pow_succ] at h; omega
      obtain ⟨i1, i2, i3, i4⟩ := bitLenAux_spec f (x / 2) h2
      simp only [Lib.bitLenAux, hx, if_false]
      refine ⟨?_, by omega, fun _ => ⟨by omega, ?_⟩, fun e => e.elim⟩
      · rw [Nat.add_comm, Nat.pow_succ]; omega
      · by_cases h0 : x / 2 = 0
        · rw [i4 h0]; simp; omega
        · obtain ⟨j1, j2⟩ := i3 h0
          rw [Nat.add_sub_cancel_left, show Lib.bitLenAux f (x / 2) = (Lib.bitLenAux f (x / 2) - 1) + 1 by omega, Nat.pow_succ]
          omega
theorem len64_spec (x : UInt64) : ∃ n : Nat, len64 x = n ∧ n ≤ 64 ∧ x.toNat < 2 ^ n ∧ (x.toNat ≠ 0 → 0 < n ∧ 2 ^ (n - 1) ≤ x.toNat) := by
  obtain ⟨h1, h2, h3, _⟩ := bitLenAux_spec 64 x.toNat (u64_lt x)
  exact ⟨_, rfl, h2, h1, h3⟩
/-- A number's bits. -/
def IsBits (m n : Nat) : Prop := m < 2 ^ n ∧ (m ≠ 0 → 0 < n ∧ 2 ^ (n - 1) ≤ m) ∧ (m = 0 → n = 0)
theorem IsBits.unique {m n k : Nat} (h : IsBits m n) (h' : IsBits m k) : n = k := by
  obtain ⟨a1, a2, a3⟩ := h
  obtain ⟨b1, b2, b3⟩ := h'
  by_cases hm : m = 0
  · rw [a3 hm, b3 hm]
  · have c1 := a2 hm; have c2 := b2 hm
    have d1 : 2 ^ (n - 1) < 2 ^ k := Nat.lt_of_le_of_lt c1.2 b1
    have d2 : 2 ^ (k - 1) < 2 ^ n := Nat.lt_of_le_of_lt c2.2 a1
    have e1 := (Nat.pow_lt_pow_iff_right (a := 2) (by omega)).1 d1
    have e2 := (Nat.pow_lt_pow_iff_right (a := 2) (by omega)).1 d2
    omega
theorem IsBits.up {m n l : Nat} (r : Nat) (h : IsBits m n) (hm : m ≠ 0) (hr : r < 2 ^ l) : IsBits (r + 2 ^ l * m) (l + n) := by
  obtain ⟨h1, h2, _⟩ := h
  obtain ⟨h3, h4⟩ := h2 hm
  have hp := Nat.two_pow_pos l
  refine ⟨?_, fun _ => ⟨by omega, ?_⟩, fun e => ?_⟩
  · rw [Nat.pow_add]
    have : 2 ^ l * (m + 1) ≤ 2 ^ l * 2 ^ n := Nat.mul_le_mul_left _ h1
    rw [Nat.mul_add] at this; omega
  · rw [show l + n - 1 = l + (n - 1) by omega, Nat.pow_add]
    have := Nat.mul_le_mul_left (2 ^ l) h4
    omega
  · exfalso
    have := Nat.mul_le_mul_left (2 ^ l) (show 1 ≤ m by omega)
    omega
theorem bits_nat (a : Four) : ∃ n : Nat, limb_Bits a = n ∧ n ≤ 256 ∧ IsBits (nat4 a) n := by
  obtain ⟨n0, e0, l0, p0, q0⟩ := len64_spec a.w0
  obtain ⟨n1, e1, l1, p1, q1⟩ := len64_spec a.w1
  obtain ⟨n2, e2, l2, p2, q2⟩ := len64_spec a.w2
  obtain ⟨n3, e3, l3, p3, q3⟩ := len64_spec a.w3
  have h0 := u64_lt a.w0; have h1 := u64_lt a.w1; have h2 := u64_lt a.w2
  have nz : ∀ x : UInt64, x ≠ 0 → x.toNat ≠ 0 := fun x h e => h (UInt64.toNat_inj.1 e)
  have big : ∀ (x : UInt64) (n : Nat), x ≠ 0 → x.toNat < 2 ^ n → (x.toNat ≠ 0 → 0 < n ∧ 2 ^ (n - 1) ≤ x.toNat) → IsBits x.toNat n := fun x n hx h h' => ⟨h, h', fun e => (nz x hx e).elim⟩
  simp only [limb_Bits]
  by_cases z3 : a.w3 = 0
  · by_cases z2 : a.w2 = 0
    · by_cases z1 : a.w1 = 0
      · by_cases z0 : a.w0 = 0
        · refine ⟨0, by simp [z0, z1, z2, z3], by omega, ?_⟩
          have : nat4 a = 0 := by simp [nat4, z0, z1, z2, z3]
          rw [this]; exact ⟨by simp, fun h => (h rfl).elim, fun _ => rfl⟩
        · refine ⟨n0, ?_, by omega, ?_⟩
          · simp only [z1, z2, z3, bne_self_eq_false, cond_false, show (a.w0 != 0) = true by simpa using z0, cond_true, e0]
            rw [wr_small (by omega) (by omega)]; omega
          · have : nat4 a = a.w0.toNat := by simp [nat4, z1, z2, z3]
            rw [this]; exact big _ _ z0 p0 q0
      · refine ⟨64 + n1, ?_, by omega, ?_⟩
        · simp only [z2, z3, bne_self_eq_false, cond_false, show (a.w1 != 0) = true by simpa using z1, cond_true, e1]
          rw [wr_small (by omega) (by omega)]; omega
        · have : nat4 a = a.w0.toNat + 2 ^ 64 * a.w1.toNat := by simp [nat4, z2, z3]
          rw [this]; exact (big _ _ z1 p1 q1).up _ (nz _ z1) h0
    · refine ⟨128 + n2, ?_, by omega, ?_⟩
      · simp only [z3, bne_self_eq_false, cond_false, show (a.w2 != 0) = true by simpa using z2, cond_true, e2]
        rw [wr_small (by omega) (by omega)]; omega
      · have : nat4 a = (a.w0.toNat + 18446744073709551616 * a.w1.toNat) + 2 ^ 128 * a.w2.toNat := by simp [nat4, z3]; omega
        rw [this]; exact (big _ _ z2 p2 q2).up _ (nz _ z2) (by simp only [Nat.reducePow]; omega)
  · refine ⟨192 + n3, ?_, by omega, ?_⟩
    · simp only [show (a.w3 != 0) = true by simpa using z3, cond_true, e3]
      rw [wr_small (by omega) (by omega)]; omega
    · have : nat4 a = (a.w0.toNat + 18446744073709551616 * (a.w1.toNat + 18446744073709551616 * a.w2.toNat)) + 2 ^ 192 * a.w3.toNat := by simp only [nat4, Nat.reducePow]; omega
      rw [this]; exact (big _ _ z3 p3 q3).up _ (nz _ z3) (by simp only [Nat.reducePow]; omega)
theorem IsBits.down {m n : Nat} (k : Nat) (h : IsBits m n) : IsBits (m / 2 ^ k) (n - k) := by
  obtain ⟨h1, h2, h3⟩ := h
  by_cases hk : n ≤ k
  · have : m / 2 ^ k = 0 := Nat.div_eq_of_lt (Nat.lt_of_lt_of_le h1 (Nat.pow_le_pow_right (by omega) hk))
    rw [this, show n - k = 0 by omega]
    exact ⟨by simp, fun h => (h rfl).elim, fun _ => rfl⟩
  · have hm : m ≠ 0 := fun e => by have := h3 e; omega
    obtain ⟨h4, h5⟩ := h2 hm
    have g : 2 ^ (n - k - 1) ≤ m / 2 ^ k := by
      rw [Nat.le_div_iff_mul_le (Nat.two_pow_pos k), ← Nat.pow_add, show n - k - 1 + k = n - 1 by omega]; exact h5
    have gp := Nat.two_pow_pos (n - k - 1)
    refine ⟨?_, fun _ => ⟨by omega, g⟩, fun e => by omega⟩
    rw [Nat.div_lt_iff_lt_mul (Nat.two_pow_pos k), ← Nat.pow_add, show n - k + k = n by omega]
    exact h1

/-! Bytes. -/
theorem byte_step (acc : UInt64) (b : UInt8) (j : Nat) (hj : j < 8) (h : acc.toNat < 2 ^ (8 * j)) :
    (acc ||| shl64 b.toUInt64 (8 * j)).toNat = acc.toNat + b.toNat * 2 ^ (8 * j) ∧ (acc ||| shl64 b.toUInt64 (8 * j)).toNat < 2 ^ (8 * j + 8) := by
  have hb := u8_lt b
  have hs : b.toNat * 2 ^ (8 * j) < 2 ^ (8 * j + 8) := by
    rw [Nat.pow_add, Nat.mul_comm]; exact Nat.mul_lt_mul_of_pos_left hb (Nat.two_pow_pos _)
  have hB : 2 ^ (8 * j + 8) ≤ 2 ^ 64 := Nat.pow_le_pow_right (by omega) (by omega)
  have e : (acc ||| shl64 b.toUInt64 (8 * j)).toNat = acc.toNat + b.toNat * 2 ^ (8 * j) := by
    rw [UInt64.toNat_or, shl64_nat, UInt8.toNat_toUInt64, Nat.mod_eq_of_lt (show _ < 18446744073709551616 by omega), ← Nat.shiftLeft_eq, Nat.or_comm, ← Nat.shiftLeft_add_eq_or_of_lt h, Nat.add_comm]
  refine ⟨e, ?_⟩
  rw [e, Nat.pow_add]
  have : b.toNat * 2 ^ (8 * j) ≤ 255 * 2 ^ (8 * j) := Nat.mul_le_mul_right _ (by omega)
  omega
theorem wordOf_nat (xs : List UInt8) (big : Bool) (i : Nat) (f : Nat → Nat) (hf : ∀ j, f j = (xs.getD (byteAt big (8 * i + j)) 0).toNat) :
    (wordOf xs big i).toNat = f 0 + 256 * (f 1 + 256 * (f 2 + 256 * (f 3 + 256 * (f 4 + 256 * (f 5 + 256 * (f 6 + 256 * f 7)))))) := by
  have e : wordOf xs big i = (List.range 8).foldl (fun acc j => acc ||| shl64 (xs.getD (byteAt big (8 * i + j)) 0).toUInt64 (8 * j)) 0 := rfl
  rw [e, show List.range 8 = [0, 1, 2, 3, 4, 5, 6, 7] from rfl]
  simp only [List.foldl_cons, List.foldl_nil]
  obtain ⟨e0, l0⟩ := byte_step 0 (xs.getD (byteAt big (8 * i + 0)) 0) 0 (by omega) (by decide)
  obtain ⟨e1, l1⟩ := byte_step _ (xs.getD (byteAt big (8 * i + 1)) 0) 1 (by omega) l0
  obtain ⟨e2, l2⟩ := byte_step _ (xs.getD (byteAt big (8 * i + 2)) 0) 2 (by omega) l1
  obtain ⟨e3, l3⟩ := byte_step _ (xs.getD (byteAt big (8 * i + 3)) 0) 3 (by omega) l2
  obtain ⟨e4, l4⟩ := byte_step _ (xs.getD (byteAt big (8 * i + 4)) 0) 4 (by omega) l3
  obtain ⟨e5, l5⟩ := byte_step _ (xs.getD (byteAt big (8 * i + 5)) 0) 5 (by omega) l4
  obtain ⟨e6, l6⟩ := byte_step _ (xs.getD (byteAt big (8 * i + 6)) 0) 6 (by omega) l5
  obtain ⟨e7, l7⟩ := byte_step _ (xs.getD (byteAt big (8 * i + 7)) 0) 7 (by omega) l6
  rw [e7, e6, e5, e4, e3, e2, e1, e0, ← hf 0, ← hf 1, ← hf 2, ← hf 3, ← hf 4, ← hf 5, ← hf 6, ← hf 7, show (0 : UInt64).toNat = 0 from rfl]
  simp only [Nat.reduceMul, Nat.reducePow]
  omega
theorem bytesL_get (a : Four) (k : Nat) (hk : k < 32) : ((bytesL a).getD k 0).toNat = (w4 a (k / 8)).toNat / 2 ^ (8 * (k % 8)) % 256 := by
  have : (bytesL a).getD k 0 = (shr64 (w4 a (k / 8)) (8 * (k % 8))).toUInt8 := by
    unfold bytesL
    rw [List.getD_eq_getElem?_getD, List.getElem?_map, List.getElem?_range hk]; rfl
  rw [this, UInt64.toNat_toUInt8, shr64_nat]
theorem bytes_get (a : Four) (big : Bool) (k : Nat) (hk : k < 32) : (limb_Bytes a big).getD (byteAt big k) 0 = (bytesL a).getD k 0 := by
  have hl : (bytesL a).length = 32 := by simp [bytesL]
  cases big with
  | false => rfl
  | true =>
    simp only [limb_Bytes, cond_true, byteAt, List.getD_eq_getElem?_getD]
    rw [List.getElem?_reverse (by omega), hl]
    rw [show 32 - 1 - (31 - k) = k by omega]
theorem bytes_len (a : Four) (big : Bool) : (limb_Bytes a big).length = 32 := by cases big <;> simp [limb_Bytes, bytesL]
theorem word_back (a : Four) (big : Bool) (i : Nat) (hi : i < 4) : wordOf (limb_Bytes a big) big i = w4 a i := by
  apply UInt64.toNat_inj.1
  have hf : ∀ j, j < 8 → ((limb_Bytes a big).getD (byteAt big (8 * i + j)) 0).toNat = (w4 a i).toNat / 2 ^ (8 * j) % 256 := fun j hj => by
    rw [bytes_get a big _ (by omega), bytesL_get a _ (by omega), show (8 * i + j) / 8 = i by omega, show (8 * i + j) % 8 = j by omega]
  rw [wordOf_nat _ big i _ (fun j => rfl), hf 0 (by omega), hf 1 (by omega), hf 2 (by omega), hf 3 (by omega), hf 4 (by omega), hf 5 (by omega), hf 6 (by omega), hf 7 (by omega)]
  have := u64_lt (w4 a i)
  simp only [Nat.reduceMul, Nat.reducePow]
  omega
theorem of_bytes (a : Four) (big : Bool) : limb_Of (limb_Bytes a big) big = (a, 0) := by
  simp only [limb_Of, bytes_len, if_true, fourOf, word_back a big 0 (by omega), word_back a big 1 (by omega), word_back a big 2 (by omega), word_back a big 3 (by omega), w4]
end Go.Proofs.YtficbeeoafiiaaaGreatDoor
/- Layer 1, what is added and taken away: the law holds. -/
set_option maxRecDepth 10000
namespace Go.Proofs.YtficbeeoafiiaaaGreatDoor
open Go.Sym

theorem eq4_self (x : Four) : eq4 x x = true := by simp [eq4]
theorem eq8_self (x : Eight) : eq8 x x = true := by simp [eq8]
theorem back_sub (a b : Four) : limb_Sub (limb_Add a b).1 b = (a, (limb_Add a b).2) := by
  have h1 := add_nat a b; have h2 := sub_nat (limb_Add a b).1 b
  have l1 := add_carry a b; have l2 := sub_borrow (limb_Add a b).1 b
  have m1 := nat4_lt a; have m2 := nat4_lt (limb_Sub (limb_Add a b).1 b).1
  have e1 : (limb_Sub (limb_Add a b).1 b).1 = a := nat4_inj (by omega)
  have e2 : (limb_Sub (limb_Add a b).1 b).2 = (limb_Add a b).2 := UInt64.toNat_inj.1 (by omega)
  exact Prod.ext e1 e2
theorem back_cmp (a b : Four) : limb_Cmp a b = wr (0 - limb_Cmp b a) := by
  rw [cmp_nat, cmp_nat]
  by_cases h1 : nat4 a < nat4 b
  · rw [if_pos h1, if_neg (by omega), if_neg (by omega)]; rfl
  · by_cases h2 : nat4 a = nat4 b
    · rw [if_neg h1, if_pos h2, if_neg (by omega), if_pos h2.symm]; rfl
    · rw [if_neg h1, if_neg h2, if_pos (by omega)]; rfl
theorem shOf_nat (w : UInt64) : shOf w = ((w.toNat % 256 : Nat) : Int) := by
  have : (w % 256).toNat = w.toNat % 256 := by rw [UInt64.toNat_mod]; rfl
  rw [shOf, this, wr_small (by omega) (by omega)]
theorem there_back (a : Four) (n : Nat) (h : n < 256) : nat4 (limb_Right (limb_Left a n) n) = nat4 a % 2 ^ (256 - n) := by
  rw [right_nat _ _ h, left_nat _ _ h]
  have e : 115792089237316195423570985008687907853269984665640564039457584007913129639936 = 2 ^ (256 - n) * 2 ^ n := by rw [← Nat.pow_add, Nat.sub_add_cancel (by omega)]
  rw [e, Nat.mul_mod_mul_right, Nat.mul_div_cancel _ (Nat.two_pow_pos n)]
theorem back_shift (a : Four) (n : Nat) (h : n < 256) : limb_Right (limb_Left (limb_Right (limb_Left a n) n) n) n = limb_Right (limb_Left a n) n := by
  apply nat4_inj
  rw [there_back _ _ h, there_back _ _ h, Nat.mod_mod]
theorem back_bits (a : Four) (n : Nat) (h : n < 256) : limb_Bits (limb_Right a n) = lessBits (limb_Bits a) n := by
  obtain ⟨m, e1, l1, h1⟩ := bits_nat a
  obtain ⟨k, e2, l2, h2⟩ := bits_nat (limb_Right a n)
  rw [right_nat _ _ h] at h2
  have := h2.unique (h1.down n)
  rw [e1, e2, lessBits, wr_small (by omega) (by omega)]
  split <;> omega
theorem back_mulword (a b : Four) (w : UInt64) : (limb_Add (limb_MulWord a w).1 (limb_MulWord b w).1).1 = (limb_MulWord (limb_Add a b).1 w).1 := by
  apply nat4_inj
  have h1 := mulword_nat a w; have h2 := mulword_nat b w; have h3 := mulword_nat (limb_Add a b).1 w
  have h4 := add_nat a b; have h5 := add_nat (limb_MulWord a w).1 (limb_MulWord b w).1
  have m1 := nat4_lt (limb_Add (limb_MulWord a w).1 (limb_MulWord b w).1).1
  have m2 := nat4_lt (limb_MulWord (limb_Add a b).1 w).1
  have e : nat4 (limb_Add a b).1 * w.toNat + 115792089237316195423570985008687907853269984665640564039457584007913129639936 * ((limb_Add a b).2.toNat * w.toNat) = nat4 a * w.toNat + nat4 b * w.toNat := by
    rw [← Nat.add_mul, ← h4]; grind
  generalize nat4 a * w.toNat = p at *
  generalize nat4 b * w.toNat = q at *
  generalize nat4 (limb_Add a b).1 * w.toNat = r at *
  generalize (limb_Add a b).2.toNat * w.toNat = s at *
  omega
theorem backE_ok (a b : Four) (w : UInt64) : backE a b w := by
  have hn : w.toNat % 256 < 256 := Nat.mod_lt _ (by decide)
  refine ⟨rfl, ?_, ?_, ?_, ?_, ?_, ?_, ?_, ?_, ?_, rfl⟩
  · rw [back_sub]; simp only [eq4_self, Bool.not_true]
  · rw [back_sub]; simp only [bne_self_eq_false]
  · rw [of_bytes]; rfl
  · rw [of_bytes]; simp only [eq4_self, Bool.not_true]
  · rw [← back_cmp, bne_self_eq_false]
  · rw [nat8_inj (a := limb_Mul a b) (b := limb_Mul b a) (by rw [mul_nat, mul_nat, Nat.mul_comm]), eq8_self]; rfl
  · rw [shOf_nat, back_shift a _ hn, eq4_self]; rfl
  · rw [shOf_nat, back_bits a _ hn, bne_self_eq_false]
  · rw [back_mulword, eq4_self]
abbrev sBack : SpecF := fspec (α := ABk) total fun _ => true
theorem ok_Back : SpecOK Tryz.prog 1000000 Sym.sNo := Sym.sNo_ok _ _
end Go.Proofs.YtficbeeoafiiaaaGreatDoor
/- Layer 1's laws: sums, products, bits, bytes: what their bodies come to. -/
set_option maxRecDepth 10000
namespace Go.Proofs.YtficbeeoafiiaaaGreatDoor
open Go.Sym Go.Dig

--STOP Go.Dig.Dig, R1.Dg, R1.Can, R1.Sm

def nOf : SpecF := fspec (α := Four × Unit) (β := Num) total (fun a => ⟨nat4 a.1⟩)
def spR01 : Specs := (1000004, Sym.sNo) :: (R1.spN ++ spL1)
def dT (l : List (Nat × Nat)) : Dec := l.map fun p => (p.1, p.2, .b true)
def dSums (c : Bool) : Dec := (9, 3, .b c) :: dT [(11, 3), (11, 9), (11, 15), (11, 20), (11, 29)]
def dProducts : Dec := (9, 7, .b false) :: dT [(14, 14), (14, 20)]
def dBits (p q r : Bool) : Dec := (5, 1, .b p) :: (7, 1, .b p) :: (7, 4, .b q) :: (10, 1, .b r) :: (10, 4, .b q) :: dT [(12, 4), (12, 10), (12, 17), (12, 24), (12, 31), (12, 41)]
def dBytes (l : Bool) : Dec := (7, 4, .b true) :: (9, 2, .b l) :: dT [(10, 1), (10, 5), (14, 1), (14, 6)]
end Go.Proofs.YtficbeeoafiiaaaGreatDoor
/- Bytes as numbers. -/
set_option maxRecDepth 10000
namespace Go.Proofs.YtficbeeoafiiaaaGreatDoor
open Go.Sym Go.Dig
def lev : List UInt8 → Nat
  | [] => 0
  | x :: l => x.toNat + 256 * lev l
theorem bev_reverse (l : List UInt8) : R1.bev l.reverse = lev l := by
  induction l with
  | nil => rfl
  | cons x l ih => rw [List.reverse_cons, R1.bev_snoc, ih]; simp only [lev]; omega
theorem bev_lev (l : List UInt8) : R1.bev l = lev l.reverse := by rw [← bev_reverse, List.reverse_reverse]
theorem bytesN_lev : ∀ l : List UInt8, R1.bytesN (lev l) l.length = l
  | [] => rfl
  | x :: l => by
    have ih := bytesN_lev l
    have hx := u8_lt x
    unfold R1.bytesN at ih ⊢
    rw [List.length_cons, List.range_succ_eq_map, List.map_cons, List.map_map]
    congr 1
    · apply UInt8.toNat_inj.1
      simp only [UInt8.toNat_ofNat', lev, Nat.pow_zero, Nat.div_one]
      omega
    · conv => rhs; rw [← ih]
      apply List.map_congr_left
      intro i _
      simp only [Function.comp, Nat.succ_eq_add_one]
      rw [Nat.pow_succ', ← Nat.div_div_eq_div_mul]
      congr 2
      simp only [lev]
      omega
theorem lev_lt : ∀ l : List UInt8, lev l < 2 ^ (8 * l.length)
  | [] => by simp [lev]
  | x :: l => by
    have := lev_lt l
    have := u8_lt x
    rw [List.length_cons, show 8 * (l.length + 1) = 8 * l.length + 8 by omega, Nat.pow_add]
    simp only [lev]; omega
end Go.Proofs.YtficbeeoafiiaaaGreatDoor
/- Layer 1's laws: plain facts on words, bytes and bits of numbers. -/
set_option maxRecDepth 10000
namespace Go.Proofs.YtficbeeoafiiaaaGreatDoor
open Go.Sym Go.Dig

theorem wv_nat4 (a : Four) : R1.wv [a.w0, a.w1, a.w2, a.w3] = nat4 a := by simp only [R1.wv, nat4]; omega
theorem ok_nOf : SpecOK Tryz.prog 1000000 Sym.sNo := Sym.sNo_ok _ _
theorem spR01_ok : SpecsOK Tryz.prog spR01 := .cons ok_nOf (SpecsOK.append R1.spN_ok spL1_ok)

theorem p256 : (2 : Nat) ^ Int.toNat 256 = 115792089237316195423570985008687907853269984665640564039457584007913129639936 := by decide +kernel
theorem n128 (m : Nat) : m / 2 ^ 128 = m / 18446744073709551616 / 18446744073709551616 := by rw [Nat.div_div_eq_div_mul]
theorem n192 (m : Nat) : m / 2 ^ 192 = m / 18446744073709551616 / 18446744073709551616 / 18446744073709551616 := by rw [Nat.div_div_eq_div_mul, Nat.div_div_eq_div_mul]
theorem nat4_fourN (m : Nat) : nat4 (R1.fourN m) = m % 115792089237316195423570985008687907853269984665640564039457584007913129639936 := by
  simp only [nat4, R1.fourN, UInt64.toNat_ofNat', n128, n192]
  omega
theorem four_eq {x : Four} {m : Nat} (h : nat4 x = m % 115792089237316195423570985008687907853269984665640564039457584007913129639936) : x = R1.fourN m := nat4_inj (by rw [nat4_fourN, h])
theorem eq4_of {x y : Four} (h : x = y) : eq4 x y = true := by rw [h, eq4_self]
theorem Sm4 (a : Four) : R1.Sm (nat4 a) := R1.Sm.of 11 (Nat.lt_of_lt_of_le (nat4_lt a) (by decide +kernel)) (by omega)
theorem SmB {m : Nat} (h : m < 115792089237316195423570985008687907853269984665640564039457584007913129639936 * 115792089237316195423570985008687907853269984665640564039457584007913129639936 * 115792089237316195423570985008687907853269984665640564039457584007913129639936) : R1.Sm m := R1.Sm.of 32 (Nat.lt_of_lt_of_le h (by decide +kernel)) (by omega)

/-! Words. -/
theorem nat4_word (a : Four) (i : Nat) (hi : i < 4) : nat4 a / 2 ^ (64 * i) % 18446744073709551616 = (w4 a i).toNat := by
  have := u64_lt a.w0; have := u64_lt a.w1; have := u64_lt a.w2; have := u64_lt a.w3
  have : i = 0 ∨ i = 1 ∨ i = 2 ∨ i = 3 := by omega
  rcases this with rfl | rfl | rfl | rfl
  · simp only [nat4, w4, Nat.mul_zero, Nat.pow_zero, Nat.div_one]; omega
  · have e : (2 : Nat) ^ (64 * 1) = 18446744073709551616 := rfl
    rw [e]; simp only [nat4, w4]; omega
  · rw [show 64 * 2 = 128 from rfl, n128]; simp only [nat4, w4]; omega
  · rw [show 64 * 3 = 192 from rfl, n192]; simp only [nat4, w4]; omega
theorem mod_bit (m r k : Nat) (h : k + r ≤ 64) : m % 18446744073709551616 / 2 ^ r % 2 ^ k = m / 2 ^ r % 2 ^ k := by
  have e : (18446744073709551616 : Nat) = 2 ^ r * 2 ^ (64 - r) := by rw [← Nat.pow_add, show r + (64 - r) = 64 by omega]
  rw [e, Nat.mod_mul_right_div_self, Nat.mod_mod_of_dvd]
  exact ⟨2 ^ (64 - r - k), by rw [← Nat.pow_add]; congr 1; omega⟩
theorem word_bits (a : Four) (n k : Nat) (hn : n < 256) (h : k + n % 64 ≤ 64) : nat4 a / 2 ^ n % 2 ^ k = (w4 a (n / 64)).toNat / 2 ^ (n % 64) % 2 ^ k := by
  rw [← nat4_word a (n / 64) (by omega), mod_bit _ _ _ h, Nat.div_div_eq_div_mul, ← Nat.pow_add, show 64 * (n / 64) + n % 64 = n by omega]
theorem and_one (x : UInt64) : (x &&& 1).toNat = x.toNat % 2 := by
  rw [UInt64.toNat_and]; exact Nat.and_one_is_mod _
theorem bit_nat (a : Four) (n : Nat) (h : n < 256) : (bitN a n).toNat = nat4 a / 2 ^ n % 2 := by
  have := word_bits a n 1 h (by omega)
  rw [Nat.pow_one] at this
  rw [this]
  have : n / 64 = 0 ∨ n / 64 = 1 ∨ n / 64 = 2 ∨ n / 64 = 3 := by omega
  unfold bitN
  rcases this with e | e | e | e <;> rw [e] <;> simp only [and_one, shr64_nat, w4]

/-! Bytes. -/
theorem bytesL_N (a : Four) : bytesL a = R1.bytesN (nat4 a) 32 := by
  have hl : (bytesL a).length = 32 := by simp [bytesL]
  apply List.ext_getElem (by rw [hl, R1.bytesN_len])
  intro k h1 h2
  have hk : k < 32 := by omega
  have e := bytesL_get a k hk
  rw [List.getD_eq_getElem?_getD, List.getElem?_eq_getElem h1] at e
  apply UInt8.toNat_inj.1
  have e2 : ((R1.bytesN (nat4 a) 32)[k]).toNat = nat4 a / 256 ^ k % 256 := by simp [R1.bytesN]
  refine e.trans (Eq.trans ?_ e2.symm)
  have := word_bits a (8 * k) 8 (by omega) (by omega)
  rw [R1.pow256, this, show 8 * k / 64 = k / 8 by omega, show 8 * k % 64 = 8 * (k % 8) by omega]
theorem bytes_N (a : Four) (big : Bool) : limb_Bytes a big = cond big (R1.bytesN (nat4 a) 32).reverse (R1.bytesN (nat4 a) 32) := by
  unfold limb_Bytes; rw [bytesL_N]
/-- 32 bytes are a number's. -/
theorem of_nat (b : List UInt8) (big : Bool) (h : b.length = 32) : limb_Of b big = (R1.fourN (cond big (R1.bev b) (R1.bev b.reverse)), 0) := by
  have key : ∀ l : List UInt8, l.length = 32 → R1.bytesN (nat4 (R1.fourN (lev l))) 32 = l := by
    intro l hl
    have h1 := bytesN_lev l
    have h2 := lev_lt l
    rw [hl] at h1 h2
    rw [nat4_fourN, Nat.mod_eq_of_lt (Nat.lt_of_lt_of_le h2 (by decide +kernel)), h1]
  have hb : b = limb_Bytes (R1.fourN (cond big (R1.bev b) (R1.bev b.reverse))) big := by
    rw [bytes_N]
    cases big with
    | false => simp only [cond_false]; rw [bev_reverse, key b h]
    | true => simp only [cond_true]; rw [bev_lev, key b.reverse (by simpa using h), List.reverse_reverse]
  conv => lhs; rw [hb]
  rw [of_bytes]

/-! What is selected. -/
theorem select_one (c : UInt64) (a b : Four) (h : c.toNat % 2 = 1) : limb_Select c a b = a := by
  have : c &&& 1 = 1 := UInt64.toNat_inj.1 (by rw [and_one, h]; rfl)
  have e : ∀ x y : UInt64, x &&& (0 - 1) ||| y &&& ~~~(0 - 1) = x := fun x y => by
    have h1 : (0 - 1 : UInt64) = ~~~0 := by decide
    rw [h1, UInt64.not_not]; simp
  simp only [limb_Select, this, e]
theorem select_zero (c : UInt64) (a b : Four) (h : c.toNat % 2 = 0) : limb_Select c a b = b := by
  have : c &&& 1 = 0 := UInt64.toNat_inj.1 (by rw [and_one, h]; rfl)
  have e : ∀ x y : UInt64, x &&& (0 - 0) ||| y &&& ~~~(0 - 0) = y := fun x y => by simp
  simp only [limb_Select, this, e]
end Go.Proofs.YtficbeeoafiiaaaGreatDoor
/- Package ring: what its functions come to (without powers). -/
set_option maxRecDepth 10000
namespace Go.Proofs.YtficbeeoafiiaaaGreatDoor
open Go.Sym Go.Dig

--STOP R1.Sm, limb_Add, limb_Sub, limb_Select, limb_Mul, limb_Cmp

/-- A ring's words. -/
structure RingV where
  m : Four
  back : UInt64
  one : Four
  two : Four
def RingV.cells (r : RingV) : List SV := [.u64 r.m.w0, .u64 r.m.w1, .u64 r.m.w2, .u64 r.m.w3, .u64 r.back, .u64 r.one.w0, .u64 r.one.w1, .u64 r.one.w2, .u64 r.one.w3, .u64 r.two.w0, .u64 r.two.w1, .u64 r.two.w2, .u64 r.two.w3]
def dRingC : List SV → Option RingV
  | [.u64 a, .u64 b, .u64 c, .u64 d, .u64 k, .u64 e, .u64 f, .u64 g, .u64 h, .u64 i, .u64 j, .u64 l, .u64 n] => some ⟨⟨a, b, c, d⟩, k, ⟨e, f, g, h⟩, ⟨i, j, l, n⟩⟩
  | _ => none
theorem dRingC_ok {cs : List SV} {r : RingV} (h : dRingC cs = some r) : cs = r.cells := by
  unfold dRingC at h
  split at h
  · simp only [Option.some.injEq] at h; subst h; rfl
  · cases h
instance : Enc RingV where
  enc r := .ro r.cells 0
  dec | .ro cs 0 => dRingC cs
      | _ => none
  ok := by
    intro s a h at_ w v r
    split at h
    · rw [dRingC_ok h] at r; exact r
    · cases h
  nn _ := rfl
/-- A pointer to a ring, or to none. -/
instance : Enc (Option RingV) where
  enc | some r => .ro r.cells 0
      | none => .val (.pointer none)
  dec | .ro cs 0 => (dRingC cs).map some
      | .val (.pointer none) => some none
      | _ => none
  ok := by
    intro s a h at_ w v r
    split at h
    · obtain ⟨x, h1, h2⟩ := Option.map_eq_some_iff.1 h
      subst h2
      rw [dRingC_ok h1] at r; exact r
    · simp only [Option.some.injEq] at h; subst h; exact r
    · cases h
  nn a := by cases a <;> rfl
/-- A loop's own ring; a loop's own number of four words. -/
structure PRing where
  v : RingV
structure PFour where
  v : Four
instance : LEnc PRing where
  kind := none
  enc nx a := (.ptr nx 0, [a.v.cells])
  dec nx s M := match s, M with
    | .ptr b 0, some cs :: M' => if b = nx then (dRingC cs).map fun r => (none, ⟨r⟩, M') else none
    | _, _ => none
  all P := ∀ v, P ⟨v⟩
  all_ok h a := h a.v
  ok := by
    intro nx s M p a M' h hp
    split at h
    · split at h
      · rename_i hb
        obtain ⟨r, h1, h2⟩ := Option.map_eq_some_iff.1 h
        simp only [Prod.mk.injEq] at h2
        obtain ⟨_, rfl, rfl⟩ := h2
        subst hb
        rw [dRingC_ok h1]
        exact ⟨rfl, fun r => r⟩
      · cases h
    · cases h
def dFourC : List SV → Option Four
  | [.u64 a, .u64 b, .u64 c, .u64 d] => some ⟨a, b, c, d⟩
  | _ => none
theorem dFourC_ok {cs : List SV} {r : Four} (h : dFourC cs = some r) : cs = [.u64 r.w0, .u64 r.w1, .u64 r.w2, .u64 r.w3] := by
  unfold dFourC at h
  split at h
  · simp only [Option.some.injEq] at h; subst h; rfl
  · cases h
instance : LEnc PFour where
  kind := none
  enc nx a := (.ptr nx 0, [[.u64 a.v.w0, .u64 a.v.w1, .u64 a.v.w2, .u64 a.v.w3]])
  dec nx s M := match s, M with
    | .ptr b 0, some cs :: M' => if b = nx then (dFourC cs).map fun r => (none, ⟨r⟩, M') else none
    | _, _ => none
  all P := ∀ v, P ⟨v⟩
  all_ok h a := h a.v
  ok := by
    intro nx s M p a M' h hp
    split at h
    · split at h
      · rename_i hb
        obtain ⟨r, h1, h2⟩ := Option.map_eq_some_iff.1 h
        simp only [Prod.mk.injEq] at h2
        obtain ⟨_, rfl, rfl⟩ := h2
        subst hb
        rw [dFourC_ok h1]
        exact ⟨rfl, fun r => r⟩
      · cases h
    · cases h

def ringPlus (m a b : Four) : Four :=
  limb_Select ((limb_Add a b).2 ||| ((limb_Sub (limb_Add a b).1 m).2 ^^^ 1)) (limb_Sub (limb_Add a b).1 m).1 (limb_Add a b).1
def spG1 : Specs := spL0
theorem vcPlus (r : RingV) (a b : Four) (Q : SV → Prop) : LnRaw tt spG1 3 [] {} Tryz.f51 Q (r, a, b, ()) =
 (Q (SV.agg [SV.u64 (Four.w0 (limb_Select (Prod.snd (limb_Add a b) ||| Prod.snd (limb_Sub (Prod.fst (limb_Add a b)) (RingV.m r)) ^^^ UInt64.ofNat (Int.toNat (1 : Int))) (Prod.fst (limb_Sub (Prod.fst (limb_Add a b)) (RingV.m r))) (Prod.fst (limb_Add a b)))), SV.u64 (Four.w1 (limb_Select (Prod.snd (limb_Add a b) ||| Prod.snd (limb_Sub (Prod.fst (limb_Add a b)) (RingV.m r)) ^^^ UInt64.ofNat (Int.toNat (1 : Int))) (Prod.fst (limb_Sub (Prod.fst (limb_Add a b)) (RingV.m r))) (Prod.fst (limb_Add a b)))), SV.u64 (Four.w2 (limb_Select (Prod.snd (limb_Add a b) ||| Prod.snd (limb_Sub (Prod.fst (limb_Add a b)) (RingV.m r)) ^^^ UInt64.ofNat (Int.toNat (1 : Int))) (Prod.fst (limb_Sub (Prod.fst (limb_Add a b)) (RingV.m r))) (Prod.fst (limb_Add a b)))), SV.u64 (Four.w3 (limb_Select (Prod.snd (limb_Add a b) ||| Prod.snd (limb_Sub (Prod.fst (limb_Add a b)) (RingV.m r)) ^^^ UInt64.ofNat (Int.toNat (1 : Int)))
 (Prod.fst (limb_Sub (Prod.fst (limb_Add a b)) (RingV.m r))) (Prod.fst (limb_Add a b))))])) := by kernel_rfl
def sRPlus : SpecF := fspec (α := RingV × Four × Four × Unit) total (fun a => ringPlus a.1.m a.2.1 a.2.2.1)
def spG2 : Specs := (51, sRPlus) :: spG1
theorem vcTwice (r : RingV) (a : Four) (Q : SV → Prop) : LnRaw tt spG2 3 [] {} Tryz.f80 Q (r, a, ()) =
 (Q (SV.agg [SV.u64 (Four.w0 (ringPlus (RingV.m r) a a)), SV.u64 (Four.w1 (ringPlus (RingV.m r) a a)), SV.u64 (Four.w2 (ringPlus (RingV.m r) a a)), SV.u64 (Four.w3 (ringPlus (RingV.m r) a a))])) := by kernel_rfl
def sTwice : SpecF := fspec (α := RingV × Four × Unit) total (fun a => ringPlus a.1.m a.2.1 a.2.1)

def dblN (m : Four) : Nat → Four
  | 0 => ⟨1, 0, 0, 0⟩
  | n + 1 => ringPlus m (dblN m n) (dblN m n)
def oneN (m : Four) (i : Int) : Four := if i ≤ 255 then zero4 else dblN m 256
def iNew (r0 : RingV) (r : RingV) (x : Four) (i : Int) : Prop := 0 ≤ i ∧ i ≤ 512 ∧ r = ⟨r0.m, r0.back, oneN r0.m i, zero4⟩ ∧ x = dblN r0.m i.toNat
def newt (w : UInt64) : Nat → UInt64
  | 0 => 1
  | n + 1 => newt w n * (2 - w * newt w n)
def iInv (m0 : Four) (r0 : RingV) (m : Four) (r : RingV) (x : UInt64) (i : Int) : Prop := m = m0 ∧ r = r0 ∧ 0 ≤ i ∧ i ≤ 6 ∧ x = newt m.w0 i.toNat
def lNew : Plan := { loops := [(0, { β := Unit, α := PFour × PRing × UInt64 × Int × Unit, same := [], keep := [1, 4, 5, 21], inv := fun _ x0 x => iInv x0.1.v x0.2.1.v x.1.v x.2.1.v x.2.2.1 x.2.2.2.1, meas := fun _ x => (6 - x.2.2.2.1).toNat }), (2, { β := Unit, α := PRing × PFour × Int × Unit, same := [], keep := [4, 6, 38], inv := fun _ x0 x => iNew x0.1.v x.1.v x.2.1.v x.2.2.1, meas := fun _ x => (512 - x.2.2.1).toNat })] }
def spG3 : Specs := (80, sTwice) :: spG2
theorem vcNewA (m : Four) (Q : SV → Prop) : LnRaw tt spG3 9 [(1, 3, .b false), (1, 7, .b false)] lNew Tryz.f46 Q (m, ()) =
 (((Four.w0 m &&& UInt64.ofNat (Int.toNat (1 : Int)) == UInt64.ofNat (Int.toNat (0 : Int))) = false) ∧ (((Four.w0 m == UInt64.ofNat (Int.toNat (1 : Int)) && (Four.w1 m == UInt64.ofNat (Int.toNat (0 : Int)) && (Four.w2 m == UInt64.ofNat (Int.toNat (0 : Int)) && (Four.w3 m == UInt64.ofNat (Int.toNat (0 : Int)) && true)))) = false) ∧ ((iInv m (RingV.mk m (UInt64.ofNat (Int.toNat (0 : Int))) (Four.mk (UInt64.ofNat (Int.toNat (0 : Int))) (UInt64.ofNat (Int.toNat (0 : Int))) (UInt64.ofNat (Int.toNat (0 : Int))) (UInt64.ofNat (Int.toNat (0 : Int)))) (Four.mk (UInt64.ofNat (Int.toNat (0 : Int))) (UInt64.ofNat (Int.toNat (0 : Int))) (UInt64.ofNat (Int.toNat (0 : Int))) (UInt64.ofNat (Int.toNat (0 : Int))))) m (RingV.mk m (UInt64.ofNat (Int.toNat (0 : Int))) (Four.mk (UInt64.ofNat (Int.toNat (0 : Int))) (UInt64.ofNat (Int.toNat (0 : Int))) (UInt64.ofNat (Int.toNat (0 : Int))) (UInt64.ofNat (Int.toNat (0 : Int)))) (Four.mk (UInt64.ofNat (Int.toNat (0 : Int))) (UInt64.ofNat (Int.toNat (0 : Int)))
 (UInt64.ofNat (Int.toNat (0 : Int))) (UInt64.ofNat (Int.toNat (0 : Int))))) (UInt64.ofNat (Int.toNat (1 : Int))) (0 : Int)) ∧ (∀ v : Four, (∀ v_1 : RingV, (∀ a : UInt64, (∀ a_1 : Int, ((iInv m (RingV.mk m (UInt64.ofNat (Int.toNat (0 : Int))) (Four.mk (UInt64.ofNat (Int.toNat (0 : Int))) (UInt64.ofNat (Int.toNat (0 : Int))) (UInt64.ofNat (Int.toNat (0 : Int))) (UInt64.ofNat (Int.toNat (0 : Int)))) (Four.mk (UInt64.ofNat (Int.toNat (0 : Int))) (UInt64.ofNat (Int.toNat (0 : Int))) (UInt64.ofNat (Int.toNat (0 : Int))) (UInt64.ofNat (Int.toNat (0 : Int))))) v v_1 a a_1) → bcase (decide (a_1 < (6 : Int))) (((() = ()) ∧ ((iInv m (RingV.mk m (UInt64.ofNat (Int.toNat (0 : Int))) (Four.mk (UInt64.ofNat (Int.toNat (0 : Int))) (UInt64.ofNat (Int.toNat (0 : Int))) (UInt64.ofNat (Int.toNat (0 : Int))) (UInt64.ofNat (Int.toNat (0 : Int)))) (Four.mk (UInt64.ofNat (Int.toNat (0 : Int))) (UInt64.ofNat (Int.toNat (0 : Int))) (UInt64.ofNat (Int.toNat (0 : Int))) (UInt64.ofNat (Int.toNat (0 : Int)))))
 v v_1 (a * (UInt64.ofNat (Int.toNat (2 : Int)) - Four.w0 v * a)) (IntKind.wrap IntKind.i64 (a_1 + (1 : Int)))) ∧ (Int.toNat ((6 : Int) - IntKind.wrap IntKind.i64 (a_1 + (1 : Int))) < Int.toNat ((6 : Int) - a_1))))) (((iNew (RingV.mk (RingV.m v_1) ((0 : UInt64) - a) (RingV.one v_1) (RingV.two v_1)) (RingV.mk (RingV.m v_1) ((0 : UInt64) - a) (RingV.one v_1) (RingV.two v_1)) (Four.mk (UInt64.ofNat (Int.toNat (1 : Int))) (UInt64.ofNat (Int.toNat (0 : Int))) (UInt64.ofNat (Int.toNat (0 : Int))) (UInt64.ofNat (Int.toNat (0 : Int)))) (0 : Int)) ∧ (∀ v_2 : RingV, (∀ v_3 : Four, (∀ a_2 : Int, ((iNew (RingV.mk (RingV.m v_1) ((0 : UInt64) - a) (RingV.one v_1) (RingV.two v_1)) v_2 v_3 a_2) → bcase (decide (a_2 < (512 : Int))) (bcase (a_2 == (255 : Int)) (((() = ()) ∧ ((iNew (RingV.mk (RingV.m v_1) ((0 : UInt64) - a) (RingV.one v_1) (RingV.two v_1)) (RingV.mk (RingV.m v_2) (RingV.back v_2) (ringPlus (RingV.m v_2) v_3 v_3) (RingV.two v_2))
 (ringPlus (RingV.m v_2) v_3 v_3) (IntKind.wrap IntKind.i64 (a_2 + (1 : Int)))) ∧ (Int.toNat ((512 : Int) - IntKind.wrap IntKind.i64 (a_2 + (1 : Int))) < Int.toNat ((512 : Int) - a_2))))) (((() = ()) ∧ ((iNew (RingV.mk (RingV.m v_1) ((0 : UInt64) - a) (RingV.one v_1) (RingV.two v_1)) v_2 (ringPlus (RingV.m v_2) v_3 v_3) (IntKind.wrap IntKind.i64 (a_2 + (1 : Int)))) ∧ (Int.toNat ((512 : Int) - IntKind.wrap IntKind.i64 (a_2 + (1 : Int))) < Int.toNat ((512 : Int) - a_2)))))) ((Q (SV.tup [SV.ro [SV.u64 (Four.w0 (RingV.m v_2)), SV.u64 (Four.w1 (RingV.m v_2)), SV.u64 (Four.w2 (RingV.m v_2)), SV.u64 (Four.w3 (RingV.m v_2)), SV.u64 (RingV.back v_2), SV.u64 (Four.w0 (RingV.one v_2)), SV.u64 (Four.w1 (RingV.one v_2)), SV.u64 (Four.w2 (RingV.one v_2)), SV.u64 (Four.w3 (RingV.one v_2)), SV.u64 (Four.w0 v_3), SV.u64 (Four.w1 v_3), SV.u64 (Four.w2 v_3), SV.u64 (Four.w3 v_3)] (0 : Nat), SV.i64 (0 : Int)]))))))))))))))))) := by kernel_rfl
theorem vcNewB (m : Four) (Q : SV → Prop) : LnRaw tt spG3 9 [(1, 3, .b true)] lNew Tryz.f46 Q (m, ()) =
 (((Four.w0 m &&& UInt64.ofNat (Int.toNat (1 : Int)) == UInt64.ofNat (Int.toNat (0 : Int))) = true) ∧ (Q (SV.tup [SV.val (Value.pointer none), SV.i64 (2 : Int)]))) := by kernel_rfl
theorem vcNewC (m : Four) (Q : SV → Prop) : LnRaw tt spG3 9 [(1, 3, .b false), (1, 7, .b true)] lNew Tryz.f46 Q (m, ()) =
 (((Four.w0 m &&& UInt64.ofNat (Int.toNat (1 : Int)) == UInt64.ofNat (Int.toNat (0 : Int))) = false) ∧ (((Four.w0 m == UInt64.ofNat (Int.toNat (1 : Int)) && (Four.w1 m == UInt64.ofNat (Int.toNat (0 : Int)) && (Four.w2 m == UInt64.ofNat (Int.toNat (0 : Int)) && (Four.w3 m == UInt64.ofNat (Int.toNat (0 : Int)) && true)))) = true) ∧ (Q (SV.tup [SV.val (Value.pointer none), SV.i64 (2 : Int)])))) := by kernel_rfl
end Go.Proofs.YtficbeeoafiiaaaGreatDoor
/- Package ring: what its functions come to: products, residues. -/
set_option maxRecDepth 10000
namespace Go.Proofs.YtficbeeoafiiaaaGreatDoor
open Go.Sym Go.Dig

--STOP R1.Sm, limb_Add, limb_Sub, limb_Select, limb_Mul, limb_Cmp

def ringOf (m : Four) : RingV := ⟨m, 0 - newt m.w0 6, dblN m 256, dblN m 512⟩
/-- May it be a modulus? -/
def goodM (m : Four) : Bool := !((m.w0 &&& 1) == 0) && !(eq4 m ⟨1, 0, 0, 0⟩)
def sNewG : SpecF := fspec (α := Four × Unit) (β := Option RingV × Int × Unit) (fun a => some (goodM a.1 = true)) (fun a => (some (ringOf a.1), 0, ()))
def sNewN : SpecF := fspec (α := Four × Unit) (β := Option RingV × Int × Unit) (fun a => some (goodM a.1 = false)) (fun _ => (none, 2, ()))

def redHi (t c over : UInt64) : UInt64 := addHi t c over
def shr1 (k : UInt64) (m : Four) (t : Eight) : Row := mulRow (t.e0 * k) m t.e0 t.e1 t.e2 t.e3
def shr2 (k : UInt64) (m : Four) (t : Eight) (r : Row) : Row := mulRow (r.r1 * k) m r.r1 r.r2 r.r3 (addLo t.e4 r.c 0)
def shr3 (k : UInt64) (m : Four) (t : Eight) (o : UInt64) (s : Row) : Row := mulRow (s.r1 * k) m s.r1 s.r2 s.r3 (addLo t.e5 s.c o)
def shr4 (k : UInt64) (m : Four) (t : Eight) (o : UInt64) (u : Row) : Row := mulRow (u.r1 * k) m u.r1 u.r2 u.r3 (addLo t.e6 u.c o)
structure ShrV where
  o1 : UInt64
  o2 : UInt64
  o3 : UInt64
  o4 : UInt64
  high : Four
def shrV (k : UInt64) (m : Four) (t : Eight) : ShrV :=
  let r := shr1 k m t
  let o1 := addHi t.e4 r.c 0
  let s := shr2 k m t r
  let o2 := addHi t.e5 s.c o1
  let u := shr3 k m t o1 s
  let o3 := addHi t.e6 u.c o2
  let v := shr4 k m t o2 u
  ⟨o1, o2, o3, addHi t.e7 v.c o3, ⟨v.r1, v.r2, v.r3, addLo t.e7 v.c o3⟩⟩
def shrinkF (k : UInt64) (m : Four) (t : Eight) : Four :=
  limb_Select ((shrV k m t).o4 ||| ((limb_Sub (shrV k m t).high m).2 ^^^ 1)) (limb_Sub (shrV k m t).high m).1 (shrV k m t).high
def spG4 : Specs := (104, sMul64) :: (103, specAdd64) :: spL0
abbrev sShrink : SpecF := fspec (α := RingV × Eight × Unit) total (fun a => shrinkF a.1.back a.1.m a.2.1)
def timesR (r : RingV) (a b : Four) : Four := shrinkF r.back r.m (limb_Mul a b)
def sTimesR : SpecF := fspec (α := RingV × Four × Four × Unit) total (fun a => timesR a.1 a.2.1 a.2.2.1)
theorem vcTimesR (r : RingV) (a b : Four) (Q : SV → Prop) : LnRaw tt ((85, sShrink) :: spL0) 3 [] {} Tryz.f53 Q (r, a, b, ()) =
 (Q (SV.agg [SV.u64 (Four.w0 (shrinkF (RingV.back r) (RingV.m r) (limb_Mul a b))), SV.u64 (Four.w1 (shrinkF (RingV.back r) (RingV.m r) (limb_Mul a b))), SV.u64 (Four.w2 (shrinkF (RingV.back r) (RingV.m r) (limb_Mul a b))), SV.u64 (Four.w3 (shrinkF (RingV.back r) (RingV.m r) (limb_Mul a b)))])) := by kernel_rfl
def isR : Option RingV → Bool
  | some r => (r.m.w0 &&& 1) == 1
  | none => false
def sIsR : SpecF := fspec (α := Option RingV × Unit) total (fun a => isR a.1)
theorem vcIsA (r : RingV) (Q : SV → Prop) : LnRaw tt [] 3 [] {} Tryz.f50 Q (some r, ()) =
 (Q (SV.bool (Four.w0 (RingV.m r) &&& UInt64.ofNat (Int.toNat (1 : Int)) == UInt64.ofNat (Int.toNat (1 : Int))))) := by kernel_rfl
theorem vcIsB (Q : SV → Prop) : LnRaw tt [] 3 [] {} Tryz.f50 Q ((none : Option RingV), ()) =
 (Q (SV.bool false)) := by kernel_rfl
def spG5 : Specs := (50, sIsR) :: (53, sTimesR) :: spG3
def onR (r : Option RingV) (f : RingV → Four) : Four :=
  match r with
  | some r => if isR (some r) = true then f r else zero4
  | none => zero4
def one4 : Four := ⟨1, 0, 0, 0⟩
def redR (r : RingV) (a : Four) : Four := timesR r (timesR r a r.two) one4
abbrev AR1 := Option RingV × Four × Unit
abbrev AR2 := Option RingV × Four × Four × Unit
def sModulus : SpecF := fspec (α := Option RingV × Unit) total (fun a => onR a.1 fun r => r.m)
def sReduce : SpecF := fspec (α := AR1) total (fun a => onR a.1 fun r => redR r a.2.1)
def sIn : SpecF := fspec (α := AR1) total (fun a => onR a.1 fun r => timesR r a.2.1 r.two)
def sOut : SpecF := fspec (α := AR1) total (fun a => onR a.1 fun r => timesR r a.2.1 one4)
theorem vcReduceA (r : RingV) (a : Four) (Q : SV → Prop) : LnRaw tt spG5 3 [] {} Tryz.f52 Q (some r, a, ()) =
 bcase (!isR (some r)) ((Q (SV.agg [SV.u64 (UInt64.ofNat (Int.toNat (0 : Int))), SV.u64 (UInt64.ofNat (Int.toNat (0 : Int))), SV.u64 (UInt64.ofNat (Int.toNat (0 : Int))), SV.u64 (UInt64.ofNat (Int.toNat (0 : Int)))]))) ((Q (SV.agg [SV.u64 (Four.w0 (timesR r (timesR r a (RingV.two r)) (Four.mk (UInt64.ofNat (Int.toNat (1 : Int))) (UInt64.ofNat (Int.toNat (0 : Int))) (UInt64.ofNat (Int.toNat (0 : Int))) (UInt64.ofNat (Int.toNat (0 : Int)))))), SV.u64 (Four.w1 (timesR r (timesR r a (RingV.two r)) (Four.mk (UInt64.ofNat (Int.toNat (1 : Int))) (UInt64.ofNat (Int.toNat (0 : Int))) (UInt64.ofNat (Int.toNat (0 : Int))) (UInt64.ofNat (Int.toNat (0 : Int)))))), SV.u64 (Four.w2 (timesR r (timesR r a (RingV.two r)) (Four.mk (UInt64.ofNat (Int.toNat (1 : Int))) (UInt64.ofNat (Int.toNat (0 : Int))) (UInt64.ofNat (Int.toNat (0 : Int))) (UInt64.ofNat (Int.toNat (0 : Int)))))), SV.u64 (Four.w3 (timesR r (timesR r a (RingV.two r))
 (Four.mk (UInt64.ofNat (Int.toNat (1 : Int))) (UInt64.ofNat (Int.toNat (0 : Int))) (UInt64.ofNat (Int.toNat (0 : Int))) (UInt64.ofNat (Int.toNat (0 : Int))))))]))) := by kernel_rfl
theorem vcReduceB (a : Four) (Q : SV → Prop) : LnRaw tt spG5 3 [] {} Tryz.f52 Q ((none : Option RingV), a, ()) =
 (Q (SV.agg [SV.u64 (UInt64.ofNat (Int.toNat (0 : Int))), SV.u64 (UInt64.ofNat (Int.toNat (0 : Int))), SV.u64 (UInt64.ofNat (Int.toNat (0 : Int))), SV.u64 (UInt64.ofNat (Int.toNat (0 : Int)))])) := by kernel_rfl
theorem vcInA (r : RingV) (a : Four) (Q : SV → Prop) : LnRaw tt spG5 3 [] {} Tryz.f49 Q (some r, a, ()) =
 bcase (!isR (some r)) ((Q (SV.agg [SV.u64 (UInt64.ofNat (Int.toNat (0 : Int))), SV.u64 (UInt64.ofNat (Int.toNat (0 : Int))), SV.u64 (UInt64.ofNat (Int.toNat (0 : Int))), SV.u64 (UInt64.ofNat (Int.toNat (0 : Int)))]))) ((Q (SV.agg [SV.u64 (Four.w0 (timesR r a (RingV.two r))), SV.u64 (Four.w1 (timesR r a (RingV.two r))), SV.u64 (Four.w2 (timesR r a (RingV.two r))), SV.u64 (Four.w3 (timesR r a (RingV.two r)))]))) := by kernel_rfl
theorem vcInB (a : Four) (Q : SV → Prop) : LnRaw tt spG5 3 [] {} Tryz.f49 Q ((none : Option RingV), a, ()) =
 (Q (SV.agg [SV.u64 (UInt64.ofNat (Int.toNat (0 : Int))), SV.u64 (UInt64.ofNat (Int.toNat (0 : Int))), SV.u64 (UInt64.ofNat (Int.toNat (0 : Int))), SV.u64 (UInt64.ofNat (Int.toNat (0 : Int)))])) := by kernel_rfl
theorem vcOutA (r : RingV) (a : Four) (Q : SV → Prop) : LnRaw tt spG5 3 [] {} Tryz.f59 Q (some r, a, ()) =
 bcase (!isR (some r)) ((Q (SV.agg [SV.u64 (UInt64.ofNat (Int.toNat (0 : Int))), SV.u64 (UInt64.ofNat (Int.toNat (0 : Int))), SV.u64 (UInt64.ofNat (Int.toNat (0 : Int))), SV.u64 (UInt64.ofNat (Int.toNat (0 : Int)))]))) ((Q (SV.agg [SV.u64 (Four.w0 (timesR r a (Four.mk (UInt64.ofNat (Int.toNat (1 : Int))) (UInt64.ofNat (Int.toNat (0 : Int))) (UInt64.ofNat (Int.toNat (0 : Int))) (UInt64.ofNat (Int.toNat (0 : Int)))))), SV.u64 (Four.w1 (timesR r a (Four.mk (UInt64.ofNat (Int.toNat (1 : Int))) (UInt64.ofNat (Int.toNat (0 : Int))) (UInt64.ofNat (Int.toNat (0 : Int))) (UInt64.ofNat (Int.toNat (0 : Int)))))), SV.u64 (Four.w2 (timesR r a (Four.mk (UInt64.ofNat (Int.toNat (1 : Int))) (UInt64.ofNat (Int.toNat (0 : Int))) (UInt64.ofNat (Int.toNat (0 : Int))) (UInt64.ofNat (Int.toNat (0 : Int)))))), SV.u64 (Four.w3 (timesR r a (Four.mk (UInt64.ofNat (Int.toNat (1 : Int))) (UInt64.ofNat (Int.toNat (0 : Int)))
 (UInt64.ofNat (Int.toNat (0 : Int))) (UInt64.ofNat (Int.toNat (0 : Int))))))]))) := by kernel_rfl
theorem vcOutB (a : Four) (Q : SV → Prop) : LnRaw tt spG5 3 [] {} Tryz.f59 Q ((none : Option RingV), a, ()) =
 (Q (SV.agg [SV.u64 (UInt64.ofNat (Int.toNat (0 : Int))), SV.u64 (UInt64.ofNat (Int.toNat (0 : Int))), SV.u64 (UInt64.ofNat (Int.toNat (0 : Int))), SV.u64 (UInt64.ofNat (Int.toNat (0 : Int)))])) := by kernel_rfl
def resR (r : RingV) (a : Four) : Four := if limb_Cmp a r.m < 0 then a else onR (some r) fun r => redR r a
def sResidueR : SpecF := fspec (α := RingV × Four × Unit) total (fun a => resR a.1 a.2.1)
def spG6 : Specs := (52, sReduce) :: spG5
theorem vcResidueR (r : RingV) (a : Four) (Q : SV → Prop) : LnRaw tt spG6 3 [] {} Tryz.f82 Q (r, a, ()) =
 bcase (decide (limb_Cmp a (RingV.m r) < (0 : Int))) ((Q (SV.agg [SV.u64 (Four.w0 a), SV.u64 (Four.w1 a), SV.u64 (Four.w2 a), SV.u64 (Four.w3 a)]))) ((Q (SV.agg [SV.u64 (Four.w0 (onR (some r) fun r => redR r a)), SV.u64 (Four.w1 (onR (some r) fun r => redR r a)), SV.u64 (Four.w2 (onR (some r) fun r => redR r a)), SV.u64 (Four.w3 (onR (some r) fun r => redR r a))]))) := by kernel_rfl
def spG7 : Specs := (82, sResidueR) :: spG6
def plusR (r : RingV) (a b : Four) : Four := ringPlus r.m (resR r a) (resR r b)
def minusR (r : RingV) (a b : Four) : Four := limb_Select (limb_Sub (resR r a) (resR r b)).2 (limb_Add (limb_Sub (resR r a) (resR r b)).1 r.m).1 (limb_Sub (resR r a) (resR r b)).1
def mulR (r : RingV) (a b : Four) : Four := timesR r (resR r a) (resR r b)
def wideR (r : RingV) (w : Eight) : Four := ringPlus r.m (redR r ⟨w.e0, w.e1, w.e2, w.e3⟩) (timesR r ⟨w.e4, w.e5, w.e6, w.e7⟩ r.two)
def sPlusR : SpecF := fspec (α := AR2) total (fun a => onR a.1 fun r => plusR r a.2.1 a.2.2.1)
def sMinusR : SpecF := fspec (α := AR2) total (fun a => onR a.1 fun r => minusR r a.2.1 a.2.2.1)
def sMulR : SpecF := fspec (α := AR2) total (fun a => onR a.1 fun r => mulR r a.2.1 a.2.2.1)
def sWideR : SpecF := fspec (α := Option RingV × Eight × Unit) total (fun a => onR a.1 fun r => wideR r a.2.1)
theorem vcPlusA (r : RingV) (a b : Four) (Q : SV → Prop) : LnRaw tt spG7 3 [] {} Tryz.f56 Q (some r, a, b, ()) =
 bcase (!isR (some r)) ((Q (SV.agg [SV.u64 (UInt64.ofNat (Int.toNat (0 : Int))), SV.u64 (UInt64.ofNat (Int.toNat (0 : Int))), SV.u64 (UInt64.ofNat (Int.toNat (0 : Int))), SV.u64 (UInt64.ofNat (Int.toNat (0 : Int)))]))) ((Q (SV.agg [SV.u64 (Four.w0 (ringPlus (RingV.m r) (resR r a) (resR r b))), SV.u64 (Four.w1 (ringPlus (RingV.m r) (resR r a) (resR r b))), SV.u64 (Four.w2 (ringPlus (RingV.m r) (resR r a) (resR r b))), SV.u64 (Four.w3 (ringPlus (RingV.m r) (resR r a) (resR r b)))]))) := by kernel_rfl
theorem vcPlusB (a b : Four) (Q : SV → Prop) : LnRaw tt spG7 3 [] {} Tryz.f56 Q ((none : Option RingV), a, b, ()) =
 (Q (SV.agg [SV.u64 (UInt64.ofNat (Int.toNat (0 : Int))), SV.u64 (UInt64.ofNat (Int.toNat (0 : Int))), SV.u64 (UInt64.ofNat (Int.toNat (0 : Int))), SV.u64 (UInt64.ofNat (Int.toNat (0 : Int)))])) := by kernel_rfl
theorem vcMinusA (r : RingV) (a b : Four) (Q : SV → Prop) : LnRaw tt spG7 3 [] {} Tryz.f48 Q (some r, a, b, ()) =
 bcase (!isR (some r)) ((Q (SV.agg [SV.u64 (UInt64.ofNat (Int.toNat (0 : Int))), SV.u64 (UInt64.ofNat (Int.toNat (0 : Int))), SV.u64 (UInt64.ofNat (Int.toNat (0 : Int))), SV.u64 (UInt64.ofNat (Int.toNat (0 : Int)))]))) ((Q (SV.agg [SV.u64 (Four.w0 (limb_Select (Prod.snd (limb_Sub (resR r a) (resR r b))) (Prod.fst (limb_Add (Prod.fst (limb_Sub (resR r a) (resR r b))) (RingV.m r))) (Prod.fst (limb_Sub (resR r a) (resR r b))))), SV.u64 (Four.w1 (limb_Select (Prod.snd (limb_Sub (resR r a) (resR r b))) (Prod.fst (limb_Add (Prod.fst (limb_Sub (resR r a) (resR r b))) (RingV.m r))) (Prod.fst (limb_Sub (resR r a) (resR r b))))), SV.u64 (Four.w2 (limb_Select (Prod.snd (limb_Sub (resR r a) (resR r b))) (Prod.fst (limb_Add (Prod.fst (limb_Sub (resR r a) (resR r b))) (RingV.m r))) (Prod.fst (limb_Sub (resR r a) (resR r b))))), SV.u64 (Four.w3 (limb_Select (Prod.snd (limb_Sub (resR r a) (resR r b))) (Prod.fst (limb_Add (Prod.fst (limb_Sub (resR r a) (resR r b))) (RingV.m r)))
 (Prod.fst (limb_Sub (resR r a) (resR r b)))))]))) := by kernel_rfl
theorem vcMinusB (a b : Four) (Q : SV → Prop) : LnRaw tt spG7 3 [] {} Tryz.f48 Q ((none : Option RingV), a, b, ()) =
 (Q (SV.agg [SV.u64 (UInt64.ofNat (Int.toNat (0 : Int))), SV.u64 (UInt64.ofNat (Int.toNat (0 : Int))), SV.u64 (UInt64.ofNat (Int.toNat (0 : Int))), SV.u64 (UInt64.ofNat (Int.toNat (0 : Int)))])) := by kernel_rfl
theorem vcMulA (r : RingV) (a b : Four) (Q : SV → Prop) : LnRaw tt spG7 3 [] {} Tryz.f54 Q (some r, a, b, ()) =
 bcase (!isR (some r)) ((Q (SV.agg [SV.u64 (UInt64.ofNat (Int.toNat (0 : Int))), SV.u64 (UInt64.ofNat (Int.toNat (0 : Int))), SV.u64 (UInt64.ofNat (Int.toNat (0 : Int))), SV.u64 (UInt64.ofNat (Int.toNat (0 : Int)))]))) ((Q (SV.agg [SV.u64 (Four.w0 (timesR r (resR r a) (resR r b))), SV.u64 (Four.w1 (timesR r (resR r a) (resR r b))), SV.u64 (Four.w2 (timesR r (resR r a) (resR r b))), SV.u64 (Four.w3 (timesR r (resR r a) (resR r b)))]))) := by kernel_rfl
theorem vcMulB (a b : Four) (Q : SV → Prop) : LnRaw tt spG7 3 [] {} Tryz.f54 Q ((none : Option RingV), a, b, ()) =
 (Q (SV.agg [SV.u64 (UInt64.ofNat (Int.toNat (0 : Int))), SV.u64 (UInt64.ofNat (Int.toNat (0 : Int))), SV.u64 (UInt64.ofNat (Int.toNat (0 : Int))), SV.u64 (UInt64.ofNat (Int.toNat (0 : Int)))])) := by kernel_rfl
theorem vcWideA (r : RingV) (w : Eight) (Q : SV → Prop) : LnRaw tt spG7 3 [] {} Tryz.f21 Q (some r, w, ()) =
 bcase (!isR (some r)) ((Q (SV.agg [SV.u64 (UInt64.ofNat (Int.toNat (0 : Int))), SV.u64 (UInt64.ofNat (Int.toNat (0 : Int))), SV.u64 (UInt64.ofNat (Int.toNat (0 : Int))), SV.u64 (UInt64.ofNat (Int.toNat (0 : Int)))]))) ((Q (SV.agg [SV.u64 (Four.w0 (ringPlus (RingV.m r) (onR (some r) fun r => redR r (Four.mk (Eight.e0 w) (Eight.e1 w) (Eight.e2 w) (Eight.e3 w))) (timesR r (Four.mk (Eight.e4 w) (Eight.e5 w) (Eight.e6 w) (Eight.e7 w)) (RingV.two r)))), SV.u64 (Four.w1 (ringPlus (RingV.m r) (onR (some r) fun r => redR r (Four.mk (Eight.e0 w) (Eight.e1 w) (Eight.e2 w) (Eight.e3 w))) (timesR r (Four.mk (Eight.e4 w) (Eight.e5 w) (Eight.e6 w) (Eight.e7 w)) (RingV.two r)))), SV.u64 (Four.w2 (ringPlus (RingV.m r) (onR (some r) fun r => redR r (Four.mk (Eight.e0 w) (Eight.e1 w) (Eight.e2 w) (Eight.e3 w))) (timesR r (Four.mk (Eight.e4 w) (Eight.e5 w) (Eight.e6 w) (Eight.e7 w)) (RingV.two r)))), SV.u64 (Four.w3 (ringPlus (RingV.m r)
 (onR (some r) fun r => redR r (Four.mk (Eight.e0 w) (Eight.e1 w) (Eight.e2 w) (Eight.e3 w))) (timesR r (Four.mk (Eight.e4 w) (Eight.e5 w) (Eight.e6 w) (Eight.e7 w)) (RingV.two r))))]))) := by kernel_rfl
theorem vcWideB (w : Eight) (Q : SV → Prop) : LnRaw tt spG7 3 [] {} Tryz.f21 Q ((none : Option RingV), w, ()) =
 (Q (SV.agg [SV.u64 (UInt64.ofNat (Int.toNat (0 : Int))), SV.u64 (UInt64.ofNat (Int.toNat (0 : Int))), SV.u64 (UInt64.ofNat (Int.toNat (0 : Int))), SV.u64 (UInt64.ofNat (Int.toNat (0 : Int)))])) := by kernel_rfl
end Go.Proofs.YtficbeeoafiiaaaGreatDoor
/- Package ring: what its functions come to is so (without powers). -/
set_option maxRecDepth 10000
namespace Go.Proofs.YtficbeeoafiiaaaGreatDoor
open Go.Sym Go.Dig

theorem sv_fin {y : SV} (x : SV) (h : (fun x => x = y) x) (at_ : At) (w : World) (v : Value) (r : Rel at_ w x v) : Rel at_ w y v := by have h' : x = y := h; subst h'; exact r
theorem spG1_ok : SpecsOK Tryz.prog spG1 := spL0_ok
theorem ok_RPlus : SpecOK Tryz.prog 51 sRPlus := by
  refine fn_okL (by kernel_rfl) tt_ok spG1_ok 3 Tryz.func51 (by decide +kernel) (by kernel_rfl) ?_
  rintro ⟨r, a, b, _⟩ _
  exact ⟨[], {}, fun x => x = (ringPlus r.m a b).sv, LnVD.of (vcPlus r a b _) rfl, sv_fin⟩
theorem spG2_ok : SpecsOK Tryz.prog spG2 := .cons ok_RPlus spG1_ok
theorem ok_Twice : SpecOK Tryz.prog 80 sTwice := by
  refine fn_okL (by kernel_rfl) tt_ok spG2_ok 3 Tryz.func80 (by decide +kernel) (by kernel_rfl) ?_
  rintro ⟨r, a, _⟩ _
  exact ⟨[], {}, fun x => x = (ringPlus r.m a a).sv, LnVD.of (vcTwice r a _) rfl, sv_fin⟩
theorem spG3_ok : SpecsOK Tryz.prog spG3 := .cons ok_Twice spG2_ok

theorem ok_NewG : SpecOK Tryz.prog 46 sNewG := by
  refine fn_okL (by kernel_rfl) tt_ok spG3_ok 9 Tryz.func46 (by decide +kernel) (by kernel_rfl) ?_
  rintro ⟨m, _⟩ hg
  replace hg : goodM m = true := hg
  refine ⟨_, lNew, fun x => x = .tup [.ro (ringOf m).cells 0, .i64 0], LnVD.of (vcNewA m _) ?_, sv_fin⟩
  unfold goodM at hg
  simp only [Bool.and_eq_true, Bool.not_eq_true'] at hg
  refine ⟨hg.1, hg.2, ⟨rfl, rfl, by omega, by omega, rfl⟩, fun v r x i ⟨e1, e2, i0, i1, e3⟩ => ?_⟩
  subst e1 e2
  rw [R1.bcase_dec]
  refine ⟨fun hi => ?_, fun hi => ?_⟩
  · rw [R1.wr (x := i + 1) (by omega)]
    refine ⟨by trivial, ⟨by trivial, by trivial, by omega, by omega, ?_⟩, by omega⟩
    rw [e3, show (i + 1).toNat = i.toNat + 1 by omega]; rfl
  · have hi6 : i.toNat = 6 := by omega
    rw [hi6] at e3
    refine ⟨⟨by omega, by omega, ?_, rfl⟩, fun r2 x2 j ⟨j0, j1, e4, e5⟩ => ?_⟩
    · simp only [oneN]; rfl
    · rw [R1.bcase_dec]
      refine ⟨fun hj => ?_, fun hj => ?_⟩
      · rw [R1.wr (x := j + 1) (by omega), R1.bcase_iff]
        have hd : dblN v (j + 1).toNat = ringPlus v (dblN v j.toNat) (dblN v j.toNat) := by rw [show (j + 1).toNat = j.toNat + 1 by omega]; rfl
        subst e4 e5
        simp only at hd ⊢
        refine ⟨fun h => ⟨by trivial, ⟨by omega, by omega, ?_, hd.symm⟩, by omega⟩, fun h => ⟨by trivial, ⟨by omega, by omega, ?_, hd.symm⟩, by omega⟩⟩
        · have : j = 255 := by simpa using h
          subst this
          have e : oneN v (255 + 1) = dblN v 256 := by unfold oneN; rw [if_neg (by omega)]
          rw [e]; rfl
        · have hne : j ≠ 255 := by simpa using h
          have e : oneN v (j + 1) = oneN v j := by
            unfold oneN
            by_cases hl : j ≤ 255
            · rw [if_pos hl, if_pos (by omega)]
            · rw [if_neg hl, if_neg (by omega)]
          rw [e]
      · have hj5 : j = 512 := by omega
        subst hj5
        subst e4 e5
        have e : oneN v 512 = dblN v 256 := by unfold oneN; rw [if_neg (by omega)]
        rw [e3]
        simp only [e]
        rfl
theorem ok_NewN : SpecOK Tryz.prog 46 sNewN := by
  refine fn_okL (by kernel_rfl) tt_ok spG3_ok 9 Tryz.func46 (by decide +kernel) (by kernel_rfl) ?_
  rintro ⟨m, _⟩ hg
  replace hg : goodM m = false := hg
  unfold goodM at hg
  cases h1 : ((m.w0 &&& 1) == 0) with
  | true => exact ⟨_, lNew, fun x => x = .tup [.val (.pointer none), .i64 2], LnVD.of (vcNewB m _) ⟨h1, rfl⟩, sv_fin⟩
  | false =>
    rw [h1] at hg
    simp only [Bool.not_false, Bool.true_and, Bool.not_eq_false'] at hg
    exact ⟨_, lNew, fun x => x = .tup [.val (.pointer none), .i64 2], LnVD.of (vcNewC m _) ⟨h1, hg, rfl⟩, sv_fin⟩

theorem spG4_ok : SpecsOK Tryz.prog spG4 := .cons ok_mul64 <| .cons ok_add64 spL0_ok
theorem ok_Shrink : SpecOK Tryz.prog 85 sShrink :=
  fn_ok mixed tt_ok spG4_ok 9 Tryz.func85 (by decide +kernel) (by kernel_rfl)
    (fun a => conj (cpre (shrV a.1.back a.1.m a.2.1).o1) (conj (cpre (shrV a.1.back a.1.m a.2.1).o2) (conj (cpre (shrV a.1.back a.1.m a.2.1).o3) (Same (retSV (RetL.retL (shrinkF a.1.back a.1.m a.2.1)))))))
    (fun a => by kernel_rfl)
    (fun _ _ => cpre_conj (addHi_le _ _ _ zero_le) (cpre_conj (addHi_le _ _ _ (addHi_le _ _ _ zero_le)) (cpre_conj (addHi_le _ _ _ (addHi_le _ _ _ (addHi_le _ _ _ zero_le))) rfl)))
theorem ok_TimesR : SpecOK Tryz.prog 53 sTimesR := by
  refine fn_okL (by kernel_rfl) tt_ok (.cons ok_Shrink spL0_ok) 3 Tryz.func53 (by decide +kernel) (by kernel_rfl) ?_
  rintro ⟨r, a, b, _⟩ _
  exact ⟨[], {}, fun x => x = (timesR r a b).sv, LnVD.of (vcTimesR r a b _) rfl, sv_fin⟩
theorem ok_IsR : SpecOK Tryz.prog 50 sIsR := by
  refine fn_okL (by kernel_rfl) tt_ok (.nil _) 3 Tryz.func50 (by decide +kernel) (by kernel_rfl) ?_
  rintro ⟨r, _⟩ _
  cases r with
  | none => exact ⟨[], {}, fun x => x = .bool false, LnVD.of (vcIsB _) rfl, sv_fin⟩
  | some r => exact ⟨[], {}, fun x => x = .bool (isR (some r)), LnVD.of (vcIsA r _) rfl, sv_fin⟩
theorem spG5_ok : SpecsOK Tryz.prog spG5 := .cons ok_IsR <| .cons ok_TimesR spG3_ok
theorem onR_t {r : RingV} {f : RingV → Four} (h : (!isR (some r)) = false) : onR (some r) f = f r := by
  unfold onR; simp only; rw [if_pos (by simpa using h)]
theorem onR_f {r : RingV} {f : RingV → Four} (h : (!isR (some r)) = true) : onR (some r) f = zero4 := by
  unfold onR; simp only; rw [if_neg (by simpa using h)]
theorem onR_goal {r : RingV} {f : RingV → Four} {z : SV} (h0 : z = (f r).sv) : bcase (!isR (some r)) ((fun x => x = (onR (some r) f).sv) zero4.sv) ((fun x => x = (onR (some r) f).sv) z) := by
  rw [R1.bcase_iff]
  exact ⟨fun h => by show _ = _; rw [onR_f h], fun h => by show _ = _; rw [onR_t h, h0]⟩
theorem ok_Modulus : SpecOK Tryz.prog 1000000 Sym.sNo := Sym.sNo_ok _ _
theorem ok_Reduce : SpecOK Tryz.prog 52 sReduce := by
  refine fn_okL (by kernel_rfl) tt_ok spG5_ok 3 Tryz.func52 (by decide +kernel) (by kernel_rfl) ?_
  rintro ⟨r, a, _⟩ _
  cases r with
  | none => exact ⟨[], {}, fun x => x = zero4.sv, LnVD.of (vcReduceB a _) rfl, sv_fin⟩
  | some r => exact ⟨[], {}, fun x => x = (onR (some r) fun r => redR r a).sv, LnVD.of (vcReduceA r a _) (onR_goal rfl), sv_fin⟩
theorem ok_In : SpecOK Tryz.prog 49 sIn := by
  refine fn_okL (by kernel_rfl) tt_ok spG5_ok 3 Tryz.func49 (by decide +kernel) (by kernel_rfl) ?_
  rintro ⟨r, a, _⟩ _
  cases r with
  | none => exact ⟨[], {}, fun x => x = zero4.sv, LnVD.of (vcInB a _) rfl, sv_fin⟩
  | some r => exact ⟨[], {}, fun x => x = (onR (some r) fun r => timesR r a r.two).sv, LnVD.of (vcInA r a _) (onR_goal rfl), sv_fin⟩
theorem ok_Out : SpecOK Tryz.prog 59 sOut := by
  refine fn_okL (by kernel_rfl) tt_ok spG5_ok 3 Tryz.func59 (by decide +kernel) (by kernel_rfl) ?_
  rintro ⟨r, a, _⟩ _
  cases r with
  | none => exact ⟨[], {}, fun x => x = zero4.sv, LnVD.of (vcOutB a _) rfl, sv_fin⟩
  | some r => exact ⟨[], {}, fun x => x = (onR (some r) fun r => timesR r a one4).sv, LnVD.of (vcOutA r a _) (onR_goal rfl), sv_fin⟩
theorem spG6_ok : SpecsOK Tryz.prog spG6 := .cons ok_Reduce spG5_ok
theorem ok_ResidueR : SpecOK Tryz.prog 82 sResidueR := by
  refine fn_okL (by kernel_rfl) tt_ok spG6_ok 3 Tryz.func82 (by decide +kernel) (by kernel_rfl) ?_
  rintro ⟨r, a, _⟩ _
  refine ⟨[], {}, fun x => x = (resR r a).sv, LnVD.of (vcResidueR r a _) ?_, sv_fin⟩
  rw [R1.bcase_dec]
  refine ⟨fun h => ?_, fun h => ?_⟩
  · show _ = _; unfold resR; rw [if_pos h]; rfl
  · show _ = _; unfold resR; rw [if_neg h]; rfl
theorem spG7_ok : SpecsOK Tryz.prog spG7 := .cons ok_ResidueR spG6_ok
theorem ok_PlusR : SpecOK Tryz.prog 56 sPlusR := by
  refine fn_okL (by kernel_rfl) tt_ok spG7_ok 3 Tryz.func56 (by decide +kernel) (by kernel_rfl) ?_
  rintro ⟨r, a, b, _⟩ _
  cases r with
  | none => exact ⟨[], {}, fun x => x = zero4.sv, LnVD.of (vcPlusB a b _) rfl, sv_fin⟩
  | some r => exact ⟨[], {}, fun x => x = (onR (some r) fun r => plusR r a b).sv, LnVD.of (vcPlusA r a b _) (onR_goal rfl), sv_fin⟩
theorem ok_MinusR : SpecOK Tryz.prog 48 sMinusR := by
  refine fn_okL (by kernel_rfl) tt_ok spG7_ok 3 Tryz.func48 (by decide +kernel) (by kernel_rfl) ?_
  rintro ⟨r, a, b, _⟩ _
  cases r with
  | none => exact ⟨[], {}, fun x => x = zero4.sv, LnVD.of (vcMinusB a b _) rfl, sv_fin⟩
  | some r => exact ⟨[], {}, fun x => x = (onR (some r) fun r => minusR r a b).sv, LnVD.of (vcMinusA r a b _) (onR_goal rfl), sv_fin⟩
theorem ok_MulR : SpecOK Tryz.prog 54 sMulR := by
  refine fn_okL (by kernel_rfl) tt_ok spG7_ok 3 Tryz.func54 (by decide +kernel) (by kernel_rfl) ?_
  rintro ⟨r, a, b, _⟩ _
  cases r with
  | none => exact ⟨[], {}, fun x => x = zero4.sv, LnVD.of (vcMulB a b _) rfl, sv_fin⟩
  | some r => exact ⟨[], {}, fun x => x = (onR (some r) fun r => mulR r a b).sv, LnVD.of (vcMulA r a b _) (onR_goal rfl), sv_fin⟩
theorem ok_WideR : SpecOK Tryz.prog 21 sWideR := by
  refine fn_okL (by kernel_rfl) tt_ok spG7_ok 3 Tryz.func21 (by decide +kernel) (by kernel_rfl) ?_
  rintro ⟨r, a, _⟩ _
  cases r with
  | none => exact ⟨[], {}, fun x => x = zero4.sv, LnVD.of (vcWideB a _) rfl, sv_fin⟩
  | some r =>
    refine ⟨[], {}, fun x => x = (onR (some r) fun r => wideR r a).sv, LnVD.of (vcWideA r a _) ?_, sv_fin⟩
    rw [R1.bcase_iff]
    refine ⟨fun h => by show _ = _; rw [onR_f h]; rfl, fun h => ?_⟩
    show _ = _
    rw [onR_t (f := fun r => wideR r a) h]
    simp only [onR_t (f := fun r => redR r ⟨a.e0, a.e1, a.e2, a.e3⟩) h]
    rfl
end Go.Proofs.YtficbeeoafiiaaaGreatDoor
/- Package ring: plain facts on residues. -/
namespace Go.Proofs.YtficbeeoafiiaaaGreatDoor
open Go.Sym Go.Dig

/-! Modulo M. -/
theorem mod_mul_l (M x y : Nat) : x % M * y % M = x * y % M := by rw [Nat.mul_mod, Nat.mod_mod, ← Nat.mul_mod]
theorem mod_mul_r (M x y : Nat) : x * (y % M) % M = x * y % M := by rw [Nat.mul_mod, Nat.mod_mod, ← Nat.mul_mod]
theorem mod_add_l (M x y : Nat) : (x % M + y) % M = (x + y) % M := by rw [Nat.add_mod, Nat.mod_mod, ← Nat.add_mod]
theorem mod_add_r (M x y : Nat) : (x + y % M) % M = (x + y) % M := by rw [Nat.add_mod, Nat.mod_mod, ← Nat.add_mod]
/-- By 2, modulo an odd M. -/
def hf (M : Nat) : Nat := (M + 1) / 2
theorem two_hf {M : Nat} (h : M % 2 = 1) : 2 * hf M % M = 1 % M := by
  have : 2 * hf M = 1 + M := by unfold hf; omega
  rw [this, Nat.add_mod_right]
theorem pow_hf {M : Nat} (h : M % 2 = 1) (n : Nat) : 2 ^ n * hf M ^ n % M = 1 % M := by
  rw [← Nat.mul_pow, Nat.pow_mod, two_hf h, ← Nat.pow_mod, Nat.one_pow]
def unR (M t : Nat) : Nat := t * hf M ^ 256 % M
theorem unR_of {M t x : Nat} (h : M % 2 = 1) (hx : x < M) (e : x * 2 ^ 256 % M = t % M) : x = unR M t := by
  have h1 : x * (2 ^ 256 * hf M ^ 256) % M = t * hf M ^ 256 % M := by
    rw [← Nat.mul_assoc, Nat.mul_mod, e, ← Nat.mul_mod]
  rw [Nat.mul_mod, pow_hf h 256, ← Nat.mul_mod, Nat.mul_one, Nat.mod_eq_of_lt hx] at h1
  exact h1
theorem unR_lt {M : Nat} (t : Nat) (h : 0 < M) : unR M t < M := Nat.mod_lt _ h
theorem unR_mod (M t : Nat) : unR M (t % M) = unR M t := mod_mul_l _ _ _
theorem unR_mul {M : Nat} (h : M % 2 = 1) (x : Nat) : unR M (x * 2 ^ 256) = x % M := by
  unfold unR
  rw [Nat.mul_assoc, Nat.mul_mod, pow_hf h 256, ← Nat.mul_mod, Nat.mul_one]
theorem unR_back {M : Nat} (h : M % 2 = 1) (t : Nat) : unR M t * 2 ^ 256 % M = t % M := by
  unfold unR
  rw [mod_mul_l, Nat.mul_assoc, Nat.mul_comm (hf M ^ 256), Nat.mul_mod, pow_hf h 256, ← Nat.mul_mod, Nat.mul_one]

/-! Sums. -/
theorem bit_or_xor (c e : UInt64) (hc : c.toNat ≤ 1) (he : e.toNat ≤ 1) : (c ||| (e ^^^ 1)).toNat % 2 = if c.toNat = 1 ∨ e.toNat = 0 then 1 else 0 := by
  have h1 : c = 0 ∨ c = 1 := by
    have : c.toNat = 0 ∨ c.toNat = 1 := by omega
    rcases this with h | h
    · exact .inl (UInt64.toNat_inj.1 h)
    · exact .inr (UInt64.toNat_inj.1 h)
  have h2 : e = 0 ∨ e = 1 := by
    have : e.toNat = 0 ∨ e.toNat = 1 := by omega
    rcases this with h | h
    · exact .inl (UInt64.toNat_inj.1 h)
    · exact .inr (UInt64.toNat_inj.1 h)
  rcases h1 with rfl | rfl <;> rcases h2 with rfl | rfl <;> decide
/-- What lies below twice M, made less by M. -/
theorem less_nat (high m : Four) (o : UInt64) (ho : o.toNat ≤ 1) (hlt : nat4 high + 115792089237316195423570985008687907853269984665640564039457584007913129639936 * o.toNat < 2 * nat4 m) :
    nat4 (limb_Select (o ||| ((limb_Sub high m).2 ^^^ 1)) (limb_Sub high m).1 high) = (nat4 high + 115792089237316195423570985008687907853269984665640564039457584007913129639936 * o.toNat) % nat4 m := by
  have h3 := sub_nat high m; have h4 := sub_borrow high m
  have l1 := nat4_lt (limb_Sub high m).1; have l2 := nat4_lt m; have l3 := nat4_lt high
  have hb := bit_or_xor o (limb_Sub high m).2 ho h4
  by_cases hc : o.toNat = 1 ∨ (limb_Sub high m).2.toNat = 0
  · rw [if_pos hc] at hb
    rw [select_one _ _ _ hb]
    have : nat4 high + 115792089237316195423570985008687907853269984665640564039457584007913129639936 * o.toNat = nat4 (limb_Sub high m).1 + nat4 m := by omega
    rw [this, Nat.add_mod_right, Nat.mod_eq_of_lt (by omega)]
  · rw [if_neg hc] at hb
    rw [select_zero _ _ _ hb]
    have : o.toNat = 0 := by omega
    rw [this, Nat.mul_zero, Nat.add_zero, Nat.mod_eq_of_lt (by omega)]
theorem ringPlus_nat (m a b : Four) (ha : nat4 a < nat4 m) (hb : nat4 b < nat4 m) : nat4 (ringPlus m a b) = (nat4 a + nat4 b) % nat4 m := by
  have h1 := add_nat a b; have h2 := add_carry a b
  have := less_nat (limb_Add a b).1 m (limb_Add a b).2 h2 (by omega)
  rw [h1] at this
  exact this

/-! What m is -1 by, modulo 2^64. -/
theorem newt_step (w x : UInt64) : 1 - w * (x * (2 - w * x)) = (1 - w * x) * (1 - w * x) := by grind
theorem newt_inv (w : UInt64) (h : w &&& 1 = 1) : w * newt w 6 = 1 := by
  obtain ⟨c, hc⟩ : ∃ c, 1 - w = 2 * c := by
    refine ⟨UInt64.ofNat ((1 - w).toNat / 2), ?_⟩
    apply UInt64.toNat_inj.1
    have h1 := congrArg UInt64.toNat h
    rw [and_one] at h1
    have h2 : (1 - w).toNat % 2 = 0 := by
      rw [UInt64.toNat_sub]
      have := u64_lt w
      have e : (1 : UInt64).toNat = 1 := rfl
      rw [e] at h1 ⊢
      omega
    have := u64_lt (1 - w)
    rw [UInt64.toNat_mul, UInt64.toNat_ofNat', show (2 : UInt64).toNat = 2 from rfl]
    omega
  have e0 : 1 - w * newt w 0 = 2 * c := by rw [← hc]; show 1 - w * 1 = _; rw [UInt64.mul_one]
  have e1 : 1 - w * newt w 1 = 4 * (c * c) := by rw [newt, newt_step, e0]; grind
  have e2 : 1 - w * newt w 2 = 16 * (c * c * (c * c)) := by rw [newt, newt_step, e1]; grind
  generalize c * c * (c * c) = d at e2
  have e3 : 1 - w * newt w 3 = 256 * (d * d) := by rw [newt, newt_step, e2]; grind
  generalize d * d = f at e3
  have e4 : 1 - w * newt w 4 = 65536 * (f * f) := by rw [newt, newt_step, e3]; grind
  generalize f * f = g at e4
  have e5 : 1 - w * newt w 5 = 4294967296 * (g * g) := by rw [newt, newt_step, e4]; grind
  generalize g * g = i at e5
  have e6 : 1 - w * newt w 6 = 0 := by rw [newt, newt_step, e5]; grind
  grind
end Go.Proofs.YtficbeeoafiiaaaGreatDoor
/- Package ring: what its functions come to, as numbers. -/
namespace Go.Proofs.YtficbeeoafiiaaaGreatDoor
open Go.Sym Go.Dig

theorem mul64_lo (x y : UInt64) : (mul64 x y).2 = x * y := rfl
theorem row_zero (t k : UInt64) (m : Four) (o1 o2 o3 : UInt64) (hk : m.w0 * k = 0 - 1) : (mulRow (t * k) m t o1 o2 o3).r0 = 0 := by
  have : (mulRow (t * k) m t o1 o2 o3).r0 = t * k * m.w0 + t + 0 + 0 + 0 := rfl
  rw [this]
  grind
theorem shrV_nat (k : UInt64) (m : Four) (t : Eight) (hk : m.w0 * k = 0 - 1) :
    ∃ Q : Nat, Q < 115792089237316195423570985008687907853269984665640564039457584007913129639936 ∧ nat8 t + Q * nat4 m = 115792089237316195423570985008687907853269984665640564039457584007913129639936 * (nat4 (shrV k m t).high + 115792089237316195423570985008687907853269984665640564039457584007913129639936 * (shrV k m t).o4.toNat) := by
  have z : (0 : UInt64).toNat = 0 := rfl
  have zl := zero_le
  obtain ⟨r, hr⟩ : ∃ r, r = shr1 k m t := ⟨_, rfl⟩
  have r0 : r.r0.toNat = 0 := by rw [hr]; unfold shr1; rw [row_zero _ _ _ _ _ _ hk, z]
  have h1 := row_nat (t.e0 * k) m t.e0 t.e1 t.e2 t.e3
  have hr' : mulRow (t.e0 * k) m t.e0 t.e1 t.e2 t.e3 = r := hr.symm
  rw [hr', r0] at h1
  have a4 := add_word t.e4 r.c 0 zl
  have c1 : (addHi t.e4 r.c 0).toNat ≤ 1 := addHi_le _ _ _ zl
  obtain ⟨s, hs⟩ : ∃ s, s = shr2 k m t r := ⟨_, rfl⟩
  have s0 : s.r0.toNat = 0 := by rw [hs]; unfold shr2; rw [row_zero _ _ _ _ _ _ hk, z]
  have h2 := row_nat (r.r1 * k) m r.r1 r.r2 r.r3 (addLo t.e4 r.c 0)
  have hs' : mulRow (r.r1 * k) m r.r1 r.r2 r.r3 (addLo t.e4 r.c 0) = s := hs.symm
  rw [hs', s0] at h2
  obtain ⟨o1, ho1⟩ : ∃ o, o = addHi t.e4 r.c 0 := ⟨_, rfl⟩
  rw [← ho1] at a4 c1
  have a5 := add_word t.e5 s.c o1 c1
  have c2 : (addHi t.e5 s.c o1).toNat ≤ 1 := addHi_le _ _ _ c1
  obtain ⟨o2, ho2⟩ : ∃ o, o = addHi t.e5 s.c o1 := ⟨_, rfl⟩
  obtain ⟨u, hu⟩ : ∃ u, u = shr3 k m t o1 s := ⟨_, rfl⟩
  have u0 : u.r0.toNat = 0 := by rw [hu]; unfold shr3; rw [row_zero _ _ _ _ _ _ hk, z]
  have h3 := row_nat (s.r1 * k) m s.r1 s.r2 s.r3 (addLo t.e5 s.c o1)
  have hu' : mulRow (s.r1 * k) m s.r1 s.r2 s.r3 (addLo t.e5 s.c o1) = u := hu.symm
  rw [hu', u0] at h3
  rw [← ho2] at a5 c2
  have a6 := add_word t.e6 u.c o2 c2
  have c3 : (addHi t.e6 u.c o2).toNat ≤ 1 := addHi_le _ _ _ c2
  obtain ⟨o3, ho3⟩ : ∃ o, o = addHi t.e6 u.c o2 := ⟨_, rfl⟩
  obtain ⟨v, hv⟩ : ∃ v, v = shr4 k m t o2 u := ⟨_, rfl⟩
  have v0 : v.r0.toNat = 0 := by rw [hv]; unfold shr4; rw [row_zero _ _ _ _ _ _ hk, z]
  have h4 := row_nat (u.r1 * k) m u.r1 u.r2 u.r3 (addLo t.e6 u.c o2)
  have hv' : mulRow (u.r1 * k) m u.r1 u.r2 u.r3 (addLo t.e6 u.c o2) = v := hv.symm
  rw [hv', v0] at h4
  rw [← ho3] at a6 c3
  have a7 := add_word t.e7 v.c o3 c3
  have e : shrV k m t = ⟨o1, o2, o3, addHi t.e7 v.c o3, ⟨v.r1, v.r2, v.r3, addLo t.e7 v.c o3⟩⟩ := by
    rw [hv, ho3, hu, ho2, hs, ho1, hr]; rfl
  rw [e]
  have q0 := u64_lt (t.e0 * k); have q1 := u64_lt (r.r1 * k); have q2 := u64_lt (s.r1 * k); have q3 := u64_lt (u.r1 * k)
  refine ⟨(t.e0 * k).toNat + 18446744073709551616 * ((r.r1 * k).toNat + 18446744073709551616 * ((s.r1 * k).toNat + 18446744073709551616 * (u.r1 * k).toNat)), by omega, ?_⟩
  have em : ((t.e0 * k).toNat + 18446744073709551616 * ((r.r1 * k).toNat + 18446744073709551616 * ((s.r1 * k).toNat + 18446744073709551616 * (u.r1 * k).toNat))) * nat4 m = (t.e0 * k).toNat * nat4 m + 18446744073709551616 * ((r.r1 * k).toNat * nat4 m + 18446744073709551616 * ((s.r1 * k).toNat * nat4 m + 18446744073709551616 * ((u.r1 * k).toNat * nat4 m))) := by
    simp only [Nat.add_mul, Nat.mul_assoc]
  rw [em]
  generalize (t.e0 * k).toNat * nat4 m = p0 at *
  generalize (r.r1 * k).toNat * nat4 m = p1 at *
  generalize (s.r1 * k).toNat * nat4 m = p2 at *
  generalize (u.r1 * k).toNat * nat4 m = p3 at *
  simp only [nat8, nat4]
  omega
theorem p2_256 : (2 : Nat) ^ 256 = 115792089237316195423570985008687907853269984665640564039457584007913129639936 := by decide +kernel
theorem shrink_nat (k : UInt64) (m : Four) (t : Eight) (hk : m.w0 * k = 0 - 1) (ho : nat4 m % 2 = 1) (ht : nat8 t < 115792089237316195423570985008687907853269984665640564039457584007913129639936 * nat4 m) : nat4 (shrinkF k m t) = unR (nat4 m) (nat8 t) := by
  obtain ⟨Q, hQ, e⟩ := shrV_nat k m t hk
  have hm : 0 < nat4 m := by omega
  have o4 : (shrV k m t).o4.toNat ≤ 1 := addHi_le _ _ _ (addHi_le _ _ _ (addHi_le _ _ _ (addHi_le _ _ _ zero_le)))
  have hQM : Q * nat4 m < 115792089237316195423570985008687907853269984665640564039457584007913129639936 * nat4 m := Nat.mul_lt_mul_of_pos_right hQ hm
  have hH : nat4 (shrV k m t).high + 115792089237316195423570985008687907853269984665640564039457584007913129639936 * (shrV k m t).o4.toNat < 2 * nat4 m := by omega
  have hl := less_nat (shrV k m t).high m (shrV k m t).o4 o4 hH
  unfold shrinkF
  rw [hl]
  refine unR_of ho (Nat.mod_lt _ hm) ?_
  rw [mod_mul_l, p2_256, Nat.mul_comm _ 115792089237316195423570985008687907853269984665640564039457584007913129639936, ← e, Nat.add_mul_mod_self_right]

/-- What a ring's words have to be. -/
structure RGood (r : RingV) : Prop where
  odd : nat4 r.m % 2 = 1
  big : 1 < nat4 r.m
  back : r.m.w0 * r.back = 0 - 1
  one : nat4 r.one = 2 ^ 256 % nat4 r.m
  two : nat4 r.two = 2 ^ 256 * 2 ^ 256 % nat4 r.m
theorem goodM_odd {m : Four} (h : goodM m = true) : m.w0 &&& 1 = 1 ∧ nat4 m % 2 = 1 ∧ 1 < nat4 m := by
  unfold goodM at h
  simp only [Bool.and_eq_true, Bool.not_eq_true', beq_eq_false_iff_ne] at h
  have h1 : (m.w0 &&& 1).toNat = 1 := by
    have e := and_one m.w0
    by_cases h0 : (m.w0 &&& 1).toNat = 0
    · exact absurd (UInt64.toNat_inj.1 h0) h.1
    · omega
  have h2 := and_one m.w0
  have h3 : nat4 m % 2 = 1 := by simp only [nat4]; omega
  refine ⟨UInt64.toNat_inj.1 h1, h3, ?_⟩
  by_cases hone : nat4 m = 1
  · have : m = ⟨1, 0, 0, 0⟩ := nat4_inj (by rw [hone]; rfl)
    rw [this, eq4_self] at h
    cases h.2
  · omega
theorem dblN_nat {m : Four} (h : 1 < nat4 m) : ∀ n, nat4 (dblN m n) = 2 ^ n % nat4 m
  | 0 => by
    have : nat4 (dblN m 0) = 1 := rfl
    rw [this, Nat.pow_zero, Nat.mod_eq_of_lt h]
  | n + 1 => by
    have ih := dblN_nat h n
    have hl : nat4 (dblN m n) < nat4 m := by rw [ih]; exact Nat.mod_lt _ (by omega)
    have : dblN m (n + 1) = ringPlus m (dblN m n) (dblN m n) := rfl
    rw [this, ringPlus_nat _ _ _ hl hl, ih, ← Nat.add_mod, Nat.pow_succ]
    congr 1
    omega
theorem dbl2_nat {m : Four} (h : 1 < nat4 m) (k : Nat) : nat4 (dblN m (k + k)) = 2 ^ k * 2 ^ k % nat4 m := by rw [dblN_nat h, Nat.pow_add]
theorem ringOf_good {m : Four} (h : goodM m = true) : RGood (ringOf m) := by
  obtain ⟨h1, h2, h3⟩ := goodM_odd h
  refine ⟨h2, h3, ?_, dblN_nat h3 256, dbl2_nat h3 256⟩
  have := newt_inv m.w0 h1
  show m.w0 * (0 - newt m.w0 6) = 0 - 1
  grind

section
variable {r : RingV} (g : RGood r)
include g
theorem times_nat (a b : Four) (h : nat4 a < nat4 r.m ∨ nat4 b < nat4 r.m) : nat4 (timesR r a b) = unR (nat4 r.m) (nat4 a * nat4 b) := by
  have e := mul_nat a b
  have la := nat4_lt a; have lb := nat4_lt b
  have := shrink_nat r.back r.m (limb_Mul a b) g.back g.odd (by
    rw [e]
    rcases h with h | h
    · rw [Nat.mul_comm]; exact Nat.mul_lt_mul_of_lt_of_le lb (Nat.le_of_lt h) (by have := g.big; omega)
    · exact Nat.mul_lt_mul_of_lt_of_le la (Nat.le_of_lt h) (by have := g.big; omega))
  rw [e] at this
  exact this
theorem two_lt : nat4 r.two < nat4 r.m := by rw [g.two]; exact Nat.mod_lt _ (by have := g.big; omega)
theorem one_lt : nat4 r.one < nat4 r.m := by rw [g.one]; exact Nat.mod_lt _ (by have := g.big; omega)
omit g in
theorem one4_nat : nat4 one4 = 1 := rfl
theorem in_nat (a : Four) : nat4 (timesR r a r.two) = nat4 a * 2 ^ 256 % nat4 r.m := by
  rw [times_nat g a r.two (.inr (two_lt g)), g.two]
  have := unR_mul g.odd (nat4 a * 2 ^ 256)
  unfold unR at this ⊢
  rw [← mod_mul_l, mod_mul_r, mod_mul_l, ← Nat.mul_assoc, this]
theorem out_nat (a : Four) : nat4 (timesR r a one4) = unR (nat4 r.m) (nat4 a) := by
  rw [times_nat g a one4 (.inr (by rw [one4_nat]; exact g.big)), one4_nat, Nat.mul_one]
theorem redR_nat (a : Four) : nat4 (redR r a) = nat4 a % nat4 r.m := by
  unfold redR
  rw [out_nat g, in_nat g, unR_mod, unR_mul g.odd]
theorem isR_good : isR (some r) = true := by
  unfold isR
  have := g.odd
  have h1 := and_one r.m.w0
  have : (r.m.w0 &&& 1) = 1 := UInt64.toNat_inj.1 (by rw [h1]; simp only [nat4] at this; show _ = 1; omega)
  simp [this]
theorem onR_good (f : RingV → Four) : onR (some r) f = f r := onR_t (by rw [isR_good g]; rfl)
theorem resR_nat (a : Four) : nat4 (resR r a) = nat4 a % nat4 r.m := by
  have hc := cmp_nat a r.m
  unfold resR
  split
  · rename_i h
    rw [hc] at h
    rw [Nat.mod_eq_of_lt]
    split at h
    · assumption
    · split at h <;> omega
  · rw [onR_good g, redR_nat g]
theorem resR_lt (a : Four) : nat4 (resR r a) < nat4 r.m := by rw [resR_nat g]; exact Nat.mod_lt _ (by have := g.big; omega)
theorem plusR_nat (a b : Four) : nat4 (plusR r a b) = (nat4 a + nat4 b) % nat4 r.m := by
  unfold plusR
  rw [ringPlus_nat _ _ _ (resR_lt g a) (resR_lt g b), resR_nat g, resR_nat g, ← Nat.add_mod]
theorem mulR_nat (a b : Four) : nat4 (mulR r a b) = unR (nat4 r.m) (nat4 a * nat4 b) := by
  unfold mulR
  rw [times_nat g _ _ (.inl (resR_lt g a)), resR_nat g, resR_nat g]
  unfold unR
  rw [Nat.mul_mod, ← Nat.mul_mod (nat4 a), ← Nat.mul_mod]
theorem minusR_nat (a b : Four) : nat4 (minusR r a b) = (nat4 a % nat4 r.m + nat4 r.m - nat4 b % nat4 r.m) % nat4 r.m := by
  have ha := resR_nat g a; have hb := resR_nat g b
  have la := resR_lt g a; have lb := resR_lt g b
  unfold minusR
  rw [← ha, ← hb]
  generalize resR r a = x at *
  generalize resR r b = y at *
  have h1 := sub_nat x y; have h2 := sub_borrow x y
  have h3 := add_nat (limb_Sub x y).1 r.m; have h4 := add_carry (limb_Sub x y).1 r.m
  have l1 := nat4_lt (limb_Sub x y).1; have l2 := nat4_lt (limb_Add (limb_Sub x y).1 r.m).1; have l3 := nat4_lt r.m
  by_cases hc : (limb_Sub x y).2.toNat = 1
  · rw [select_one _ _ _ (by omega), Nat.mod_eq_of_lt (by omega)]
    omega
  · rw [select_zero _ _ _ (by omega)]
    have : nat4 x + nat4 r.m - nat4 y = nat4 (limb_Sub x y).1 + nat4 r.m := by omega
    rw [this, Nat.add_mod_right, Nat.mod_eq_of_lt (by omega)]
theorem wideR_nat (w : Eight) : nat4 (wideR r w) = nat8 w % nat4 r.m := by
  unfold wideR
  have h1 := redR_nat g ⟨w.e0, w.e1, w.e2, w.e3⟩
  have h2 := in_nat g ⟨w.e4, w.e5, w.e6, w.e7⟩
  have hp : 0 < nat4 r.m := by have := g.big; omega
  rw [ringPlus_nat _ _ _ (by rw [h1]; exact Nat.mod_lt _ hp) (by rw [h2]; exact Nat.mod_lt _ hp), h1, h2, ← Nat.add_mod, p2_256]
  congr 1
  simp only [nat8, nat4]
  omega
end
end Go.Proofs.YtficbeeoafiiaaaGreatDoor
/- The reference's functions on digits (7): quotients and rests: what they say, and what their bodies come to. -/
set_option maxRecDepth 10000
namespace Go.Proofs.YtficbeeoafiiaaaGreatDoor.R1
open Go.Sym Go.Dig

--STOP Go.Dig.Dig, Dg, Can, Sm

def spDg : Specs := [(68, sSmall), (77, nCmp), (70, nSub), (96, sTrim)]
def iDgA (a : Nat) (b : List Int) (rest : Nat) (i : Int) (q : List Int) : Prop := -1 ≤ i ∧ i < (dg a).length ∧ q.length = (dg a).length ∧ Dig q ∧ (∀ k : Nat, (k : Int) ≤ i → q.getD k 0 = 0) ∧
  rest = a / 16777216 ^ (i + 1).toNat % nv b ∧ nv q = 16777216 ^ (i + 1).toNat * (a / 16777216 ^ (i + 1).toNat / nv b)
def iDgB (b : List Int) (rest : Nat) (q0 : List Int) (low high : Int) (q : List Int) : Prop := q = q0 ∧ 0 ≤ low ∧ low ≤ ((rest / nv b : Nat) : Int) ∧ ((rest / nv b : Nat) : Int) < high ∧ high ≤ 16777216
def lDigits : Plan := { loops := [(0, { β := Num × List Int × Unit, α := Num × OwnI × Int × Unit, same := [0, 1], keep := [6, 7, 8], inv := fun b _ x => iDgA b.1.n b.2.1 x.1.n x.2.2.1 x.2.1.l, meas := fun _ x => (x.2.2.1 + 1).toNat }), (2, { β := Num × List Int × Num × Int × Unit, α := OwnI × Int × Int × Unit, same := [0, 1, 6, 8], keep := [7, 10, 11], inv := fun b x0 x => iDgB b.2.1 b.2.2.1.n x0.1.l x.2.1 x.2.2.1 x.1.l, meas := fun _ x => (x.2.2.1 - x.2.1).toNat })], cuts := [(7, { β := Num × List Int × Int × Unit, γ := Num × OwnI × Unit, α := Num × OwnI × Unit, same := [0, 1, 8], pre := [6, 7], keep := [6, 7], inv := fun b g x => x.1.n = ((dg b.1.n).getD b.2.2.1.toNat 0).toNat + 16777216 * g.1.n ∧ x.2.1.l = g.2.1.l })], forks := [(10, { β := Num × List Int × Num × Int × Unit, γ := OwnI × Unit, α := OwnI × Int × Int × Unit, same := [0, 1, 6, 8], pre := [7], keep := [7, 10, 11], inv := fun b g x => iDgB b.2.1 b.2.2.1.n g.1.l x.2.1 x.2.2.1 x.1.l })] }
theorem vcDigits (a : Nat) (b : List Int) (Q : SV → Prop) : LnRaw tt spDg 3 [] lDigits Tryz.f97 Q ((⟨a⟩ : Num), b, ()) =
 ((((0 : Int) ≤ (↑(List.length (dg a)) : Int)) ∧ (((↑(List.length (dg a)) : Int) = (↑(List.length (dg a)) : Int)) ∧ ((↑(List.length (dg a)) : Int) ≤ (1099511627776 : Int)))) ∧ ((((0 : Nat) = (0 : Nat)) ∧ (Int.toNat (↑(List.length (dg a)) : Int) = List.length (List.replicate (Int.toNat (↑(List.length (dg a)) : Int)) (0 : Int)))) ∧ ((iDgA a b (0 : Nat) (IntKind.wrap IntKind.i64 ((↑(List.length (dg a)) : Int) - (1 : Int))) (List.replicate (Int.toNat (↑(List.length (dg a)) : Int)) (0 : Int))) ∧ (∀ a_1 : Num, (∀ l : List Int, (∀ a_2 : Int, ((iDgA a b (Num.n a_1) a_2 l) → bcase (decide (a_2 ≥ (0 : Int))) (((((0 : Int) ≤ a_2) ∧ (a_2 < (↑(List.length (dg a)) : Int))) ∧ ((((0 : Nat) = (0 : Nat)) ∧ (List.length l = List.length l)) ∧ (((((0 : Nat) + (1 : Nat) = List.length [List.getD (dg a) (Int.toNat a_2) (0 : Int)]) ∧ (List.length (List.drop (0 : Nat) (List.take (List.length [List.getD (dg a) (Int.toNat a_2) (0 : Int)]) [List.getD (dg a) (Int.toNat a_2) (0 : Int)]) ++ dg (Num.n a_1)) ≤ appLim)) ∧
 (((Dig (List.drop (0 : Nat) (List.take ((0 : Nat) + List.length (List.drop (0 : Nat) (List.take (List.length [List.getD (dg a) (Int.toNat a_2) (0 : Int)]) [List.getD (dg a) (Int.toNat a_2) (0 : Int)]) ++ dg (Num.n a_1))) (List.drop (0 : Nat) (List.take (List.length [List.getD (dg a) (Int.toNat a_2) (0 : Int)]) [List.getD (dg a) (Int.toNat a_2) (0 : Int)]) ++ dg (Num.n a_1))))) ∧ (List.length (List.drop (0 : Nat) (List.take ((0 : Nat) + List.length (List.drop (0 : Nat) (List.take (List.length [List.getD (dg a) (Int.toNat a_2) (0 : Int)]) [List.getD (dg a) (Int.toNat a_2) (0 : Int)]) ++ dg (Num.n a_1))) (List.drop (0 : Nat) (List.take (List.length [List.getD (dg a) (Int.toNat a_2) (0 : Int)]) [List.getD (dg a) (Int.toNat a_2) (0 : Int)]) ++ dg (Num.n a_1)))) ≤ (4294967296 : Nat))) ∧ ((((0 : Nat) = (0 : Nat)) ∧ (List.length l = List.length l)) ∧ (((Num.mk a, b, a_2, ()) = (Num.mk a, b, a_2, ())) ∧ ((nv (List.drop (0 : Nat) (List.take ((0 : Nat) + List.length (List.drop (0 : Nat)
 (List.take (List.length [List.getD (dg a) (Int.toNat a_2) (0 : Int)]) [List.getD (dg a) (Int.toNat a_2) (0 : Int)]) ++ dg (Num.n a_1))) (List.drop (0 : Nat) (List.take (List.length [List.getD (dg a) (Int.toNat a_2) (0 : Int)]) [List.getD (dg a) (Int.toNat a_2) (0 : Int)]) ++ dg (Num.n a_1)))) = Int.toNat (List.getD (dg a) (Int.toNat a_2) (0 : Int)) + (16777216 : Nat) * Num.n a_1) ∧ (l = l)))))) ∧ (∀ a_3 : Num, (∀ l_1 : List Int, (((Num.n a_3 = Int.toNat (List.getD (dg a) (Int.toNat a_2) (0 : Int)) + (16777216 : Nat) * Num.n a_1) ∧ (l_1 = l)) → ((((0 : Nat) = (0 : Nat)) ∧ (List.length l_1 = List.length l_1)) ∧ (bcase (decide ((↑(List.length (dg (Num.n a_3))) : Int) < (↑(List.length b) : Int))) (((((0 : Nat) = (0 : Nat)) ∧ (List.length l_1 = List.length l_1)) ∧ (((Num.mk a, b, a_3, a_2, ()) = (Num.mk a, b, a_3, a_2, ())) ∧ (iDgB b (Num.n a_3) l_1 (0 : Int) (1 : Int) l_1)))) (((((0 : Int) ≤ IntKind.wrap IntKind.i64 ((↑(List.length (dg (Num.n a_3))) : Int) - (1 : Int))) ∧
 (IntKind.wrap IntKind.i64 ((↑(List.length (dg (Num.n a_3))) : Int) - (1 : Int)) < (↑(List.length (dg (Num.n a_3))) : Int))) ∧ bcase (decide ((↑(List.length (dg (Num.n a_3))) : Int) > (↑(List.length b) : Int))) (((((0 : Int) ≤ IntKind.wrap IntKind.i64 ((↑(List.length (dg (Num.n a_3))) : Int) - (2 : Int))) ∧ (IntKind.wrap IntKind.i64 ((↑(List.length (dg (Num.n a_3))) : Int) - (2 : Int)) < (↑(List.length (dg (Num.n a_3))) : Int))) ∧ ((((0 : Int) ≤ IntKind.wrap IntKind.i64 ((↑(List.length b) : Int) - (1 : Int))) ∧ (IntKind.wrap IntKind.i64 ((↑(List.length b) : Int) - (1 : Int)) < (↑(List.length b) : Int))) ∧ ((IntKind.wrap IntKind.i64 (List.getD b (Int.toNat (IntKind.wrap IntKind.i64 ((↑(List.length b) : Int) - (1 : Int)))) (0 : Int) + (1 : Int)) ≠ (0 : Int)) ∧ ((((0 : Int) ≤ IntKind.wrap IntKind.i64 ((↑(List.length b) : Int) - (1 : Int))) ∧ (IntKind.wrap IntKind.i64 ((↑(List.length b) : Int) - (1 : Int)) < (↑(List.length b) : Int))) ∧
 ((List.getD b (Int.toNat (IntKind.wrap IntKind.i64 ((↑(List.length b) : Int) - (1 : Int)))) (0 : Int) ≠ (0 : Int)) ∧ bcase (decide (IntKind.wrap IntKind.i64 (IntKind.wrap IntKind.i64 (Int.tdiv (IntKind.wrap IntKind.i64 (IntKind.wrap IntKind.i64 (List.getD (dg (Num.n a_3)) (Int.toNat (IntKind.wrap IntKind.i64 ((↑(List.length (dg (Num.n a_3))) : Int) - (1 : Int)))) (0 : Int) * (16777216 : Int)) + List.getD (dg (Num.n a_3)) (Int.toNat (IntKind.wrap IntKind.i64 ((↑(List.length (dg (Num.n a_3))) : Int) - (2 : Int)))) (0 : Int))) (List.getD b (Int.toNat (IntKind.wrap IntKind.i64 ((↑(List.length b) : Int) - (1 : Int)))) (0 : Int))) + (1 : Int)) > (16777216 : Int))) (((((0 : Nat) = (0 : Nat)) ∧ (List.length l_1 = List.length l_1)) ∧ (((Num.mk a, b, a_3, a_2, ()) = (Num.mk a, b, a_3, a_2, ())) ∧ (iDgB b (Num.n a_3) l_1 (IntKind.wrap IntKind.i64 (Int.tdiv (IntKind.wrap IntKind.i64 (IntKind.wrap IntKind.i64 (List.getD (dg (Num.n a_3))
 (Int.toNat (IntKind.wrap IntKind.i64 ((↑(List.length (dg (Num.n a_3))) : Int) - (1 : Int)))) (0 : Int) * (16777216 : Int)) + List.getD (dg (Num.n a_3)) (Int.toNat (IntKind.wrap IntKind.i64 ((↑(List.length (dg (Num.n a_3))) : Int) - (2 : Int)))) (0 : Int))) (IntKind.wrap IntKind.i64 (List.getD b (Int.toNat (IntKind.wrap IntKind.i64 ((↑(List.length b) : Int) - (1 : Int)))) (0 : Int) + (1 : Int))))) (16777216 : Int) l_1)))) (((((0 : Nat) = (0 : Nat)) ∧ (List.length l_1 = List.length l_1)) ∧ (((Num.mk a, b, a_3, a_2, ()) = (Num.mk a, b, a_3, a_2, ())) ∧ (iDgB b (Num.n a_3) l_1 (IntKind.wrap IntKind.i64 (Int.tdiv (IntKind.wrap IntKind.i64 (IntKind.wrap IntKind.i64 (List.getD (dg (Num.n a_3)) (Int.toNat (IntKind.wrap IntKind.i64 ((↑(List.length (dg (Num.n a_3))) : Int) - (1 : Int)))) (0 : Int) * (16777216 : Int)) + List.getD (dg (Num.n a_3)) (Int.toNat (IntKind.wrap IntKind.i64 ((↑(List.length (dg (Num.n a_3))) : Int) - (2 : Int)))) (0 : Int))) (IntKind.wrap IntKind.i64
 (List.getD b (Int.toNat (IntKind.wrap IntKind.i64 ((↑(List.length b) : Int) - (1 : Int)))) (0 : Int) + (1 : Int))))) (IntKind.wrap IntKind.i64 (IntKind.wrap IntKind.i64 (Int.tdiv (IntKind.wrap IntKind.i64 (IntKind.wrap IntKind.i64 (List.getD (dg (Num.n a_3)) (Int.toNat (IntKind.wrap IntKind.i64 ((↑(List.length (dg (Num.n a_3))) : Int) - (1 : Int)))) (0 : Int) * (16777216 : Int)) + List.getD (dg (Num.n a_3)) (Int.toNat (IntKind.wrap IntKind.i64 ((↑(List.length (dg (Num.n a_3))) : Int) - (2 : Int)))) (0 : Int))) (List.getD b (Int.toNat (IntKind.wrap IntKind.i64 ((↑(List.length b) : Int) - (1 : Int)))) (0 : Int))) + (1 : Int))) l_1)))))))))) (((((0 : Int) ≤ IntKind.wrap IntKind.i64 ((↑(List.length b) : Int) - (1 : Int))) ∧ (IntKind.wrap IntKind.i64 ((↑(List.length b) : Int) - (1 : Int)) < (↑(List.length b) : Int))) ∧ ((IntKind.wrap IntKind.i64 (List.getD b (Int.toNat (IntKind.wrap IntKind.i64 ((↑(List.length b) : Int) - (1 : Int)))) (0 : Int) + (1 : Int)) ≠ (0 : Int)) ∧
 ((((0 : Int) ≤ IntKind.wrap IntKind.i64 ((↑(List.length b) : Int) - (1 : Int))) ∧ (IntKind.wrap IntKind.i64 ((↑(List.length b) : Int) - (1 : Int)) < (↑(List.length b) : Int))) ∧ ((List.getD b (Int.toNat (IntKind.wrap IntKind.i64 ((↑(List.length b) : Int) - (1 : Int)))) (0 : Int) ≠ (0 : Int)) ∧ bcase (decide (IntKind.wrap IntKind.i64 (IntKind.wrap IntKind.i64 (Int.tdiv (List.getD (dg (Num.n a_3)) (Int.toNat (IntKind.wrap IntKind.i64 ((↑(List.length (dg (Num.n a_3))) : Int) - (1 : Int)))) (0 : Int)) (List.getD b (Int.toNat (IntKind.wrap IntKind.i64 ((↑(List.length b) : Int) - (1 : Int)))) (0 : Int))) + (1 : Int)) > (16777216 : Int))) (((((0 : Nat) = (0 : Nat)) ∧ (List.length l_1 = List.length l_1)) ∧ (((Num.mk a, b, a_3, a_2, ()) = (Num.mk a, b, a_3, a_2, ())) ∧ (iDgB b (Num.n a_3) l_1 (IntKind.wrap IntKind.i64 (Int.tdiv (List.getD (dg (Num.n a_3)) (Int.toNat (IntKind.wrap IntKind.i64 ((↑(List.length (dg (Num.n a_3))) : Int) - (1 : Int)))) (0 : Int)) (IntKind.wrap IntKind.i64
 (List.getD b (Int.toNat (IntKind.wrap IntKind.i64 ((↑(List.length b) : Int) - (1 : Int)))) (0 : Int) + (1 : Int))))) (16777216 : Int) l_1)))) (((((0 : Nat) = (0 : Nat)) ∧ (List.length l_1 = List.length l_1)) ∧ (((Num.mk a, b, a_3, a_2, ()) = (Num.mk a, b, a_3, a_2, ())) ∧ (iDgB b (Num.n a_3) l_1 (IntKind.wrap IntKind.i64 (Int.tdiv (List.getD (dg (Num.n a_3)) (Int.toNat (IntKind.wrap IntKind.i64 ((↑(List.length (dg (Num.n a_3))) : Int) - (1 : Int)))) (0 : Int)) (IntKind.wrap IntKind.i64 (List.getD b (Int.toNat (IntKind.wrap IntKind.i64 ((↑(List.length b) : Int) - (1 : Int)))) (0 : Int) + (1 : Int))))) (IntKind.wrap IntKind.i64 (IntKind.wrap IntKind.i64 (Int.tdiv (List.getD (dg (Num.n a_3)) (Int.toNat (IntKind.wrap IntKind.i64 ((↑(List.length (dg (Num.n a_3))) : Int) - (1 : Int)))) (0 : Int)) (List.getD b (Int.toNat (IntKind.wrap IntKind.i64 ((↑(List.length b) : Int) - (1 : Int)))) (0 : Int))) + (1 : Int))) l_1))))))))))) ∧ (∀ l_2 : List Int, (∀ a_4 : Int, (∀ a_5 : Int,
 ((iDgB b (Num.n a_3) l_1 a_4 a_5 l_2) → ((((0 : Nat) = (0 : Nat)) ∧ (List.length l_2 = List.length l_2)) ∧ ((iDgB b (Num.n a_3) l_2 a_4 a_5 l_2) ∧ (∀ l_3 : List Int, (∀ a_6 : Int, (∀ a_7 : Int, ((iDgB b (Num.n a_3) l_2 a_6 a_7 l_3) → bcase (decide (IntKind.wrap IntKind.i64 (a_7 - a_6) > (1 : Int))) ((((Dg b) ∧ (((0 : Int) ≤ IntKind.wrap IntKind.i64 (Int.tdiv (IntKind.wrap IntKind.i64 (a_6 + a_7)) (2 : Int))) ∧ (IntKind.wrap IntKind.i64 (Int.tdiv (IntKind.wrap IntKind.i64 (a_6 + a_7)) (2 : Int)) < (9223372036854775808 : Int)))) ∧ (((Sm (nv b * Int.toNat (IntKind.wrap IntKind.i64 (Int.tdiv (IntKind.wrap IntKind.i64 (a_6 + a_7)) (2 : Int))))) ∧ (Sm (Num.n a_3))) ∧ bcase (decide (cmpN (nv b * Int.toNat (IntKind.wrap IntKind.i64 (Int.tdiv (IntKind.wrap IntKind.i64 (a_6 + a_7)) (2 : Int)))) (Num.n a_3) ≤ (0 : Int))) (((((0 : Nat) = (0 : Nat)) ∧ (List.length l_3 = List.length l_3)) ∧ (((Num.mk a, b, a_3, a_2, ()) = (Num.mk a, b, a_3, a_2, ())) ∧
 ((iDgB b (Num.n a_3) l_2 (IntKind.wrap IntKind.i64 (Int.tdiv (IntKind.wrap IntKind.i64 (a_6 + a_7)) (2 : Int))) a_7 l_3) ∧ (Int.toNat (a_7 - IntKind.wrap IntKind.i64 (Int.tdiv (IntKind.wrap IntKind.i64 (a_6 + a_7)) (2 : Int))) < Int.toNat (a_7 - a_6)))))) (((((0 : Nat) = (0 : Nat)) ∧ (List.length l_3 = List.length l_3)) ∧ (((Num.mk a, b, a_3, a_2, ()) = (Num.mk a, b, a_3, a_2, ())) ∧ ((iDgB b (Num.n a_3) l_2 a_6 (IntKind.wrap IntKind.i64 (Int.tdiv (IntKind.wrap IntKind.i64 (a_6 + a_7)) (2 : Int))) l_3) ∧ (Int.toNat (IntKind.wrap IntKind.i64 (Int.tdiv (IntKind.wrap IntKind.i64 (a_6 + a_7)) (2 : Int)) - a_6) < Int.toNat (a_7 - a_6))))))))) (((((0 : Int) ≤ a_2) ∧ (a_2 < (↑(List.length l_3) : Int))) ∧ (((Dg b) ∧ (((0 : Int) ≤ a_6) ∧ (a_6 < (9223372036854775808 : Int)))) ∧ (((Sm (Num.n a_3)) ∧ ((nv b * Int.toNat a_6 ≤ Num.n a_3) ∧ (Sm (nv b * Int.toNat a_6)))) ∧ ((((0 : Nat) = (0 : Nat)) ∧ (List.length l_3 = List.length (List.set l_3 ((0 : Nat) + Int.toNat a_2) a_6))) ∧
 (((Num.mk a, b, ()) = (Num.mk a, b, ())) ∧ ((iDgA a b (Num.n a_3 - nv b * Int.toNat a_6) (IntKind.wrap IntKind.i64 (a_2 - (1 : Int))) (List.set l_3 ((0 : Nat) + Int.toNat a_2) a_6)) ∧ (Int.toNat (IntKind.wrap IntKind.i64 (a_2 - (1 : Int)) + (1 : Int)) < Int.toNat (a_2 + (1 : Int))))))))))))))))))))))))))))) ((((Dig (List.drop (0 : Nat) (List.take ((0 : Nat) + List.length l) l))) ∧ (List.length (List.drop (0 : Nat) (List.take ((0 : Nat) + List.length l) l)) ≤ (4294967296 : Nat))) ∧ (Q (SV.tup [SV.lst (LV.num (nv (List.drop (0 : Nat) (List.take ((0 : Nat) + List.length l) l)))), SV.lst (LV.num (Num.n a_1))]))))))))))) := by kernel_rfl
def sDigits : SpecF := fspec (α := Num × List Int × Unit) (β := Num × Num × Unit) (fun a => some (Sm a.1.n ∧ Can a.2.1 ∧ a.2.1.length ≤ 1073741000 ∧ 0 < nv a.2.1)) (fun a => (⟨a.1.n / nv a.2.1⟩, ⟨a.1.n % nv a.2.1⟩, ()))
def spDv : Specs := [(68, nSmall), (97, sDigits)]
def lDiv : Plan := { cuts := [(1, { β := Num × Num × Unit, γ := Unit, α := Int × Unit, same := [0, 1], pre := [], keep := [6], inv := fun _ _ x => 1 ≤ x.1 ∧ x.1 ≤ 8388608 })] }
theorem vcDiv (a b : Nat) (Q : SV → Prop) : LnRaw tt spDv 3 [] lDiv Tryz.f66 Q ((⟨a⟩ : Num), (⟨b⟩ : Num), ()) =
 (((((0 : Int) ≤ IntKind.wrap IntKind.i64 ((↑(List.length (dg b)) : Int) - (1 : Int))) ∧ (IntKind.wrap IntKind.i64 ((↑(List.length (dg b)) : Int) - (1 : Int)) < (↑(List.length (dg b)) : Int))) ∧ ((IntKind.wrap IntKind.i64 (List.getD (dg b) (Int.toNat (IntKind.wrap IntKind.i64 ((↑(List.length (dg b)) : Int) - (1 : Int)))) (0 : Int) + (1 : Int)) ≠ (0 : Int)) ∧ (((Num.mk a, Num.mk b, ()) = (Num.mk a, Num.mk b, ())) ∧ (((1 : Int) ≤ IntKind.wrap IntKind.i64 (Int.tdiv (16777216 : Int) (IntKind.wrap IntKind.i64 (List.getD (dg b) (Int.toNat (IntKind.wrap IntKind.i64 ((↑(List.length (dg b)) : Int) - (1 : Int)))) (0 : Int) + (1 : Int))))) ∧ (IntKind.wrap IntKind.i64 (Int.tdiv (16777216 : Int) (IntKind.wrap IntKind.i64 (List.getD (dg b) (Int.toNat (IntKind.wrap IntKind.i64 ((↑(List.length (dg b)) : Int) - (1 : Int)))) (0 : Int) + (1 : Int)))) ≤ (8388608 : Int)))))) ∧ (∀ a_1 : Int, ((((1 : Int) ≤ a_1) ∧ (a_1 ≤ (8388608 : Int))) → (((Sm a) ∧ (((0 : Int) ≤ a_1) ∧
 (a_1 < (9223372036854775808 : Int)))) ∧ (((Sm b) ∧ (((0 : Int) ≤ a_1) ∧ (a_1 < (9223372036854775808 : Int)))) ∧ (((Sm (a * Int.toNat a_1)) ∧ ((Can (dg (b * Int.toNat a_1))) ∧ ((List.length (dg (b * Int.toNat a_1)) ≤ (1073741000 : Nat)) ∧ ((0 : Nat) < nv (dg (b * Int.toNat a_1)))))) ∧ bcase (decide (a_1 > (1 : Int))) ((((Sm (a * Int.toNat a_1 % nv (dg (b * Int.toNat a_1)))) ∧ ((Can (List.drop (0 : Nat) (List.take ((0 : Nat) + (1 : Nat)) [a_1]))) ∧ ((List.length (List.drop (0 : Nat) (List.take ((0 : Nat) + (1 : Nat)) [a_1])) ≤ (1073741000 : Nat)) ∧ ((0 : Nat) < nv (List.drop (0 : Nat) (List.take ((0 : Nat) + (1 : Nat)) [a_1])))))) ∧ (Q (SV.tup [SV.lst (LV.num (a * Int.toNat a_1 / nv (dg (b * Int.toNat a_1)))), SV.lst (LV.num (a * Int.toNat a_1 % nv (dg (b * Int.toNat a_1)) / nv (List.drop (0 : Nat) (List.take ((0 : Nat) + (1 : Nat)) [a_1]))))])))) ((Q (SV.tup [SV.lst (LV.num (a * Int.toNat a_1 / nv (dg (b * Int.toNat a_1)))),
 SV.lst (LV.num (a * Int.toNat a_1 % nv (dg (b * Int.toNat a_1))))]))))))))) := by kernel_rfl
def nDiv : SpecF := fspec (α := N2) (β := Num × Num × Unit) (fun a => some ((dg a.1.n).length ≤ 536870912 ∧ (dg a.2.1.n).length ≤ 536870912 ∧ 0 < a.2.1.n)) (fun a => (⟨a.1.n / a.2.1.n⟩, ⟨a.1.n % a.2.1.n⟩, ()))
theorem vcMod (a b : Nat) (Q : SV → Prop) : LnRaw tt [(66, nDiv)] 3 [] {} Tryz.f26 Q ((⟨a⟩ : Num), (⟨b⟩ : Num), ()) =
 (((List.length (dg a) ≤ (536870912 : Nat)) ∧ ((List.length (dg b) ≤ (536870912 : Nat)) ∧ ((0 : Nat) < b))) ∧ (Q (SV.lst (LV.num (a % b))))) := by kernel_rfl
def nMod : SpecF := fspec (α := N2) (β := Num) (fun a => some ((dg a.1.n).length ≤ 536870912 ∧ (dg a.2.1.n).length ≤ 536870912 ∧ 0 < a.2.1.n)) (fun a => ⟨a.1.n % a.2.1.n⟩)
end Go.Proofs.YtficbeeoafiiaaaGreatDoor.R1
/- The reference's functions on digits (8): quotients and rests: what they say is so. -/
set_option maxRecDepth 10000
namespace Go.Proofs.YtficbeeoafiiaaaGreatDoor.R1
open Go.Sym Go.Dig

/-- What the highest digits say of a quotient. -/
theorem quot_bounds {n b P bt bl : Nat} (hP : 0 < P) (hb : b = bl + P * bt) (hl : bl < P) (ht : 1 ≤ bt) : n / P / (bt + 1) ≤ n / b ∧ n / b < n / P / bt + 1 := by
  have hbp : 0 < b := by have := Nat.mul_pos hP ht; omega
  refine ⟨?_, ?_⟩
  · rw [Nat.le_div_iff_mul_le hbp]
    have h1 : n / P / (bt + 1) * (bt + 1) ≤ n / P := Nat.div_mul_le_self _ _
    have h2 : P * (n / P) ≤ n := Nat.mul_div_le n P
    have h3 : b ≤ P * (bt + 1) := by rw [Nat.mul_add]; omega
    calc n / P / (bt + 1) * b ≤ n / P / (bt + 1) * (P * (bt + 1)) := Nat.mul_le_mul_left _ h3
      _ = P * (n / P / (bt + 1) * (bt + 1)) := by rw [Nat.mul_left_comm]
      _ ≤ P * (n / P) := Nat.mul_le_mul_left _ h1
      _ ≤ n := h2
  · rw [Nat.div_lt_iff_lt_mul hbp]
    have h1 : n < P * (n / P + 1) := Nat.lt_mul_div_succ n hP
    have h2 : n / P < bt * (n / P / bt + 1) := Nat.lt_mul_div_succ _ (by omega)
    have h3 : P * bt ≤ b := by omega
    calc n < P * (n / P + 1) := h1
      _ ≤ P * (bt * (n / P / bt + 1)) := Nat.mul_le_mul_left _ h2
      _ = P * bt * (n / P / bt + 1) := by rw [Nat.mul_assoc]
      _ ≤ b * (n / P / bt + 1) := Nat.mul_le_mul_right _ h3
      _ = (n / P / bt + 1) * b := Nat.mul_comm _ _
theorem dg_top_ge {n : Nat} (h : n ≠ 0) : 16777216 ^ ((dg n).length - 1) ≤ n := by
  have hc : dg n ≠ [] := fun e => h (dg_nil_iff.1 e)
  have hlen : 0 < (dg n).length := List.length_pos_iff.2 hc
  by_cases e : 16777216 ^ ((dg n).length - 1) ≤ n
  · exact e
  · have := dg_length_lt (n := n) (k := (dg n).length - 1) (by omega)
    omega
theorem len_le_of_lt {n k : Nat} (h : n < 16777216 ^ k) : (dg n).length ≤ k := dg_length_lt h
theorem lt_len {n k : Nat} (h : 16777216 ^ k ≤ n) : k < (dg n).length := by
  by_cases e : k < (dg n).length
  · exact e
  · have h1 := lt_of_dg_length n
    have h2 : (16777216 : Nat) ^ (dg n).length ≤ 16777216 ^ k := Nat.pow_le_pow_right (by omega) (by omega)
    omega
theorem dg_digit (n q : Nat) : ((dg n).getD q 0) = ((n / 16777216 ^ q % 16777216 : Nat) : Int) := by
  have h := digit_nat (dig_dg n) q
  rw [nv_dg] at h
  have := getD_dig (dig_dg n) q
  omega
theorem spDg_ok : SpecsOK Tryz.prog spDg := .cons ok_Small <| .cons ok_nCmp <| .cons ok_nSub <| .cons ok_Trim <| .nil _
theorem cmpN_le {x y : Nat} : cmpN x y ≤ 0 ↔ x ≤ y := by
  unfold cmpN
  split
  · simp; omega
  · split <;> simp <;> omega

theorem ok_Digits : SpecOK Tryz.prog 97 sDigits := by
  refine fn_okL (by kernel_rfl) tt_ok spDg_ok 3 Tryz.func97 (by decide +kernel) (by kernel_rfl) ?_
  rintro ⟨⟨a⟩, b, _⟩ ⟨hsa, hcb, hlb, hb0⟩
  simp only at hsa hcb hlb hb0
  refine ⟨[], lDigits, fun x => x = .tup [.lst (.num (a / nv b)), .lst (.num (a % nv b))], LnVD.of (vcDigits a b _) ?_, fun x h at_ w v r => by have h' : x = _ := h; subst h'; exact r⟩
  have hla : (dg a).length ≤ 1073741824 := hsa
  have hne : b ≠ [] := by rintro rfl; simp [nv_nil] at hb0
  have hlen : 0 < b.length := List.length_pos_iff.2 hne
  have hdb := hcb.dig
  have htop := can_top hcb hne
  have htd := getD_dig hdb (b.length - 1)
  obtain ⟨bt, hbt⟩ : ∃ t : Nat, b.getD (b.length - 1) 0 = t := ⟨(b.getD (b.length - 1) 0).toNat, by omega⟩
  obtain ⟨bl, hbl, hbl2⟩ : ∃ bl : Nat, nv b = bl + 16777216 ^ (b.length - 1) * bt ∧ bl < 16777216 ^ (b.length - 1) := by
    have h1 := (can_ge hcb hne).2
    have h2 := val_lt (hdb.take (b.length - 1))
    have h3 := val_nonneg (hdb.take (b.length - 1))
    have h4 := nv_val hdb
    rw [List.length_take, Nat.min_eq_left (by omega)] at h2
    refine ⟨(val (b.take (b.length - 1))).toNat, ?_, pw_lt_nat (by omega)⟩
    apply Int.ofNat_inj.1
    rw [h4, h1, hbt, Int.natCast_add, Int.natCast_mul, pw_cast]
    omega
  have hbB : nv b < 16777216 ^ b.length := nv_lt hdb
  rw [wr (x := ((dg a).length : Int) - 1) (by omega)]
  refine ⟨⟨by omega, by trivial, by omega⟩, ⟨by trivial, by simp⟩, ⟨by omega, by omega, by simp, Dig.replicate _, fun k _ => ?_, ?_, ?_⟩, fun ⟨rest⟩ q i ⟨i0, i1, hql, hqd, hqz, hr, hv⟩ => ?_⟩
  · simp only [List.getD_eq_getElem?_getD, List.getElem?_replicate]; split <;> rfl
  · have := lt_of_dg_length a
    rw [show (((dg a).length : Int) - 1 + 1).toNat = (dg a).length by omega, Nat.div_eq_of_lt this, Nat.zero_mod]
  · have := lt_of_dg_length a
    rw [show (((dg a).length : Int) - 1 + 1).toNat = (dg a).length by omega, Nat.div_eq_of_lt this, Nat.zero_div, Nat.mul_zero]
    simp [nv, val_replicate]
  simp only at hr hv ⊢
  rw [bcase_dec]
  refine ⟨fun hi => ?_, fun hi => ?_⟩
  · have hda := getD_dig (dig_dg a) i.toNat
    have hrb : rest < nv b := by rw [hr]; exact Nat.mod_lt _ hb0
    have hrl : (dg rest).length ≤ b.length := dg_length_lt (Nat.lt_trans hrb hbB)
    have e1 : ∀ x : Int, List.drop 0 (List.take (List.length [x]) [x]) = [x] := fun x => rfl
    simp only [e1, whole]
    have hcd : Dig ((dg a).getD i.toNat 0 :: dg rest) := Dig.cons hda.1 hda.2 (dig_dg rest)
    have hnv : nv ([(dg a).getD i.toNat 0] ++ dg rest) = ((dg a).getD i.toNat 0).toNat + 16777216 * rest := by
      simp only [List.singleton_append, nv, val, val_dg]; omega
    refine ⟨⟨hi, i1⟩, ⟨by trivial, by trivial⟩, ⟨⟨by simp, by simp [appLim]; omega⟩, ⟨hcd, by simp; omega⟩, ⟨by trivial, by trivial⟩, by trivial, hnv, by trivial⟩, fun ⟨n⟩ q1 ⟨hn, hq1⟩ => ?_⟩
    subst hq1
    simp only at hn ⊢
    have hnb : n < nv b * 16777216 := by
      rw [hn]; omega
    have hnB : n < 16777216 ^ (b.length + 1) := by rw [Nat.pow_succ]; exact Nat.lt_trans hnb (Nat.mul_lt_mul_of_pos_right hbB (by omega))
    have hnl : (dg n).length ≤ b.length + 1 := dg_length_lt hnB
    have hd : n / nv b < 16777216 := Nat.div_lt_of_lt_mul hnb
    have hqb := quot_bounds (n := n) (Nat.pow_pos (n := b.length - 1) (show 0 < 16777216 by omega)) hbl hbl2 (by omega)
    have eb : ((b.length : Int) - 1).toNat = b.length - 1 := by omega
    have hsn : Sm n := by show (dg n).length ≤ _; omega
    obtain ⟨D, hD⟩ : ∃ D, D = n / nv b := ⟨_, rfl⟩
    simp only [iDgB, ← hD]
    rw [← hD] at hd hqb
    refine ⟨⟨by trivial, by trivial⟩, ?_, fun q2 low high ⟨hq2, b0, b1, b2, b3⟩ => ⟨⟨by trivial, by trivial⟩, ⟨by trivial, b0, b1, b2, b3⟩, fun q3 lo hh ⟨hq3, c0, c1, c2, c3⟩ => ?_⟩⟩
    · rw [wr (x := (b.length : Int) - 1) (by omega), eb, hbt, wr (x := (bt : Int) + 1) (by omega)]
      simp only [bcase_dec, true_and, and_true]
      refine ⟨fun hlt => ⟨by omega, by omega, ?_, by omega⟩, fun hge => ?_⟩
      · have : n < nv b := by
          have h1 := lt_of_dg_length n
          have h2 : (16777216 : Nat) ^ (dg n).length ≤ 16777216 ^ (b.length - 1) := Nat.pow_le_pow_right (by omega) (by omega)
          have h3 : 16777216 ^ (b.length - 1) * 1 ≤ 16777216 ^ (b.length - 1) * bt := Nat.mul_le_mul_left _ (by omega)
          omega
        have : D = 0 := by rw [hD, Nat.div_eq_of_lt this]
        omega
      · have hnz : dg n ≠ [] := fun e => by have h0 : (dg n).length = 0 := by rw [e]; rfl
                                            omega
        have hn1 : 0 < (dg n).length := List.length_pos_iff.2 hnz
        rw [wr (x := ((dg n).length : Int) - 1) (by omega), show (((dg n).length : Int) - 1).toNat = (dg n).length - 1 by omega]
        have hlt := lt_of_dg_length n
        refine ⟨⟨by omega, by omega⟩, fun hgt => ?_, fun hgt => ?_⟩
        · have hL : (dg n).length = b.length + 1 := by omega
          rw [wr (x := ((dg n).length : Int) - 2) (by omega), show (((dg n).length : Int) - 2).toNat = b.length - 1 by omega, hL, show b.length + 1 - 1 = b.length from rfl]
          rw [dg_digit, dg_digit]
          have ht1 : n / 16777216 ^ b.length = n / 16777216 ^ (b.length - 1) / 16777216 := by
            rw [Nat.div_div_eq_div_mul, ← Nat.pow_succ, show (b.length - 1).succ = b.length by omega]
          have ht2 : n / 16777216 ^ b.length < 16777216 := Nat.div_lt_of_lt_mul (by rw [← Nat.pow_succ]; exact hnB)
          rw [Nat.mod_eq_of_lt ht2]
          generalize n / 16777216 ^ b.length = t1 at *
          generalize n / 16777216 ^ (b.length - 1) = t at *
          rw [wr (x := (t1 : Int) * 16777216) (by omega), wr (x := (t1 : Int) * 16777216 + _) (by omega), show (t1 : Int) * 16777216 + ((t % 16777216 : Nat) : Int) = (t : Int) by omega]
          rw [tdiv_nn (x := (t : Int)) (by omega), tdiv_nn (x := (t : Int)) (by omega), show (bt : Int) + 1 = ((bt + 1 : Nat) : Int) by omega, ← Int.natCast_ediv, ← Int.natCast_ediv]
          have hl1 : t / (bt + 1) ≤ t := Nat.div_le_self _ _
          have hl2 : t / bt ≤ t := Nat.div_le_self _ _
          generalize t / (bt + 1) = u1 at *
          generalize t / bt = u2 at *
          rw [wr (x := (u1 : Int)) (by omega), wr (x := (u2 : Int)) (by omega), wr (x := (u2 : Int) + 1) (by omega)]
          exact ⟨⟨by omega, by omega⟩, ⟨by omega, by omega⟩, by omega, ⟨by omega, by omega⟩, by omega, fun hc => ⟨by omega, by omega, by omega, by omega⟩, fun hc => ⟨by omega, by omega, by omega, by omega⟩⟩
        · have hL : (dg n).length = b.length := by omega
          rw [hL, dg_digit]
          have ht2 : n / 16777216 ^ (b.length - 1) < 16777216 := Nat.div_lt_of_lt_mul (by rw [← Nat.pow_succ, show (b.length - 1).succ = b.length by omega, ← hL]; exact hlt)
          rw [Nat.mod_eq_of_lt ht2]
          generalize n / 16777216 ^ (b.length - 1) = t at *
          rw [tdiv_nn (x := (t : Int)) (by omega), tdiv_nn (x := (t : Int)) (by omega), show (bt : Int) + 1 = ((bt + 1 : Nat) : Int) by omega, ← Int.natCast_ediv, ← Int.natCast_ediv]
          have hl1 : t / (bt + 1) ≤ t := Nat.div_le_self _ _
          have hl2 : t / bt ≤ t := Nat.div_le_self _ _
          generalize t / (bt + 1) = u1 at *
          generalize t / bt = u2 at *
          rw [wr (x := (u1 : Int)) (by omega), wr (x := (u2 : Int)) (by omega), wr (x := (u2 : Int) + 1) (by omega)]
          exact ⟨⟨by omega, by omega⟩, by omega, ⟨by omega, by omega⟩, by omega, fun hc => ⟨by omega, by omega, by omega, by omega⟩, fun hc => ⟨by omega, by omega, by omega, by omega⟩⟩
    · subst hq2
      subst hq3
      have hmul : ∀ m : Nat, m ≤ 16777216 → (dg (nv b * m)).length ≤ b.length + 1 := fun m hm => by
        refine dg_length_lt ?_
        rw [Nat.pow_succ]
        exact Nat.lt_of_le_of_lt (Nat.mul_le_mul_left _ hm) (Nat.mul_lt_mul_of_pos_right hbB (by omega))
      have hdg : Dg b := ⟨hdb, by omega⟩
      rw [wr (x := hh - lo) (by omega), bcase_dec]
      refine ⟨fun hgo => ?_, fun hgo => ?_⟩
      · rw [wr (x := lo + hh) (by omega), tdiv_nn (by omega), wr (x := (lo + hh) / 2) (by omega)]
        obtain ⟨m, hm⟩ : ∃ m : Nat, (lo + hh) / 2 = m := ⟨((lo + hh) / 2).toNat, by omega⟩
        rw [hm, Int.toNat_natCast, bcase_dec, cmpN_le]
        refine ⟨⟨hdg, by omega, by omega⟩, ⟨Nat.le_trans (hmul m (by omega)) (by omega), hsn⟩, fun hc => ⟨⟨by trivial, by trivial⟩, by trivial, ⟨by trivial, by omega, ?_, c2, c3⟩, by omega⟩, fun hc => ⟨⟨by trivial, by trivial⟩, by trivial, ⟨by trivial, c0, c1, ?_, by omega⟩, by omega⟩⟩
        · have : m ≤ D := by rw [hD, Nat.le_div_iff_mul_le hb0, Nat.mul_comm]; exact hc
          omega
        · have : D < m := by rw [hD, Nat.div_lt_iff_lt_mul hb0, Nat.mul_comm]; omega
          omega
      · have hlo : lo = D := by omega
        rw [hlo, Int.toNat_natCast, wr (x := i - 1) (by omega), show 0 + i.toNat = i.toNat by omega]
        have hDn : nv b * D ≤ n := by rw [hD]; exact Nat.mul_div_le _ _
        have e2 : (i - 1 + 1).toNat = i.toNat := by omega
        have e3 : (i + 1).toNat = i.toNat + 1 := by omega
        rw [e3] at hr hv
        have hAi : a / 16777216 ^ i.toNat = 16777216 * (a / 16777216 ^ (i.toNat + 1)) + ((dg a).getD i.toNat 0).toNat := by
          rw [dg_digit, Nat.pow_succ, ← Nat.div_div_eq_div_mul, Int.toNat_natCast]; omega
        have hAn : a / 16777216 ^ i.toNat = nv b * (16777216 * (a / 16777216 ^ (i.toNat + 1) / nv b)) + n := by
          rw [hAi, hn, hr]
          have := Nat.div_add_mod (a / 16777216 ^ (i.toNat + 1)) (nv b)
          generalize a / 16777216 ^ (i.toNat + 1) = A at *
          rw [Nat.mul_left_comm]
          omega
        have hq0 := hqz i.toNat (by omega)
        have hset : val (q3.set i.toNat (D : Int)) = val q3 + 16777216 ^ i.toNat * D := by
          rw [val_set _ _ _ (by omega), hq0, Int.sub_zero]
        refine ⟨⟨hi, by omega⟩, ⟨hdg, by omega, by omega⟩, ⟨hsn, hDn, Nat.le_trans (hmul D (by omega)) (by omega)⟩, ⟨by trivial, by simp⟩, by trivial, ⟨by omega, by omega, by simp [hql], Dig.set hqd _ (by omega), fun k hk => ?_, ?_, ?_⟩, by omega⟩
        · rw [getD_set _ _ _ _ (by omega)]; exact hqz k (by omega)
        · rw [e2, hAn, Nat.mul_add_mod, hD]
          have := Nat.div_add_mod n (nv b)
          omega
        · rw [e2, hAn, Nat.mul_add_div hb0, ← hD]
          have h1 := nv_val (Dig.set hqd i.toNat (show (0 : Int) ≤ D ∧ (D : Int) < 16777216 by omega))
          rw [hset, ← nv_val hqd, hv, ← pw_cast, ← Int.natCast_mul, ← Int.natCast_add] at h1
          have h2 := Int.ofNat_inj.1 h1
          rw [h2, Nat.pow_succ, Nat.mul_add, Nat.mul_assoc]
  · simp only [whole]
    have e3 : (i + 1).toNat = 0 := by omega
    rw [e3] at hr hv
    simp only [Nat.pow_zero, Nat.div_one, Nat.one_mul] at hr hv
    refine ⟨⟨hqd, by omega⟩, ?_⟩
    rw [hr, hv]

theorem spDv_ok : SpecsOK Tryz.prog spDv := .cons ok_nSmall <| .cons ok_Digits <| .nil _
theorem dg_len_mul {n m k l : Nat} (h : (dg n).length ≤ k) (h' : (dg m).length ≤ l) : (dg (n * m)).length ≤ k + l := by
  refine dg_length_lt ?_
  rw [Nat.pow_add]
  have h1 := Nat.lt_of_lt_of_le (lt_of_dg_length n) (Nat.pow_le_pow_right (show 0 < 16777216 by omega) h)
  have h2 := Nat.lt_of_lt_of_le (lt_of_dg_length m) (Nat.pow_le_pow_right (show 0 < 16777216 by omega) h')
  exact Nat.mul_lt_mul_of_lt_of_le h1 (Nat.le_of_lt h2) (Nat.pow_pos (by omega))
theorem dg_len_le {n m : Nat} (h : n ≤ m) : (dg n).length ≤ (dg m).length := dg_length_lt (Nat.lt_of_le_of_lt h (lt_of_dg_length m))
theorem ok_nDiv : SpecOK Tryz.prog 66 nDiv := by
  refine fn_okL (by kernel_rfl) tt_ok spDv_ok 3 Tryz.func66 (by decide +kernel) (by kernel_rfl) ?_
  rintro ⟨⟨a⟩, ⟨b⟩, _⟩ ⟨hla, hlb, hb0⟩
  simp only at hla hlb hb0
  refine ⟨[], lDiv, fun x => x = .tup [.lst (.num (a / b)), .lst (.num (a % b))], LnVD.of (vcDiv a b _) ?_, fun x h at_ w v r => by have h' : x = _ := h; subst h'; exact r⟩
  have hc : Can (dg b) := Can.dg (by omega)
  have hne : dg b ≠ [] := fun e => by have := dg_nil_iff.1 e; omega
  have hlen : 0 < (dg b).length := List.length_pos_iff.2 hne
  have htop := can_top hc hne
  have htd := getD_dig (dig_dg b) ((dg b).length - 1)
  rw [wr (x := ((dg b).length : Int) - 1) (by omega), show (((dg b).length : Int) - 1).toNat = (dg b).length - 1 by omega]
  generalize (dg b).getD ((dg b).length - 1) 0 = t at *
  rw [wr (x := t + 1) (by omega), tdiv_nn (by omega)]
  have hf : (1 : Int) ≤ 16777216 / (t + 1) ∧ 16777216 / (t + 1) ≤ 8388608 := by
    refine ⟨(Int.le_ediv_iff_mul_le (by omega)).2 (by omega), ?_⟩
    have h1 : (t + 1) * (16777216 / (t + 1)) ≤ 16777216 := Int.mul_ediv_self_le (by omega)
    have h2 : 2 * (16777216 / (t + 1)) ≤ (t + 1) * (16777216 / (t + 1)) := Int.mul_le_mul_of_nonneg_right (by omega) (Int.ediv_nonneg (by omega) (by omega))
    omega
  generalize 16777216 / (t + 1) = f0 at *
  rw [wr (x := f0) (by omega)]
  refine ⟨⟨⟨by omega, by omega⟩, by omega, by trivial, hf⟩, fun f ⟨hf1, hf2⟩ => ?_⟩
  obtain ⟨F, hF⟩ : ∃ F : Nat, f = F := ⟨f.toNat, by omega⟩
  subst hF
  rw [Int.toNat_natCast, nv_dg]
  have hF1 : 0 < F := by omega
  have hFl : (dg F).length ≤ 1 := dlen 1 (by omega)
  have hal := dg_len_mul hla hFl
  have hbl := dg_len_mul hlb hFl
  have e1 : List.drop 0 (List.take (0 + 1) [(F : Int)]) = [(F : Int)] := rfl
  have hnF : nv [(F : Int)] = F := by simp [nv, val]
  have ecan : Can [(F : Int)] := by
    refine ⟨?_, by simp⟩
    rw [hnF, dg_pos hF1, Nat.div_eq_of_lt (by omega), dg_zero, Nat.mod_eq_of_lt (by omega)]
  rw [e1, hnF, bcase_dec, Nat.mul_div_mul_right _ _ hF1, Nat.mul_mod_mul_right]
  refine ⟨⟨Nat.le_trans hla (by omega), by omega, by omega⟩, ⟨Nat.le_trans hlb (by omega), by omega, by omega⟩, ⟨Nat.le_trans hal (by omega), Can.dg (by omega), by omega, Nat.mul_pos hb0 hF1⟩, fun h => ⟨⟨?_, ecan, by simp, hF1⟩, ?_⟩, fun h => ?_⟩
  · refine Nat.le_trans (dg_len_le (m := a * F) ?_) (by omega)
    exact Nat.mul_le_mul_right _ (Nat.mod_le _ _)
  · rw [Nat.mul_div_cancel _ hF1]
  · have : F = 1 := by omega
    rw [this, Nat.mul_one]
theorem ok_nMod : SpecOK Tryz.prog 26 nMod := by
  refine fn_okL (by kernel_rfl) tt_ok (.cons ok_nDiv <| .nil _) 3 Tryz.func26 (by decide +kernel) (by kernel_rfl) ?_
  rintro ⟨⟨a⟩, ⟨b⟩, _⟩ h
  refine ⟨[], {}, isNum (a % b), LnVD.of (vcMod a b _) ?_, fun x h at_ w v r => isNum_ok h r⟩
  exact ⟨h, .inl rfl⟩
end Go.Proofs.YtficbeeoafiiaaaGreatDoor.R1
/- Layer 3's laws (without powers): the reference's functions and the laws: what their bodies come to. -/
set_option maxRecDepth 10000
namespace Go.Proofs.YtficbeeoafiiaaaGreatDoor
open Go.Sym Go.Dig

--STOP R1.Sm, limb_Add, limb_Sub, limb_Select, limb_Mul, limb_Cmp

/-! The reference's. -/
abbrev M2 := Num × Num × Unit
/-- Few digits. -/
def Fw (n : Nat) : Prop := (dg n).length ≤ 1048576
def halved (m a : Nat) : Nat := if a % 2 = 1 then (a + m) / 2 else a / 2
def halvedN (m : Nat) : Nat → Nat → Nat
  | 0, a => a
  | n + 1, a => halved m (halvedN m n a)
--STOP Fw
def resN (m a : Nat) : Nat := halvedN m 256 (a % m)
--STOP resN
def spH : Specs := (26, R1.nMod) :: R1.spN
def nHalved : SpecF := fspec (α := M2) (β := Num) (fun a => some (Fw a.1.n ∧ Fw a.2.1.n)) (fun a => ⟨halved a.2.1.n a.1.n⟩)
def iRes (a m : Nat) (x : Nat) (i : Int) : Prop := 0 ≤ i ∧ i ≤ 256 ∧ x = halvedN m i.toNat (a % m)
def lRes : Plan := { loops := [(0, { β := Num × Num × Unit, α := Num × Int × Unit, same := [0, 1], keep := [5, 6], inv := fun b _ x => iRes b.1.n b.2.1.n x.1.n x.2.1, meas := fun _ x => (256 - x.2.1).toNat })] }
def nResidue : SpecF := fspec (α := M2) (β := Num) (fun a => some (Fw a.1.n ∧ Fw a.2.1.n ∧ 0 < a.2.1.n)) (fun a => ⟨resN a.2.1.n a.1.n⟩)
def nNumeral : SpecF := fspec (α := M2) (β := Num) (fun a => some (Fw a.1.n ∧ Fw a.2.1.n ∧ 0 < a.2.1.n)) (fun a => ⟨a.1.n * 2 ^ Int.toNat 256 % a.2.1.n⟩)
def nSub3 : SpecF := fspec (α := Num × Num × Num × Unit) (β := Num) (fun a => some (Fw a.1.n ∧ Fw a.2.1.n ∧ Fw a.2.2.1.n ∧ 0 < a.2.2.1.n ∧ a.2.1.n ≤ a.1.n + a.2.2.1.n)) (fun a => ⟨(a.1.n + a.2.2.1.n - a.2.1.n) % a.2.2.1.n⟩)

/-! The laws. -/
def spO1 : Specs := spL0
def sOddT : SpecF := fspec (α := Four × Unit) (fun a => some (goodM a.1 = true)) (fun _ => true)
def sOddF : SpecF := fspec (α := Four × Unit) (fun a => some (goodM a.1 = false)) (fun _ => false)
def spRg : Specs := [(1000000, Sym.sNo), (52, sReduce), (21, sWideR), (49, sIn), (59, sOut), (56, sPlusR), (48, sMinusR), (54, sMulR)]
abbrev sAwake3 : SpecF := fspec (α := Unit) total fun _ => true
def spR3 : Specs := (1000003, Sym.sNo) :: (1000005, Sym.sNo) :: (1000008, Sym.sNo) :: (1000007, Sym.sNo) :: (1000009, Sym.sNo) :: (spRg ++ spH)
def spR3T : Specs := (46, sNewG) :: (1000004, Sym.sNo) :: spR3
def spR3F : Specs := (46, sNewN) :: (1000004, Sym.sNo) :: spR3
def dRed : Dec := dT [(15, 3), (15, 13), (15, 24)]
def dNum : Dec := dT [(10, 8), (10, 15), (10, 28), (10, 42), (10, 55)]
end Go.Proofs.YtficbeeoafiiaaaGreatDoor
/- As fn_okL, the table chosen by the arguments. -/
set_option maxRecDepth 10000
namespace Go.Sym
open Go.RowKit
/-- As fn_okL, with the table of callees chosen by the arguments. -/
theorem fn_okS [GLob] {P : Program} {tt : TT} {α β : Type} [Args α] [RetL β] (hm : P.follows .mixedOrders = true) (hT : TTOK P tt) (fuel : Nat) {f : FuncId} {fn : Func} (hf : P.funcs[f]? = some fn) (hname : (fn.name == "runtime.NumGoroutine") = false) (hb : fn.body.isSome = true) {pre : α → Option Prop} {g : α → β}
    (H : ∀ a, Ok (pre a) → ∃ sp, SpecsOK P sp ∧ ∃ D L, ∃ Q : SV → Prop, LnVD tt sp fuel D L fn Q a ∧ ∀ x, Q x → ∀ (at_ : At) (w : World) (v : Value), Rel at_ w x v → Rel at_ w (retSV (RetL.retL (g a))) v) : SpecOK P f (fspec pre g) := by
  obtain ⟨c, hc⟩ := Option.isSome_iff_exists.1 hb
  intro at_ w svs vs pr r hat hout hgl hs hp hr
  unfold fspec at hs
  split at hs
  · rename_i a ha
    simp only [Option.some.injEq, Prod.mk.injEq] at hs
    obtain ⟨rfl, rfl⟩ := hs
    have hrun : (callFunc f (List.toArray vs)).run P w = .ok (.enter f (List.toArray vs)) w := by
      have h1 : fn.name ≠ "runtime.NumGoroutine" := by simpa using hname
      simp [callFunc, hf, h1, hc]
    rw [hrun]
    obtain ⟨sp, hS, D, L, Q, ⟨h⟩, hQ⟩ := H a hp
    unfold LnRaw at h
    rw [hc] at h
    refine (calls_of_awp hm hT hS hf hc (fun B _ _ hcl => vcl_ok hm hT hS hcl c 0 _ _ h) (Args.nn a) hat hout hgl (Args.ok ha hr)).mono ?_
    rintro e w' ⟨v, h1, r', h2, h3, h4⟩
    exact ⟨v, h1, hQ _ h2 _ _ _ h3, h4⟩
  · cases hs
end Go.Sym
/- Layer 3's laws (without powers): what is to be shown of their bodies is so. -/
set_option maxRecDepth 10000
namespace Go.Proofs.YtficbeeoafiiaaaGreatDoor
open Go.Sym Go.Dig

theorem spH_ok : SpecsOK Tryz.prog spH := .cons R1.ok_nMod R1.spN_ok
theorem lenC {n : Nat} (h : n < 115792089237316195423570985008687907853269984665640564039457584007913129639936 * 115792089237316195423570985008687907853269984665640564039457584007913129639936 * 115792089237316195423570985008687907853269984665640564039457584007913129639936) : (dg n).length ≤ 32 := R1.dlen 32 (Nat.lt_of_lt_of_le h (by decide +kernel))
theorem Fw.sm {n : Nat} (h : Fw n) : R1.Sm n := Nat.le_trans h (by omega)
theorem FwC {n : Nat} (h : n < 115792089237316195423570985008687907853269984665640564039457584007913129639936 * 115792089237316195423570985008687907853269984665640564039457584007913129639936 * 115792089237316195423570985008687907853269984665640564039457584007913129639936) : Fw n := Nat.le_trans (lenC h) (by omega)
theorem Fw4 (a : Four) : Fw (nat4 a) := FwC (by have := nat4_lt a; omega)
theorem dg_len_add {n m k : Nat} (h : (dg n).length ≤ k) (h' : (dg m).length ≤ k) : (dg (n + m)).length ≤ k + 1 := by
  refine dg_length_lt ?_
  have h1 := Nat.lt_of_lt_of_le (lt_of_dg_length n) (Nat.pow_le_pow_right (show 0 < 16777216 by omega) h)
  have h2 := Nat.lt_of_lt_of_le (lt_of_dg_length m) (Nat.pow_le_pow_right (show 0 < 16777216 by omega) h')
  rw [Nat.pow_succ]
  omega

/-! Halves. -/
theorem half_of {m x a : Nat} (h : m % 2 = 1) (hx : x < m) (e : x * 2 % m = a % m) : x = a * hf m % m := by
  have h1 : x * (2 * hf m) % m = a * hf m % m := by rw [← Nat.mul_assoc, Nat.mul_mod, e, ← Nat.mul_mod]
  rw [Nat.mul_mod, two_hf h, ← Nat.mul_mod, Nat.mul_one, Nat.mod_eq_of_lt hx] at h1
  exact h1
theorem halved_lt {m a : Nat} (ha : a < m) : halved m a < m := by unfold halved; split <;> omega
theorem halvedN_zero (m a : Nat) : halvedN m (Int.toNat 0) a = a := by rw [Int.toNat_zero]; rfl
theorem halvedN_lt {m a : Nat} (ha : a < m) : ∀ n, halvedN m n a < m
  | 0 => ha
  | n + 1 => halved_lt (halvedN_lt ha n)
theorem halved_eq {m a : Nat} (h : m % 2 = 1) (ha : a < m) : halved m a = a * hf m % m := by
  refine half_of h (halved_lt ha) ?_
  unfold halved
  split
  · rw [show (a + m) / 2 * 2 = a + m by omega, Nat.add_mod_right]
  · rw [show a / 2 * 2 = a by omega]
theorem halvedN_eq {m a : Nat} (h : m % 2 = 1) (ha : a < m) : ∀ n, halvedN m n a = a * hf m ^ n % m
  | 0 => by rw [Nat.pow_zero, Nat.mul_one, Nat.mod_eq_of_lt ha]; rfl
  | n + 1 => by
    have e : halvedN m (n + 1) a = halved m (halvedN m n a) := rfl
    rw [e, halved_eq h (halvedN_lt ha n), halvedN_eq h ha n, mod_mul_l, Nat.mul_assoc, ← Nat.pow_succ]
theorem residue_eq {m : Nat} (h : m % 2 = 1) (a : Nat) : resN m a = unR m a := by
  unfold resN
  rw [halvedN_eq h (Nat.mod_lt _ (by omega)), ← unR_mod]; rfl

theorem ok_nHalved : SpecOK Tryz.prog 1000004 Sym.sNo := Sym.sNo_ok _ _
theorem ok_nResidue : SpecOK Tryz.prog 1000006 Sym.sNo := Sym.sNo_ok _ _
theorem ok_nNumeral : SpecOK Tryz.prog 1000005 Sym.sNo := Sym.sNo_ok _ _
theorem ok_nSub3 : SpecOK Tryz.prog 1000007 Sym.sNo := Sym.sNo_ok _ _
/-! odd, awake. -/
theorem odd_eq (m : Four) : goodM m = ((m.w0 % UInt64.ofNat (Int.toNat 2) == UInt64.ofNat (Int.toNat 1)) && !(eq4 m ⟨1, 0, 0, 0⟩)) := by
  unfold goodM
  congr 1
  have h1 := and_one m.w0
  have h2 : (m.w0 % UInt64.ofNat (Int.toNat 2)).toNat = m.w0.toNat % 2 := by rw [UInt64.toNat_mod]; rfl
  rw [Bool.eq_iff_iff]
  simp only [Bool.not_eq_true', beq_eq_false_iff_ne, beq_iff_eq, ne_eq, ← UInt64.toNat_inj, h1, h2]
  rw [show (0 : UInt64).toNat = 0 from rfl, show (UInt64.ofNat (Int.toNat 1)).toNat = 1 from rfl]
  omega
theorem ok_OddT : SpecOK Tryz.prog 1000003 Sym.sNo := Sym.sNo_ok _ _
theorem ok_OddF : SpecOK Tryz.prog 1000003 Sym.sNo := Sym.sNo_ok _ _
theorem spRg_ok : SpecsOK Tryz.prog spRg := .cons ok_Modulus <| .cons ok_Reduce <| .cons ok_WideR <| .cons ok_In <| .cons ok_Out <| .cons ok_PlusR <| .cons ok_MinusR <| .cons ok_MulR <| .nil _
theorem ok_Awake3 : SpecOK Tryz.prog 1000002 Sym.sNo := Sym.sNo_ok _ _
theorem spR3_ok : SpecsOK Tryz.prog spR3 := .cons ok_Awake3 <| .cons ok_nOf <| .cons ok_nResidue <| .cons ok_nNumeral <| .cons ok_nSub3 <| SpecsOK.append spRg_ok spH_ok
theorem spR3T_ok : SpecsOK Tryz.prog spR3T := .cons ok_NewG <| .cons ok_OddT spR3_ok
theorem spR3F_ok : SpecsOK Tryz.prog spR3F := .cons ok_NewN <| .cons ok_OddF spR3_ok

/-! The laws. -/
theorem nat8_wvs (x : Eight) : nat8 x = R1.wv [x.e0, x.e1, x.e2, x.e3, x.e4, x.e5, x.e6, x.e7] := by simp only [R1.wv, nat8]; omega
theorem nat8_lt (w : Eight) : nat8 w < 115792089237316195423570985008687907853269984665640564039457584007913129639936 * 115792089237316195423570985008687907853269984665640564039457584007913129639936 * 115792089237316195423570985008687907853269984665640564039457584007913129639936 := by
  have := u64_lt w.e0; have := u64_lt w.e1; have := u64_lt w.e2; have := u64_lt w.e3; have := u64_lt w.e4; have := u64_lt w.e5; have := u64_lt w.e6; have := u64_lt w.e7
  simp only [nat8]; omega
/-- A difference, by 2^256. -/
theorem sub_scale {m x y A C k : Nat} (h : 0 < m) (hx : A * k % m = x % m) (hy : C * k % m = y % m) (hle : C ≤ A + m) : (x % m + m - y % m) % m = (A + m - C) * k % m := by
  have ly := Nat.mod_lt y h
  have h1 : ((A + m - C) * k + y % m) % m = (x % m + m) % m := by
    rw [← hy, mod_add_r, ← Nat.add_mul, show A + m - C + C = A + m by omega, Nat.add_mul, Nat.add_mul_mod_self_left, hx, Nat.add_mod_right, Nat.mod_mod]
  have h2 : (x % m + m - y % m + y % m) % m = ((A + m - C) * k + y % m) % m := by rw [h1, show x % m + m - y % m + y % m = x % m + m by omega]
  have h3 := Nat.mod_lt (x % m + m - y % m) h
  have h4 := Nat.mod_lt ((A + m - C) * k) h
  have h3 : (x % m + m - y % m + y % m + (m - y % m)) % m = ((A + m - C) * k + y % m + (m - y % m)) % m := by rw [← mod_add_l, h2, mod_add_l]
  rw [Nat.add_assoc, Nat.add_assoc, show y % m + (m - y % m) = m by omega, Nat.add_mod_right, Nat.add_mod_right] at h3
  exact h3
theorem fourN_of {x : Four} {n : Nat} (h : nat4 x = n) : x = R1.fourN n := four_eq (by rw [← h, Nat.mod_eq_of_lt (nat4_lt x)])
abbrev sReduces : SpecF := fspec (α := Four × Four × Eight × Unit) total fun _ => true
theorem ok_Reduces : SpecOK Tryz.prog 1000001 Sym.sNo := Sym.sNo_ok _ _
abbrev sNumerals : SpecF := fspec (α := Four × Four × Four × Unit) total fun _ => true
theorem ok_Numerals : SpecOK Tryz.prog 1000000 Sym.sNo := Sym.sNo_ok _ _
end Go.Proofs.YtficbeeoafiiaaaGreatDoor
/- Layer 3's reference: rests by Barrett's way, powers: what their bodies come to. -/
set_option maxRecDepth 10000
namespace Go.Proofs.YtficbeeoafiiaaaGreatDoor
open Go.Sym Go.Dig

--STOP R1.Sm, Fw

/-- A modulus and what is by it. -/
structure FastV where
  m : Nat
  mu : Nat
instance : Enc FastV where
  enc f := .agg [.lst (.num f.m), .lst (.num f.mu)]
  dec | .agg [x, y] => match Enc.dec (α := Num) x, Enc.dec (α := Num) y with
        | some a, some b => some ⟨a.n, b.n⟩
        | _, _ => none
      | _ => none
  ok := by
    intro s a h at_ w v r
    split at h
    · split at h
      · rename_i a b ha hb
        simp only [Option.some.injEq] at h; subst h
        simp only [Rel, RelL] at r
        obtain ⟨vs, rfl, u1, us, rfl, h1, u2, us2, rfl, h2, rfl⟩ := r
        simp only [Rel]
        exact ⟨_, rfl, RelL.cons (Enc.ok ha h1) (RelL.cons (Enc.ok hb h2) RelL.nil)⟩
      · cases h
    · cases h
  nn _ := rfl
/-- A loop's own. -/
structure PFast where
  v : FastV
def dFastC : List SV → Option FastV
  | [.lst (.num a), .lst (.num b)] => some ⟨a, b⟩
  | _ => none
theorem dFastC_ok {cs : List SV} {f : FastV} (h : dFastC cs = some f) : cs = [.lst (.num f.m), .lst (.num f.mu)] := by
  unfold dFastC at h
  split at h
  · simp only [Option.some.injEq] at h; subst h; rfl
  · cases h
instance : LEnc PFast where
  kind := none
  enc nx a := (.ptr nx 0, [[.lst (.num a.v.m), .lst (.num a.v.mu)]])
  dec nx s M := match s, M with
    | .ptr b 0, some cs :: M' => if b = nx then (dFastC cs).map fun r => (none, ⟨r⟩, M') else none
    | _, _ => none
  all P := ∀ v, P ⟨v⟩
  all_ok h a := h a.v
  ok := by
    intro nx s M p a M' h hp
    split at h
    · split at h
      · rename_i hb
        obtain ⟨r, h1, h2⟩ := Option.map_eq_some_iff.1 h
        simp only [Prod.mk.injEq] at h2
        obtain ⟨_, rfl, rfl⟩ := h2
        subst hb
        rw [dFastC_ok h1]
        exact ⟨rfl, fun r => r⟩
      · cases h
    · cases h
def muN (m : Nat) : Nat := 2 ^ (48 * (dg m).length) / m
def Fz (n : Nat) : Prop := (dg n).length ≤ 4194304
def spQ : Specs := (66, R1.nDiv) :: (26, R1.nMod) :: R1.spN
theorem vcQuick (m : Nat) (Q : SV → Prop) : LnRaw tt spQ 3 [] {} Tryz.f34 Q ((⟨m⟩ : Num), ()) =
 ((((0 : Int) ≤ IntKind.wrap IntKind.i64 ((48 : Int) * (↑(List.length (dg m)) : Int))) ∧ (IntKind.wrap IntKind.i64 ((48 : Int) * (↑(List.length (dg m)) : Int)) ≤ (1073741824 : Int))) ∧ (((List.length (dg ((2 : Nat) ^ Int.toNat (IntKind.wrap IntKind.i64 ((48 : Int) * (↑(List.length (dg m)) : Int))))) ≤ (536870912 : Nat)) ∧ ((List.length (dg m) ≤ (536870912 : Nat)) ∧ ((0 : Nat) < m))) ∧ (Q (SV.agg [SV.lst (LV.num m), SV.lst (LV.num ((2 : Nat) ^ Int.toNat (IntKind.wrap IntKind.i64 ((48 : Int) * (↑(List.length (dg m)) : Int))) / m))])))) := by kernel_rfl
def nQuick : SpecF := fspec (α := Num × Unit) (β := FastV) (fun a => some (Fw a.1.n ∧ 0 < a.1.n)) (fun a => ⟨a.1.n, muN a.1.n⟩)
theorem vcUpperA (a : Nat) (k : Int) (Q : SV → Prop) : LnRaw tt spQ 3 [(1, 3, .b true)] {} Tryz.f98 Q ((⟨a⟩ : Num), k, ()) =
 ((decide (k ≥ (↑(List.length (dg a)) : Int)) = true) ∧ (Q (SV.val (Value.slice none (0 : Nat) (0 : Nat))))) := by kernel_rfl
theorem vcUpperB (a : Nat) (k : Int) (Q : SV → Prop) : LnRaw tt spQ 3 [(1, 3, .b false)] {} Tryz.f98 Q ((⟨a⟩ : Num), k, ()) =
 ((decide (k ≥ (↑(List.length (dg a)) : Int)) = false) ∧ ((((0 : Int) ≤ k) ∧ ((k ≤ (↑(List.length (dg a)) : Int)) ∧ ((↑(List.length (dg a)) : Int) ≤ (↑(List.length (dg a)) : Int)))) ∧ (Q (SV.lst (LV.ints (List.drop (Int.toNat k) (List.take (Int.toNat (↑(List.length (dg a)) : Int)) (dg a)))))))) := by kernel_rfl
def nUpper : SpecF := fspec (α := Num × Int × Unit) (β := Num) (fun a => some (R1.Sm a.1.n ∧ 0 ≤ a.2.1)) (fun a => ⟨a.1.n / 16777216 ^ a.2.1.toNat⟩)
def spQ2 : Specs := (98, nUpper) :: spQ
def iRed3 (m mu a : Nat) (f : FastV) (x : Nat) : Prop := f = ⟨m, mu⟩ ∧ x % m = a % m ∧ Fz x
def lRed3 (m mu a : Nat) : Plan := { loops := [(0, { β := Unit, α := PFast × Num × Unit, same := [], keep := [2, 7], inv := fun _ _ x => iRed3 m mu a x.1.v x.2.1.n, meas := fun _ x => x.2.1.n })] }
theorem vcRedA (f : FastV) (a : Nat) (Q : SV → Prop) : LnRaw tt spQ2 3 [(2, 4, .b true)] {} Tryz.f73 Q (f, (⟨a⟩ : Num), ()) =
 ((decide ((↑(List.length (dg a)) : Int) > IntKind.wrap IntKind.i64 ((2 : Int) * (↑(List.length (dg (FastV.m f))) : Int))) = true) ∧ (((List.length (dg a) ≤ (536870912 : Nat)) ∧ ((List.length (dg (FastV.m f)) ≤ (536870912 : Nat)) ∧ ((0 : Nat) < FastV.m f))) ∧ (Q (SV.lst (LV.num (a % FastV.m f)))))) := by kernel_rfl
theorem vcRedB (f : FastV) (a : Nat) (Q : SV → Prop) : LnRaw tt spQ2 3 [(2, 4, .b false)] (lRed3 f.m f.mu a) Tryz.f73 Q (f, (⟨a⟩ : Num), ()) =
 ((decide ((↑(List.length (dg a)) : Int) > IntKind.wrap IntKind.i64 ((2 : Int) * (↑(List.length (dg (FastV.m f))) : Int))) = false) ∧ (((R1.Sm a) ∧ ((0 : Int) ≤ IntKind.wrap IntKind.i64 ((↑(List.length (dg (FastV.m f))) : Int) - (1 : Int)))) ∧ (((R1.Sm (a / (16777216 : Nat) ^ Int.toNat (IntKind.wrap IntKind.i64 ((↑(List.length (dg (FastV.m f))) : Int) - (1 : Int))))) ∧ (R1.Sm (FastV.mu f))) ∧ (((R1.Sm (a / (16777216 : Nat) ^ Int.toNat (IntKind.wrap IntKind.i64 ((↑(List.length (dg (FastV.m f))) : Int) - (1 : Int))) * FastV.mu f)) ∧ ((0 : Int) ≤ IntKind.wrap IntKind.i64 ((↑(List.length (dg (FastV.m f))) : Int) + (1 : Int)))) ∧ (((R1.Sm (a / (16777216 : Nat) ^ Int.toNat (IntKind.wrap IntKind.i64 ((↑(List.length (dg (FastV.m f))) : Int) - (1 : Int))) * FastV.mu f / (16777216 : Nat) ^ Int.toNat (IntKind.wrap IntKind.i64 ((↑(List.length (dg (FastV.m f))) : Int) + (1 : Int))))) ∧ (R1.Sm (FastV.m f))) ∧ (((R1.Sm a) ∧
 ((a / (16777216 : Nat) ^ Int.toNat (IntKind.wrap IntKind.i64 ((↑(List.length (dg (FastV.m f))) : Int) - (1 : Int))) * FastV.mu f / (16777216 : Nat) ^ Int.toNat (IntKind.wrap IntKind.i64 ((↑(List.length (dg (FastV.m f))) : Int) + (1 : Int))) * FastV.m f ≤ a) ∧ (R1.Sm (a / (16777216 : Nat) ^ Int.toNat (IntKind.wrap IntKind.i64 ((↑(List.length (dg (FastV.m f))) : Int) - (1 : Int))) * FastV.mu f / (16777216 : Nat) ^ Int.toNat (IntKind.wrap IntKind.i64 ((↑(List.length (dg (FastV.m f))) : Int) + (1 : Int))) * FastV.m f)))) ∧ ((iRed3 (FastV.m f) (FastV.mu f) a f (a - a / (16777216 : Nat) ^ Int.toNat (IntKind.wrap IntKind.i64 ((↑(List.length (dg (FastV.m f))) : Int) - (1 : Int))) * FastV.mu f / (16777216 : Nat) ^ Int.toNat (IntKind.wrap IntKind.i64 ((↑(List.length (dg (FastV.m f))) : Int) + (1 : Int))) * FastV.m f)) ∧ (∀ v : FastV, (∀ a_1 : Num, ((iRed3 (FastV.m f) (FastV.mu f) a v (Num.n a_1)) → (((R1.Sm (Num.n a_1)) ∧ (R1.Sm (FastV.m v))) ∧
 bcase (decide (R1.cmpN (Num.n a_1) (FastV.m v) ≥ (0 : Int))) ((((R1.Sm (Num.n a_1)) ∧ ((FastV.m v ≤ Num.n a_1) ∧ (R1.Sm (FastV.m v)))) ∧ ((() = ()) ∧ ((iRed3 (FastV.m f) (FastV.mu f) a v (Num.n a_1 - FastV.m v)) ∧ (Num.n a_1 - FastV.m v < Num.n a_1))))) ((Q (SV.lst (LV.num (Num.n a_1)))))))))))))))) := by kernel_rfl
def nRed3 : SpecF := fspec (α := FastV × Num × Unit) (β := Num) (fun a => some (a.1.mu = muN a.1.m ∧ 0 < a.1.m ∧ Fw a.1.m ∧ Fz a.2.1.n)) (fun a => ⟨a.2.1.n % a.1.m⟩)
def spQ3 : Specs := (73, nRed3) :: spQ2
theorem vcFMul (f : FastV) (a b : Nat) (Q : SV → Prop) : LnRaw tt spQ3 3 [] {} Tryz.f37 Q (f, (⟨a⟩ : Num), (⟨b⟩ : Num), ()) =
 (((R1.Sm a) ∧ (R1.Sm b)) ∧ (((FastV.mu f = muN (FastV.m f)) ∧ (((0 : Nat) < FastV.m f) ∧ ((Fw (FastV.m f)) ∧ (Fz (a * b))))) ∧ (Q (SV.lst (LV.num (a * b % FastV.m f)))))) := by kernel_rfl
def nFMul3 : SpecF := fspec (α := FastV × Num × Num × Unit) (β := Num) (fun a => some (a.1.mu = muN a.1.m ∧ 0 < a.1.m ∧ Fw a.1.m ∧ Fw a.2.1.n ∧ Fw a.2.2.1.n)) (fun a => ⟨a.2.1.n * a.2.2.1.n % a.1.m⟩)
def spQ4 : Specs := (37, nFMul3) :: spQ3
def iExp3 (f0 : FastV) (a e : Nat) (f : FastV) (out : Nat) (i : Int) : Prop := f = f0 ∧ -1 ≤ i ∧ i < (R1.bitsN e : Nat) ∧ out = a ^ (e / 2 ^ (i + 1).toNat) % f0.m
def lExp3 (f0 : FastV) (a e : Nat) : Plan := { loops := [(0, { β := Num × Num × Unit, α := PFast × Num × Int × Unit, same := [1, 2], keep := [3, 7, 8], inv := fun _ _ x => iExp3 f0 a e x.1.v x.2.1.n x.2.2.1, meas := fun _ x => (x.2.2.1 + 1).toNat })] }
theorem vcFExp (f : FastV) (a e : Nat) (Q : SV → Prop) : LnRaw tt spQ4 3 [] (lExp3 f a e) Tryz.f75 Q (f, (⟨a⟩ : Num), (⟨e⟩ : Num), ()) =
 (((FastV.mu f = muN (FastV.m f)) ∧ (((0 : Nat) < FastV.m f) ∧ ((Fw (FastV.m f)) ∧ (Fz (Int.toNat (1 : Int)))))) ∧ ((R1.Sm e) ∧ ((iExp3 f a e f (Int.toNat (1 : Int) % FastV.m f) (IntKind.wrap IntKind.i64 ((↑(R1.bitsN e) : Int) - (1 : Int)))) ∧ (∀ v : FastV, (∀ a_1 : Num, (∀ a_2 : Int, ((iExp3 f a e v (Num.n a_1) a_2) → bcase (decide (a_2 ≥ (0 : Int))) ((((FastV.mu v = muN (FastV.m v)) ∧ (((0 : Nat) < FastV.m v) ∧ ((Fw (FastV.m v)) ∧ ((Fw (Num.n a_1)) ∧ (Fw (Num.n a_1)))))) ∧ (((R1.Sm e) ∧ (((0 : Int) ≤ a_2) ∧ (a_2 ≤ (1073741824 : Int)))) ∧ bcase ((↑(e / (2 : Nat) ^ Int.toNat a_2 % (2 : Nat)) : Int) == (1 : Int)) ((((FastV.mu v = muN (FastV.m v)) ∧ (((0 : Nat) < FastV.m v) ∧ ((Fw (FastV.m v)) ∧ ((Fw (Num.n a_1 * Num.n a_1 % FastV.m v)) ∧ (Fw a))))) ∧ (((Num.mk a, Num.mk e, ()) = (Num.mk a, Num.mk e, ())) ∧ ((iExp3 f a e v (Num.n a_1 * Num.n a_1 % FastV.m v * a % FastV.m v) (IntKind.wrap IntKind.i64 (a_2 - (1 : Int)))) ∧
 (Int.toNat (IntKind.wrap IntKind.i64 (a_2 - (1 : Int)) + (1 : Int)) < Int.toNat (a_2 + (1 : Int))))))) ((((Num.mk a, Num.mk e, ()) = (Num.mk a, Num.mk e, ())) ∧ ((iExp3 f a e v (Num.n a_1 * Num.n a_1 % FastV.m v) (IntKind.wrap IntKind.i64 (a_2 - (1 : Int)))) ∧ (Int.toNat (IntKind.wrap IntKind.i64 (a_2 - (1 : Int)) + (1 : Int)) < Int.toNat (a_2 + (1 : Int))))))))) ((Q (SV.lst (LV.num (Num.n a_1)))))))))))) := by kernel_rfl
def nFExp3 : SpecF := fspec (α := FastV × Num × Num × Unit) (β := Num) (fun a => some (a.1.mu = muN a.1.m ∧ 0 < a.1.m ∧ Fw a.1.m ∧ Fw a.2.1.n ∧ Fw a.2.2.1.n)) (fun a => ⟨a.2.1.n ^ a.2.2.1.n % a.1.m⟩)
def spQ5 : Specs := (75, nFExp3) :: (34, nQuick) :: spQ4
def nExp3 : SpecF := fspec (α := Num × Num × Num × Unit) (β := Num) (fun a => some (Fw a.1.n ∧ Fw a.2.1.n ∧ Fw a.2.2.1.n ∧ 0 < a.2.2.1.n)) (fun a => ⟨a.1.n ^ a.2.1.n % a.2.2.1.n⟩)
def spQ6 : Specs := (1000000, Sym.sNo) :: spQ5
def nInv3 : SpecF := fspec (α := Num × Num × Unit) (β := Num) (fun a => some (Fw a.1.n ∧ Fw a.2.1.n ∧ 2 ≤ a.2.1.n)) (fun a => ⟨a.1.n ^ (a.2.1.n - 2) % a.2.1.n⟩)
end Go.Proofs.YtficbeeoafiiaaaGreatDoor
/- Layer 3's reference: rests by Barrett's way, powers: what their bodies come to is so. -/
set_option maxRecDepth 10000
namespace Go.Proofs.YtficbeeoafiiaaaGreatDoor
open Go.Sym Go.Dig

theorem spQ_ok : SpecsOK Tryz.prog spQ := .cons R1.ok_nDiv spH_ok
theorem dg_drop (n : Nat) : ∀ k, (dg n).drop k = dg (n / 16777216 ^ k)
  | 0 => by rw [Nat.pow_zero, Nat.div_one]; rfl
  | k + 1 => by
    by_cases h : n = 0
    · subst h; rw [Nat.zero_div, dg_zero]; rfl
    · rw [dg_pos (by omega), List.drop_succ_cons, dg_drop (n / 16777216) k, Nat.div_div_eq_div_mul, Nat.pow_succ, Nat.mul_comm]
theorem fin_same {y : SV} (x : SV) (h : (fun x => x = y) x) (at_ : At) (w : World) (v : Value) (r : Rel at_ w x v) : Rel at_ w y v := by have h' : x = y := h; subst h'; exact r
theorem ok_nQuick : SpecOK Tryz.prog 34 nQuick := by
  refine fn_okL (by kernel_rfl) tt_ok spQ_ok 3 Tryz.func34 (by decide +kernel) (by kernel_rfl) ?_
  rintro ⟨⟨m⟩, _⟩ ⟨hm, h0⟩
  simp only at hm h0
  refine ⟨[], {}, fun x => x = .agg [.lst (.num m), .lst (.num (muN m))], LnVD.of (vcQuick m _) ?_, fin_same⟩
  have hm' : (dg m).length ≤ 1048576 := hm
  rw [R1.wr (by omega), show ((48 : Int) * ((dg m).length : Int)).toNat = 48 * (dg m).length by omega]
  have hp : (dg (2 ^ (48 * (dg m).length))).length ≤ 2097153 := by
    refine R1.dlen2 (K := 48 * (dg m).length + 1) ?_ (by omega)
    rw [Nat.pow_succ]
    have := Nat.two_pow_pos (48 * (dg m).length)
    omega
  exact ⟨⟨by omega, by omega⟩, ⟨Nat.le_trans hp (by omega), by omega, h0⟩, rfl⟩
theorem ok_nUpper : SpecOK Tryz.prog 98 nUpper := by
  refine fn_okL (by kernel_rfl) tt_ok spQ_ok 3 Tryz.func98 (by decide +kernel) (by kernel_rfl) ?_
  rintro ⟨⟨a⟩, k, _⟩ ⟨ha, hk⟩
  simp only at ha hk
  by_cases h : k ≥ ((dg a).length : Int)
  · refine ⟨_, {}, isNum (a / 16777216 ^ k.toNat), LnVD.of (vcUpperA a k _) ⟨decide_eq_true h, .inr (.inr ⟨?_, rfl⟩)⟩, fun x h at_ w v r => isNum_ok h r⟩
    exact Nat.div_eq_of_lt (Nat.lt_of_lt_of_le (lt_of_dg_length a) (Nat.pow_le_pow_right (by omega) (by omega)))
  · refine ⟨_, {}, isNum (a / 16777216 ^ k.toNat), LnVD.of (vcUpperB a k _) ⟨decide_eq_false h, ⟨hk, by omega, by omega⟩, .inr (.inl ?_)⟩, fun x h at_ w v r => isNum_ok h r⟩
    rw [Int.toNat_natCast, List.take_length, dg_drop]
theorem spQ2_ok : SpecsOK Tryz.prog spQ2 := .cons ok_nUpper spQ_ok
/-- Barrett: not too much. -/
theorem barrett_le (a m k : Nat) (hk : 1 ≤ k) : a / 16777216 ^ (k - 1) * (2 ^ (48 * k) / m) / 16777216 ^ (k + 1) * m ≤ a := by
  have e : (2 : Nat) ^ (48 * k) = 16777216 ^ (k - 1) * 16777216 ^ (k + 1) := by
    rw [← Nat.pow_add, show (16777216 : Nat) = 2 ^ 24 from rfl, ← Nat.pow_mul]
    congr 1; omega
  have hB : 0 < 16777216 ^ (k + 1) := Nat.pow_pos (by omega)
  refine Nat.le_of_mul_le_mul_right (c := 16777216 ^ (k + 1)) ?_ hB
  have h1 := Nat.div_mul_le_self (a / 16777216 ^ (k - 1) * (2 ^ (48 * k) / m)) (16777216 ^ (k + 1))
  have h2 := Nat.div_mul_le_self (2 ^ (48 * k)) m
  have h3 := Nat.div_mul_le_self a (16777216 ^ (k - 1))
  generalize a / 16777216 ^ (k - 1) = x at *
  generalize 2 ^ (48 * k) / m = u at *
  generalize x * u / 16777216 ^ (k + 1) = q at *
  rw [e] at h2
  generalize 16777216 ^ (k + 1) = C at *
  generalize 16777216 ^ (k - 1) = A at *
  calc q * m * C = q * C * m := by rw [Nat.mul_assoc, Nat.mul_comm m, ← Nat.mul_assoc]
    _ ≤ x * u * m := Nat.mul_le_mul_right _ h1
    _ = x * (u * m) := Nat.mul_assoc ..
    _ ≤ x * (A * C) := Nat.mul_le_mul_left _ h2
    _ = x * A * C := (Nat.mul_assoc ..).symm
    _ ≤ a * C := Nat.mul_le_mul_right _ h3
theorem muN_len {m : Nat} (hm : Fw m) : (dg (muN m)).length ≤ 2097153 := by
  have hm' : (dg m).length ≤ 1048576 := hm
  refine Nat.le_trans (R1.dg_len_le (Nat.div_le_self _ _)) (R1.dlen2 (K := 48 * (dg m).length + 1) ?_ (by omega))
  rw [Nat.pow_succ]
  have := Nat.two_pow_pos (48 * (dg m).length)
  omega
theorem sub_mul_mod' {a q m : Nat} (h : q * m ≤ a) : (a - q * m) % m = a % m := by
  have e : a = (a - q * m) + q * m := by omega
  conv => rhs; rw [e, Nat.add_mul_mod_self_right]
theorem ok_nRed3 : SpecOK Tryz.prog 73 nRed3 := by
  refine fn_okL (by kernel_rfl) tt_ok spQ2_ok 3 Tryz.func73 (by decide +kernel) (by kernel_rfl) ?_
  rintro ⟨⟨m, mu⟩, ⟨a⟩, _⟩ ⟨hmu, h0, hm, ha⟩
  simp only at hmu h0 hm ha
  subst hmu
  have hm' : (dg m).length ≤ 1048576 := hm
  have ha' : (dg a).length ≤ 4194304 := ha
  have hk : 1 ≤ (dg m).length := by rw [dg_pos h0]; simp
  have w2 : IntKind.wrap .i64 ((2 : Int) * ((dg m).length : Int)) = 2 * ((dg m).length : Int) := R1.wr (by omega)
  by_cases h : ((dg a).length : Int) > 2 * ((dg m).length : Int)
  · refine ⟨_, {}, isNum (a % m), LnVD.of (vcRedA ⟨m, muN m⟩ a _) ⟨?_, ⟨by omega, by simp only; omega, h0⟩, .inl rfl⟩, fun x h at_ w v r => isNum_ok h r⟩
    simp only
    rw [w2]; exact decide_eq_true h
  · refine ⟨_, _, isNum (a % m), LnVD.of (vcRedB ⟨m, muN m⟩ a _) ?_, fun x h at_ w v r => isNum_ok h r⟩
    simp only
    rw [w2, R1.wr (x := ((dg m).length : Int) - 1) (by omega), R1.wr (x := ((dg m).length : Int) + 1) (by omega), show (((dg m).length : Int) - 1).toNat = (dg m).length - 1 by omega, show (((dg m).length : Int) + 1).toNat = (dg m).length + 1 by omega]
    have hmul := muN_len hm
    have hb := barrett_le a m (dg m).length hk
    have e : 2 ^ (48 * (dg m).length) / m = muN m := rfl
    rw [e] at hb
    have d1 : (dg (a / 16777216 ^ ((dg m).length - 1))).length ≤ 4194304 := Nat.le_trans (R1.dg_len_le (Nat.div_le_self _ _)) ha'
    have d2 := R1.dg_len_mul d1 hmul
    have d3 := Nat.le_trans (R1.dg_len_le (Nat.div_le_self (a / 16777216 ^ ((dg m).length - 1) * muN m) (16777216 ^ ((dg m).length + 1)))) d2
    have d4 := Nat.le_trans (R1.dg_len_le hb) ha'
    have hmod := sub_mul_mod' hb
    have s : ∀ {n : Nat}, (dg n).length ≤ 6291457 → R1.Sm n := fun h => Nat.le_trans h (by omega)
    refine ⟨decide_eq_false h, ⟨s (by omega), by omega⟩, ⟨s (by omega), s (by omega)⟩, ⟨s d2, by omega⟩, ⟨s d3, s (by omega)⟩, ⟨s (by omega), hb, s (by omega)⟩, ⟨rfl, hmod, Nat.le_trans (R1.dg_len_le (Nat.sub_le _ _)) ha'⟩, fun v x hx => ?_⟩
    obtain ⟨e1, e2, e3⟩ := hx
    obtain ⟨x⟩ := x
    simp only at e2 e3 ⊢
    have e3' : (dg x).length ≤ 4194304 := e3
    subst e1
    refine ⟨⟨s (by omega), s (by simp only; omega)⟩, ?_⟩
    rw [R1.bcase_dec]
    refine ⟨fun hc => ?_, fun hc => ?_⟩
    · have hle : m ≤ x := by
        by_cases h : x < m
        · rw [R1.cmpN_lt h] at hc; omega
        · omega
      refine ⟨⟨s (by omega), hle, s (by simp only; omega)⟩, trivial, ⟨rfl, ?_, Nat.le_trans (R1.dg_len_le (Nat.sub_le _ _)) e3⟩, by simp only; omega⟩
      rw [← e2]
      have := sub_mul_mod' (a := x) (q := 1) (m := m) (by omega)
      rw [Nat.one_mul] at this
      exact this
    · have hlt : x < m := by
        apply Nat.lt_of_not_le
        intro h
        rcases Nat.lt_or_eq_of_le h with h | h
        · rw [R1.cmpN_gt h] at hc; omega
        · subst h; rw [R1.cmpN_eq] at hc; omega
      rw [Nat.mod_eq_of_lt hlt] at e2
      exact .inl (by rw [e2])
theorem spQ3_ok : SpecsOK Tryz.prog spQ3 := .cons ok_nRed3 spQ2_ok
theorem ok_nFMul3 : SpecOK Tryz.prog 37 nFMul3 := by
  refine fn_okL (by kernel_rfl) tt_ok spQ3_ok 3 Tryz.func37 (by decide +kernel) (by kernel_rfl) ?_
  rintro ⟨⟨m, mu⟩, ⟨a⟩, ⟨b⟩, _⟩ ⟨hmu, h0, hm, ha, hb⟩
  simp only at hmu h0 hm ha hb
  exact ⟨[], {}, isNum (a * b % m), LnVD.of (vcFMul ⟨m, mu⟩ a b _) ⟨⟨ha.sm, hb.sm⟩, ⟨hmu, h0, hm, Nat.le_trans (R1.dg_len_mul ha hb) (by omega)⟩, .inl rfl⟩, fun x h at_ w v r => isNum_ok h r⟩
theorem spQ4_ok : SpecsOK Tryz.prog spQ4 := .cons ok_nFMul3 spQ3_ok
theorem bitsN_gt' {n k : Nat} : k < R1.bitsN n ↔ 2 ^ k ≤ n := by
  unfold R1.bitsN
  split
  · rename_i h
    subst h
    have := Nat.two_pow_pos k
    omega
  · rename_i h
    rw [← Nat.le_log2 h]; omega
theorem ok_nFExp3 : SpecOK Tryz.prog 75 nFExp3 := by
  refine fn_okL (by kernel_rfl) tt_ok spQ4_ok 3 Tryz.func75 (by decide +kernel) (by kernel_rfl) ?_
  rintro ⟨⟨m, mu⟩, ⟨a⟩, ⟨e⟩, _⟩ ⟨hmu, h0, hm, ha, he⟩
  simp only at hmu h0 hm ha he
  refine ⟨[], _, isNum (a ^ e % m), LnVD.of (vcFExp ⟨m, mu⟩ a e _) ?_, fun x h at_ w v r => isNum_ok h r⟩
  have key : ∀ k, (dg e).length ≤ k → R1.bitsN e ≤ 24 * k := fun k hk => by
    apply Nat.le_of_not_lt
    intro h
    have h1 := bitsN_gt'.1 h
    have h2 := Nat.lt_of_lt_of_le (lt_of_dg_length e) (Nat.pow_le_pow_right (show 0 < 16777216 by omega) hk)
    rw [show (16777216 : Nat) = 2 ^ 24 from rfl, ← Nat.pow_mul] at h2
    omega
  have hbits : R1.bitsN e ≤ 24 * 1048576 := key _ he
  rw [R1.wr (x := (R1.bitsN e : Int) - 1) (by omega)]
  have one : Fz (Int.toNat 1) := Nat.le_trans (R1.dlen 1 (by decide)) (by omega)
  refine ⟨⟨hmu, h0, hm, one⟩, he.sm, ⟨rfl, by omega, by omega, ?_⟩, fun v x i hx => ?_⟩
  · rw [show ((R1.bitsN e : Int) - 1 + 1).toNat = R1.bitsN e by omega]
    have : e < 2 ^ R1.bitsN e := by
      apply Nat.lt_of_not_le
      intro h
      have := bitsN_gt'.2 h
      omega
    rw [Nat.div_eq_of_lt this, Nat.pow_zero]; rfl
  · obtain ⟨x⟩ := x
    obtain ⟨e1, h1, h2, h3⟩ := hx
    simp only at h3 e1 ⊢
    subst e1
    simp only
    rw [R1.bcase_dec]
    refine ⟨fun hi => ?_, fun hi => ?_⟩
    · rw [R1.wr (x := i - 1) (by omega)]
      have fmod : ∀ n, Fw (n % m) := fun n => Nat.le_trans (R1.dg_len_le (Nat.le_of_lt (Nat.mod_lt n h0))) hm
      have hxl : Fw x := by rw [h3]; exact fmod _
      have st : ∀ b : Nat, b < 2 → e / 2 ^ i.toNat % 2 = b → x * x * (if b = 1 then a else 1) % m = a ^ (e / 2 ^ i.toNat) % m := fun b hb hb2 => by
        rw [bit_top' e i.toNat, hb2, pow_double' _ _ _ hb, h3, show (i + 1).toNat = i.toNat + 1 by omega, Nat.mul_mod, ← Nat.mul_mod (a ^ _) (a ^ _), ← Nat.mul_mod]
      refine ⟨⟨hmu, h0, hm, hxl, hxl⟩, ⟨he.sm, hi, by omega⟩, ?_⟩
      rw [R1.bcase_iff]
      refine ⟨fun hb => ⟨⟨hmu, h0, hm, fmod _, ha⟩, trivial, ⟨rfl, by omega, by omega, ?_⟩, by omega⟩, fun hb => ⟨trivial, ⟨rfl, by omega, by omega, ?_⟩, by omega⟩⟩
      · have hb' := eq_of_beq hb
        have s1 := st 1 (by omega) (by omega)
        rw [if_pos rfl] at s1
        rw [show (i - 1 + 1).toNat = i.toNat by omega, ← s1, mod_mul_l]
      · have hb' : e / 2 ^ i.toNat % 2 = 0 := by
          have := Nat.mod_lt (e / 2 ^ i.toNat) (show 0 < 2 by omega)
          apply Nat.le_zero.1
          apply Nat.le_of_not_lt
          intro hp
          rw [show e / 2 ^ i.toNat % 2 = 1 by omega] at hb
          simp at hb
        have s1 := st 0 (by omega) hb'
        rw [if_neg (by omega), Nat.mul_one] at s1
        rw [show (i - 1 + 1).toNat = i.toNat by omega, ← s1]
    · rw [show (i + 1).toNat = 0 by omega, Nat.pow_zero, Nat.div_one] at h3
      exact .inl (by rw [h3])
where
  bit_top' (n k : Nat) : n / 2 ^ k = 2 * (n / 2 ^ (k + 1)) + n / 2 ^ k % 2 := by
    rw [Nat.pow_succ, ← Nat.div_div_eq_div_mul]
    omega
  pow_double' (A k b : Nat) (h : b < 2) : A ^ (2 * k + b) = A ^ k * A ^ k * (if b = 1 then A else 1) := by
    rcases (show b = 0 ∨ b = 1 by omega) with rfl | rfl
    · rw [if_neg (by omega), Nat.mul_one, ← Nat.pow_add]; congr 1; omega
    · rw [if_pos rfl, ← Nat.pow_add, ← Nat.pow_succ]; congr 1; omega
theorem spQ5_ok : SpecsOK Tryz.prog spQ5 := .cons ok_nFExp3 <| .cons ok_nQuick spQ4_ok
theorem ok_nExp3 : SpecOK Tryz.prog 1000000 Sym.sNo := Sym.sNo_ok _ _
theorem spQ6_ok : SpecsOK Tryz.prog spQ6 := .cons ok_nExp3 spQ5_ok
theorem ok_nInv3 : SpecOK Tryz.prog 1000001 Sym.sNo := Sym.sNo_ok _ _
end Go.Proofs.YtficbeeoafiiaaaGreatDoor
/- Package ring: powers: what Exp comes to. -/
set_option maxRecDepth 10000
namespace Go.Proofs.YtficbeeoafiiaaaGreatDoor
open Go.Sym Go.Dig

--STOP R1.Sm, limb_Add, limb_Sub, limb_Select, limb_Mul, limb_Cmp, timesR, resR, zero4

abbrev c4 (a : Four) : List SV := [.u64 a.w0, .u64 a.w1, .u64 a.w2, .u64 a.w3]
/-- The function that tells a number's bits. -/
structure DigC where
  e : Four
instance : RetL DigC := ⟨fun d => [.fn 107 [.ro (c4 d.e) 0]]⟩
def sDigits : SpecF := fspec (α := Four × Unit) total fun a => (⟨a.1⟩ : DigC)
theorem vcDigits (e : Four) (Q : SV → Prop) : LnRaw tt [] 3 [] {} Tryz.f105 Q (e, ()) =
 (Q (SV.fn 107 [SV.ro [SV.u64 (Four.w0 e), SV.u64 (Four.w1 e), SV.u64 (Four.w2 e), SV.u64 (Four.w3 e)] (0 : Nat)])) := by kernel_rfl
/-- A value that is no data. -/
structure ValV where
  v : Value
instance : Enc ValV where
  enc a := .val a.v
  dec | .val v => some ⟨v⟩
      | _ => none
  ok := by
    intro s a h at_ w v r
    cases s <;> simp only at h <;> first | (cases h; done) | (simp only [Option.some.injEq] at h; subst h; exact r)
  nn _ := rfl
/-- A number that is read through a pointer. -/
structure RoFour where
  v : Four
instance : Enc RoFour where
  enc a := .ro (c4 a.v) 0
  dec | .ro cs 0 => (dFourC cs).map RoFour.mk
      | _ => none
  ok := by
    intro s a h at_ w v r
    split at h
    · obtain ⟨x, h1, h2⟩ := Option.map_eq_some_iff.1 h
      subst h2
      rw [dFourC_ok h1] at r; exact r
    · cases h
  nn _ := rfl
def spG8 : Specs := (105, sDigits) :: spG7
/-- What Exp keeps while its loop runs. -/
structure ExS where
  r : RingV
  a : Four
  e : Four
  z : Four
  out : Four
def ExS.pk (s : ExS) : List (Option Blk) := [some [.ro s.r.cells 0], some (c4 s.a), some (c4 s.e), some (c4 s.z), none, none, none, none, none, some (c4 s.out), none]
def ExS.mk5 : Option RingV → Option Four → Option Four → Option Four → Option Four → Option ExS
  | some r, some a, some e, some z, some o => some ⟨r, a, e, z, o⟩
  | _, _, _, _, _ => none
def ExS.pd : List (Option Blk) → Option ExS
  | [some [.ro rc 0], some ac, some ec, some zc, none, none, none, none, none, some oc, none] => ExS.mk5 (dRingC rc) (dFourC ac) (dFourC ec) (dFourC zc) (dFourC oc)
  | _ => none
theorem ExS.pok {M : List (Option Blk)} {s : ExS} (h : ExS.pd M = some s) : M = s.pk := by
  unfold ExS.pd at h
  split at h
  · unfold ExS.mk5 at h
    split at h
    · rename_i h1 h2 h3 h4 h5
      simp only [Option.some.injEq] at h; subst h
      simp only [ExS.pk, dRingC_ok h1, dFourC_ok h2, dFourC_ok h3, dFourC_ok h4, dFourC_ok h5]
    · cases h
  · cases h
/-- A power, bit by bit from above. -/
def expAcc (r : RingV) (a e : Four) : Nat → Four
  | 0 => r.one
  | n + 1 => if limb_Bit e (limb_Bits e - 1 - (n : Int)) == 1 then timesR r (timesR r (expAcc r a e n) (expAcc r a e n)) a else timesR r (expAcc r a e n) (expAcc r a e n)
def iExp (r : RingV) (a e : Four) (s : ExS) (i : Int) : Prop := s.r = r ∧ s.a = a ∧ s.e = e ∧ s.z = zero4 ∧ -1 ≤ i ∧ i ≤ limb_Bits e - 1 ∧ s.out = expAcc r a e (limb_Bits e - 1 - i).toNat
noncomputable def rtExp (r : RingV) (a e : Four) : RTab := [(107, { fn := Tryz.f107, loops := [(0, { β := ValV × RoFour × Unit, α := Int × Unit, pk := ExS.pk, pd := ExS.pd, pok := ExS.pok, same := [0, 1], keep := [3], inv := fun _ _ x => iExp r (resR r a) e x.1 x.2.1, meas := fun _ x => (x.1 + 1).toNat })] })]
theorem vcExpA (r : RingV) (a e : Four) (Q : SV → Prop) : RnRaw tt spG8 3 [] {} (rtExp r a e) Tryz.f87 Q (some r, a, e, ()) =
 bcase (!isR (some r)) ((Q (SV.agg [SV.u64 (UInt64.ofNat (Int.toNat (0 : Int))), SV.u64 (UInt64.ofNat (Int.toNat (0 : Int))), SV.u64 (UInt64.ofNat (Int.toNat (0 : Int))), SV.u64 (UInt64.ofNat (Int.toNat (0 : Int)))]))) ((∀ l : Nat, ((iExp r (resR r a) e (ExS.mk r (resR r a) e (Four.mk (UInt64.ofNat (Int.toNat (0 : Int))) (UInt64.ofNat (Int.toNat (0 : Int))) (UInt64.ofNat (Int.toNat (0 : Int))) (UInt64.ofNat (Int.toNat (0 : Int)))) (RingV.one r)) (IntKind.wrap IntKind.i64 (limb_Bits e - (1 : Int)))) ∧ (∀ s : ExS, (∀ a_1 : Int, ((iExp r (resR r a) e s a_1) → bcase (decide (a_1 ≥ (0 : Int))) (((l = l) ∧ bcase (limb_Bit e a_1 == UInt64.ofNat (Int.toNat (1 : Int))) ((((ValV.mk (Value.func (Fn.yield l) (Array.mk []) (Array.mk [])), RoFour.mk e, ()) = (ValV.mk (Value.func (Fn.yield l) (Array.mk []) (Array.mk [])), RoFour.mk e, ())) ∧ ((iExp r (resR r a) e (ExS.mk (ExS.r s) (ExS.a s) (ExS.e s) (ExS.z s) (timesR (ExS.r s) (timesR (ExS.r s) (ExS.out s) (ExS.out s)) (ExS.a s)))
 (IntKind.wrap IntKind.i64 (a_1 - (1 : Int)))) ∧ (Int.toNat (IntKind.wrap IntKind.i64 (a_1 - (1 : Int)) + (1 : Int)) < Int.toNat (a_1 + (1 : Int)))))) ((((ValV.mk (Value.func (Fn.yield l) (Array.mk []) (Array.mk [])), RoFour.mk e, ()) = (ValV.mk (Value.func (Fn.yield l) (Array.mk []) (Array.mk [])), RoFour.mk e, ())) ∧ ((iExp r (resR r a) e (ExS.mk (ExS.r s) (ExS.a s) (ExS.e s) (ExS.z s) (timesR (ExS.r s) (ExS.out s) (ExS.out s))) (IntKind.wrap IntKind.i64 (a_1 - (1 : Int)))) ∧ (Int.toNat (IntKind.wrap IntKind.i64 (a_1 - (1 : Int)) + (1 : Int)) < Int.toNat (a_1 + (1 : Int)))))))) ((Q (SV.agg [SV.u64 (Four.w0 (ExS.out s)), SV.u64 (Four.w1 (ExS.out s)), SV.u64 (Four.w2 (ExS.out s)), SV.u64 (Four.w3 (ExS.out s))]))))))))) := by kernel_rfl
theorem vcExpB (a e : Four) (Q : SV → Prop) : RnRaw tt spG8 3 [] {} [] Tryz.f87 Q ((none : Option RingV), a, e, ()) =
 (Q (SV.agg [SV.u64 (UInt64.ofNat (Int.toNat (0 : Int))), SV.u64 (UInt64.ofNat (Int.toNat (0 : Int))), SV.u64 (UInt64.ofNat (Int.toNat (0 : Int))), SV.u64 (UInt64.ofNat (Int.toNat (0 : Int)))])) := by kernel_rfl
def expR (r : RingV) (a e : Four) : Four := expAcc r (resR r a) e (limb_Bits e).toNat
def sExpR : SpecF := fspec (α := AR2) total (fun a => onR a.1 fun r => expR r a.2.1 a.2.2.1)
def spG9 : Specs := (87, sExpR) :: spG8
def two4 : Four := ⟨2, 0, 0, 0⟩
theorem vcInvA (r : RingV) (a : Four) (Q : SV → Prop) : LnRaw tt spG9 3 [] {} Tryz.f55 Q (some r, a, ()) =
 bcase (!isR (some r)) ((Q (SV.agg [SV.u64 (UInt64.ofNat (Int.toNat (0 : Int))), SV.u64 (UInt64.ofNat (Int.toNat (0 : Int))), SV.u64 (UInt64.ofNat (Int.toNat (0 : Int))), SV.u64 (UInt64.ofNat (Int.toNat (0 : Int)))]))) ((Q (SV.agg [SV.u64 (Four.w0 (onR (some r) fun r_1 => expR r_1 a (Prod.fst (limb_Sub (RingV.m r) (Four.mk (UInt64.ofNat (Int.toNat (2 : Int))) (UInt64.ofNat (Int.toNat (0 : Int))) (UInt64.ofNat (Int.toNat (0 : Int))) (UInt64.ofNat (Int.toNat (0 : Int)))))))), SV.u64 (Four.w1 (onR (some r) fun r_1 => expR r_1 a (Prod.fst (limb_Sub (RingV.m r) (Four.mk (UInt64.ofNat (Int.toNat (2 : Int))) (UInt64.ofNat (Int.toNat (0 : Int))) (UInt64.ofNat (Int.toNat (0 : Int))) (UInt64.ofNat (Int.toNat (0 : Int)))))))), SV.u64 (Four.w2 (onR (some r) fun r_1 => expR r_1 a (Prod.fst (limb_Sub (RingV.m r) (Four.mk (UInt64.ofNat (Int.toNat (2 : Int))) (UInt64.ofNat (Int.toNat (0 : Int))) (UInt64.ofNat (Int.toNat (0 : Int))) (UInt64.ofNat (Int.toNat (0 : Int)))))))), SV.u64 (Four.w3
 (onR (some r) fun r_1 => expR r_1 a (Prod.fst (limb_Sub (RingV.m r) (Four.mk (UInt64.ofNat (Int.toNat (2 : Int))) (UInt64.ofNat (Int.toNat (0 : Int))) (UInt64.ofNat (Int.toNat (0 : Int))) (UInt64.ofNat (Int.toNat (0 : Int))))))))]))) := by kernel_rfl
theorem vcInvB (a : Four) (Q : SV → Prop) : LnRaw tt spG9 3 [] {} Tryz.f55 Q ((none : Option RingV), a, ()) =
 (Q (SV.agg [SV.u64 (UInt64.ofNat (Int.toNat (0 : Int))), SV.u64 (UInt64.ofNat (Int.toNat (0 : Int))), SV.u64 (UInt64.ofNat (Int.toNat (0 : Int))), SV.u64 (UInt64.ofNat (Int.toNat (0 : Int)))])) := by kernel_rfl
end Go.Proofs.YtficbeeoafiiaaaGreatDoor
/- Package ring: powers: what Exp comes to is so, and as numbers. -/
set_option maxRecDepth 10000
namespace Go.Proofs.YtficbeeoafiiaaaGreatDoor
open Go.Sym Go.Dig

theorem ok_Digits : SpecOK Tryz.prog 105 sDigits := by
  refine fn_okL (by kernel_rfl) tt_ok (.nil _) 3 Tryz.func105 (by decide +kernel) (by kernel_rfl) ?_
  rintro ⟨e, _⟩ _
  exact ⟨[], {}, fun x => x = .fn 107 [.ro (c4 e) 0], LnVD.of (vcDigits e _) rfl, sv_fin⟩
theorem spG8_ok : SpecsOK Tryz.prog spG8 := .cons ok_Digits spG7_ok
theorem bits_int (a : Four) : 0 ≤ limb_Bits a ∧ limb_Bits a ≤ 256 := by
  obtain ⟨n, h1, h2, _⟩ := bits_nat a
  omega
theorem ok_ExpR : SpecOK Tryz.prog 87 sExpR := by
  refine fn_okR (by kernel_rfl) tt_ok spG8_ok 3 Tryz.func87 (by decide +kernel) (by kernel_rfl) ?_
  rintro ⟨r, a, e, _⟩ _
  cases r with
  | none => exact ⟨[], {}, [], fun x => x = zero4.sv, .nil _, RnVD.of (vcExpB a e _) rfl, sv_fin⟩
  | some r =>
    refine ⟨[], {}, rtExp r a e, fun x => x = (onR (some r) fun r => expR r a e).sv, .one Tryz.func107 (by kernel_rfl) (by kernel_rfl) (show (Tryz.f107.name == "runtime.NumGoroutine") = false by decide +kernel), RnVD.of (vcExpA r a e _) ?_, sv_fin⟩
    rw [R1.bcase_iff]
    refine ⟨fun h => by show _ = _; rw [onR_f h]; rfl, fun h l => ?_⟩
    have hb := bits_int e
    have w1 : IntKind.wrap .i64 (limb_Bits e - 1) = limb_Bits e - 1 := R1.wr (by omega)
    refine ⟨⟨rfl, rfl, rfl, rfl, by rw [w1]; omega, by rw [w1]; omega, ?_⟩, fun s i hi => ?_⟩
    · rw [w1, show limb_Bits e - 1 - (limb_Bits e - 1) = 0 by omega]; rfl
    · obtain ⟨e1, e2, e3, e4, i0, i1, e5⟩ := hi
      rw [R1.bcase_dec]
      refine ⟨fun hi => ⟨rfl, ?_⟩, fun hi => ?_⟩
      · rw [R1.bcase_iff, R1.wr (x := i - 1) (by omega)]
        have hn : (limb_Bits e - 1 - (i - 1)).toNat = (limb_Bits e - 1 - i).toNat + 1 := by omega
        have hi' : limb_Bits e - 1 - ((limb_Bits e - 1 - i).toNat : Int) = i := by omega
        have step : expAcc r (resR r a) e (limb_Bits e - 1 - (i - 1)).toNat = if (limb_Bit e i == 1) = true then timesR r (timesR r (expAcc r (resR r a) e (limb_Bits e - 1 - i).toNat) (expAcc r (resR r a) e (limb_Bits e - 1 - i).toNat)) (resR r a) else timesR r (expAcc r (resR r a) e (limb_Bits e - 1 - i).toNat) (expAcc r (resR r a) e (limb_Bits e - 1 - i).toNat) := by
          rw [hn, expAcc, hi']
        refine ⟨fun hb1 => ⟨rfl, ⟨e1, e2, e3, e4, by omega, by omega, ?_⟩, by omega⟩, fun hb0 => ⟨rfl, ⟨e1, e2, e3, e4, by omega, by omega, ?_⟩, by omega⟩⟩
        · have hb1 : (limb_Bit e i == 1) = true := hb1
          rw [step, if_pos hb1, e1, e2, e5]
        · have hb0 : (limb_Bit e i == 1) = false := hb0
          rw [step, if_neg (by rw [hb0]; simp), e1, e5]
      · show _ = _
        have : i = -1 := by omega
        subst this
        rw [onR_t h, e5]
        unfold expR
        rw [show (limb_Bits e - 1 - -1).toNat = (limb_Bits e).toNat by omega]
        rfl
theorem spG9_ok : SpecsOK Tryz.prog spG9 := .cons ok_ExpR spG8_ok
def invR (r : RingV) (a : Four) : Four := onR (some r) fun r' => expR r' a (limb_Sub r.m two4).1
def sInvR : SpecF := fspec (α := AR1) total (fun a => onR a.1 fun r => invR r a.2.1)
theorem ok_InvR : SpecOK Tryz.prog 55 sInvR := by
  refine fn_okL (by kernel_rfl) tt_ok spG9_ok 3 Tryz.func55 (by decide +kernel) (by kernel_rfl) ?_
  rintro ⟨r, a, _⟩ _
  cases r with
  | none => exact ⟨[], {}, fun x => x = zero4.sv, LnVD.of (vcInvB a _) rfl, sv_fin⟩
  | some r => exact ⟨[], {}, fun x => x = (onR (some r) fun r => invR r a).sv, LnVD.of (vcInvA r a _) (onR_goal rfl), sv_fin⟩

/-! As numbers. -/
theorem unR_prod {M : Nat} (h : M % 2 = 1) (x y : Nat) : unR M (x * 2 ^ 256 % M * (y * 2 ^ 256 % M)) = x * y * 2 ^ 256 % M := by
  have e : x * 2 ^ 256 * (y * 2 ^ 256) = x * y * 2 ^ 256 * 2 ^ 256 := by
    rw [Nat.mul_assoc, Nat.mul_left_comm (2 ^ 256), ← Nat.mul_assoc, ← Nat.mul_assoc]
  rw [← unR_mod, ← Nat.mul_mod, unR_mod, e, unR_mul h]
theorem unR_prod' {M : Nat} (h : M % 2 = 1) (x a : Nat) : unR M (x * 2 ^ 256 % M * a) = x * unR M a * 2 ^ 256 % M := by
  rw [← unR_prod h, unR_back h, ← unR_mod, ← unR_mod M (_ * _), mod_mul_r]
theorem bit_top (n k : Nat) : n / 2 ^ k = 2 * (n / 2 ^ (k + 1)) + n / 2 ^ k % 2 := by
  rw [Nat.pow_succ, ← Nat.div_div_eq_div_mul]
  omega
theorem pow_double (A k b : Nat) (h : b < 2) : A ^ (2 * k + b) = A ^ k * A ^ k * (if b = 1 then A else 1) := by
  rcases (show b = 0 ∨ b = 1 by omega) with rfl | rfl
  · rw [if_neg (by omega), Nat.mul_one, ← Nat.pow_add]; congr 1; omega
  · rw [if_pos rfl, ← Nat.pow_add, ← Nat.pow_succ]; congr 1; omega
section
variable {r : RingV} (g : RGood r)
include g
theorem expAcc_lt {a : Four} (e : Four) (ha : nat4 a < nat4 r.m) : ∀ n, nat4 (expAcc r a e n) < nat4 r.m
  | 0 => one_lt g
  | n + 1 => by
    have h0 : 0 < nat4 r.m := by have := g.big; omega
    have h1 := expAcc_lt e ha n
    have h2 : nat4 (timesR r (expAcc r a e n) (expAcc r a e n)) < nat4 r.m := by rw [times_nat g _ _ (.inl h1)]; exact unR_lt _ h0
    rw [expAcc]
    split
    · rw [times_nat g _ _ (.inl h2)]; exact unR_lt _ h0
    · exact h2
theorem expAcc_nat {a : Four} (e : Four) (ha : nat4 a < nat4 r.m) {N : Nat} (hN : limb_Bits e = N) (hN' : N ≤ 256) (hb : nat4 e < 2 ^ N) : ∀ n k, n + k = N → nat4 (expAcc r a e n) = unR (nat4 r.m) (nat4 a) ^ (nat4 e / 2 ^ k) * 2 ^ 256 % nat4 r.m
  | 0, k, hk => by
    have : k = N := by omega
    subst this
    rw [Nat.div_eq_of_lt hb, Nat.pow_zero, Nat.one_mul]; exact g.one
  | n + 1, k, hk => by
    have ih := expAcc_nat e ha hN hN' hb n (k + 1) (by omega)
    have h1 := expAcc_lt g e ha n
    have h0 : 0 < nat4 r.m := by have := g.big; omega
    have h2 : nat4 (timesR r (expAcc r a e n) (expAcc r a e n)) < nat4 r.m := by rw [times_nat g _ _ (.inl h1)]; exact unR_lt _ h0
    have hi : limb_Bits e - 1 - (n : Int) = (k : Int) := by omega
    have hbit : limb_Bit e (k : Int) = bitN e k := by
      unfold limb_Bit
      rw [if_neg (by omega), if_neg (by omega), Int.toNat_natCast]
    have hbn := bit_nat e k (by omega)
    have hlt : nat4 e / 2 ^ k % 2 < 2 := Nat.mod_lt _ (by omega)
    rw [expAcc, hi, hbit, bit_top (nat4 e) k, pow_double _ _ _ hlt]
    by_cases hb1 : nat4 e / 2 ^ k % 2 = 1
    · have : (bitN e k == 1) = true := by
        rw [beq_iff_eq, ← UInt64.toNat_inj, hbn, hb1]; rfl
      rw [if_pos this, if_pos hb1, times_nat g _ _ (.inl h2), times_nat g _ _ (.inl h1), ih, unR_prod g.odd, unR_prod' g.odd]
    · have : ¬ (bitN e k == 1) = true := by
        rw [beq_iff_eq, ← UInt64.toNat_inj, hbn]
        intro h; exact hb1 h
      rw [if_neg this, if_neg hb1, Nat.mul_one, times_nat g _ _ (.inl h1), ih, unR_prod g.odd]
theorem expR_nat (a e : Four) : nat4 (expR r a e) = unR (nat4 r.m) (nat4 a) ^ nat4 e * 2 ^ 256 % nat4 r.m := by
  obtain ⟨N, h1, h2, h3, _⟩ := bits_nat e
  unfold expR
  rw [h1, Int.toNat_natCast, expAcc_nat g e (resR_lt g a) h1 h2 h3 N 0 (by omega), resR_nat g, unR_mod, Nat.pow_zero, Nat.div_one]
end
end Go.Proofs.YtficbeeoafiiaaaGreatDoor
