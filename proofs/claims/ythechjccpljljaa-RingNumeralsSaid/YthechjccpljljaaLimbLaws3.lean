/- Package limb: how many bits; bytes there and back. Plain. -/
import Derived.Test.YthechjccpljljaaLimbLaws2
namespace Go.Proofs.Ythechjccpljljaa
open Go.Sym

theorem bitLenAux_spec : ∀ (f x : Nat), x < 2 ^ f → x < 2 ^ Lib.bitLenAux f x ∧ Lib.bitLenAux f x ≤ f ∧ (x ≠ 0 → 0 < Lib.bitLenAux f x ∧ 2 ^ (Lib.bitLenAux f x - 1) ≤ x) ∧ (x = 0 → Lib.bitLenAux f x = 0)
  | 0, x, h => by
    have : x = 0 := by simpa using h
    subst this
    simp [Lib.bitLenAux]
  | f + 1, x, h => by
    by_cases hx : x = 0
    · subst hx; simp [Lib.bitLenAux]
    · have h2 : x / 2 < 2 ^ f := by rw [Nat.pow_succ] at h; omega
      obtain ⟨i1, i2, i3, i4⟩ := bitLenAux_spec f (x / 2) h2
      simp only [Lib.bitLenAux, hx, if_false]
      refine ⟨?_, by omega, fun _ => ⟨by omega, ?_⟩, fun e => e.elim⟩
      · rw [Nat.add_comm, Nat.pow_succ]; omega
      · by_cases h0 : x / 2 = 0
        · rw [i4 h0]; simp; omega
        · obtain ⟨j1, j2⟩ := i3 h0
          rw [Nat.add_sub_cancel_left, show Lib.bitLenAux f (x / 2) = (Lib.bitLenAux f (x / 2) - 1) + 1 by omega, Nat.pow_succ]
          omega
theorem len64_spec (x : UInt64) : ∃ n : Nat, len64 x = n ∧ n ≤ 64 ∧ x.toNat < 2 ^ n ∧ (x.toNat ≠ 0 → 0 < n ∧ 2 ^ (n - 1) ≤ x.toNat) := by
  obtain ⟨h1, h2, h3, _⟩ := bitLenAux_spec 64 x.toNat (u64_lt x)
  exact ⟨_, rfl, h2, h1, h3⟩
/-- A number's bits. -/
def IsBits (m n : Nat) : Prop := m < 2 ^ n ∧ (m ≠ 0 → 0 < n ∧ 2 ^ (n - 1) ≤ m) ∧ (m = 0 → n = 0)
theorem IsBits.unique {m n k : Nat} (h : IsBits m n) (h' : IsBits m k) : n = k := by
  obtain ⟨a1, a2, a3⟩ := h
  obtain ⟨b1, b2, b3⟩ := h'
  by_cases hm : m = 0
  · rw [a3 hm, b3 hm]
  · have c1 := a2 hm; have c2 := b2 hm
    have d1 : 2 ^ (n - 1) < 2 ^ k := Nat.lt_of_le_of_lt c1.2 b1
    have d2 : 2 ^ (k - 1) < 2 ^ n := Nat.lt_of_le_of_lt c2.2 a1
    have e1 := (Nat.pow_lt_pow_iff_right (a := 2) (by omega)).1 d1
    have e2 := (Nat.pow_lt_pow_iff_right (a := 2) (by omega)).1 d2
    omega
theorem IsBits.up {m n l : Nat} (r : Nat) (h : IsBits m n) (hm : m ≠ 0) (hr : r < 2 ^ l) : IsBits (r + 2 ^ l * m) (l + n) := by
  obtain ⟨h1, h2, _⟩ := h
  obtain ⟨h3, h4⟩ := h2 hm
  have hp := Nat.two_pow_pos l
  refine ⟨?_, fun _ => ⟨by omega, ?_⟩, fun e => ?_⟩
  · rw [Nat.pow_add]
    have : 2 ^ l * (m + 1) ≤ 2 ^ l * 2 ^ n := Nat.mul_le_mul_left _ h1
    rw [Nat.mul_add] at this; omega
  · rw [show l + n - 1 = l + (n - 1) by omega, Nat.pow_add]
    have := Nat.mul_le_mul_left (2 ^ l) h4
    omega
  · exfalso
    have := Nat.mul_le_mul_left (2 ^ l) (show 1 ≤ m by omega)
    omega
theorem bits_nat (a : Four) : ∃ n : Nat, limb_Bits a = n ∧ n ≤ 256 ∧ IsBits (nat4 a) n := by
  obtain ⟨n0, e0, l0, p0, q0⟩ := len64_spec a.w0
  obtain ⟨n1, e1, l1, p1, q1⟩ := len64_spec a.w1
  obtain ⟨n2, e2, l2, p2, q2⟩ := len64_spec a.w2
  obtain ⟨n3, e3, l3, p3, q3⟩ := len64_spec a.w3
  have h0 := u64_lt a.w0; have h1 := u64_lt a.w1; have h2 := u64_lt a.w2
  have nz : ∀ x : UInt64, x ≠ 0 → x.toNat ≠ 0 := fun x h e => h (UInt64.toNat_inj.1 e)
  have big : ∀ (x : UInt64) (n : Nat), x ≠ 0 → x.toNat < 2 ^ n → (x.toNat ≠ 0 → 0 < n ∧ 2 ^ (n - 1) ≤ x.toNat) → IsBits x.toNat n := fun x n hx h h' => ⟨h, h', fun e => (nz x hx e).elim⟩
  simp only [limb_Bits]
  by_cases z3 : a.w3 = 0
  · by_cases z2 : a.w2 = 0
    · by_cases z1 : a.w1 = 0
      · by_cases z0 : a.w0 = 0
        · refine ⟨0, by simp [z0, z1, z2, z3], by omega, ?_⟩
          have : nat4 a = 0 := by simp [nat4, z0, z1, z2, z3]
          rw [this]; exact ⟨by simp, fun h => (h rfl).elim, fun _ => rfl⟩
        · refine ⟨n0, ?_, by omega, ?_⟩
          · simp only [z1, z2, z3, bne_self_eq_false, cond_false, show (a.w0 != 0) = true by simpa using z0, cond_true, e0]
            rw [wr_small (by omega) (by omega)]; omega
          · have : nat4 a = a.w0.toNat := by simp [nat4, z1, z2, z3]
            rw [this]; exact big _ _ z0 p0 q0
      · refine ⟨64 + n1, ?_, by omega, ?_⟩
        · simp only [z2, z3, bne_self_eq_false, cond_false, show (a.w1 != 0) = true by simpa using z1, cond_true, e1]
          rw [wr_small (by omega) (by omega)]; omega
        · have : nat4 a = a.w0.toNat + 2 ^ 64 * a.w1.toNat := by simp [nat4, z2, z3]
          rw [this]; exact (big _ _ z1 p1 q1).up _ (nz _ z1) h0
    · refine ⟨128 + n2, ?_, by omega, ?_⟩
      · simp only [z3, bne_self_eq_false, cond_false, show (a.w2 != 0) = true by simpa using z2, cond_true, e2]
        rw [wr_small (by omega) (by omega)]; omega
      · have : nat4 a = (a.w0.toNat + 18446744073709551616 * a.w1.toNat) + 2 ^ 128 * a.w2.toNat := by simp [nat4, z3]; omega
        rw [this]; exact (big _ _ z2 p2 q2).up _ (nz _ z2) (by simp only [Nat.reducePow]; omega)
  · refine ⟨192 + n3, ?_, by omega, ?_⟩
    · simp only [show (a.w3 != 0) = true by simpa using z3, cond_true, e3]
      rw [wr_small (by omega) (by omega)]; omega
    · have : nat4 a = (a.w0.toNat + 18446744073709551616 * (a.w1.toNat + 18446744073709551616 * a.w2.toNat)) + 2 ^ 192 * a.w3.toNat := by simp only [nat4, Nat.reducePow]; omega
      rw [this]; exact (big _ _ z3 p3 q3).up _ (nz _ z3) (by simp only [Nat.reducePow]; omega)
theorem IsBits.down {m n : Nat} (k : Nat) (h : IsBits m n) : IsBits (m / 2 ^ k) (n - k) := by
  obtain ⟨h1, h2, h3⟩ := h
  by_cases hk : n ≤ k
  · have : m / 2 ^ k = 0 := Nat.div_eq_of_lt (Nat.lt_of_lt_of_le h1 (Nat.pow_le_pow_right (by omega) hk))
    rw [this, show n - k = 0 by omega]
    exact ⟨by simp, fun h => (h rfl).elim, fun _ => rfl⟩
  · have hm : m ≠ 0 := fun e => by have := h3 e; omega
    obtain ⟨h4, h5⟩ := h2 hm
    have g : 2 ^ (n - k - 1) ≤ m / 2 ^ k := by
      rw [Nat.le_div_iff_mul_le (Nat.two_pow_pos k), ← Nat.pow_add, show n - k - 1 + k = n - 1 by omega]; exact h5
    have gp := Nat.two_pow_pos (n - k - 1)
    refine ⟨?_, fun _ => ⟨by omega, g⟩, fun e => by omega⟩
    rw [Nat.div_lt_iff_lt_mul (Nat.two_pow_pos k), ← Nat.pow_add, show n - k + k = n by omega]
    exact h1

/-! Bytes. -/
theorem byte_step (acc : UInt64) (b : UInt8) (j : Nat) (hj : j < 8) (h : acc.toNat < 2 ^ (8 * j)) :
    (acc ||| shl64 b.toUInt64 (8 * j)).toNat = acc.toNat + b.toNat * 2 ^ (8 * j) ∧ (acc ||| shl64 b.toUInt64 (8 * j)).toNat < 2 ^ (8 * j + 8) := by
  have hb := u8_lt b
  have hs : b.toNat * 2 ^ (8 * j) < 2 ^ (8 * j + 8) := by
    rw [Nat.pow_add, Nat.mul_comm]; exact Nat.mul_lt_mul_of_pos_left hb (Nat.two_pow_pos _)
  have hB : 2 ^ (8 * j + 8) ≤ 2 ^ 64 := Nat.pow_le_pow_right (by omega) (by omega)
  have e : (acc ||| shl64 b.toUInt64 (8 * j)).toNat = acc.toNat + b.toNat * 2 ^ (8 * j) := by
    rw [UInt64.toNat_or, shl64_nat, UInt8.toNat_toUInt64, Nat.mod_eq_of_lt (show _ < 18446744073709551616 by omega), ← Nat.shiftLeft_eq, Nat.or_comm, ← Nat.shiftLeft_add_eq_or_of_lt h, Nat.add_comm]
  refine ⟨e, ?_⟩
  rw [e, Nat.pow_add]
  have : b.toNat * 2 ^ (8 * j) ≤ 255 * 2 ^ (8 * j) := Nat.mul_le_mul_right _ (by omega)
  omega
theorem wordOf_nat (xs : List UInt8) (big : Bool) (i : Nat) (f : Nat → Nat) (hf : ∀ j, f j = (xs.getD (byteAt big (8 * i + j)) 0).toNat) :
    (wordOf xs big i).toNat = f 0 + 256 * (f 1 + 256 * (f 2 + 256 * (f 3 + 256 * (f 4 + 256 * (f 5 + 256 * (f 6 + 256 * f 7)))))) := by
  have e : wordOf xs big i = (List.range 8).foldl (fun acc j => acc ||| shl64 (xs.getD (byteAt big (8 * i + j)) 0).toUInt64 (8 * j)) 0 := rfl
  rw [e, show List.range 8 = [0, 1, 2, 3, 4, 5, 6, 7] from rfl]
  simp only [List.foldl_cons, List.foldl_nil]
  obtain ⟨e0, l0⟩ := byte_step 0 (xs.getD (byteAt big (8 * i + 0)) 0) 0 (by omega) (by decide)
  obtain ⟨e1, l1⟩ := byte_step _ (xs.getD (byteAt big (8 * i + 1)) 0) 1 (by omega) l0
  obtain ⟨e2, l2⟩ := byte_step _ (xs.getD (byteAt big (8 * i + 2)) 0) 2 (by omega) l1
  obtain ⟨e3, l3⟩ := byte_step _ (xs.getD (byteAt big (8 * i + 3)) 0) 3 (by omega) l2
  obtain ⟨e4, l4⟩ := byte_step _ (xs.getD (byteAt big (8 * i + 4)) 0) 4 (by omega) l3
  obtain ⟨e5, l5⟩ := byte_step _ (xs.getD (byteAt big (8 * i + 5)) 0) 5 (by omega) l4
  obtain ⟨e6, l6⟩ := byte_step _ (xs.getD (byteAt big (8 * i + 6)) 0) 6 (by omega) l5
  obtain ⟨e7, l7⟩ := byte_step _ (xs.getD (byteAt big (8 * i + 7)) 0) 7 (by omega) l6
  rw [e7, e6, e5, e4, e3, e2, e1, e0, ← hf 0, ← hf 1, ← hf 2, ← hf 3, ← hf 4, ← hf 5, ← hf 6, ← hf 7, show (0 : UInt64).toNat = 0 from rfl]
  simp only [Nat.reduceMul, Nat.reducePow]
  omega
theorem bytesL_get (a : Four) (k : Nat) (hk : k < 32) : ((bytesL a).getD k 0).toNat = (w4 a (k / 8)).toNat / 2 ^ (8 * (k % 8)) % 256 := by
  have : (bytesL a).getD k 0 = (shr64 (w4 a (k / 8)) (8 * (k % 8))).toUInt8 := by
    unfold bytesL
    rw [List.getD_eq_getElem?_getD, List.getElem?_map, List.getElem?_range hk]; rfl
  rw [this, UInt64.toNat_toUInt8, shr64_nat]
theorem bytes_get (a : Four) (big : Bool) (k : Nat) (hk : k < 32) : (limb_Bytes a big).getD (byteAt big k) 0 = (bytesL a).getD k 0 := by
  have hl : (bytesL a).length = 32 := by simp [bytesL]
  cases big with
  | false => rfl
  | true =>
    simp only [limb_Bytes, cond_true, byteAt, List.getD_eq_getElem?_getD]
    rw [List.getElem?_reverse (by omega), hl]
    rw [show 32 - 1 - (31 - k) = k by omega]
theorem bytes_len (a : Four) (big : Bool) : (limb_Bytes a big).length = 32 := by cases big <;> simp [limb_Bytes, bytesL]
theorem word_back (a : Four) (big : Bool) (i : Nat) (hi : i < 4) : wordOf (limb_Bytes a big) big i = w4 a i := by
  apply UInt64.toNat_inj.1
  have hf : ∀ j, j < 8 → ((limb_Bytes a big).getD (byteAt big (8 * i + j)) 0).toNat = (w4 a i).toNat / 2 ^ (8 * j) % 256 := fun j hj => by
    rw [bytes_get a big _ (by omega), bytesL_get a _ (by omega), show (8 * i + j) / 8 = i by omega, show (8 * i + j) % 8 = j by omega]
  rw [wordOf_nat _ big i _ (fun j => rfl), hf 0 (by omega), hf 1 (by omega), hf 2 (by omega), hf 3 (by omega), hf 4 (by omega), hf 5 (by omega), hf 6 (by omega), hf 7 (by omega)]
  have := u64_lt (w4 a i)
  simp only [Nat.reduceMul, Nat.reducePow]
  omega
theorem of_bytes (a : Four) (big : Bool) : limb_Of (limb_Bytes a big) big = (a, 0) := by
  simp only [limb_Of, bytes_len, if_true, fourOf, word_back a big 0 (by omega), word_back a big 1 (by omega), word_back a big 2 (by omega), word_back a big 3 (by omega), w4]
end Go.Proofs.Ythechjccpljljaa
