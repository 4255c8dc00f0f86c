/- A symbolic machine for Go functions, and what the functions that the law reaches come to: LimbLaws. -/
import Derived.Test.YtficbeeoafiiaaaGreatDoorQ8
/- Package limb: what its functions come to, as numbers. Plain: no program here but the functions' names. -/
namespace Go.Proofs.YtficbeeoafiiaaaGreatDoor
open Go.Sym

def nat4 (a : Four) : Nat := a.w0.toNat + 18446744073709551616 * (a.w1.toNat + 18446744073709551616 * (a.w2.toNat + 18446744073709551616 * a.w3.toNat))
def nat8 (a : Eight) : Nat := a.e0.toNat + 18446744073709551616 * (a.e1.toNat + 18446744073709551616 * (a.e2.toNat + 18446744073709551616 * (a.e3.toNat + 18446744073709551616 * (a.e4.toNat + 18446744073709551616 * (a.e5.toNat + 18446744073709551616 * (a.e6.toNat + 18446744073709551616 * a.e7.toNat))))))
theorem nat4_lt (a : Four) : nat4 a < 115792089237316195423570985008687907853269984665640564039457584007913129639936 := by
  have := u64_lt a.w0; have := u64_lt a.w1; have := u64_lt a.w2; have := u64_lt a.w3
  simp only [nat4]; omega
theorem nat4_inj {a b : Four} (h : nat4 a = nat4 b) : a = b := by
  have := u64_lt a.w0; have := u64_lt a.w1; have := u64_lt a.w2; have := u64_lt a.w3
  have := u64_lt b.w0; have := u64_lt b.w1; have := u64_lt b.w2; have := u64_lt b.w3
  simp only [nat4] at h
  obtain ⟨a0, a1, a2, a3⟩ := a
  obtain ⟨b0, b1, b2, b3⟩ := b
  simp only at *
  have e0 : a0 = b0 := UInt64.toNat_inj.1 (by omega)
  have e1 : a1 = b1 := UInt64.toNat_inj.1 (by omega)
  have e2 : a2 = b2 := UInt64.toNat_inj.1 (by omega)
  have e3 : a3 = b3 := UInt64.toNat_inj.1 (by omega)
  subst e0 e1 e2 e3; rfl
theorem nat8_inj {a b : Eight} (h : nat8 a = nat8 b) : a = b := by
  have := u64_lt a.e0; have := u64_lt a.e1; have := u64_lt a.e2; have := u64_lt a.e3; have := u64_lt a.e4; have := u64_lt a.e5; have := u64_lt a.e6; have := u64_lt a.e7
  have := u64_lt b.e0; have := u64_lt b.e1; have := u64_lt b.e2; have := u64_lt b.e3; have := u64_lt b.e4; have := u64_lt b.e5; have := u64_lt b.e6; have := u64_lt b.e7
  simp only [nat8] at h
  obtain ⟨a0, a1, a2, a3, a4, a5, a6, a7⟩ := a
  obtain ⟨b0, b1, b2, b3, b4, b5, b6, b7⟩ := b
  simp only at *
  have e0 : a0 = b0 := UInt64.toNat_inj.1 (by omega)
  have e1 : a1 = b1 := UInt64.toNat_inj.1 (by omega)
  have e2 : a2 = b2 := UInt64.toNat_inj.1 (by omega)
  have e3 : a3 = b3 := UInt64.toNat_inj.1 (by omega)
  have e4 : a4 = b4 := UInt64.toNat_inj.1 (by omega)
  have e5 : a5 = b5 := UInt64.toNat_inj.1 (by omega)
  have e6 : a6 = b6 := UInt64.toNat_inj.1 (by omega)
  have e7 : a7 = b7 := UInt64.toNat_inj.1 (by omega)
  subst e0 e1 e2 e3 e4 e5 e6 e7; rfl

theorem add_word (x y c : UInt64) (hc : c.toNat ≤ 1) : (addLo x y c).toNat + 18446744073709551616 * (addHi x y c).toNat = x.toNat + y.toNat + c.toNat := by
  rw [addLo_nat, addHi_nat x y c hc]; omega
theorem sub_word (x y c : UInt64) (hc : c.toNat ≤ 1) : (subLo x y c).toNat + y.toNat + c.toNat = x.toNat + 18446744073709551616 * (subHi x y c).toNat := by
  rw [subLo_nat, subHi_nat]
  have := u64_lt x; have := u64_lt y
  split <;> omega
theorem add_nat (a b : Four) : nat4 (limb_Add a b).1 + 115792089237316195423570985008687907853269984665640564039457584007913129639936 * (limb_Add a b).2.toNat = nat4 a + nat4 b := by
  have h0 := add_word a.w0 b.w0 0 zero_le
  have l0 := addHi_le a.w0 b.w0 0 zero_le
  have h1 := add_word a.w1 b.w1 _ l0
  have l1 := addHi_le a.w1 b.w1 _ l0
  have h2 := add_word a.w2 b.w2 _ l1
  have l2 := addHi_le a.w2 b.w2 _ l1
  have h3 := add_word a.w3 b.w3 _ l2
  have z : (0 : UInt64).toNat = 0 := rfl
  simp only [nat4, limb_Add]
  omega
theorem add_carry (a b : Four) : (limb_Add a b).2.toNat ≤ 1 := addHi_le _ _ _ (addHi_le _ _ _ (addHi_le _ _ _ (addHi_le _ _ _ zero_le)))
theorem sub_nat (a b : Four) : nat4 (limb_Sub a b).1 + nat4 b = nat4 a + 115792089237316195423570985008687907853269984665640564039457584007913129639936 * (limb_Sub a b).2.toNat := by
  have h0 := sub_word a.w0 b.w0 0 zero_le
  have l0 := subHi_le a.w0 b.w0 0
  have h1 := sub_word a.w1 b.w1 _ l0
  have l1 := subHi_le a.w1 b.w1 (subHi a.w0 b.w0 0)
  have h2 := sub_word a.w2 b.w2 _ l1
  have l2 := subHi_le a.w2 b.w2 (subHi a.w1 b.w1 (subHi a.w0 b.w0 0))
  have h3 := sub_word a.w3 b.w3 _ l2
  have z : (0 : UInt64).toNat = 0 := rfl
  simp only [nat4, limb_Sub]
  omega
theorem sub_borrow (a b : Four) : (limb_Sub a b).2.toNat ≤ 1 := subHi_le _ _ _

theorem shr64_nat (x : UInt64) (n : Nat) : (shr64 x n).toNat = x.toNat / 2 ^ n := by
  simp only [shr64, UInt64.toNat_ofNat']
  have := u64_lt x
  exact Nat.mod_eq_of_lt (Nat.lt_of_le_of_lt (Nat.div_le_self _ _) this)
theorem shl64_nat (x : UInt64) (n : Nat) : (shl64 x n).toNat = x.toNat * 2 ^ n % 18446744073709551616 := by
  simp only [shl64, UInt64.toNat_ofNat']
theorem low32 (x : UInt64) : (x &&& 4294967295).toNat = x.toNat % 4294967296 := by
  rw [UInt64.toNat_and]
  exact Nat.and_two_pow_sub_one_eq_mod x.toNat 32
theorem mul64_nat (x y : UInt64) : (mul64 x y).2.toNat + 18446744073709551616 * (mul64 x y).1.toNat = x.toNat * y.toNat := by
  have hx := u64_lt x; have hy := u64_lt y
  obtain ⟨x0, ex0⟩ : ∃ n, n = x.toNat % 4294967296 := ⟨_, rfl⟩
  obtain ⟨x1, ex1⟩ : ∃ n, n = x.toNat / 4294967296 := ⟨_, rfl⟩
  obtain ⟨y0, ey0⟩ : ∃ n, n = y.toNat % 4294967296 := ⟨_, rfl⟩
  obtain ⟨y1, ey1⟩ : ∃ n, n = y.toNat / 4294967296 := ⟨_, rfl⟩
  have hX : x.toNat = x0 + 4294967296 * x1 := by omega
  have hY : y.toNat = y0 + 4294967296 * y1 := by omega
  have b : ∀ u v : Nat, u ≤ 4294967295 → v ≤ 4294967295 → u * v ≤ 18446744065119617025 := fun u v h1 h2 => Nat.mul_le_mul h1 h2
  have b00 := b x0 y0 (by omega) (by omega)
  have b01 := b x0 y1 (by omega) (by omega)
  have b10 := b x1 y0 (by omega) (by omega)
  have b11 := b x1 y1 (by omega) (by omega)
  have e : x.toNat * y.toNat = x0 * y0 + 4294967296 * (x0 * y1) + 4294967296 * (x1 * y0) + 18446744073709551616 * (x1 * y1) := by rw [hX, hY]; grind
  simp only [mul64, UInt64.toNat_add, UInt64.toNat_mul, shr64_nat, low32, e, ← ex0, ← ex1, ← ey0, ← ey1, Nat.reducePow]
  generalize x0 * y0 = p00 at *
  generalize x0 * y1 = p01 at *
  generalize x1 * y0 = p10 at *
  generalize x1 * y1 = p11 at *
  omega
theorem mac_nat (x y o c : UInt64) : (macLo x y o c).toNat + 18446744073709551616 * (macHi x y o c).toNat = x.toNat * y.toNat + o.toNat + c.toNat := by
  have h0 := mul64_nat x y
  have h1 := add_word (mul64 x y).2 o 0 zero_le
  have h2 := add_word (addLo (mul64 x y).2 o 0) c 0 zero_le
  have z : (0 : UInt64).toNat = 0 := rfl
  have hb : x.toNat * y.toNat ≤ 340282366920938463426481119284349108225 := Nat.mul_le_mul (show x.toNat ≤ 18446744073709551615 by have := u64_lt x; omega) (show y.toNat ≤ 18446744073709551615 by have := u64_lt y; omega)
  have := u64_lt o; have := u64_lt c
  simp only [macLo, macHi, UInt64.toNat_add]
  have := u64_lt (addLo (addLo (mul64 x y).2 o 0) c 0)
  generalize x.toNat * y.toNat = p at *
  omega
theorem row_nat (x : UInt64) (b : Four) (o0 o1 o2 o3 : UInt64) :
    (mulRow x b o0 o1 o2 o3).r0.toNat + 18446744073709551616 * ((mulRow x b o0 o1 o2 o3).r1.toNat + 18446744073709551616 * ((mulRow x b o0 o1 o2 o3).r2.toNat + 18446744073709551616 * ((mulRow x b o0 o1 o2 o3).r3.toNat + 18446744073709551616 * (mulRow x b o0 o1 o2 o3).c.toNat)))
      = x.toNat * nat4 b + (o0.toNat + 18446744073709551616 * (o1.toNat + 18446744073709551616 * (o2.toNat + 18446744073709551616 * o3.toNat))) := by
  have h0 := mac_nat x b.w0 o0 0
  have h1 := mac_nat x b.w1 o1 (macHi x b.w0 o0 0)
  have h2 := mac_nat x b.w2 o2 (macHi x b.w1 o1 (macHi x b.w0 o0 0))
  have h3 := mac_nat x b.w3 o3 (macHi x b.w2 o2 (macHi x b.w1 o1 (macHi x b.w0 o0 0)))
  have z : (0 : UInt64).toNat = 0 := rfl
  have e : x.toNat * nat4 b = x.toNat * b.w0.toNat + 18446744073709551616 * (x.toNat * b.w1.toNat + 18446744073709551616 * (x.toNat * b.w2.toNat + 18446744073709551616 * (x.toNat * b.w3.toNat))) := by simp only [nat4]; grind
  rw [e]
  simp only [mulRow]
  generalize x.toNat * b.w0.toNat = p0 at *
  generalize x.toNat * b.w1.toNat = p1 at *
  generalize x.toNat * b.w2.toNat = p2 at *
  generalize x.toNat * b.w3.toNat = p3 at *
  omega
theorem mul_nat (a b : Four) : nat8 (limb_Mul a b) = nat4 a * nat4 b := by
  have e : nat4 a * nat4 b = a.w0.toNat * nat4 b + 18446744073709551616 * (a.w1.toNat * nat4 b + 18446744073709551616 * (a.w2.toNat * nat4 b + 18446744073709551616 * (a.w3.toNat * nat4 b))) := by rw [nat4]; grind
  have h0 := row_nat a.w0 b 0 0 0 0
  have h1 := row_nat a.w1 b (mulRow a.w0 b 0 0 0 0).r1 (mulRow a.w0 b 0 0 0 0).r2 (mulRow a.w0 b 0 0 0 0).r3 (mulRow a.w0 b 0 0 0 0).c
  have z : (0 : UInt64).toNat = 0 := rfl
  rw [e]
  simp only [nat8, limb_Mul]
  generalize mulRow a.w0 b 0 0 0 0 = r at *
  have h2 := row_nat a.w2 b (mulRow a.w1 b r.r1 r.r2 r.r3 r.c).r1 (mulRow a.w1 b r.r1 r.r2 r.r3 r.c).r2 (mulRow a.w1 b r.r1 r.r2 r.r3 r.c).r3 (mulRow a.w1 b r.r1 r.r2 r.r3 r.c).c
  generalize mulRow a.w1 b r.r1 r.r2 r.r3 r.c = s at *
  have h3 := row_nat a.w3 b (mulRow a.w2 b s.r1 s.r2 s.r3 s.c).r1 (mulRow a.w2 b s.r1 s.r2 s.r3 s.c).r2 (mulRow a.w2 b s.r1 s.r2 s.r3 s.c).r3 (mulRow a.w2 b s.r1 s.r2 s.r3 s.c).c
  generalize mulRow a.w2 b s.r1 s.r2 s.r3 s.c = t at *
  generalize a.w0.toNat * nat4 b = p0 at *
  generalize a.w1.toNat * nat4 b = p1 at *
  generalize a.w2.toNat * nat4 b = p2 at *
  generalize a.w3.toNat * nat4 b = p3 at *
  omega
theorem mw_nat (x w c : UInt64) : (mwLo x w c).toNat + 18446744073709551616 * (mwHi x w c).toNat = x.toNat * w.toNat + c.toNat := by
  have h0 := mul64_nat x w
  have h1 := add_word (mul64 x w).2 c 0 zero_le
  have z : (0 : UInt64).toNat = 0 := rfl
  have hb : x.toNat * w.toNat ≤ 340282366920938463426481119284349108225 := Nat.mul_le_mul (show x.toNat ≤ 18446744073709551615 by have := u64_lt x; omega) (show w.toNat ≤ 18446744073709551615 by have := u64_lt w; omega)
  have := u64_lt c
  simp only [mwLo, mwHi, UInt64.toNat_add]
  generalize x.toNat * w.toNat = p at *
  omega
theorem mulword_nat (a : Four) (w : UInt64) : nat4 (limb_MulWord a w).1 + 115792089237316195423570985008687907853269984665640564039457584007913129639936 * (limb_MulWord a w).2.toNat = nat4 a * w.toNat := by
  have e : nat4 a * w.toNat = a.w0.toNat * w.toNat + 18446744073709551616 * (a.w1.toNat * w.toNat + 18446744073709551616 * (a.w2.toNat * w.toNat + 18446744073709551616 * (a.w3.toNat * w.toNat))) := by simp only [nat4]; grind
  have h0 := mw_nat a.w0 w 0
  have h1 := mw_nat a.w1 w (mwHi a.w0 w 0)
  have h2 := mw_nat a.w2 w (mwHi a.w1 w (mwHi a.w0 w 0))
  have h3 := mw_nat a.w3 w (mwHi a.w2 w (mwHi a.w1 w (mwHi a.w0 w 0)))
  have z : (0 : UInt64).toNat = 0 := rfl
  rw [e]
  simp only [nat4, limb_MulWord]
  generalize a.w0.toNat * w.toNat = p0 at *
  generalize a.w1.toNat * w.toNat = p1 at *
  generalize a.w2.toNat * w.toNat = p2 at *
  generalize a.w3.toNat * w.toNat = p3 at *
  omega
end Go.Proofs.YtficbeeoafiiaaaGreatDoor
