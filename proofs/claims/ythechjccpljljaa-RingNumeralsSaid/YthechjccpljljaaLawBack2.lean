/- Layer 1, what is added and taken away: the law holds. -/
import Derived.Test.YthechjccpljljaaLawBack
import Derived.Test.YthechjccpljljaaLimbLaws3
namespace Go.Proofs.Ythechjccpljljaa
open Go.Sym

theorem eq4_self (x : Four) : eq4 x x = true := by simp [eq4]
theorem eq8_self (x : Eight) : eq8 x x = true := by simp [eq8]
theorem back_sub (a b : Four) : limb_Sub (limb_Add a b).1 b = (a, (limb_Add a b).2) := by
  have h1 := add_nat a b; have h2 := sub_nat (limb_Add a b).1 b
  have l1 := add_carry a b; have l2 := sub_borrow (limb_Add a b).1 b
  have m1 := nat4_lt a; have m2 := nat4_lt (limb_Sub (limb_Add a b).1 b).1
  have e1 : (limb_Sub (limb_Add a b).1 b).1 = a := nat4_inj (by omega)
  have e2 : (limb_Sub (limb_Add a b).1 b).2 = (limb_Add a b).2 := UInt64.toNat_inj.1 (by omega)
  exact Prod.ext e1 e2
theorem back_cmp (a b : Four) : limb_Cmp a b = wr (0 - limb_Cmp b a) := by
  rw [cmp_nat, cmp_nat]
  by_cases h1 : nat4 a < nat4 b
  · rw [if_pos h1, if_neg (by omega), if_neg (by omega)]; rfl
  · by_cases h2 : nat4 a = nat4 b
    · rw [if_neg h1, if_pos h2, if_neg (by omega), if_pos h2.symm]; rfl
    · rw [if_neg h1, if_neg h2, if_pos (by omega)]; rfl
theorem shOf_nat (w : UInt64) : shOf w = ((w.toNat % 256 : Nat) : Int) := by
  have : (w % 256).toNat = w.toNat % 256 := by rw [UInt64.toNat_mod]; rfl
  rw [shOf, this, wr_small (by omega) (by omega)]
theorem there_back (a : Four) (n : Nat) (h : n < 256) : nat4 (limb_Right (limb_Left a n) n) = nat4 a % 2 ^ (256 - n) := by
  rw [right_nat _ _ h, left_nat _ _ h]
  have e : 115792089237316195423570985008687907853269984665640564039457584007913129639936 = 2 ^ (256 - n) * 2 ^ n := by rw [← Nat.pow_add, Nat.sub_add_cancel (by omega)]
  rw [e, Nat.mul_mod_mul_right, Nat.mul_div_cancel _ (Nat.two_pow_pos n)]
theorem back_shift (a : Four) (n : Nat) (h : n < 256) : limb_Right (limb_Left (limb_Right (limb_Left a n) n) n) n = limb_Right (limb_Left a n) n := by
  apply nat4_inj
  rw [there_back _ _ h, there_back _ _ h, Nat.mod_mod]
theorem back_bits (a : Four) (n : Nat) (h : n < 256) : limb_Bits (limb_Right a n) = lessBits (limb_Bits a) n := by
  obtain ⟨m, e1, l1, h1⟩ := bits_nat a
  obtain ⟨k, e2, l2, h2⟩ := bits_nat (limb_Right a n)
  rw [right_nat _ _ h] at h2
  have := h2.unique (h1.down n)
  rw [e1, e2, lessBits, wr_small (by omega) (by omega)]
  split <;> omega
theorem back_mulword (a b : Four) (w : UInt64) : (limb_Add (limb_MulWord a w).1 (limb_MulWord b w).1).1 = (limb_MulWord (limb_Add a b).1 w).1 := by
  apply nat4_inj
  have h1 := mulword_nat a w; have h2 := mulword_nat b w; have h3 := mulword_nat (limb_Add a b).1 w
  have h4 := add_nat a b; have h5 := add_nat (limb_MulWord a w).1 (limb_MulWord b w).1
  have m1 := nat4_lt (limb_Add (limb_MulWord a w).1 (limb_MulWord b w).1).1
  have m2 := nat4_lt (limb_MulWord (limb_Add a b).1 w).1
  have e : nat4 (limb_Add a b).1 * w.toNat + 115792089237316195423570985008687907853269984665640564039457584007913129639936 * ((limb_Add a b).2.toNat * w.toNat) = nat4 a * w.toNat + nat4 b * w.toNat := by
    rw [← Nat.add_mul, ← h4]; grind
  generalize nat4 a * w.toNat = p at *
  generalize nat4 b * w.toNat = q at *
  generalize nat4 (limb_Add a b).1 * w.toNat = r at *
  generalize (limb_Add a b).2.toNat * w.toNat = s at *
  omega
theorem backE_ok (a b : Four) (w : UInt64) : backE a b w := by
  have hn : w.toNat % 256 < 256 := Nat.mod_lt _ (by decide)
  refine ⟨rfl, ?_, ?_, ?_, ?_, ?_, ?_, ?_, ?_, ?_, rfl⟩
  · rw [back_sub]; simp only [eq4_self, Bool.not_true]
  · rw [back_sub]; simp only [bne_self_eq_false]
  · rw [of_bytes]; rfl
  · rw [of_bytes]; simp only [eq4_self, Bool.not_true]
  · rw [← back_cmp, bne_self_eq_false]
  · rw [nat8_inj (a := limb_Mul a b) (b := limb_Mul b a) (by rw [mul_nat, mul_nat, Nat.mul_comm]), eq8_self]; rfl
  · rw [shOf_nat, back_shift a _ hn, eq4_self]; rfl
  · rw [shOf_nat, back_bits a _ hn, bne_self_eq_false]
  · rw [back_mulword, eq4_self]
abbrev sBack : SpecF := fspec (α := ABk) total fun _ => true
theorem ok_Back : SpecOK Try.prog 7 sBack :=
  fn_okD mixed tt_ok spL1_ok 9 Try.func7 (by decide +kernel) rfl
    (fun ⟨a, b, w, ()⟩ _ => ⟨_, FnVD.of true (Eq.refl _) (back_vc a b w) (backE_ok a b w)⟩)
end Go.Proofs.Ythechjccpljljaa
