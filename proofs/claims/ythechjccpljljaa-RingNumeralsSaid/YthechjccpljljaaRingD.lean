/- Package ring: plain facts on residues. -/
import Derived.Test.YthechjccpljljaaRingC
namespace Go.Proofs.Ythechjccpljljaa
open Go.Sym Go.Dig

/-! Modulo M. -/
theorem mod_mul_l (M x y : Nat) : x % M * y % M = x * y % M := by rw [Nat.mul_mod, Nat.mod_mod, ← Nat.mul_mod]
theorem mod_mul_r (M x y : Nat) : x * (y % M) % M = x * y % M := by rw [Nat.mul_mod, Nat.mod_mod, ← Nat.mul_mod]
theorem mod_add_l (M x y : Nat) : (x % M + y) % M = (x + y) % M := by rw [Nat.add_mod, Nat.mod_mod, ← Nat.add_mod]
theorem mod_add_r (M x y : Nat) : (x + y % M) % M = (x + y) % M := by rw [Nat.add_mod, Nat.mod_mod, ← Nat.add_mod]
/-- By 2, modulo an odd M. -/
def hf (M : Nat) : Nat := (M + 1) / 2
theorem two_hf {M : Nat} (h : M % 2 = 1) : 2 * hf M % M = 1 % M := by
  have : 2 * hf M = 1 + M := by unfold hf; omega
  rw [this, Nat.add_mod_right]
theorem pow_hf {M : Nat} (h : M % 2 = 1) (n : Nat) : 2 ^ n * hf M ^ n % M = 1 % M := by
  rw [← Nat.mul_pow, Nat.pow_mod, two_hf h, ← Nat.pow_mod, Nat.one_pow]
def unR (M t : Nat) : Nat := t * hf M ^ 256 % M
theorem unR_of {M t x : Nat} (h : M % 2 = 1) (hx : x < M) (e : x * 2 ^ 256 % M = t % M) : x = unR M t := by
  have h1 : x * (2 ^ 256 * hf M ^ 256) % M = t * hf M ^ 256 % M := by
    rw [← Nat.mul_assoc, Nat.mul_mod, e, ← Nat.mul_mod]
  rw [Nat.mul_mod, pow_hf h 256, ← Nat.mul_mod, Nat.mul_one, Nat.mod_eq_of_lt hx] at h1
  exact h1
theorem unR_lt {M : Nat} (t : Nat) (h : 0 < M) : unR M t < M := Nat.mod_lt _ h
theorem unR_mod (M t : Nat) : unR M (t % M) = unR M t := mod_mul_l _ _ _
theorem unR_mul {M : Nat} (h : M % 2 = 1) (x : Nat) : unR M (x * 2 ^ 256) = x % M := by
  unfold unR
  rw [Nat.mul_assoc, Nat.mul_mod, pow_hf h 256, ← Nat.mul_mod, Nat.mul_one]
theorem unR_back {M : Nat} (h : M % 2 = 1) (t : Nat) : unR M t * 2 ^ 256 % M = t % M := by
  unfold unR
  rw [mod_mul_l, Nat.mul_assoc, Nat.mul_comm (hf M ^ 256), Nat.mul_mod, pow_hf h 256, ← Nat.mul_mod, Nat.mul_one]

/-! Sums. -/
theorem bit_or_xor (c e : UInt64) (hc : c.toNat ≤ 1) (he : e.toNat ≤ 1) : (c ||| (e ^^^ 1)).toNat % 2 = if c.toNat = 1 ∨ e.toNat = 0 then 1 else 0 := by
  have h1 : c = 0 ∨ c = 1 := by
    have : c.toNat = 0 ∨ c.toNat = 1 := by omega
    rcases this with h | h
    · exact .inl (UInt64.toNat_inj.1 h)
    · exact .inr (UInt64.toNat_inj.1 h)
  have h2 : e = 0 ∨ e = 1 := by
    have : e.toNat = 0 ∨ e.toNat = 1 := by omega
    rcases this with h | h
    · exact .inl (UInt64.toNat_inj.1 h)
    · exact .inr (UInt64.toNat_inj.1 h)
  rcases h1 with rfl | rfl <;> rcases h2 with rfl | rfl <;> decide
/-- What lies below twice M, made less by M. -/
theorem less_nat (high m : Four) (o : UInt64) (ho : o.toNat ≤ 1) (hlt : nat4 high + 115792089237316195423570985008687907853269984665640564039457584007913129639936 * o.toNat < 2 * nat4 m) :
    nat4 (limb_Select (o ||| ((limb_Sub high m).2 ^^^ 1)) (limb_Sub high m).1 high) = (nat4 high + 115792089237316195423570985008687907853269984665640564039457584007913129639936 * o.toNat) % nat4 m := by
  have h3 := sub_nat high m; have h4 := sub_borrow high m
  have l1 := nat4_lt (limb_Sub high m).1; have l2 := nat4_lt m; have l3 := nat4_lt high
  have hb := bit_or_xor o (limb_Sub high m).2 ho h4
  by_cases hc : o.toNat = 1 ∨ (limb_Sub high m).2.toNat = 0
  · rw [if_pos hc] at hb
    rw [select_one _ _ _ hb]
    have : nat4 high + 115792089237316195423570985008687907853269984665640564039457584007913129639936 * o.toNat = nat4 (limb_Sub high m).1 + nat4 m := by omega
    rw [this, Nat.add_mod_right, Nat.mod_eq_of_lt (by omega)]
  · rw [if_neg hc] at hb
    rw [select_zero _ _ _ hb]
    have : o.toNat = 0 := by omega
    rw [this, Nat.mul_zero, Nat.add_zero, Nat.mod_eq_of_lt (by omega)]
theorem ringPlus_nat (m a b : Four) (ha : nat4 a < nat4 m) (hb : nat4 b < nat4 m) : nat4 (ringPlus m a b) = (nat4 a + nat4 b) % nat4 m := by
  have h1 := add_nat a b; have h2 := add_carry a b
  have := less_nat (limb_Add a b).1 m (limb_Add a b).2 h2 (by omega)
  rw [h1] at this
  exact this

/-! What m is -1 by, modulo 2^64. -/
theorem newt_step (w x : UInt64) : 1 - w * (x * (2 - w * x)) = (1 - w * x) * (1 - w * x) := by grind
theorem newt_inv (w : UInt64) (h : w &&& 1 = 1) : w * newt w 6 = 1 := by
  obtain ⟨c, hc⟩ : ∃ c, 1 - w = 2 * c := by
    refine ⟨UInt64.ofNat ((1 - w).toNat / 2), ?_⟩
    apply UInt64.toNat_inj.1
    have h1 := congrArg UInt64.toNat h
    rw [and_one] at h1
    have h2 : (1 - w).toNat % 2 = 0 := by
      rw [UInt64.toNat_sub]
      have := u64_lt w
      have e : (1 : UInt64).toNat = 1 := rfl
      rw [e] at h1 ⊢
      omega
    have := u64_lt (1 - w)
    rw [UInt64.toNat_mul, UInt64.toNat_ofNat', show (2 : UInt64).toNat = 2 from rfl]
    omega
  have e0 : 1 - w * newt w 0 = 2 * c := by rw [← hc]; show 1 - w * 1 = _; rw [UInt64.mul_one]
  have e1 : 1 - w * newt w 1 = 4 * (c * c) := by rw [newt, newt_step, e0]; grind
  have e2 : 1 - w * newt w 2 = 16 * (c * c * (c * c)) := by rw [newt, newt_step, e1]; grind
  generalize c * c * (c * c) = d at e2
  have e3 : 1 - w * newt w 3 = 256 * (d * d) := by rw [newt, newt_step, e2]; grind
  generalize d * d = f at e3
  have e4 : 1 - w * newt w 4 = 65536 * (f * f) := by rw [newt, newt_step, e3]; grind
  generalize f * f = g at e4
  have e5 : 1 - w * newt w 5 = 4294967296 * (g * g) := by rw [newt, newt_step, e4]; grind
  generalize g * g = i at e5
  have e6 : 1 - w * newt w 6 = 0 := by rw [newt, newt_step, e5]; grind
  grind
end Go.Proofs.Ythechjccpljljaa
