/- A symbolic machine for Go functions, and what the functions that the law reaches come to: LawQ. -/
import Derived.Test.YthechjccpljljaaQ10
/- Layer 3's laws of powers: what is to be shown of their bodies is so. -/
set_option maxRecDepth 10000
namespace Go.Proofs.Ythechjccpljljaa
open Go.Sym Go.Dig

theorem spRp_ok : SpecsOK Try.prog spRp := .cons ok_ExpR <| .cons ok_InvR spRg_ok
theorem spR5_ok : SpecsOK Try.prog spR5 := .cons ok_Awake3 <| .cons ok_nOf <| .cons ok_nExp3 <| .cons ok_nInv3 <| .cons ok_nNumeral <| SpecsOK.append spRp_ok spH_ok
theorem spR5T_ok : SpecsOK Try.prog spR5T := .cons ok_NewG <| .cons ok_OddT spR5_ok
theorem spR5F_ok : SpecsOK Try.prog spR5F := .cons ok_NewN <| .cons ok_OddF spR5_ok
theorem neq4_of {a b : Four} (h : a = b) : (!(eq4 a b)) = false := by rw [eq4_of h]; rfl
section
variable {r : RingV} (g : RGood r)
include g
theorem expIn_nat (a e : Four) : nat4 (expR r (timesR r a r.two) e) = (nat4 a % nat4 r.m) ^ nat4 e * 2 ^ 256 % nat4 r.m := by
  rw [expR_nat g, in_nat g, unR_mod, unR_mul g.odd]
theorem invR_nat (a : Four) : nat4 (invR r a) = unR (nat4 r.m) (nat4 a) ^ (nat4 r.m - 2) * 2 ^ 256 % nat4 r.m := by
  unfold invR
  rw [onR_good g, expR_nat g]
  have h1 := sub_nat r.m two4; have h2 := sub_borrow r.m two4
  have l1 := nat4_lt (limb_Sub r.m two4).1; have l2 := nat4_lt r.m
  have h3 : nat4 two4 = 2 := rfl
  have := g.big
  rw [show nat4 (limb_Sub r.m two4).1 = nat4 r.m - 2 by omega]
theorem in_lt (a : Four) : nat4 (timesR r a r.two) < nat4 r.m := by rw [in_nat g]; exact Nat.mod_lt _ (by have := g.big; omega)
end
abbrev sPowers3 : SpecF := fspec (α := Four × Four × Four × Unit) total fun _ => true
theorem ok_Powers3 : SpecOK Try.prog 10 sPowers3 := by
  refine fn_okS (by kernel_rfl) tt_ok 9 Try.func10 (by decide +kernel) (by kernel_rfl) ?_
  rintro ⟨m, a, n, _⟩ _
  cases hg : goodM m with
  | false => exact ⟨spR5F, spR5F_ok, _, {}, fun x => x = .bool true, LnVD.of (vcPowersF m a n _) ⟨hg, rfl⟩, sv_fin⟩
  | true =>
    refine ⟨spR5T, spR5T_ok, _, {}, fun x => x = .bool true, LnVD.of (vcPowersT m a n _) ?_, sv_fin⟩
    have g := ringOf_good hg
    have ho : nat4 m % 2 = 1 := g.odd
    have hbig : 1 < nat4 m := g.big
    have h0 : 0 < nat4 m := by omega
    have lm := nat4_lt m
    have fm := Fw4 m
    have sm : ∀ n, R1.Sm (n % nat4 m) := fun n => SmB (by have := Nat.mod_lt n h0; omega)
    have fmod : ∀ n, Fw (n % nat4 m) := fun n => FwC (by have := Nat.mod_lt n h0; omega)
    have l : ∀ {n : Nat}, Fw n → (dg n).length ≤ 536870912 := fun h => Nat.le_trans h (by omega)
    refine ⟨hg, hg, ⟨l (Fw4 a), l fm, h0⟩, ⟨fmod _, Fw4 n, fm, h0⟩, ⟨fmod _, fm, h0⟩, sm _, ?_, ⟨l (Fw4 a), l fm, h0⟩, ⟨fmod _, fm, hbig⟩, ⟨fmod _, fm, h0⟩, sm _, ?_, rfl⟩
    · refine (eq4_of ?_ : eq4 _ (R1.fourN _) = true)
      simp only [onR_good g]
      refine fourN_of ((expIn_nat g a n).trans ?_)
      show _ % nat4 m = _
      rw [mod_mul_l, show Int.toNat 256 = 256 from rfl]; rfl
    · refine (eq4_of ?_ : eq4 _ (R1.fourN _) = true)
      simp only [onR_good g]
      refine fourN_of ((invR_nat g _).trans ?_)
      rw [in_nat g, unR_mod, unR_mul g.odd]
      show _ % nat4 m = _
      rw [mod_mul_l, show Int.toNat 256 = 256 from rfl]; rfl
theorem small_nat (x : UInt32) : nat4 ⟨x.toUInt64, UInt64.ofNat (Int.toNat 0), UInt64.ofNat (Int.toNat 0), UInt64.ofNat (Int.toNat 0)⟩ = x.toNat := by
  simp only [nat4]
  rw [show (UInt64.ofNat (Int.toNat 0)).toNat = 0 from rfl, UInt32.toNat_toUInt64]
  omega
theorem small2_nat (x y : UInt32) : nat4 ⟨x.toUInt64 + y.toUInt64, UInt64.ofNat (Int.toNat 0), UInt64.ofNat (Int.toNat 0), UInt64.ofNat (Int.toNat 0)⟩ = x.toNat + y.toNat := by
  simp only [nat4]
  have h1 := x.toNat_lt; have h2 := y.toNat_lt
  rw [show (UInt64.ofNat (Int.toNat 0)).toNat = 0 from rfl, UInt64.toNat_add, UInt32.toNat_toUInt64, UInt32.toNat_toUInt64]
  omega
section
variable {M : Nat}
theorem unR_comm (x y : Nat) : unR M (x * y) = unR M (y * x) := by rw [Nat.mul_comm]
theorem unR_distr (a b c : Nat) : unR M (a * ((b + c) % M)) = (unR M (a * b) + unR M (a * c)) % M := by
  rw [← unR_mod, mod_mul_r, unR_mod, Nat.mul_add]
  unfold unR
  rw [Nat.add_mul, Nat.add_mod]
theorem unR_assoc (a b c : Nat) : unR M (unR M (a * b) * c) = unR M (a * unR M (b * c)) := by
  have e1 : unR M (unR M (a * b) * c) = unR M (a * b * hf M ^ 256 * c) := by
    rw [← unR_mod, show unR M (a * b) = a * b * hf M ^ 256 % M from rfl, mod_mul_l, unR_mod]
  have e2 : unR M (a * unR M (b * c)) = unR M (a * (b * c * hf M ^ 256)) := by
    rw [← unR_mod, show unR M (b * c) = b * c * hf M ^ 256 % M from rfl, mod_mul_r, unR_mod]
  rw [e1, e2]
  congr 1
  generalize hf M ^ 256 = h
  simp only [Nat.mul_assoc, Nat.mul_comm h]
theorem less_back {a b : Nat} (ha : a < M) (hb : b < M) : ((a + b) % M % M + M - b % M) % M = a := by
  rw [Nat.mod_mod, Nat.mod_eq_of_lt hb]
  by_cases h : a + b < M
  · rw [Nat.mod_eq_of_lt h, show a + b + M - b = a + M by omega, Nat.add_mod_right, Nat.mod_eq_of_lt ha]
  · have e : (a + b) % M = a + b - M := by rw [Nat.mod_eq_sub_mod (by omega), Nat.mod_eq_of_lt (by omega)]
    rw [e, show a + b - M + M - b = a by omega, Nat.mod_eq_of_lt ha]
end
abbrev sBack3 : SpecF := fspec (α := Four × Fours3 × Two32 × Unit) total fun _ => true
theorem ok_Back3 : SpecOK Try.prog 11 sBack3 := by
  refine fn_okS (by kernel_rfl) tt_ok 9 Try.func11 (by decide +kernel) (by kernel_rfl) ?_
  rintro ⟨m, l, n, _⟩ _
  cases hg : goodM m with
  | false => exact ⟨spR5F, spR5F_ok, _, {}, fun x => x = .bool true, LnVD.of (vcBackF m l n _) ⟨rfl, rfl, rfl, rfl, rfl, rfl, hg, hg, rfl⟩, sv_fin⟩
  | true =>
    refine ⟨spR5T, spR5T_ok, _, {}, fun x => x = .bool true, LnVD.of (vcBackT m l n _) ?_, sv_fin⟩
    have g := ringOf_good hg
    have hbig : 1 < nat4 (ringOf m).m := g.big
    have h0 : 0 < nat4 (ringOf m).m := by omega
    simp only [onR_good g]
    have lx := in_lt g l.x; have ly := in_lt g l.y
    refine ⟨rfl, rfl, rfl, rfl, rfl, rfl, hg, neq4_of (nat4_inj ?_), neq4_of (nat4_inj ?_), neq4_of (nat4_inj ?_), neq4_of (nat4_inj ?_), neq4_of (nat4_inj ?_), neq4_of (nat4_inj ?_), eq4_of (nat4_inj ?_), eq4_of (nat4_inj ?_), eq4_of (nat4_inj ?_), by trivial⟩
    · rw [out_nat g, in_nat g, unR_mod, unR_mul g.odd, redR_nat g]
    · rw [plusR_nat g, plusR_nat g, Nat.add_comm]
    · rw [mulR_nat g, mulR_nat g, Nat.mul_comm]
    · rw [minusR_nat g, plusR_nat g]; exact less_back lx ly
    · rw [mulR_nat g, plusR_nat g, plusR_nat g, mulR_nat g, mulR_nat g]; exact unR_distr _ _ _
    · rw [mulR_nat g, mulR_nat g, mulR_nat g, mulR_nat g]; exact unR_assoc _ _ _
    · rw [mulR_nat g, expIn_nat g, expIn_nat g, expIn_nat g, unR_prod g.odd, ← Nat.pow_add, small_nat, small_nat, small2_nat]
    · rw [expR_nat g, show nat4 ⟨UInt64.ofNat (Int.toNat 1), UInt64.ofNat (Int.toNat 0), UInt64.ofNat (Int.toNat 0), UInt64.ofNat (Int.toNat 0)⟩ = 1 from rfl, Nat.pow_one, unR_back g.odd, Nat.mod_eq_of_lt lx]
    · rw [expR_nat g, show nat4 ⟨UInt64.ofNat (Int.toNat 0), UInt64.ofNat (Int.toNat 0), UInt64.ofNat (Int.toNat 0), UInt64.ofNat (Int.toNat 0)⟩ = 0 from rfl, Nat.pow_zero, in_nat g, show nat4 ⟨UInt64.ofNat (Int.toNat 1), UInt64.ofNat (Int.toNat 0), UInt64.ofNat (Int.toNat 0), UInt64.ofNat (Int.toNat 0)⟩ = 1 from rfl]
end Go.Proofs.Ythechjccpljljaa
