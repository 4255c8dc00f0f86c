/- Package limb: shifts and a bit as functions of numbers; bytes. -/
import Derived.Test.YthechjccpljljaaLimb3
namespace Go.Proofs.Ythechjccpljljaa
open Go.Sym

theorem wr_small {n : Int} (h : -9223372036854775808 ≤ n) (h' : n < 9223372036854775808) : wr n = n := by
  simp only [wr, IntKind.wrap, IntKind.signed, IntKind.bits, Bool.true_and]
  split
  · rename_i k; simp at k; omega
  · rename_i k; simp at k; omega
theorem low_nat {n : Int} (h : 0 ≤ n) : (lowOf n).toNat = n.toNat % 64 := by
  obtain ⟨m, rfl⟩ := Int.eq_ofNat_of_zero_le h
  have e : (m : Int).tmod 64 = ((m % 64 : Nat) : Int) := Int.tmod_eq_emod_of_nonneg (by omega)
  simp only [lowOf, e, Int.toNat_natCast]
  have : (UInt64.ofInt ((m % 64 : Nat) : Int)).toNat = m % 64 := by
    rw [UInt64.ofInt]
    simp
    omega
  exact this
theorem sub_low {K : UInt64} (h : K.toNat < 64) : ((64 : UInt64) - K).toNat = 64 - K.toNat := by
  rw [UInt64.toNat_sub_of_le]
  · rfl
  · rw [UInt64.le_iff_toNat_le]; show _ ≤ 64; omega
theorem lxK_eq (x y K : UInt64) (h0 : 0 < K.toNat) (h : K.toNat < 64) : lxK x y K = lx x y K.toNat := by
  simp only [lxK, lx, sub_low h, show Nat.blt 0 K.toNat = true by rw [Nat.blt_eq]; exact h0, cond_true]
theorem rxK_eq (x y K : UInt64) (h0 : 0 < K.toNat) (h : K.toNat < 64) : rxK x y K = rx x y K.toNat := by
  simp only [rxK, rx, sub_low h, show Nat.blt 0 K.toNat = true by rw [Nat.blt_eq]; exact h0, cond_true]
theorem quo_eq {n : Int} (h : 0 ≤ n) (h' : n ≤ 255) : wr (n.tdiv 64) = Int.ofNat (n.toNat / 64) := by
  obtain ⟨m, rfl⟩ := Int.eq_ofNat_of_zero_le h
  rw [show (m : Int).tdiv 64 = ((m / 64 : Nat) : Int) from Int.tdiv_eq_ediv_of_nonneg (by omega)]
  rw [wr_small (by omega) (by omega)]
  simp
theorem tmod_zero {n : Int} (h : 0 ≤ n) (hk : n.toNat % 64 = 0) : n.tmod 64 = 0 := by
  rw [Int.tmod_eq_emod_of_nonneg h]; omega
theorem left_cases (a : Four) (n : Int) : ∃ D, FnVD tt sp2 9 D Try.f37 (fun p : A2 => limb_Left p.1 p.2.1) (a, n, ()) := by
  by_cases h0 : n ≤ 0
  · refine ⟨dLow, FnVD.of a (by simp [limb_Left, h0]) (left_low a n) ⟨by simp [h0], rfl⟩⟩
  by_cases h1 : 255 < n
  · refine ⟨dHigh, FnVD.of zero4 (by simp [limb_Left, h0, h1]) (left_high a n) ⟨by simp; omega, by simp [h1], rfl⟩⟩
  have hn : n.toNat / 64 < 4 := by omega
  have hlow := low_nat (n := n) (by omega)
  by_cases hk : n.toNat % 64 = 0
  · refine ⟨d0 (n.toNat / 64), FnVD.raw (left0 a (n.toNat / 64)) ?_ (all_of_map 4 (left_0 a n) _ hn ⟨by simp; omega, by simp; omega, quo_eq (by omega) (by omega), tmod_zero (by omega) hk, rfl⟩)⟩
    simp only [limb_Left, h0, h1, if_false, leftN, hk]
    have : n.toNat / 64 = 0 ∨ n.toNat / 64 = 1 ∨ n.toNat / 64 = 2 ∨ n.toNat / 64 = 3 := by omega
    rcases this with e | e | e | e <;> rw [e] <;> rfl
  · have hlt : (lowOf n).toNat < 64 := by omega
    refine ⟨dK (n.toNat / 64), FnVD.raw (leftK a (lowOf n) (n.toNat / 64)) ?_ (all_of_map 4 (left_K a n) _ hn ⟨by simp; omega, by simp; omega, quo_eq (by omega) (by omega), times_mk (by simp [UInt64.lt_iff_toNat_lt]; omega) rfl _⟩)⟩
    simp only [limb_Left, h0, h1, if_false, leftN, ← hlow]
    have : n.toNat / 64 = 0 ∨ n.toNat / 64 = 1 ∨ n.toNat / 64 = 2 ∨ n.toNat / 64 = 3 := by omega
    rcases this with e | e | e | e <;> rw [e] <;> simp only [leftK, lxK_eq _ _ _ (show 0 < (lowOf n).toNat by omega) hlt]
abbrev sLeft : SpecF := fspec (α := A2) total fun p => limb_Left p.1 p.2.1
theorem ok_Left : SpecOK Try.prog 37 sLeft :=
  fn_okD mixed tt_ok sp2_ok 9 Try.func37 (by decide +kernel) rfl (fun ⟨a, n, ()⟩ _ => left_cases a n)
theorem right_cases (a : Four) (n : Int) : ∃ D, FnVD tt sp2 9 D Try.f38 (fun p : A2 => limb_Right p.1 p.2.1) (a, n, ()) := by
  by_cases h0 : n ≤ 0
  · refine ⟨dLow, FnVD.of a (by simp [limb_Right, h0]) (right_low a n) ⟨by simp [h0], rfl⟩⟩
  by_cases h1 : 255 < n
  · refine ⟨dHigh, FnVD.of zero4 (by simp [limb_Right, h0, h1]) (right_high a n) ⟨by simp; omega, by simp [h1], rfl⟩⟩
  have hn : n.toNat / 64 < 4 := by omega
  have hlow := low_nat (n := n) (by omega)
  by_cases hk : n.toNat % 64 = 0
  · refine ⟨d0 (n.toNat / 64), FnVD.raw (right0 a (n.toNat / 64)) ?_ (all_of_map 4 (right_0 a n) _ hn ⟨by simp; omega, by simp; omega, quo_eq (by omega) (by omega), tmod_zero (by omega) hk, rfl⟩)⟩
    simp only [limb_Right, h0, h1, if_false, rightN, hk]
    have : n.toNat / 64 = 0 ∨ n.toNat / 64 = 1 ∨ n.toNat / 64 = 2 ∨ n.toNat / 64 = 3 := by omega
    rcases this with e | e | e | e <;> rw [e] <;> rfl
  · have hlt : (lowOf n).toNat < 64 := by omega
    refine ⟨dK (n.toNat / 64), FnVD.raw (rightK a (lowOf n) (n.toNat / 64)) ?_ (all_of_map 4 (right_K a n) _ hn ⟨by simp; omega, by simp; omega, quo_eq (by omega) (by omega), times_mk (by simp [UInt64.lt_iff_toNat_lt]; omega) rfl _⟩)⟩
    simp only [limb_Right, h0, h1, if_false, rightN, ← hlow]
    have : n.toNat / 64 = 0 ∨ n.toNat / 64 = 1 ∨ n.toNat / 64 = 2 ∨ n.toNat / 64 = 3 := by omega
    rcases this with e | e | e | e <;> rw [e] <;> simp only [rightK, rxK_eq _ _ _ (show 0 < (lowOf n).toNat by omega) hlt]
abbrev sRight : SpecF := fspec (α := A2) total fun p => limb_Right p.1 p.2.1
theorem ok_Right : SpecOK Try.prog 38 sRight :=
  fn_okD mixed tt_ok sp2_ok 9 Try.func38 (by decide +kernel) rfl (fun ⟨a, n, ()⟩ _ => right_cases a n)
theorem bit_cases (a : Four) (n : Int) : ∃ D, FnVD tt sp2 9 D Try.f39 (fun p : A2 => limb_Bit p.1 p.2.1) (a, n, ()) := by
  by_cases h0 : n < 0
  · refine ⟨[(1, 1, .b true)], FnVD.of 0 (by simp [limb_Bit, h0]) (bit_low a n) ⟨by simp [h0], rfl⟩⟩
  by_cases h1 : 255 < n
  · refine ⟨[(1, 1, .b false), (1, 4, .b true)], FnVD.of 0 (by simp [limb_Bit, h0, h1]) (bit_high a n) ⟨by simp; omega, by simp [h1], rfl⟩⟩
  have hn : n.toNat / 64 < 4 := by omega
  have hlow := low_nat (n := n) (by omega)
  refine ⟨_, FnVD.raw (bitK a (lowOf n) (n.toNat / 64)) ?_ (all_of_map 4 (bit_K a n) _ hn ⟨by simp; omega, by simp; omega, quo_eq (by omega) (by omega), rfl⟩)⟩
  simp only [limb_Bit, h0, h1, if_false, bitN, ← hlow]
  have : n.toNat / 64 = 0 ∨ n.toNat / 64 = 1 ∨ n.toNat / 64 = 2 ∨ n.toNat / 64 = 3 := by omega
  rcases this with e | e | e | e <;> rw [e] <;> rfl
abbrev sBit : SpecF := fspec (α := A2) total fun p => limb_Bit p.1 p.2.1
theorem ok_Bit : SpecOK Try.prog 39 sBit :=
  fn_okD mixed tt_ok sp2_ok 9 Try.func39 (by decide +kernel) rfl (fun ⟨a, n, ()⟩ _ => bit_cases a n)
end Go.Proofs.Ythechjccpljljaa
