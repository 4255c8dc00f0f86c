/- The reference's functions on digits (1): what they say is so. -/
import Derived.Test.YthechjccpljljaaRef0
namespace Go.Proofs.Ythechjccpljljaa.R1
open Go.Sym Go.Dig

theorem app_one {α : Type} (l : List α) (x : α) : List.drop 0 (List.take l.length l) ++ List.drop 0 (List.take (0 + 1) [x]) = l ++ [x] := by simp
theorem whole {α : Type} (l : List α) : List.drop 0 (List.take (0 + l.length) l) = l := by simp
theorem dg_len_i64 {n : Int} (h : n < 9223372036854775808) : (dg n.toNat).length ≤ 3 := dg_length_lt (by omega)

theorem ok_Int : SpecOK Try.prog 69 sInt := by
  refine fn_okL (by kernel_rfl) tt_ok (SpecsOK.nil _) 3 Try.func69 (by decide +kernel) (by kernel_rfl) ?_
  rintro ⟨n, _⟩ ⟨h0, h1⟩
  simp only at h0 h1
  refine ⟨[], lInt, isNum n.toNat, LnVD.of (vcInt n _) ?_, fun x h at_ w v r => isNum_ok h r⟩
  refine ⟨⟨rfl, rfl⟩, ⟨h0, by omega, h1, by simp⟩, fun m l ⟨i0, i1, i2, i3⟩ => ?_⟩
  simp only [app_one, whole]
  rw [bcase_dec]
  have hlen := dg_len_i64 h1
  refine ⟨fun hm => ?_, fun hm => ?_⟩
  · rw [tdiv_nn i0, tmod_nn i0, wr (by omega)]
    have e : dg m.toNat = (m % 16777216) :: dg (m / 16777216).toNat := by
      rw [dg_pos (by omega)]
      congr 1
      · omega
      · congr 1; omega
    have i4 : l ++ [m % 16777216] ++ dg (m / 16777216).toNat = dg n.toNat := by
      rw [← i3, e, List.append_assoc]; rfl
    refine ⟨⟨by omega, ?_⟩, ⟨trivial, trivial⟩, trivial, ⟨by omega, by omega, i2, i4⟩, by omega⟩
    rw [← i4, List.length_append] at hlen
    unfold appLim; omega
  · right; left
    have : m = 0 := by omega
    subst this
    simp only [Int.toNat_zero, dg_zero, List.append_nil] at i3
    rw [i3]

theorem add_step {B c x y : Int} (hB : B = 16777216) (hc : 0 ≤ c ∧ c ≤ 1) (hx : 0 ≤ x ∧ x < B) (hy : 0 ≤ y ∧ y < B) : 0 ≤ (c + x + y) / B ∧ (c + x + y) / B ≤ 1 ∧ 0 ≤ (c + x + y) % B ∧ (c + x + y) % B < B ∧ (c + x + y) % B + B * ((c + x + y) / B) = c + x + y := by
  subst hB; omega
theorem ok_Add : SpecOK Try.prog 16 sAdd := by
  refine fn_okL (by kernel_rfl) tt_ok (.cons ok_Trim (.nil _)) 3 Try.func16 (by decide +kernel) (by kernel_rfl) ?_
  rintro ⟨a, b, _⟩ ⟨⟨ha, hla⟩, hb, hlb⟩
  simp only at ha hla hb hlb
  refine ⟨[], lAdd, isNum (nv a + nv b), LnVD.of (vcAdd a b _) ?_, fun x h at_ w v r => isNum_ok h r⟩
  refine ⟨⟨rfl, rfl⟩, ⟨by omega, by omega, by omega, by omega, fun _ => rfl, Dig.nil, rfl, by simp [val]⟩, fun out c i ⟨i0, i1, c0, c1, ic, hd, hl, hv⟩ => ⟨⟨rfl, rfl⟩, ?_, ?_⟩⟩
  · simp only [bcase_dec, true_and, and_true]
    refine ⟨fun h => by simp [h], fun h => ⟨fun h2 => by simp [h2], fun h2 => by simp [h, h2]⟩⟩
  · rintro l1 t ⟨rfl, rfl⟩
    rw [bcase_iff]
    have da := getD_dig ha i.toNat
    have db := getD_dig hb i.toNat
    refine ⟨fun ht => ⟨⟨rfl, rfl⟩, ?_, ?_⟩, fun ht => ?_⟩
    · simp only [bcase_dec, true_and, and_true]
      refine ⟨fun h => ⟨⟨by omega, h⟩, wr (by omega)⟩, fun h => ?_⟩
      rw [getD_ge (by omega)]; omega
    · rintro l2 c2 ⟨rfl, rfl⟩
      refine ⟨⟨rfl, rfl⟩, ?_, ?_⟩
      · simp only [bcase_dec, true_and, and_true]
        refine ⟨fun h => ⟨⟨by omega, h⟩, wr (by omega)⟩, fun h => ?_⟩
        rw [getD_ge (l := b) (by omega)]; omega
      · rintro l3 c3 ⟨rfl, rfl⟩
        simp only [app_one]
        obtain ⟨s1, s2, s3, s4, s5⟩ := add_step rfl ⟨c0, c1⟩ da db
        have hi1 : i ≤ (max a.length b.length : Nat) := by
          by_cases e : i = (max a.length b.length : Nat) + 1
          · have := ic e
            subst this
            simp at ht; omega
          · omega
        rw [tdiv_nn (by omega), tmod_nn (by omega), wr (x := _ / _) (by omega), wr (x := i + 1) (by omega)]
        refine ⟨⟨by omega, by simp [appLim]; omega⟩, ⟨trivial, trivial⟩, trivial, ⟨by omega, by omega, s1, s2, fun e => ?_, hd.append (Dig.cons s3 s4 Dig.nil), by simp; omega, ?_⟩, by omega⟩
        · have e1 : a.getD i.toNat 0 = 0 := getD_ge (by omega)
          have e2 : b.getD i.toNat 0 = 0 := getD_ge (by omega)
          rw [e1, e2]; omega
        · have e : (i + 1).toNat = i.toNat + 1 := by omega
          have el : l3.length = i.toNat := by omega
          rw [e, val_snoc, val_take_getD, val_take_getD, el, Int.pow_succ]
          generalize (16777216 : Int) ^ i.toNat = p at *
          obtain ⟨s, hs⟩ : ∃ s, s = c + a.getD i.toNat 0 + b.getD i.toNat 0 := ⟨_, rfl⟩
          rw [← hs] at s1 s2 s3 s4 s5 ⊢
          have : p * (s % 16777216) + p * 16777216 * (s / 16777216) = p * s := by rw [Int.mul_assoc, ← Int.mul_add, s5]
          have h2 : p * s = p * c + p * a.getD i.toNat 0 + p * b.getD i.toNat 0 := by
            rw [hs, Int.mul_add, Int.mul_add]
          omega
    · simp only [whole]
      simp at ht
      have e1 : a.take i.toNat = a := List.take_of_length_le (by omega)
      have e2 : b.take i.toNat = b := List.take_of_length_le (by omega)
      have e3 : c = 0 := by omega
      subst e3
      rw [e1, e2] at hv
      refine ⟨⟨hd, by omega⟩, .inl ?_⟩
      have := nv_val hd; have := nv_val ha; have := nv_val hb
      congr 3
      omega

end Go.Proofs.Ythechjccpljljaa.R1
