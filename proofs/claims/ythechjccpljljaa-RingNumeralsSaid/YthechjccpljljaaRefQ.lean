/- The reference's functions on digits (2): what they say is so. -/
import Derived.Test.YthechjccpljljaaRefP
namespace Go.Proofs.Ythechjccpljljaa.R1
open Go.Sym Go.Dig

theorem val_set : ∀ (l : List Int) (k : Nat) (x : Int), k < l.length → val (l.set k x) = val l + 16777216 ^ k * (x - l.getD k 0)
  | [], k, x, h => by simp at h
  | d :: l, 0, x, _ => by simp [val]; omega
  | d :: l, k + 1, x, h => by
    have := val_set l k x (by simpa using h)
    simp only [List.set_cons_succ, val, this, List.getD_cons_succ, Int.pow_succ]
    generalize (16777216 : Int) ^ k = p
    generalize x - l.getD k 0 = q
    rw [Int.mul_add, Int.mul_comm p 16777216, Int.mul_assoc]
    omega
theorem Dig.set {l : List Int} (h : Dig l) (k : Nat) {x : Int} (hx : 0 ≤ x ∧ x < 16777216) : Dig (l.set k x) := fun d hd => by
  rcases List.mem_or_eq_of_mem_set hd with hd | rfl
  · exact h d hd
  · exact hx
theorem getD_set (l : List Int) (k j : Nat) (x : Int) (h : j ≠ k) : (l.set k x).getD j 0 = l.getD j 0 := by
  simp only [List.getD_eq_getElem?_getD, List.getElem?_set_ne (Ne.symm h)]
theorem val_cut (l : List Int) (n : Nat) : val l = val (l.take n) + 16777216 ^ n * val (l.drop n) := by
  by_cases h : n ≤ l.length
  · have := val_append (l.take n) (l.drop n)
    rw [List.take_append_drop, List.length_take, Nat.min_eq_left h] at this
    exact this
  · rw [List.take_of_length_le (by omega), List.drop_of_length_le (by omega)]; simp [val]
theorem val_split (l : List Int) (i : Nat) : val l = val (l.take i) + 16777216 ^ i * l.getD i 0 + 16777216 ^ (i + 1) * val (l.drop (i + 1)) := by
  rw [val_cut l (i + 1), val_take_getD]
theorem pw_pos (n : Nat) : (0 : Int) < 16777216 ^ n := Int.pow_pos (by omega)

theorem ok_Sub : SpecOK Try.prog 17 sSub := by
  refine fn_okL (by kernel_rfl) tt_ok (.cons ok_Trim (.nil _)) 3 Try.func17 (by decide +kernel) (by kernel_rfl) ?_
  rintro ⟨a, b, _⟩ ⟨⟨ha, hla⟩, ⟨hb, hlb⟩, hle⟩
  simp only at ha hla hb hlb hle
  refine ⟨[], lSub, isNum (nv a - nv b), LnVD.of (vcSub a b _) ?_, fun x h at_ w v r => isNum_ok h r⟩
  refine ⟨⟨rfl, rfl⟩, ⟨by omega, by omega, by omega, by omega, Dig.nil, rfl, by simp [val]⟩, fun out c i ⟨i0, i1, c0, c1, hd, hl, hv⟩ => ?_⟩
  have da := getD_dig ha i.toNat
  have db := getD_dig hb i.toNat
  rw [bcase_dec]
  refine ⟨fun hi => ⟨⟨i0, hi⟩, ⟨rfl, rfl⟩, ?_, ?_⟩, fun hi => ?_⟩
  · simp only [bcase_dec, true_and, and_true]
    rw [wr (x := _ - c) (by omega)]
    refine ⟨fun h => ⟨⟨by omega, h⟩, wr (by omega)⟩, fun h => ?_⟩
    rw [getD_ge (l := b) (by omega)]; omega
  · rintro l1 c1' x ⟨rfl, rfl, rfl⟩
    rw [wr (x := _ - c) (by omega)]
    refine ⟨⟨rfl, rfl⟩, ?_, ?_⟩
    · simp only [bcase_dec, true_and, and_true]
      refine ⟨fun h => ?_, fun h => ?_⟩
      · rw [if_pos h, if_pos h]; exact ⟨rfl, wr (by omega)⟩
      · rw [if_neg h, if_neg h]; exact ⟨rfl, rfl⟩
    · rintro l2 c2 x2 ⟨rfl, hc2, hx2⟩
      simp only [app_one]
      rw [wr (x := i + 1) (by omega)]
      have key : 0 ≤ c2 ∧ c2 ≤ 1 ∧ 0 ≤ x2 ∧ x2 < 16777216 ∧ x2 = a.getD i.toNat 0 - c - b.getD i.toNat 0 + 16777216 * c2 := by
        split at hc2 <;> split at hx2 <;> omega
      obtain ⟨k1, k2, k3, k4, k5⟩ := key
      refine ⟨⟨by omega, by simp [appLim]; omega⟩, ⟨trivial, trivial⟩, trivial, ⟨by omega, by omega, k1, k2, hd.append (Dig.cons k3 k4 Dig.nil), by simp; omega, ?_⟩, by omega⟩
      have e : (i + 1).toNat = i.toNat + 1 := by omega
      have el : l2.length = i.toNat := by omega
      rw [e, val_snoc, val_take_getD, val_take_getD, el, Int.pow_succ, k5]
      generalize (16777216 : Int) ^ i.toNat = p at *
      simp only [Int.mul_add, Int.mul_sub]
      rw [Int.mul_assoc]
      omega
  · simp only [whole]
    have e1 : i.toNat = a.length := by omega
    rw [e1, List.take_length] at hv
    have h1 := nv_val hd; have h2 := nv_val ha; have h3 := nv_val hb
    have l1 := val_lt ha
    have l2 := val_lt hd
    have el : out.length = a.length := by omega
    rw [el] at l2
    have hcut := val_cut b a.length
    have d0 := val_nonneg (hb.drop a.length)
    have t0 := val_nonneg (hb.take a.length)
    have p0 := pw_pos a.length
    have hz : val (b.drop a.length) = 0 := by
      by_cases h : val (b.drop a.length) = 0
      · exact h
      · have : 1 ≤ val (b.drop a.length) := by omega
        have := Int.mul_le_mul_of_nonneg_left this (Int.le_of_lt p0)
        omega
    rw [hz] at hcut
    have hc : c = 0 := by
      have : c = 0 ∨ c = 1 := by omega
      rcases this with h | h
      · exact h
      · subst h; omega
    subst hc
    refine ⟨⟨hd, by omega⟩, .inl ?_⟩
    congr 3
    omega

theorem mul_bound {x y : Int} (hx : 0 ≤ x ∧ x < 16777216) (hy : 0 ≤ y ∧ y < 16777216) : 0 ≤ x * y ∧ x * y ≤ 16777215 * 16777215 := by
  refine ⟨Int.mul_nonneg hx.1 hy.1, Int.mul_le_mul (by omega) (by omega) hy.1 (by omega)⟩
theorem ok_Mul : SpecOK Try.prog 32 sMul' := by
  refine fn_okL (by kernel_rfl) tt_ok (.cons ok_Trim (.nil _)) 3 Try.func32 (by decide +kernel) (by kernel_rfl) ?_
  rintro ⟨a, b, _⟩ ⟨⟨ha, hla⟩, hb, hlb⟩
  simp only at ha hla hb hlb
  refine ⟨[], lMul, isNum (nv a * nv b), LnVD.of (vcMul a b _) ?_, fun x h at_ w v r => isNum_ok h r⟩
  rw [wr (x := (a.length : Int) + b.length) (by omega), wr (x := (a.length : Int) + b.length + 1) (by omega)]
  refine ⟨⟨by omega, rfl, by omega⟩, ⟨rfl, by simp⟩, ⟨by omega, by omega, Dig.replicate _, by simp; omega, fun k _ => ?_, by simp [val, val_replicate]⟩, fun out i ⟨i0, i1, hd, hl, hz, hv⟩ => ?_⟩
  · simp only [List.getD_eq_getElem?_getD, List.getElem?_replicate]; split <;> rfl
  rw [bcase_dec]
  refine ⟨fun hi => ⟨⟨rfl, rfl⟩, ⟨by omega, by omega, by omega, by omega, hd, hl, hz, by simp [val]⟩, fun o c j ⟨j0, j1, c0, c1, hd', hl', hz', hv'⟩ => ?_⟩, fun hi => ?_⟩
  · rw [bcase_dec]
    refine ⟨fun hj => ?_, fun hj => ?_⟩
    · have da := getD_dig ha i.toNat
      have db := getD_dig hb j.toNat
      have dm := mul_bound da db
      have ei : (0 + (i + j).toNat) = i.toNat + j.toNat := by omega
      rw [wr (x := i + j) (by omega), wr (x := _ * _) (by omega), ei]
      have dn := getD_dig hd' (i.toNat + j.toNat)
      rw [wr (x := c + _) (by omega), wr (x := c + _ + _) (by omega), wr (x := j + 1) (by omega)]
      obtain ⟨s, hs⟩ : ∃ s, s = c + o.getD (i.toNat + j.toNat) 0 + a.getD i.toNat 0 * b.getD j.toNat 0 := ⟨_, rfl⟩
      rw [← hs, tdiv_nn (by omega), tmod_nn (by omega), wr (x := s / _) (by omega)]
      refine ⟨⟨by omega, by omega⟩, ⟨i0, hi⟩, ⟨j0, hj⟩, ⟨by omega, by omega⟩, ⟨rfl, by simp⟩, rfl, ⟨by omega, by omega, by omega, by omega, Dig.set hd' _ (by omega), by simp [hl'], fun k hk => ?_, ?_⟩, by omega⟩
      · rw [getD_set _ _ _ _ (by omega)]; exact hz' k hk
      · have e1 : (j + 1).toNat = j.toNat + 1 := by omega
        rw [val_set _ _ _ (by omega), e1, val_take_getD, ← Nat.add_assoc, Int.pow_succ]
        rw [Int.pow_add] at hv' ⊢
        generalize (16777216 : Int) ^ i.toNat = p at *
        generalize (16777216 : Int) ^ j.toNat = q at *
        have e2 : s % 16777216 = s - 16777216 * (s / 16777216) := by omega
        rw [e2, hs]
        generalize (c + o.getD (i.toNat + j.toNat) 0 + a.getD i.toNat 0 * b.getD j.toNat 0) / 16777216 = z
        generalize a.getD i.toNat 0 = x at *
        generalize b.getD j.toNat 0 = y at *
        generalize o.getD (i.toNat + j.toNat) 0 = u at *
        grind
    · have ej : j = b.length := by omega
      subst ej
      have ei : (0 + (i + (b.length : Int)).toNat) = i.toNat + b.length := by omega
      rw [wr (x := i + b.length) (by omega), ei, hz' _ (Nat.le_refl _), wr (x := 0 + c) (by omega), wr (x := i + 1) (by omega)]
      refine ⟨⟨by omega, by omega⟩, ⟨by omega, by omega⟩, ⟨rfl, by simp⟩, rfl, ⟨by omega, by omega, Dig.set hd' _ (by omega), by simp [hl'], fun k hk => ?_, ?_⟩, by omega⟩
      · rw [getD_set _ _ _ _ (by omega)]; exact hz' k (by omega)
      · have e1 : (i + 1).toNat = i.toNat + 1 := by omega
        simp only [Int.toNat_natCast, List.take_length] at hv'
        rw [val_set _ _ _ (by omega), e1, val_take_getD, hz' _ (Nat.le_refl _), Int.add_mul, ← hv, Int.mul_assoc, ← hv']
        simp
  · simp only [whole]
    have e1 : a.take i.toNat = a := List.take_of_length_le (by omega)
    rw [e1] at hv
    refine ⟨⟨hd, by omega⟩, .inl ?_⟩
    have h1 := nv_val hd; have h2 := nv_val ha; have h3 := nv_val hb
    congr 3
    rw [hv, ← h2, ← h3, ← Int.natCast_mul] at h1
    omega

end Go.Proofs.Ythechjccpljljaa.R1
