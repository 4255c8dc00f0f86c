/- Plain facts that the reference's functions on digits need. -/
import Derived.Test.YthechjccpljljaaRefA
namespace Go.Proofs.Ythechjccpljljaa.R1
open Go.Sym Go.Dig

theorem bcase_iff {b : Bool} {x y : Prop} : bcase b x y ↔ (b = true → x) ∧ (b = false → y) := by cases b <;> simp [bcase]
theorem bcase_dec {p : Prop} [Decidable p] {x y : Prop} : bcase (decide p) x y ↔ (p → x) ∧ (¬ p → y) := by rw [bcase_iff]; simp
theorem wr {x : Int} (h : -9223372036854775808 ≤ x ∧ x < 9223372036854775808) : IntKind.wrap .i64 x = x := wrap_i64_id h.1 h.2
theorem nv_dg (n : Nat) : nv (dg n) = n := by simp [nv, val_dg]
theorem nv_val {l : List Int} (h : Dig l) : (nv l : Int) = val l := by have := val_nonneg h; simp only [nv]; omega
theorem nv_nil : nv [] = 0 := rfl
theorem dg_nv {l : List Int} (h : Dig l) (hl : ∀ d, l.getLast? = some d → d ≠ 0) : dg (nv l) = l := dg_val_cons h hl
theorem dig_dg (n : Nat) : Dig (Dig.dg n) := Go.Dig.Dig.dg n
theorem Dg.dg {n : Nat} (h : (Dig.dg n).length ≤ 1073741824) : Dg (Dig.dg n) := ⟨dig_dg n, h⟩
theorem Can.dg {n : Nat} (h : (dg n).length ≤ 1073741824) : Can (dg n) := ⟨by rw [nv_dg], h⟩
theorem Can.dig {l : List Int} (h : Can l) : Dig l := by rw [h.1]; exact dig_dg _
theorem getD_dig {l : List Int} (h : Dig l) (i : Nat) : 0 ≤ l.getD i 0 ∧ l.getD i 0 < 16777216 := by
  rw [List.getD_eq_getElem?_getD]
  by_cases hi : i < l.length
  · rw [List.getElem?_eq_getElem hi]; exact h.get i hi
  · rw [List.getElem?_eq_none (by omega)]; simp
theorem getD_lt {l : List Int} {i : Nat} (hi : i < l.length) : l.getD i 0 = l[i] := by
  rw [List.getD_eq_getElem?_getD, List.getElem?_eq_getElem hi]; rfl
theorem getD_ge {l : List Int} {i : Nat} (hi : l.length ≤ i) : l.getD i 0 = 0 := by
  rw [List.getD_eq_getElem?_getD, List.getElem?_eq_none hi]; rfl
/-- One digit more, whether it is there or not. -/
theorem val_take_getD (l : List Int) (i : Nat) : val (l.take (i + 1)) = val (l.take i) + 16777216 ^ i * l.getD i 0 := by
  by_cases hi : i < l.length
  · rw [val_take_succ l i hi, getD_lt hi]
  · rw [List.take_of_length_le (by omega), List.take_of_length_le (by omega), getD_ge (by omega)]; omega
theorem take_cut (l : List Int) (n : Int) : List.drop (Int.toNat 0) (l.take n.toNat) = l.take n.toNat := by simp
theorem tdiv_nn {x : Int} (h : 0 ≤ x) (d : Int) : Int.tdiv x d = x / d := Int.tdiv_eq_ediv_of_nonneg h
theorem tmod_nn {x : Int} (h : 0 ≤ x) (d : Int) : Int.tmod x d = x % d := Int.tmod_eq_emod_of_nonneg h

theorem ok_Trim : SpecOK Try.prog 64 sTrim := by
  refine fn_okL (by kernel_rfl) tt_ok (SpecsOK.nil _) 3 Try.func64 (by decide +kernel) (by kernel_rfl) ?_
  rintro ⟨a, _⟩ ⟨hd, hl⟩
  simp only at hd hl
  refine ⟨[], lTrim, isNum (nv a), LnVD.of (vcTrim a _) ?_, fun x h at_ w v r => isNum_ok h r⟩
  have done : ∀ n : Int, iTrim a n → (n ≤ 0 ∨ a.getD (n - 1).toNat 0 ≠ 0) → isNum (nv a) (.lst (.ints (List.drop (Int.toNat 0) (List.take n.toNat a)))) := by
    intro n ⟨h0, h1, h2⟩ h3
    right; left
    rw [take_cut a n]
    have e : nv a = nv (a.take n.toNat) := by simp only [nv, h2]
    rw [e, dg_nv (hd.take _)]
    intro d hd'
    rcases h3 with h3 | h3
    · have : n.toNat = 0 := by omega
      rw [this] at hd'; simp at hd'
    · rw [List.getLast?_take] at hd'
      split at hd'
      · cases hd'
      · rename_i hn
        have hlt : n.toNat - 1 < a.length := by omega
        rw [List.getElem?_eq_getElem hlt] at hd'
        simp only [Option.some_or, Option.some.injEq] at hd'
        rw [getD_lt (by omega)] at h3
        have : (n - 1).toNat = n.toNat - 1 := by omega
        simp only [this] at h3
        rw [← hd']; exact h3
  refine ⟨⟨by omega, by omega, by simp⟩, fun n hI => ?_⟩
  have hI' := hI
  obtain ⟨h0, h1, h2⟩ := hI
  rw [bcase_dec]
  refine ⟨fun hn => ?_, fun hn => ⟨⟨by omega, by omega, by omega⟩, done n hI' (.inl (by omega))⟩⟩
  rw [wr (by omega)]
  refine ⟨⟨by omega, by omega⟩, ?_⟩
  rw [bcase_iff]
  refine ⟨fun hz => ⟨rfl, ⟨by omega, by omega, ?_⟩, by omega⟩, fun hz => ⟨⟨by omega, by omega, by omega⟩, done n hI' (.inr (by simpa using hz))⟩⟩
  have e : n.toNat = (n - 1).toNat + 1 := by omega
  rw [e, val_take_getD] at h2
  have hz : a.getD (n - 1).toNat 0 = 0 := by simpa using hz
  rw [hz] at h2
  omega

end Go.Proofs.Ythechjccpljljaa.R1
