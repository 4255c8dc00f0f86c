/- A symbolic machine for Go functions, and what the functions that the law reaches come to: OpenLol. -/
import Derived.Test.YtomoihkepkmgdaaDoorQ6
/- Laws' rows: a list of lists of bytes. -/
namespace Go.Sym
open Go.RowKit Go.ChangeShapes Go.WideShapes
section
variable {H : Type} {enc : TypeId × Value → H} {P : Program} {W : World} {base b0 : Nat} {spare : Nat → Bool} {held : Bool} {t e : TypeId} {v : Value} {d : DataW H} {ps : List MemPlace}
theorem bytes_of_trod {fuel : Nat} {cs : List Value} {x : DataW H × List MemPlace} (ht : P.underlying t = some (.slice e)) (he : P.underlying e = some (.int .u8)) (hc : P.cellsOf e = 1) (h : DataW.trod enc P W base spare held fuel t cs = some x) :
    ∃ (l : List UInt8) (u : Value), cs = [u] ∧ BytesAt noAt W l u := by
  rcases open_ints ht he hc h with ⟨h1, _⟩ | ⟨a, len, cap, zs, h1, _, h3, _, h5, _, h7, h8⟩
  · exact ⟨[], _, h1, none, 0, rfl, by simp, fun j u hj => by simp [LV.vals] at hj⟩
  · have hlen : len ≤ zs.length := by rw [h5]; split <;> omega
    refine ⟨(zs.take len).map fun n => UInt8.ofNat n.toNat, _, h1, some a, cap, by simp [Nat.min_eq_left hlen], by simp [Nat.min_eq_left hlen]; omega, fun j u hj => ⟨a, rfl, ⟨fun n e => by simp [noAt] at e, fun e => by simp [noAt] at e, fun n b c k e => by simp [noAt] at e⟩, ?_⟩⟩
    simp only [LV.vals, List.map_map, List.getElem?_map, Option.map_eq_some_iff] at hj
    obtain ⟨z, hz, rfl⟩ := hj
    rw [List.getElem?_take] at hz
    split at hz
    · rename_i hjl
      have hjz : j < zs.length := by omega
      rw [List.getElem?_eq_getElem hjz] at hz
      simp only [Option.some.injEq] at hz
      have h9 := h7 j hjz
      rw [List.getD_eq_getElem?_getD, List.getElem?_eq_getElem hjz] at h9
      simp only [Option.getD_some, hz] at h9
      have hw := u8_of_wf (h8 z (hz ▸ List.getElem_mem hjz))
      rw [h9]
      simp only [Function.comp, UInt8.toNat_ofNat']
      congr 2
      omega
    · cases hz
theorem list_of {α : Type} {p : Nat → α → Prop} : ∀ n : Nat, (∀ i, i < n → ∃ x, p i x) → ∃ l : List α, l.length = n ∧ ∀ i x, l[i]? = some x → p i x
  | 0, _ => ⟨[], rfl, fun i x h => by simp at h⟩
  | n + 1, h => by
    obtain ⟨l, h1, h2⟩ := list_of n (fun i hi => h i (by omega))
    obtain ⟨x, hx⟩ := h n (by omega)
    refine ⟨l ++ [x], by simp [h1], fun i y hy => ?_⟩
    rw [List.getElem?_append] at hy
    split at hy
    · exact h2 i y hy
    · rename_i hi
      have : i = n := by
        have := (List.getElem?_eq_some_iff.1 hy).1
        simp at this; omega
      subst this
      rw [h1, Nat.sub_self] at hy
      simp only [List.getElem?_cons_zero, Option.some.injEq] at hy
      subst hy; exact hx
theorem open_lol {e2 : TypeId} (ht : P.underlying t = some (.slice e2)) (he2 : P.underlying e2 = some (.slice e)) (he : P.underlying e = some (.int .u8)) (hc2 : P.cellsOf e2 = 1) (hc : P.cellsOf e = 1) (hval : Value.okWide P W .any b0 t v) (hd : DataW.Trod enc P W base spare held t v d ps) :
    ∃ l : List (List UInt8), Rel noAt W (.lol l) v := by
  obtain ⟨a0, len0, cap0, rfl⟩ := okWide_slice ht hval
  obtain ⟨fuel, hf⟩ := hd
  rcases DataW.trod_slice ht hf with ⟨h1, _⟩ | ⟨a, len, cap, elems, rest, n, _, h1, _, _, hl, _, hlen, hel, _⟩
  · have : Value.slice a0 len0 cap0 = .slice none 0 0 := by simpa [Value.cells] using h1
    rw [this]
    refine ⟨[], ?_⟩
    simp only [Rel]
    exact ⟨none, 0, rfl, by simp, fun j l hj => by simp at hj⟩
  · have : Value.slice a0 len0 cap0 = .slice (some a) len cap := by simpa [Value.cells] using h1
    rw [this]
    obtain ⟨ls, k1, k2⟩ := list_of (p := fun i (l : List UInt8) => ∃ u, W.cell? (a.add i) = some u ∧ BytesAt noAt W l u) len (fun i hi => by
      have h2 := hel i hi
      rw [hc2, Nat.mul_one, List.getElem?_eq_getElem (by omega)] at h2
      obtain ⟨cs, h3, h4⟩ := Option.bind_eq_some_iff.1 h2
      obtain ⟨l, u, rfl, h5⟩ := bytes_of_trod he2 he hc h4
      exact ⟨l, u, cell_of_cells?_one h3, h5⟩)
    refine ⟨ls, ?_⟩
    simp only [Rel]
    refine ⟨some a, cap, by rw [k1], by rw [k1]; exact hl, fun j l hj => ?_⟩
    obtain ⟨u, h6, h7⟩ := k2 j l hj
    exact ⟨a, u, rfl, ⟨fun n e => by simp [noAt] at e, fun e => by simp [noAt] at e, fun n b c k e => by simp [noAt] at e⟩, h6, h7⟩
end
end Go.Sym
