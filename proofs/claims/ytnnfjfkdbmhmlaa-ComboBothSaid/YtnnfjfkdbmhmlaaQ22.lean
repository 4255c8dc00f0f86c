/- A symbolic machine for Go functions, and what the functions that the law reaches come to: SymO, Open11. -/
import Derived.Test.YtnnfjfkdbmhmlaaQ4
import Derived.Test.YtnnfjfkdbmhmlaaQ2
import Derived.Test.YtnnfjfkdbmhmlaaQ21
/- Laws' rows: arrays of words. -/
namespace Go.Sym
open Go.RowKit Go.ChangeShapes Go.WideShapes
section
variable [GLob] {H : Type} {enc : TypeId × Value → H} {P : Program} {W : World} {base b0 : Nat} {spare : Nat → Bool} {held : Bool} {t e : TypeId} {v : Value} {d : DataW H} {ps : List MemPlace}
theorem open_words {n : Nat} (ht : P.underlying t = some (.array n e)) (he : P.underlying e = some (.int .u64)) (hc : P.cellsOf t = n) (hce : P.cellsOf e = 1) (hval : Value.okWide P W .any b0 t v) (hd : DataW.Trod enc P W base spare held t v d ps) :
    ∃ xs : List UInt64, xs.length = n ∧ Rel noAt W (.agg (xs.map .u64)) v := by
  obtain ⟨cs, rfl, hsz, _⟩ : ∃ cs, v = .agg cs ∧ cs.size = P.cellsOf t ∧ Row.okWide P W .any b0 t cs := by simpa [Value.okWide, ht] using hval
  rw [hc] at hsz
  obtain ⟨l⟩ := cs
  obtain ⟨fuel, hf⟩ := hd
  obtain ⟨xs, m, _, _, hl, hxl, hget⟩ := DataW.trod_array ht hf
  have hln : l.length = n := by simpa using hsz
  have each : ∀ i, (h : i < l.length) → ∃ x : UInt64, l[i] = .int .u64 (x.toNat : Int) := fun i h => by
    have h1 := hget i (by omega)
    rw [hce, Nat.mul_one, List.getElem?_eq_getElem (by omega)] at h1
    obtain ⟨z, h2, _, h3⟩ := DataW.trod_int he h1
    have h4 : (l.drop i).take 1 = [l[i]] := by rw [List.drop_eq_getElem_cons h]; rfl
    have h5 : l[i] = .int .u64 z := by
      have h6 : ((Value.agg (List.toArray l)).cells.toList.drop i).take 1 = [l[i]] := h4
      rw [h6] at h2
      simpa using h2
    obtain ⟨x, hx⟩ := u64_of_wf h3
    exact ⟨x, by rw [h5]; exact hx⟩
  let f : Value → UInt64 := fun v => match v with
    | .int .u64 n => UInt64.ofNat n.toNat
    | _ => 0
  refine ⟨l.map f, by simp [hln], ?_⟩
  simp only [Rel]
  refine ⟨l, rfl, RelL.of_get (by simp) fun i c u h1 h2 => ?_⟩
  obtain ⟨hi, hu⟩ := List.getElem?_eq_some_iff.1 h2
  obtain ⟨x, hx⟩ := each i hi
  simp only [List.getElem?_map, List.getElem?_eq_getElem hi, Option.map_some, Option.some.injEq] at h1
  rw [← h1, ← hu, hx]
  simp only [Rel, f]
  congr 1
  simp
end
end Go.Sym
/- Laws' rows: two lists of bytes. -/
namespace Go.Proofs.Ytnnfjfkdbmhmlaa.C11
open Go.Sym Go.ChangeShapes Go.WideShapes
section
variable {H : Type} {enc : TypeId × Value → H} {P : Program} {W : World} {base b0 : Nat} {spare : Nat → Bool} {held : Bool}
theorem chunk_bytes [GLob] {fuel : Nat} {t e : TypeId} {v : Value} {x : DataW H × List MemPlace} (ht : P.underlying t = some (.slice e)) (he : P.underlying e = some (.int .u8)) (hc : P.cellsOf e = 1) (hf : DataW.trod enc P W base spare held fuel t [v] = some x) :
    ∃ l : List UInt8, Rel noAt W (.lst (.bytes l)) v := by
  rcases open_ints ht he hc hf with ⟨h1, _⟩ | ⟨a, len, cap, zs, h1, _, h3, _, h5, _, h7, h8⟩
  · have : v = .slice none 0 0 := by simpa using h1
    rw [this]
    refine ⟨[], ?_⟩
    simp only [Rel]
    exact ⟨none, 0, rfl, by simp [LV.len], fun j u hj => by simp [LV.vals] at hj⟩
  · have : v = .slice (some a) len cap := by simpa using h1
    rw [this]
    have hlen : len ≤ zs.length := by rw [h5]; split <;> omega
    refine ⟨(zs.take len).map fun n => UInt8.ofNat n.toNat, ?_⟩
    simp only [Rel]
    refine ⟨some a, cap, by simp [LV.len, Nat.min_eq_left hlen], by simp [LV.len, Nat.min_eq_left hlen]; omega, fun j u hj => ⟨a, rfl, ⟨fun n e => by simp [noAt] at e, fun e => by simp [noAt] at e, fun n b c k e => by simp [noAt] at e⟩, ?_⟩⟩
    simp only [LV.vals, List.map_map, List.getElem?_map, Option.map_eq_some_iff] at hj
    obtain ⟨z, hz, rfl⟩ := hj
    rw [List.getElem?_take] at hz
    split at hz
    · rename_i hjl
      have hjz : j < zs.length := by omega
      rw [List.getElem?_eq_getElem hjz] at hz
      simp only [Option.some.injEq] at hz
      have h9 := h7 j hjz
      rw [List.getD_eq_getElem?_getD, List.getElem?_eq_getElem hjz] at h9
      simp only [Option.getD_some, hz] at h9
      have hw := u8_of_wf (h8 z (hz ▸ List.getElem_mem hjz))
      rw [h9]
      simp only [Function.comp, UInt8.toNat_ofNat']
      congr 2
      omega
    · cases hz
variable {t e u : TypeId} {v : Value} {d : DataW H} {ps : List MemPlace}
theorem list2 {l : List Value} (h : l.length = 2) : ∃ a b, l = [a, b] := by
  match l, h with
  | [a, b], _ => exact ⟨a, b, rfl⟩
theorem open_twoB [GLob] (ht : P.underlying t = some (.array 2 e)) (he : P.underlying e = some (.slice u)) (hu : P.underlying u = some (.int .u8)) (hc : P.cellsOf t = 2) (hce : P.cellsOf e = 1) (hcu : P.cellsOf u = 1) (hval : Value.okWide P W .any b0 t v) (hd : DataW.Trod enc P W base spare held t v d ps) :
    ∃ x : TwoB, Rel noAt W x.sv v := by
  obtain ⟨cs, rfl, hsz, _⟩ : ∃ cs, v = .agg cs ∧ cs.size = P.cellsOf t ∧ Row.okWide P W .any b0 t cs := by simpa [Value.okWide, ht] using hval
  rw [hc] at hsz
  obtain ⟨l⟩ := cs
  obtain ⟨c0, c1, rfl⟩ := list2 (by simpa using hsz)
  obtain ⟨fuel, hf⟩ := hd
  obtain ⟨xs, m, _, _, _, hxl, hget⟩ := DataW.trod_array ht hf
  have k0 := hget 0 (by omega)
  have k1 := hget 1 (by omega)
  rw [hce, List.getElem?_eq_getElem (by omega)] at k0 k1
  obtain ⟨a, ha⟩ := chunk_bytes (v := c0) he hu hcu k0
  obtain ⟨b, hb⟩ := chunk_bytes (v := c1) he hu hcu k1
  refine ⟨⟨a, b⟩, ?_⟩
  simp only [TwoB.sv, Rel]
  exact ⟨_, rfl, RelL.cons ha (RelL.cons hb RelL.nil)⟩
end
end Go.Proofs.Ytnnfjfkdbmhmlaa.C11
