/- A symbolic machine for Go functions, and what the functions that the law reaches come to: SymO, Open5. -/
import Derived.Test.YtigkddloeikpbaaDoorQ7
import Derived.Test.YtigkddloeikpbaaDoorQ3
import Derived.Test.YtigkddloeikpbaaDoorQ11
/- Laws' rows: arrays of words. -/
namespace Go.Sym
open Go.RowKit Go.ChangeShapes Go.WideShapes
section
variable [GLob] {H : Type} {enc : TypeId × Value → H} {P : Program} {W : World} {base b0 : Nat} {spare : Nat → Bool} {held : Bool} {t e : TypeId} {v : Value} {d : DataW H} {ps : List MemPlace}
theorem open_words {n : Nat} (ht : P.underlying t = some (.array n e)) (he : P.underlying e = some (.int .u64)) (hc : P.cellsOf t = n) (hce : P.cellsOf e = 1) (hval : Value.okWide P W .any b0 t v) (hd : DataW.Trod enc P W base spare held t v d ps) :
    ∃ xs : List UInt64, xs.length = n ∧ Rel noAt W (.agg (xs.map .u64)) v := by
  obtain ⟨cs, rfl, hsz, _⟩ : ∃ cs, v = .agg cs ∧ cs.size = P.cellsOf t ∧ Row.okWide P W .any b0 t cs := by simpa [Value.okWide, ht] using hval
  rw [hc] at hsz
  obtain ⟨l⟩ := cs
  obtain ⟨fuel, hf⟩ := hd
  obtain ⟨xs, m, _, _, hl, hxl, hget⟩ := DataW.trod_array ht hf
  have hln : l.length = n := by simpa using hsz
  have each : ∀ i, (h : i < l.length) → ∃ x : UInt64, l[i] = .int .u64 (x.toNat : Int) := fun i h => by
    have h1 := hget i (by omega)
    rw [hce, Nat.mul_one, List.getElem?_eq_getElem (by omega)] at h1
    obtain ⟨z, h2, _, h3⟩ := DataW.trod_int he h1
    have h4 : (l.drop i).take 1 = [l[i]] := by rw [List.drop_eq_getElem_cons h]; rfl
    have h5 : l[i] = .int .u64 z := by
      have h6 : ((Value.agg (List.toArray l)).cells.toList.drop i).take 1 = [l[i]] := h4
      rw [h6] at h2
      simpa using h2
    obtain ⟨x, hx⟩ := u64_of_wf h3
    exact ⟨x, by rw [h5]; exact hx⟩
  let f : Value → UInt64 := fun v => match v with
    | .int .u64 n => UInt64.ofNat n.toNat
    | _ => 0
  refine ⟨l.map f, by simp [hln], ?_⟩
  simp only [Rel]
  refine ⟨l, rfl, RelL.of_get (by simp) fun i c u h1 h2 => ?_⟩
  obtain ⟨hi, hu⟩ := List.getElem?_eq_some_iff.1 h2
  obtain ⟨x, hx⟩ := each i hi
  simp only [List.getElem?_map, List.getElem?_eq_getElem hi, Option.map_some, Option.some.injEq] at h1
  rw [← h1, ← hu, hx]
  simp only [Rel, f]
  congr 1
  simp
end
end Go.Sym
/- Laws' rows: elements of the field, words of 32 bits. -/
namespace Go.Proofs.YtigkddloeikpbaaDoor
open Go.Sym Go.ChangeShapes Go.WideShapes
theorem five_list {l : List UInt64} (h : l.length = 5) : ∃ a b c d e, l = [a, b, c, d, e] := by
  match l, h with
  | [a, b, c, d, e], _ => exact ⟨a, b, c, d, e, rfl⟩
theorem open_five [GLob] {H : Type} {enc : TypeId × Value → H} {P : Program} {W : World} {base b0 : Nat} {spare : Nat → Bool} {held : Bool} {t e : TypeId} {v : Value} {d : DataW H} {ps : List MemPlace} (ht : P.underlying t = some (.array 5 e)) (he : P.underlying e = some (.int .u64)) (hc : P.cellsOf t = 5) (hce : P.cellsOf e = 1) (hval : Value.okWide P W .any b0 t v) (hd : DataW.Trod enc P W base spare held t v d ps) :
    ∃ x : Five, Rel noAt W x.sv v := by
  obtain ⟨xs, hl, hr⟩ := open_words ht he hc hce hval hd
  obtain ⟨a0, a1, a2, a3, a4, rfl⟩ := five_list hl
  exact ⟨⟨a0, a1, a2, a3, a4⟩, hr⟩
theorem u32_of_wf {n : Int} (h : (Lit.int .u32 n).wf = true) : ∃ x : UInt32, (.int .u32 n : Value) = .int .u32 (x.toNat : Int) := by
  simp [Lit.wf, IntKind.min, IntKind.max, IntKind.signed, IntKind.bits] at h
  refine ⟨UInt32.ofNat n.toNat, ?_⟩
  simp; omega
theorem open_u32 [GLob] {H : Type} {enc : TypeId × Value → H} {P : Program} {W : World} {base b0 : Nat} {spare : Nat → Bool} {held : Bool} {t : TypeId} {v : Value} {d : DataW H} {ps : List MemPlace} (ht : P.underlying t = some (.int .u32)) (hval : Value.okWide P W .any b0 t v) (hd : DataW.Trod enc P W base spare held t v d ps) : ∃ x : UInt32, Rel noAt W (.u32 x) v := by
  obtain ⟨n, rfl, _, _, hw⟩ := open_int ht hval hd
  obtain ⟨x, hx⟩ := u32_of_wf hw
  exact ⟨x, by simp only [Rel]; exact hx⟩
end Go.Proofs.YtigkddloeikpbaaDoor
