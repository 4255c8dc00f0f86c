/- A symbolic machine for Go functions, and what the functions that the law reaches come to: SymO, Open12. -/
import Derived.Test.YthechjccpljljaaQ4
import Derived.Test.YthechjccpljljaaQ2
import Derived.Test.YthechjccpljljaaQ10
/- Laws' rows: arrays of words. -/
namespace Go.Sym
open Go.RowKit Go.ChangeShapes Go.WideShapes
section
variable [GLob] {H : Type} {enc : TypeId × Value → H} {P : Program} {W : World} {base b0 : Nat} {spare : Nat → Bool} {held : Bool} {t e : TypeId} {v : Value} {d : DataW H} {ps : List MemPlace}
theorem open_words {n : Nat} (ht : P.underlying t = some (.array n e)) (he : P.underlying e = some (.int .u64)) (hc : P.cellsOf t = n) (hce : P.cellsOf e = 1) (hval : Value.okWide P W .any b0 t v) (hd : DataW.Trod enc P W base spare held t v d ps) :
    ∃ xs : List UInt64, xs.length = n ∧ Rel noAt W (.agg (xs.map .u64)) v := by
  obtain ⟨cs, rfl, hsz, _⟩ : ∃ cs, v = .agg cs ∧ cs.size = P.cellsOf t ∧ Row.okWide P W .any b0 t cs := by simpa [Value.okWide, ht] using hval
  rw [hc] at hsz
  obtain ⟨l⟩ := cs
  obtain ⟨fuel, hf⟩ := hd
  obtain ⟨xs, m, _, _, hl, hxl, hget⟩ := DataW.trod_array ht hf
  have hln : l.length = n := by simpa using hsz
  have each : ∀ i, (h : i < l.length) → ∃ x : UInt64, l[i] = .int .u64 (x.toNat : Int) := fun i h => by
    have h1 := hget i (by omega)
    rw [hce, Nat.mul_one, List.getElem?_eq_getElem (by omega)] at h1
    obtain ⟨z, h2, _, h3⟩ := DataW.trod_int he h1
    have h4 : (l.drop i).take 1 = [l[i]] := by rw [List.drop_eq_getElem_cons h]; rfl
    have h5 : l[i] = .int .u64 z := by
      have h6 : ((Value.agg (List.toArray l)).cells.toList.drop i).take 1 = [l[i]] := h4
      rw [h6] at h2
      simpa using h2
    obtain ⟨x, hx⟩ := u64_of_wf h3
    exact ⟨x, by rw [h5]; exact hx⟩
  let f : Value → UInt64 := fun v => match v with
    | .int .u64 n => UInt64.ofNat n.toNat
    | _ => 0
  refine ⟨l.map f, by simp [hln], ?_⟩
  simp only [Rel]
  refine ⟨l, rfl, RelL.of_get (by simp) fun i c u h1 h2 => ?_⟩
  obtain ⟨hi, hu⟩ := List.getElem?_eq_some_iff.1 h2
  obtain ⟨x, hx⟩ := each i hi
  simp only [List.getElem?_map, List.getElem?_eq_getElem hi, Option.map_some, Option.some.injEq] at h1
  rw [← h1, ← hu, hx]
  simp only [Rel, f]
  congr 1
  simp
end
end Go.Sym
/- Laws' rows: three numbers of four words; two words of 32 bits. -/
namespace Go.Proofs.Ythechjccpljljaa
open Go.Sym Go.ChangeShapes Go.WideShapes
section
variable {H : Type} {enc : TypeId × Value → H} {P : Program} {W : World} {base b0 : Nat} {spare : Nat → Bool} {held : Bool}
theorem chunk_ints {k : IntKind} {fuel n : Nat} {t e : TypeId} {cs : List Value} {x : DataW H × List MemPlace} (ht : P.underlying t = some (.array n e)) (he : P.underlying e = some (.int k)) (hce : P.cellsOf e = 1) (hl : cs.length = n) (h : DataW.trod enc P W base spare held fuel t cs = some x) :
    ∀ i, (hi : i < cs.length) → ∃ z : Int, cs[i] = .int k z ∧ (Lit.int k z).wf = true := by
  obtain ⟨xs, m, _, _, _, hxl, hget⟩ := DataW.trod_array ht h
  intro i hi
  have h1 := hget i (by omega)
  rw [hce, Nat.mul_one, List.getElem?_eq_getElem (by omega)] at h1
  obtain ⟨z, h2, _, h3⟩ := DataW.trod_int he h1
  have h4 : (cs.drop i).take 1 = [cs[i]] := by rw [List.drop_eq_getElem_cons hi]; rfl
  rw [h4] at h2
  exact ⟨z, by simpa using h2, h3⟩
theorem chunk_four {fuel : Nat} {t e : TypeId} {a b c d : Value} {x : DataW H × List MemPlace} (ht : P.underlying t = some (.array 4 e)) (he : P.underlying e = some (.int .u64)) (hce : P.cellsOf e = 1) (h : DataW.trod enc P W base spare held fuel t [a, b, c, d] = some x) :
    ∃ f : Four, a = .int .u64 (f.w0.toNat : Int) ∧ b = .int .u64 (f.w1.toNat : Int) ∧ c = .int .u64 (f.w2.toNat : Int) ∧ d = .int .u64 (f.w3.toNat : Int) := by
  have get := chunk_ints ht he hce rfl h
  obtain ⟨z0, e0, w0⟩ := get 0 (by simp)
  obtain ⟨z1, e1, w1⟩ := get 1 (by simp)
  obtain ⟨z2, e2, w2⟩ := get 2 (by simp)
  obtain ⟨z3, e3, w3⟩ := get 3 (by simp)
  obtain ⟨a0, h0⟩ := u64_of_wf w0
  obtain ⟨a1, h1⟩ := u64_of_wf w1
  obtain ⟨a2, h2⟩ := u64_of_wf w2
  obtain ⟨a3, h3⟩ := u64_of_wf w3
  exact ⟨⟨a0, a1, a2, a3⟩, e0.trans h0, e1.trans h1, e2.trans h2, e3.trans h3⟩
variable {t e u : TypeId} {v : Value} {d : DataW H} {ps : List MemPlace}
theorem list12 {l : List Value} (h : l.length = 12) : ∃ a b c d e f g i j k m n, l = [a, b, c, d, e, f, g, i, j, k, m, n] := by
  match l, h with
  | [a, b, c, d, e, f, g, i, j, k, m, n], _ => exact ⟨a, b, c, d, e, f, g, i, j, k, m, n, rfl⟩
theorem open_fours3 [GLob] (ht : P.underlying t = some (.array 3 e)) (he : P.underlying e = some (.array 4 u)) (hu : P.underlying u = some (.int .u64)) (hc : P.cellsOf t = 12) (hce : P.cellsOf e = 4) (hcu : P.cellsOf u = 1) (hval : Value.okWide P W .any b0 t v) (hd : DataW.Trod enc P W base spare held t v d ps) :
    ∃ x : Fours3, Rel noAt W x.sv v := by
  obtain ⟨cs, rfl, hsz, _⟩ : ∃ cs, v = .agg cs ∧ cs.size = P.cellsOf t ∧ Row.okWide P W .any b0 t cs := by simpa [Value.okWide, ht] using hval
  rw [hc] at hsz
  obtain ⟨l⟩ := cs
  obtain ⟨c0, c1, c2, c3, c4, c5, c6, c7, c8, c9, c10, c11, rfl⟩ := list12 (by simpa using hsz)
  obtain ⟨fuel, hf⟩ := hd
  obtain ⟨xs, m, _, _, _, hxl, hget⟩ := DataW.trod_array ht hf
  have k0 := hget 0 (by omega)
  have k1 := hget 1 (by omega)
  have k2 := hget 2 (by omega)
  rw [hce, List.getElem?_eq_getElem (by omega)] at k0 k1 k2
  obtain ⟨x, a0, a1, a2, a3⟩ := chunk_four (a := c0) (b := c1) (c := c2) (d := c3) he hu hcu k0
  obtain ⟨y, b0, b1, b2, b3⟩ := chunk_four (a := c4) (b := c5) (c := c6) (d := c7) he hu hcu k1
  obtain ⟨z, d0, d1, d2, d3⟩ := chunk_four (a := c8) (b := c9) (c := c10) (d := c11) he hu hcu k2
  refine ⟨⟨x, y, z⟩, ?_⟩
  simp only [Fours3.sv, Rel, RelL]
  rw [a0, a1, a2, a3, b0, b1, b2, b3, d0, d1, d2, d3]
  exact ⟨_, rfl, _, _, rfl, rfl, _, _, rfl, rfl, _, _, rfl, rfl, _, _, rfl, rfl, _, _, rfl, rfl, _, _, rfl, rfl, _, _, rfl, rfl, _, _, rfl, rfl, _, _, rfl, rfl, _, _, rfl, rfl, _, _, rfl, rfl, _, _, rfl, rfl, rfl⟩
theorem u32_of_wf' {n : Int} (h : (Lit.int .u32 n).wf = true) : ∃ x : UInt32, (.int .u32 n : Value) = .int .u32 (x.toNat : Int) := by
  simp [Lit.wf, IntKind.min, IntKind.max, IntKind.signed, IntKind.bits] at h
  refine ⟨UInt32.ofNat n.toNat, ?_⟩
  simp; omega
theorem list2 {l : List Value} (h : l.length = 2) : ∃ a b, l = [a, b] := by
  match l, h with
  | [a, b], _ => exact ⟨a, b, rfl⟩
theorem open_two32 [GLob] (ht : P.underlying t = some (.array 2 e)) (he : P.underlying e = some (.int .u32)) (hc : P.cellsOf t = 2) (hce : P.cellsOf e = 1) (hval : Value.okWide P W .any b0 t v) (hd : DataW.Trod enc P W base spare held t v d ps) :
    ∃ x : Two32, Rel noAt W x.sv v := by
  obtain ⟨cs, rfl, hsz, _⟩ : ∃ cs, v = .agg cs ∧ cs.size = P.cellsOf t ∧ Row.okWide P W .any b0 t cs := by simpa [Value.okWide, ht] using hval
  rw [hc] at hsz
  obtain ⟨l⟩ := cs
  obtain ⟨c0, c1, rfl⟩ := list2 (by simpa using hsz)
  obtain ⟨fuel, hf⟩ := hd
  have get := chunk_ints (cs := [c0, c1]) ht he hce rfl hf
  obtain ⟨z0, e0, w0⟩ := get 0 (by simp)
  obtain ⟨z1, e1, w1⟩ := get 1 (by simp)
  obtain ⟨a0, h0⟩ := u32_of_wf' w0
  obtain ⟨a1, h1⟩ := u32_of_wf' w1
  refine ⟨⟨a0, a1⟩, ?_⟩
  have e0' : c0 = .int .u32 z0 := e0
  have e1' : c1 = .int .u32 z1 := e1
  simp only [Two32.sv, Rel, RelL]
  rw [e0', e1', h0, h1]
  exact ⟨_, rfl, _, _, rfl, rfl, _, _, rfl, rfl, rfl⟩
end
end Go.Proofs.Ythechjccpljljaa
