/- Laws' rows: what an argument reads as, told as symbolic values. -/
import Derived.Test.YthechjccpljljaaSymM
import Derived.WalkKit
import Derived.ProofKit
import Derived.OpenShut
import Derived.ChangeOld
import Derived.SizedLaws
import Derived.ChangeSlices
namespace Go.Sym
open Go.RowKit Go.ChangeShapes Go.WideShapes

section
variable {H : Type} {enc : TypeId × Value → H} {P : Program} {W : World} {base b0 : Nat} {spare : Nat → Bool} {held : Bool} {t e : TypeId} {v : Value} {d : DataW H} {ps : List MemPlace}

theorem four_list {l : List Value} (h : l.length = 4) : ∃ a b c d, l = [a, b, c, d] := by
  match l, h with
  | [a, b, c, d], _ => exact ⟨a, b, c, d, rfl⟩
theorem u64_of_wf {n : Int} (h : (Lit.int .u64 n).wf = true) : ∃ x : UInt64, (.int .u64 n : Value) = .int .u64 (x.toNat : Int) := by
  simp [Lit.wf, IntKind.min, IntKind.max, IntKind.signed, IntKind.bits] at h
  refine ⟨UInt64.ofNat n.toNat, ?_⟩
  simp; omega
theorem open_u64 (ht : P.underlying t = some (.int .u64)) (hval : Value.okWide P W .any b0 t v) (hd : DataW.Trod enc P W base spare held t v d ps) : ∃ x : UInt64, Rel noAt W (.u64 x) v := by
  obtain ⟨n, rfl, _, _, hw⟩ := open_int ht hval hd
  obtain ⟨x, hx⟩ := u64_of_wf hw
  exact ⟨x, by simp only [Rel]; exact hx⟩
theorem open_i64 (ht : P.underlying t = some (.int .i64)) (hval : Value.okWide P W .any b0 t v) (hd : DataW.Trod enc P W base spare held t v d ps) : ∃ x : Int, Rel noAt W (.i64 x) v := by
  obtain ⟨n, rfl, _, _, hw⟩ := open_int ht hval hd
  exact ⟨n, by simp only [Rel]⟩
theorem open_bool' (ht : P.underlying t = some .bool) (hval : Value.okWide P W .any b0 t v) : ∃ x : Bool, Rel noAt W (.bool x) v := by
  obtain ⟨n, rfl⟩ := okWide_bool ht hval
  exact ⟨n, by simp only [Rel]⟩
theorem open_four (ht : P.underlying t = some (.array 4 e)) (he : P.underlying e = some (.int .u64)) (hc : P.cellsOf t = 4) (hce : P.cellsOf e = 1) (hval : Value.okWide P W .any b0 t v) (hd : DataW.Trod enc P W base spare held t v d ps) :
    ∃ x : Four, Rel noAt W x.sv v := by
  obtain ⟨cs, rfl, hsz, _⟩ : ∃ cs, v = .agg cs ∧ cs.size = P.cellsOf t ∧ Row.okWide P W .any b0 t cs := by simpa [Value.okWide, ht] using hval
  rw [hc] at hsz
  obtain ⟨l⟩ := cs
  obtain ⟨c0, c1, c2, c3, rfl⟩ := four_list (by simpa using hsz)
  obtain ⟨fuel, hf⟩ := hd
  obtain ⟨y0, y1, y2, y3, m, hx, hy0, hy1, hy2, hy3⟩ := trod_array4 ht hce hf
  obtain ⟨x0, e0, rfl, w0⟩ := DataW.trod_int he hy0
  obtain ⟨x1, e1, rfl, w1⟩ := DataW.trod_int he hy1
  obtain ⟨x2, e2, rfl, w2⟩ := DataW.trod_int he hy2
  obtain ⟨x3, e3, rfl, w3⟩ := DataW.trod_int he hy3
  simp at e0 e1 e2 e3
  subst e0 e1 e2 e3
  obtain ⟨a0, h0⟩ := u64_of_wf w0
  obtain ⟨a1, h1⟩ := u64_of_wf w1
  obtain ⟨a2, h2⟩ := u64_of_wf w2
  obtain ⟨a3, h3⟩ := u64_of_wf w3
  refine ⟨⟨a0, a1, a2, a3⟩, ?_⟩
  simp only [Four.sv, Rel, RelL]
  rw [h0, h1, h2, h3]
  exact ⟨_, rfl, _, _, rfl, rfl, _, _, rfl, rfl, _, _, rfl, rfl, _, _, rfl, rfl, rfl⟩
theorem u8_of_wf {n : Int} (h : (Lit.int .u8 n).wf = true) : 0 ≤ n ∧ n < 256 := by
  simp [Lit.wf, IntKind.min, IntKind.max, IntKind.signed, IntKind.bits] at h
  omega
theorem open_bytes (ht : P.underlying t = some (.slice e)) (he : P.underlying e = some (.int .u8)) (hc : P.cellsOf e = 1) (hval : Value.okWide P W .any b0 t v) (hd : DataW.Trod enc P W base spare held t v d ps) :
    ∃ l : List UInt8, Rel noAt W (.lst (.bytes l)) v := by
  obtain ⟨a0, len0, cap0, rfl⟩ := okWide_slice ht hval
  obtain ⟨fuel, hf⟩ := hd
  rcases open_ints ht he hc hf with ⟨h1, _⟩ | ⟨a, len, cap, zs, h1, _, h3, _, h5, _, h7, h8⟩
  · have : Value.slice a0 len0 cap0 = .slice none 0 0 := by simpa [Value.cells] using h1
    rw [this]
    refine ⟨[], ?_⟩
    simp only [Rel]
    exact ⟨none, 0, rfl, by simp [LV.len], fun j u hj => by simp [LV.vals] at hj⟩
  · have : Value.slice a0 len0 cap0 = .slice (some a) len cap := by simpa [Value.cells] using h1
    rw [this]
    have hlen : len ≤ zs.length := by rw [h5]; split <;> omega
    refine ⟨(zs.take len).map fun n => UInt8.ofNat n.toNat, ?_⟩
    simp only [Rel]
    refine ⟨some a, cap, by simp [LV.len, Nat.min_eq_left hlen], by simp [LV.len, Nat.min_eq_left hlen]; omega, fun j u hj => ⟨a, rfl, ⟨fun n e => by simp [noAt] at e, fun e => by simp [noAt] at e, fun n b c k e => by simp [noAt] at e⟩, ?_⟩⟩
    simp only [LV.vals, List.map_map, List.getElem?_map, Option.map_eq_some_iff] at hj
    obtain ⟨z, hz, rfl⟩ := hj
    rw [List.getElem?_take] at hz
    split at hz
    · rename_i hjl
      have hjz : j < zs.length := by omega
      rw [List.getElem?_eq_getElem hjz] at hz
      simp only [Option.some.injEq] at hz
      have h9 := h7 j hjz
      rw [List.getD_eq_getElem?_getD, List.getElem?_eq_getElem hjz] at h9
      simp only [Option.getD_some, hz] at h9
      have hw := u8_of_wf (h8 z (hz ▸ List.getElem_mem hjz))
      rw [h9]
      simp only [Function.comp, UInt8.toNat_ofNat']
      congr 2
      omega
    · cases hz
end

/-- A law's call, from its specification. -/
theorem calls_of_spec {P : Program} {f : FuncId} {fn : Func} {s : SpecF} (hs : SpecOK P f s) (hf : P.funcs[f]? = some fn) (hname : (fn.name == "runtime.NumGoroutine") = false) (hb : fn.body.isSome = true) {svs : List SV} {vs : List Value} {w : World} {pre : Option Prop} {r : SV}
    (h : s svs = some (pre, r)) (hp : Ok pre) (hr : RelL noAt w svs vs) : Calls P f (List.toArray vs) w fun e w' => ∃ v, e = .returned v ∧ Rel noAt w' r v ∧ Below w.heap.size w w' := by
  have h1 := hs noAt w svs vs pre r (fun n g e => by simp [noAt] at e) (fun g e => by simp [noAt] at e) h hp hr
  obtain ⟨c, hc⟩ := Option.isSome_iff_exists.1 hb
  have hrun : (callFunc f (List.toArray vs)).run P w = .ok (.enter f (List.toArray vs)) w := by
    have h1 : fn.name ≠ "runtime.NumGoroutine" := by simpa using hname
    simp [callFunc, hf, h1, hc]
  rw [hrun] at h1
  exact Calls.mono h1 fun e w' ⟨v, k1, k2, k3⟩ => ⟨v, k1, k2, k3⟩
end Go.Sym
