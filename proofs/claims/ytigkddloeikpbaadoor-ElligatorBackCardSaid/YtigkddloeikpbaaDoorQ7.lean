/- A symbolic machine for Go functions, and what the functions that the law reaches come to: SymL, TT, RefA, Ref0, RefP, RefQ, RefR, RefB, RefS, RefT, RefU, RefD, RefE. -/
import Derived.Test.YtigkddloeikpbaaDoorQ3
import Derived.WalkKit
import Derived.ProofKit
import Derived.OpenShut
import Derived.ChangeOld
import Derived.SizedLaws
import Derived.ChangeSlices
import Derived.Test.YtigkddloeikpbaaDoorProg
/- Laws' rows: what an argument reads as, told as symbolic values. -/
namespace Go.Sym
open Go.RowKit Go.ChangeShapes Go.WideShapes

section
variable {H : Type} {enc : TypeId × Value → H} {P : Program} {W : World} {base b0 : Nat} {spare : Nat → Bool} {held : Bool} {t e : TypeId} {v : Value} {d : DataW H} {ps : List MemPlace}

theorem four_list {l : List Value} (h : l.length = 4) : ∃ a b c d, l = [a, b, c, d] := by
  match l, h with
  | [a, b, c, d], _ => exact ⟨a, b, c, d, rfl⟩
theorem u64_of_wf {n : Int} (h : (Lit.int .u64 n).wf = true) : ∃ x : UInt64, (.int .u64 n : Value) = .int .u64 (x.toNat : Int) := by
  simp [Lit.wf, IntKind.min, IntKind.max, IntKind.signed, IntKind.bits] at h
  refine ⟨UInt64.ofNat n.toNat, ?_⟩
  simp; omega
theorem open_u64 (ht : P.underlying t = some (.int .u64)) (hval : Value.okWide P W .any b0 t v) (hd : DataW.Trod enc P W base spare held t v d ps) : ∃ x : UInt64, Rel noAt W (.u64 x) v := by
  obtain ⟨n, rfl, _, _, hw⟩ := open_int ht hval hd
  obtain ⟨x, hx⟩ := u64_of_wf hw
  exact ⟨x, by simp only [Rel]; exact hx⟩
theorem open_i64 (ht : P.underlying t = some (.int .i64)) (hval : Value.okWide P W .any b0 t v) (hd : DataW.Trod enc P W base spare held t v d ps) : ∃ x : Int, Rel noAt W (.i64 x) v := by
  obtain ⟨n, rfl, _, _, hw⟩ := open_int ht hval hd
  exact ⟨n, by simp only [Rel]⟩
theorem open_bool' (ht : P.underlying t = some .bool) (hval : Value.okWide P W .any b0 t v) : ∃ x : Bool, Rel noAt W (.bool x) v := by
  obtain ⟨n, rfl⟩ := okWide_bool ht hval
  exact ⟨n, by simp only [Rel]⟩
theorem open_four (ht : P.underlying t = some (.array 4 e)) (he : P.underlying e = some (.int .u64)) (hc : P.cellsOf t = 4) (hce : P.cellsOf e = 1) (hval : Value.okWide P W .any b0 t v) (hd : DataW.Trod enc P W base spare held t v d ps) :
    ∃ x : Four, Rel noAt W x.sv v := by
  obtain ⟨cs, rfl, hsz, _⟩ : ∃ cs, v = .agg cs ∧ cs.size = P.cellsOf t ∧ Row.okWide P W .any b0 t cs := by simpa [Value.okWide, ht] using hval
  rw [hc] at hsz
  obtain ⟨l⟩ := cs
  obtain ⟨c0, c1, c2, c3, rfl⟩ := four_list (by simpa using hsz)
  obtain ⟨fuel, hf⟩ := hd
  obtain ⟨y0, y1, y2, y3, m, hx, hy0, hy1, hy2, hy3⟩ := trod_array4 ht hce hf
  obtain ⟨x0, e0, rfl, w0⟩ := DataW.trod_int he hy0
  obtain ⟨x1, e1, rfl, w1⟩ := DataW.trod_int he hy1
  obtain ⟨x2, e2, rfl, w2⟩ := DataW.trod_int he hy2
  obtain ⟨x3, e3, rfl, w3⟩ := DataW.trod_int he hy3
  simp at e0 e1 e2 e3
  subst e0 e1 e2 e3
  obtain ⟨a0, h0⟩ := u64_of_wf w0
  obtain ⟨a1, h1⟩ := u64_of_wf w1
  obtain ⟨a2, h2⟩ := u64_of_wf w2
  obtain ⟨a3, h3⟩ := u64_of_wf w3
  refine ⟨⟨a0, a1, a2, a3⟩, ?_⟩
  simp only [Four.sv, Rel, RelL]
  rw [h0, h1, h2, h3]
  exact ⟨_, rfl, _, _, rfl, rfl, _, _, rfl, rfl, _, _, rfl, rfl, _, _, rfl, rfl, rfl⟩
theorem u8_of_wf {n : Int} (h : (Lit.int .u8 n).wf = true) : 0 ≤ n ∧ n < 256 := by
  simp [Lit.wf, IntKind.min, IntKind.max, IntKind.signed, IntKind.bits] at h
  omega
theorem open_bytes (ht : P.underlying t = some (.slice e)) (he : P.underlying e = some (.int .u8)) (hc : P.cellsOf e = 1) (hval : Value.okWide P W .any b0 t v) (hd : DataW.Trod enc P W base spare held t v d ps) :
    ∃ l : List UInt8, Rel noAt W (.lst (.bytes l)) v := by
  obtain ⟨a0, len0, cap0, rfl⟩ := okWide_slice ht hval
  obtain ⟨fuel, hf⟩ := hd
  rcases open_ints ht he hc hf with ⟨h1, _⟩ | ⟨a, len, cap, zs, h1, _, h3, _, h5, _, h7, h8⟩
  · have : Value.slice a0 len0 cap0 = .slice none 0 0 := by simpa [Value.cells] using h1
    rw [this]
    refine ⟨[], ?_⟩
    simp only [Rel]
    exact ⟨none, 0, rfl, by simp [LV.len], fun j u hj => by simp [LV.vals] at hj⟩
  · have : Value.slice a0 len0 cap0 = .slice (some a) len cap := by simpa [Value.cells] using h1
    rw [this]
    have hlen : len ≤ zs.length := by rw [h5]; split <;> omega
    refine ⟨(zs.take len).map fun n => UInt8.ofNat n.toNat, ?_⟩
    simp only [Rel]
    refine ⟨some a, cap, by simp [LV.len, Nat.min_eq_left hlen], by simp [LV.len, Nat.min_eq_left hlen]; omega, fun j u hj => ⟨a, rfl, ⟨fun n e => by simp [noAt] at e, fun e => by simp [noAt] at e, fun n b c k e => by simp [noAt] at e⟩, ?_⟩⟩
    simp only [LV.vals, List.map_map, List.getElem?_map, Option.map_eq_some_iff] at hj
    obtain ⟨z, hz, rfl⟩ := hj
    rw [List.getElem?_take] at hz
    split at hz
    · rename_i hjl
      have hjz : j < zs.length := by omega
      rw [List.getElem?_eq_getElem hjz] at hz
      simp only [Option.some.injEq] at hz
      have h9 := h7 j hjz
      rw [List.getD_eq_getElem?_getD, List.getElem?_eq_getElem hjz] at h9
      simp only [Option.getD_some, hz] at h9
      have hw := u8_of_wf (h8 z (hz ▸ List.getElem_mem hjz))
      rw [h9]
      simp only [Function.comp, UInt8.toNat_ofNat']
      congr 2
      omega
    · cases hz
end

/-- A law's call, from its specification. -/
theorem calls_of_spec [GLob] {P : Program} {f : FuncId} {fn : Func} {s : SpecF} (hs : SpecOK P f s) (hf : P.funcs[f]? = some fn) (hname : (fn.name == "runtime.NumGoroutine") = false) (hb : fn.body.isSome = true) {svs : List SV} {vs : List Value} {w : World} {pre : Option Prop} {r : SV}
    (hg : GLOK noAt w) (h : s svs = some (pre, r)) (hp : Ok pre) (hr : RelL noAt w svs vs) : Calls P f (List.toArray vs) w fun e w' => ∃ v, e = .returned v ∧ Rel noAt w' r v ∧ Below w.heap.size w w' := by
  have h1 := hs noAt w svs vs pre r (fun n g e => by simp [noAt] at e) (fun g e => by simp [noAt] at e) hg h hp hr
  obtain ⟨c, hc⟩ := Option.isSome_iff_exists.1 hb
  have hrun : (callFunc f (List.toArray vs)).run P w = .ok (.enter f (List.toArray vs)) w := by
    have h1 : fn.name ≠ "runtime.NumGoroutine" := by simpa using hname
    simp [callFunc, hf, h1, hc]
  rw [hrun] at h1
  exact Calls.mono h1 fun e w' ⟨v, k1, k2, k3⟩ => ⟨v, k1, k2, k3⟩
end Go.Sym
/- The types of the seat's program, as the symbolic machine wants them. Written by a program of this claim's author. -/
namespace Go.Proofs.YtigkddloeikpbaaDoor
open Go.Sym

def ti1 : TI := ⟨.other, 1, 8, [.nilFunc]⟩
theorem ti1_ok : TIOK Tryd.prog 1 ti1 := ⟨by kernel_rfl, by kernel_rfl, by kernel_rfl⟩
def ti2 : TI := ⟨.int .i64, 1, 8, [(.int .i64 0)]⟩
theorem ti2_ok : TIOK Tryd.prog 2 ti2 := ⟨by kernel_rfl, by kernel_rfl, by kernel_rfl⟩
def ti3 : TI := ⟨.int .i64, 1, 8, [(.int .i64 0)]⟩
theorem ti3_ok : TIOK Tryd.prog 3 ti3 := ⟨by kernel_rfl, by kernel_rfl, by kernel_rfl⟩
def ti4 : TI := ⟨.bool, 1, 1, [(.bool false)]⟩
theorem ti4_ok : TIOK Tryd.prog 4 ti4 := ⟨by kernel_rfl, by kernel_rfl, by kernel_rfl⟩
def ti5 : TI := ⟨.int .u8, 1, 1, [(.int .u8 0)]⟩
theorem ti5_ok : TIOK Tryd.prog 5 ti5 := ⟨by kernel_rfl, by kernel_rfl, by kernel_rfl⟩
def ti9 : TI := ⟨.str, 1, 16, [(.string ⟨#[]⟩)]⟩
theorem ti9_ok : TIOK Tryd.prog 9 ti9 := ⟨by kernel_rfl, by kernel_rfl, by kernel_rfl⟩
def ti12 : TI := ⟨.int .u64, 1, 8, [(.int .u64 0)]⟩
theorem ti12_ok : TIOK Tryd.prog 12 ti12 := ⟨by kernel_rfl, by kernel_rfl, by kernel_rfl⟩
def ti21 : TI := ⟨.int .i32, 1, 4, [(.int .i32 0)]⟩
theorem ti21_ok : TIOK Tryd.prog 21 ti21 := ⟨by kernel_rfl, by kernel_rfl, by kernel_rfl⟩
def ti22 : TI := ⟨.int .u64, 1, 8, [(.int .u64 0)]⟩
theorem ti22_ok : TIOK Tryd.prog 22 ti22 := ⟨by kernel_rfl, by kernel_rfl, by kernel_rfl⟩
def ti23 : TI := ⟨.array 5 22, 5, 40, [(.int .u64 0), (.int .u64 0), (.int .u64 0), (.int .u64 0), (.int .u64 0)]⟩
theorem ti23_ok : TIOK Tryd.prog 23 ti23 := ⟨by kernel_rfl, by kernel_rfl, by kernel_rfl⟩
def ti24 : TI := ⟨.array 5 22, 5, 40, [(.int .u64 0), (.int .u64 0), (.int .u64 0), (.int .u64 0), (.int .u64 0)]⟩
theorem ti24_ok : TIOK Tryd.prog 24 ti24 := ⟨by kernel_rfl, by kernel_rfl, by kernel_rfl⟩
def ti25 : TI := ⟨.slice 5, 1, 24, [(.slice none 0 0)]⟩
theorem ti25_ok : TIOK Tryd.prog 25 ti25 := ⟨by kernel_rfl, by kernel_rfl, by kernel_rfl⟩
def ti26 : TI := ⟨.other, 1, 8, [.nilFunc]⟩
theorem ti26_ok : TIOK Tryd.prog 26 ti26 := ⟨by kernel_rfl, by kernel_rfl, by kernel_rfl⟩
def ti27 : TI := ⟨.other, 1, 8, [.nilFunc]⟩
theorem ti27_ok : TIOK Tryd.prog 27 ti27 := ⟨by kernel_rfl, by kernel_rfl, by kernel_rfl⟩
def ti29 : TI := ⟨.other, 1, 8, [.nilFunc]⟩
theorem ti29_ok : TIOK Tryd.prog 29 ti29 := ⟨by kernel_rfl, by kernel_rfl, by kernel_rfl⟩
def ti30 : TI := ⟨.other, 1, 8, [.nilFunc]⟩
theorem ti30_ok : TIOK Tryd.prog 30 ti30 := ⟨by kernel_rfl, by kernel_rfl, by kernel_rfl⟩
def ti31 : TI := ⟨.other, 1, 8, [.nilFunc]⟩
theorem ti31_ok : TIOK Tryd.prog 31 ti31 := ⟨by kernel_rfl, by kernel_rfl, by kernel_rfl⟩
def ti32 : TI := ⟨.int .u32, 1, 4, [(.int .u32 0)]⟩
theorem ti32_ok : TIOK Tryd.prog 32 ti32 := ⟨by kernel_rfl, by kernel_rfl, by kernel_rfl⟩
def ti33 : TI := ⟨.other, 1, 8, [.nilFunc]⟩
theorem ti33_ok : TIOK Tryd.prog 33 ti33 := ⟨by kernel_rfl, by kernel_rfl, by kernel_rfl⟩
def ti34 : TI := ⟨.struct [(0, 24), (5, 24), (10, 24)], 15, 120, [(.int .u64 0), (.int .u64 0), (.int .u64 0), (.int .u64 0), (.int .u64 0), (.int .u64 0), (.int .u64 0), (.int .u64 0), (.int .u64 0), (.int .u64 0), (.int .u64 0), (.int .u64 0), (.int .u64 0), (.int .u64 0), (.int .u64 0)]⟩
theorem ti34_ok : TIOK Tryd.prog 34 ti34 := ⟨by kernel_rfl, by kernel_rfl, by kernel_rfl⟩
def ti35 : TI := ⟨.struct [(0, 24), (5, 24), (10, 24)], 15, 120, [(.int .u64 0), (.int .u64 0), (.int .u64 0), (.int .u64 0), (.int .u64 0), (.int .u64 0), (.int .u64 0), (.int .u64 0), (.int .u64 0), (.int .u64 0), (.int .u64 0), (.int .u64 0), (.int .u64 0), (.int .u64 0), (.int .u64 0)]⟩
theorem ti35_ok : TIOK Tryd.prog 35 ti35 := ⟨by kernel_rfl, by kernel_rfl, by kernel_rfl⟩
def ti36 : TI := ⟨.struct [(0, 35), (15, 24)], 20, 160, [(.int .u64 0), (.int .u64 0), (.int .u64 0), (.int .u64 0), (.int .u64 0), (.int .u64 0), (.int .u64 0), (.int .u64 0), (.int .u64 0), (.int .u64 0), (.int .u64 0), (.int .u64 0), (.int .u64 0), (.int .u64 0), (.int .u64 0), (.int .u64 0), (.int .u64 0), (.int .u64 0), (.int .u64 0), (.int .u64 0)]⟩
theorem ti36_ok : TIOK Tryd.prog 36 ti36 := ⟨by kernel_rfl, by kernel_rfl, by kernel_rfl⟩
def ti37 : TI := ⟨.struct [(0, 35), (15, 24)], 20, 160, [(.int .u64 0), (.int .u64 0), (.int .u64 0), (.int .u64 0), (.int .u64 0), (.int .u64 0), (.int .u64 0), (.int .u64 0), (.int .u64 0), (.int .u64 0), (.int .u64 0), (.int .u64 0), (.int .u64 0), (.int .u64 0), (.int .u64 0), (.int .u64 0), (.int .u64 0), (.int .u64 0), (.int .u64 0), (.int .u64 0)]⟩
theorem ti37_ok : TIOK Tryd.prog 37 ti37 := ⟨by kernel_rfl, by kernel_rfl, by kernel_rfl⟩
def ti38 : TI := ⟨.other, 1, 8, [.nilFunc]⟩
theorem ti38_ok : TIOK Tryd.prog 38 ti38 := ⟨by kernel_rfl, by kernel_rfl, by kernel_rfl⟩
def ti39 : TI := ⟨.other, 1, 8, [.nilFunc]⟩
theorem ti39_ok : TIOK Tryd.prog 39 ti39 := ⟨by kernel_rfl, by kernel_rfl, by kernel_rfl⟩
def ti41 : TI := ⟨.other, 1, 8, [.nilFunc]⟩
theorem ti41_ok : TIOK Tryd.prog 41 ti41 := ⟨by kernel_rfl, by kernel_rfl, by kernel_rfl⟩
def ti42 : TI := ⟨.other, 1, 8, [.nilFunc]⟩
theorem ti42_ok : TIOK Tryd.prog 42 ti42 := ⟨by kernel_rfl, by kernel_rfl, by kernel_rfl⟩
def ti43 : TI := ⟨.int .i64, 1, 8, [(.int .i64 0)]⟩
theorem ti43_ok : TIOK Tryd.prog 43 ti43 := ⟨by kernel_rfl, by kernel_rfl, by kernel_rfl⟩
def ti45 : TI := ⟨.other, 1, 8, [.nilFunc]⟩
theorem ti45_ok : TIOK Tryd.prog 45 ti45 := ⟨by kernel_rfl, by kernel_rfl, by kernel_rfl⟩
def ti46 : TI := ⟨.other, 1, 8, [.nilFunc]⟩
theorem ti46_ok : TIOK Tryd.prog 46 ti46 := ⟨by kernel_rfl, by kernel_rfl, by kernel_rfl⟩
def ti47 : TI := ⟨.other, 1, 8, [.nilFunc]⟩
theorem ti47_ok : TIOK Tryd.prog 47 ti47 := ⟨by kernel_rfl, by kernel_rfl, by kernel_rfl⟩
def ti48 : TI := ⟨.other, 1, 8, [.nilFunc]⟩
theorem ti48_ok : TIOK Tryd.prog 48 ti48 := ⟨by kernel_rfl, by kernel_rfl, by kernel_rfl⟩
def ti49 : TI := ⟨.struct [(0, 42)], 1, 8, [.nilFunc]⟩
theorem ti49_ok : TIOK Tryd.prog 49 ti49 := ⟨by kernel_rfl, by kernel_rfl, by kernel_rfl⟩
def ti50 : TI := ⟨.struct [(0, 42)], 1, 8, [.nilFunc]⟩
theorem ti50_ok : TIOK Tryd.prog 50 ti50 := ⟨by kernel_rfl, by kernel_rfl, by kernel_rfl⟩
def ti51 : TI := ⟨.other, 1, 8, [.nilFunc]⟩
theorem ti51_ok : TIOK Tryd.prog 51 ti51 := ⟨by kernel_rfl, by kernel_rfl, by kernel_rfl⟩
def ti52 : TI := ⟨.other, 1, 8, [.nilFunc]⟩
theorem ti52_ok : TIOK Tryd.prog 52 ti52 := ⟨by kernel_rfl, by kernel_rfl, by kernel_rfl⟩
def ti54 : TI := ⟨.other, 1, 8, [.nilFunc]⟩
theorem ti54_ok : TIOK Tryd.prog 54 ti54 := ⟨by kernel_rfl, by kernel_rfl, by kernel_rfl⟩
def ti55 : TI := ⟨.struct [(0, 22), (1, 22)], 2, 16, [(.int .u64 0), (.int .u64 0)]⟩
theorem ti55_ok : TIOK Tryd.prog 55 ti55 := ⟨by kernel_rfl, by kernel_rfl, by kernel_rfl⟩
def ti56 : TI := ⟨.struct [(0, 22), (1, 22)], 2, 16, [(.int .u64 0), (.int .u64 0)]⟩
theorem ti56_ok : TIOK Tryd.prog 56 ti56 := ⟨by kernel_rfl, by kernel_rfl, by kernel_rfl⟩
def ti57 : TI := ⟨.array 5 56, 10, 80, [(.int .u64 0), (.int .u64 0), (.int .u64 0), (.int .u64 0), (.int .u64 0), (.int .u64 0), (.int .u64 0), (.int .u64 0), (.int .u64 0), (.int .u64 0)]⟩
theorem ti57_ok : TIOK Tryd.prog 57 ti57 := ⟨by kernel_rfl, by kernel_rfl, by kernel_rfl⟩
def ti58 : TI := ⟨.other, 1, 8, [.nilFunc]⟩
theorem ti58_ok : TIOK Tryd.prog 58 ti58 := ⟨by kernel_rfl, by kernel_rfl, by kernel_rfl⟩
def ti60 : TI := ⟨.other, 1, 8, [.nilFunc]⟩
theorem ti60_ok : TIOK Tryd.prog 60 ti60 := ⟨by kernel_rfl, by kernel_rfl, by kernel_rfl⟩
def ti61 : TI := ⟨.int .u64, 1, 8, [(.int .u64 0)]⟩
theorem ti61_ok : TIOK Tryd.prog 61 ti61 := ⟨by kernel_rfl, by kernel_rfl, by kernel_rfl⟩
def ti62 : TI := ⟨.other, 1, 8, [.nilFunc]⟩
theorem ti62_ok : TIOK Tryd.prog 62 ti62 := ⟨by kernel_rfl, by kernel_rfl, by kernel_rfl⟩
def ti63 : TI := ⟨.other, 1, 8, [.nilFunc]⟩
theorem ti63_ok : TIOK Tryd.prog 63 ti63 := ⟨by kernel_rfl, by kernel_rfl, by kernel_rfl⟩
def ti65 : TI := ⟨.other, 1, 8, [.nilFunc]⟩
theorem ti65_ok : TIOK Tryd.prog 65 ti65 := ⟨by kernel_rfl, by kernel_rfl, by kernel_rfl⟩
def ti66 : TI := ⟨.other, 1, 8, [.nilFunc]⟩
theorem ti66_ok : TIOK Tryd.prog 66 ti66 := ⟨by kernel_rfl, by kernel_rfl, by kernel_rfl⟩
def ti67 : TI := ⟨.array 4 22, 4, 32, [(.int .u64 0), (.int .u64 0), (.int .u64 0), (.int .u64 0)]⟩
theorem ti67_ok : TIOK Tryd.prog 67 ti67 := ⟨by kernel_rfl, by kernel_rfl, by kernel_rfl⟩
def ti68 : TI := ⟨.array 4 22, 4, 32, [(.int .u64 0), (.int .u64 0), (.int .u64 0), (.int .u64 0)]⟩
theorem ti68_ok : TIOK Tryd.prog 68 ti68 := ⟨by kernel_rfl, by kernel_rfl, by kernel_rfl⟩
def ti69 : TI := ⟨.other, 1, 8, [.nilFunc]⟩
theorem ti69_ok : TIOK Tryd.prog 69 ti69 := ⟨by kernel_rfl, by kernel_rfl, by kernel_rfl⟩
def ti70 : TI := ⟨.other, 1, 8, [.nilFunc]⟩
theorem ti70_ok : TIOK Tryd.prog 70 ti70 := ⟨by kernel_rfl, by kernel_rfl, by kernel_rfl⟩
def ti71 : TI := ⟨.other, 1, 8, [.nilFunc]⟩
theorem ti71_ok : TIOK Tryd.prog 71 ti71 := ⟨by kernel_rfl, by kernel_rfl, by kernel_rfl⟩
def ti73 : TI := ⟨.other, 1, 8, [.nilFunc]⟩
theorem ti73_ok : TIOK Tryd.prog 73 ti73 := ⟨by kernel_rfl, by kernel_rfl, by kernel_rfl⟩
def ti74 : TI := ⟨.other, 1, 8, [.nilFunc]⟩
theorem ti74_ok : TIOK Tryd.prog 74 ti74 := ⟨by kernel_rfl, by kernel_rfl, by kernel_rfl⟩
def ti75 : TI := ⟨.array 16 37, 320, 2560, [(.int .u64 0), (.int .u64 0), (.int .u64 0), (.int .u64 0), (.int .u64 0), (.int .u64 0), (.int .u64 0), (.int .u64 0), (.int .u64 0), (.int .u64 0), (.int .u64 0), (.int .u64 0), (.int .u64 0), (.int .u64 0), (.int .u64 0), (.int .u64 0), (.int .u64 0), (.int .u64 0), (.int .u64 0), (.int .u64 0), (.int .u64 0), (.int .u64 0), (.int .u64 0), (.int .u64 0), (.int .u64 0), (.int .u64 0), (.int .u64 0), (.int .u64 0), (.int .u64 0), (.int .u64 0), (.int .u64 0), (.int .u64 0), (.int .u64 0), (.int .u64 0), (.int .u64 0), (.int .u64 0), (.int .u64 0), (.int .u64 0), (.int .u64 0), (.int .u64 0), (.int .u64 0), (.int .u64 0), (.int .u64 0), (.int .u64 0), (.int .u64 0), (.int .u64 0), (.int .u64 0), (.int .u64 0), (.int .u64 0), (.int .u64 0), (.int .u64 0), (.int .u64 0), (.int .u64 0), (.int .u64 0), (.int .u64 0), (.int .u64 0), (.int .u64 0), (.int .u64 0), (.int .u64 0), (.int .u64 0), (.int .u64 0), (.int .u64 0), (.int .u64 0), (.int .u64 0), (.int .u64 0), (.int .u64 0), (.int .u64 0), (.int .u64 0), (.int .u64 0), (.int .u64 0), (.int .u64 0), (.int .u64 0), (.int .u64 0), (.int .u64 0), (.int .u64 0), (.int .u64 0), (.int .u64 0), (.int .u64 0), (.int .u64 0), (.int .u64 0), (.int .u64 0), (.int .u64 0), (.int .u64 0), (.int .u64 0), (.int .u64 0), (.int .u64 0), (.int .u64 0), (.int .u64 0), (.int .u64 0), (.int .u64 0), (.int .u64 0), (.int .u64 0), (.int .u64 0), (.int .u64 0), (.int .u64 0), (.int .u64 0), (.int .u64 0), (.int .u64 0), (.int .u64 0), (.int .u64 0), (.int .u64 0), (.int .u64 0), (.int .u64 0), (.int .u64 0), (.int .u64 0), (.int .u64 0), (.int .u64 0), (.int .u64 0), (.int .u64 0), (.int .u64 0), (.int .u64 0), (.int .u64 0), (.int .u64 0), (.int .u64 0), (.int .u64 0), (.int .u64 0), (.int .u64 0), (.int .u64 0), (.int .u64 0), (.int .u64 0), (.int .u64 0), (.int .u64 0), (.int .u64 0), (.int .u64 0), (.int .u64 0), (.int .u64 0), (.int .u64 0), (.int .u64 0), (.int .u64 0), (.int .u64 0), (.int .u64 0), (.int .u64 0), (.int .u64 0), (.int .u64 0), (.int .u64 0), (.int .u64 0), (.int .u64 0), (.int .u64 0), (.int .u64 0), (.int .u64 0), (.int .u64 0), (.int .u64 0), (.int .u64 0), (.int .u64 0), (.int .u64 0), (.int .u64 0), (.int .u64 0), (.int .u64 0), (.int .u64 0), (.int .u64 0), (.int .u64 0), (.int .u64 0), (.int .u64 0), (.int .u64 0), (.int .u64 0), (.int .u64 0), (.int .u64 0), (.int .u64 0), (.int .u64 0), (.int .u64 0), (.int .u64 0), (.int .u64 0), (.int .u64 0), (.int .u64 0), (.int .u64 0), (.int .u64 0), (.int .u64 0), (.int .u64 0), (.int .u64 0), (.int .u64 0), (.int .u64 0), (.int .u64 0), (.int .u64 0), (.int .u64 0), (.int .u64 0), (.int .u64 0), (.int .u64 0), (.int .u64 0), (.int .u64 0), (.int .u64 0), (.int .u64 0), (.int .u64 0), (.int .u64 0), (.int .u64 0), (.int .u64 0), (.int .u64 0), (.int .u64 0), (.int .u64 0), (.int .u64 0), (.int .u64 0), (.int .u64 0), (.int .u64 0), (.int .u64 0), (.int .u64 0), (.int .u64 0), (.int .u64 0), (.int .u64 0), (.int .u64 0), (.int .u64 0), (.int .u64 0), (.int .u64 0), (.int .u64 0), (.int .u64 0), (.int .u64 0), (.int .u64 0), (.int .u64 0), (.int .u64 0), (.int .u64 0), (.int .u64 0), (.int .u64 0), (.int .u64 0), (.int .u64 0), (.int .u64 0), (.int .u64 0), (.int .u64 0), (.int .u64 0), (.int .u64 0), (.int .u64 0), (.int .u64 0), (.int .u64 0), (.int .u64 0), (.int .u64 0), (.int .u64 0), (.int .u64 0), (.int .u64 0), (.int .u64 0), (.int .u64 0), (.int .u64 0), (.int .u64 0), (.int .u64 0), (.int .u64 0), (.int .u64 0), (.int .u64 0), (.int .u64 0), (.int .u64 0), (.int .u64 0), (.int .u64 0), (.int .u64 0), (.int .u64 0), (.int .u64 0), (.int .u64 0), (.int .u64 0), (.int .u64 0), (.int .u64 0), (.int .u64 0), (.int .u64 0), (.int .u64 0), (.int .u64 0), (.int .u64 0), (.int .u64 0), (.int .u64 0), (.int .u64 0), (.int .u64 0), (.int .u64 0), (.int .u64 0), (.int .u64 0), (.int .u64 0), (.int .u64 0), (.int .u64 0), (.int .u64 0), (.int .u64 0), (.int .u64 0), (.int .u64 0), (.int .u64 0), (.int .u64 0), (.int .u64 0), (.int .u64 0), (.int .u64 0), (.int .u64 0), (.int .u64 0), (.int .u64 0), (.int .u64 0), (.int .u64 0), (.int .u64 0), (.int .u64 0), (.int .u64 0), (.int .u64 0), (.int .u64 0), (.int .u64 0), (.int .u64 0), (.int .u64 0), (.int .u64 0), (.int .u64 0), (.int .u64 0), (.int .u64 0), (.int .u64 0), (.int .u64 0), (.int .u64 0), (.int .u64 0), (.int .u64 0), (.int .u64 0), (.int .u64 0), (.int .u64 0), (.int .u64 0), (.int .u64 0), (.int .u64 0), (.int .u64 0), (.int .u64 0), (.int .u64 0), (.int .u64 0), (.int .u64 0), (.int .u64 0), (.int .u64 0), (.int .u64 0), (.int .u64 0), (.int .u64 0), (.int .u64 0), (.int .u64 0), (.int .u64 0), (.int .u64 0), (.int .u64 0), (.int .u64 0), (.int .u64 0), (.int .u64 0), (.int .u64 0), (.int .u64 0), (.int .u64 0), (.int .u64 0), (.int .u64 0), (.int .u64 0)]⟩
theorem ti75_ok : TIOK Tryd.prog 75 ti75 := ⟨by kernel_rfl, by kernel_rfl, by kernel_rfl⟩
def ti76 : TI := ⟨.other, 1, 8, [.nilFunc]⟩
theorem ti76_ok : TIOK Tryd.prog 76 ti76 := ⟨by kernel_rfl, by kernel_rfl, by kernel_rfl⟩
def ti77 : TI := ⟨.other, 1, 8, [.nilFunc]⟩
theorem ti77_ok : TIOK Tryd.prog 77 ti77 := ⟨by kernel_rfl, by kernel_rfl, by kernel_rfl⟩
def ti78 : TI := ⟨.other, 1, 8, [.nilFunc]⟩
theorem ti78_ok : TIOK Tryd.prog 78 ti78 := ⟨by kernel_rfl, by kernel_rfl, by kernel_rfl⟩
def ti79 : TI := ⟨.other, 1, 8, [.nilFunc]⟩
theorem ti79_ok : TIOK Tryd.prog 79 ti79 := ⟨by kernel_rfl, by kernel_rfl, by kernel_rfl⟩
def ti80 : TI := ⟨.other, 1, 8, [.nilFunc]⟩
theorem ti80_ok : TIOK Tryd.prog 80 ti80 := ⟨by kernel_rfl, by kernel_rfl, by kernel_rfl⟩
def ti81 : TI := ⟨.other, 1, 8, [.nilFunc]⟩
theorem ti81_ok : TIOK Tryd.prog 81 ti81 := ⟨by kernel_rfl, by kernel_rfl, by kernel_rfl⟩
def ti82 : TI := ⟨.other, 1, 8, [.nilFunc]⟩
theorem ti82_ok : TIOK Tryd.prog 82 ti82 := ⟨by kernel_rfl, by kernel_rfl, by kernel_rfl⟩
def ti83 : TI := ⟨.other, 1, 8, [.nilFunc]⟩
theorem ti83_ok : TIOK Tryd.prog 83 ti83 := ⟨by kernel_rfl, by kernel_rfl, by kernel_rfl⟩
def ti84 : TI := ⟨.other, 1, 8, [.nilFunc]⟩
theorem ti84_ok : TIOK Tryd.prog 84 ti84 := ⟨by kernel_rfl, by kernel_rfl, by kernel_rfl⟩
def ti85 : TI := ⟨.other, 1, 8, [.nilFunc]⟩
theorem ti85_ok : TIOK Tryd.prog 85 ti85 := ⟨by kernel_rfl, by kernel_rfl, by kernel_rfl⟩
def ti86 : TI := ⟨.other, 1, 8, [.nilFunc]⟩
theorem ti86_ok : TIOK Tryd.prog 86 ti86 := ⟨by kernel_rfl, by kernel_rfl, by kernel_rfl⟩
def ti87 : TI := ⟨.other, 1, 8, [.nilFunc]⟩
theorem ti87_ok : TIOK Tryd.prog 87 ti87 := ⟨by kernel_rfl, by kernel_rfl, by kernel_rfl⟩
def ti88 : TI := ⟨.other, 1, 8, [.nilFunc]⟩
theorem ti88_ok : TIOK Tryd.prog 88 ti88 := ⟨by kernel_rfl, by kernel_rfl, by kernel_rfl⟩
def ti89 : TI := ⟨.slice 25, 1, 24, [(.slice none 0 0)]⟩
theorem ti89_ok : TIOK Tryd.prog 89 ti89 := ⟨by kernel_rfl, by kernel_rfl, by kernel_rfl⟩
def ti90 : TI := ⟨.ptr 99, 1, 8, [(.pointer none)]⟩
theorem ti90_ok : TIOK Tryd.prog 90 ti90 := ⟨by kernel_rfl, by kernel_rfl, by kernel_rfl⟩
def ti91 : TI := ⟨.other, 1, 8, [.nilFunc]⟩
theorem ti91_ok : TIOK Tryd.prog 91 ti91 := ⟨by kernel_rfl, by kernel_rfl, by kernel_rfl⟩
def ti92 : TI := ⟨.other, 1, 8, [.nilFunc]⟩
theorem ti92_ok : TIOK Tryd.prog 92 ti92 := ⟨by kernel_rfl, by kernel_rfl, by kernel_rfl⟩
def ti93 : TI := ⟨.other, 1, 8, [.nilFunc]⟩
theorem ti93_ok : TIOK Tryd.prog 93 ti93 := ⟨by kernel_rfl, by kernel_rfl, by kernel_rfl⟩
def ti94 : TI := ⟨.other, 1, 8, [.nilFunc]⟩
theorem ti94_ok : TIOK Tryd.prog 94 ti94 := ⟨by kernel_rfl, by kernel_rfl, by kernel_rfl⟩
def ti95 : TI := ⟨.array 8 22, 8, 64, [(.int .u64 0), (.int .u64 0), (.int .u64 0), (.int .u64 0), (.int .u64 0), (.int .u64 0), (.int .u64 0), (.int .u64 0)]⟩
theorem ti95_ok : TIOK Tryd.prog 95 ti95 := ⟨by kernel_rfl, by kernel_rfl, by kernel_rfl⟩
def ti96 : TI := ⟨.array 8 22, 8, 64, [(.int .u64 0), (.int .u64 0), (.int .u64 0), (.int .u64 0), (.int .u64 0), (.int .u64 0), (.int .u64 0), (.int .u64 0)]⟩
theorem ti96_ok : TIOK Tryd.prog 96 ti96 := ⟨by kernel_rfl, by kernel_rfl, by kernel_rfl⟩
def ti97 : TI := ⟨.other, 1, 8, [.nilFunc]⟩
theorem ti97_ok : TIOK Tryd.prog 97 ti97 := ⟨by kernel_rfl, by kernel_rfl, by kernel_rfl⟩
def ti98 : TI := ⟨.struct [(0, 96), (8, 25), (9, 22), (10, 4)], 11, 104, [(.int .u64 0), (.int .u64 0), (.int .u64 0), (.int .u64 0), (.int .u64 0), (.int .u64 0), (.int .u64 0), (.int .u64 0), (.slice none 0 0), (.int .u64 0), (.bool false)]⟩
theorem ti98_ok : TIOK Tryd.prog 98 ti98 := ⟨by kernel_rfl, by kernel_rfl, by kernel_rfl⟩
def ti99 : TI := ⟨.struct [(0, 96), (8, 25), (9, 22), (10, 4)], 11, 104, [(.int .u64 0), (.int .u64 0), (.int .u64 0), (.int .u64 0), (.int .u64 0), (.int .u64 0), (.int .u64 0), (.int .u64 0), (.slice none 0 0), (.int .u64 0), (.bool false)]⟩
theorem ti99_ok : TIOK Tryd.prog 99 ti99 := ⟨by kernel_rfl, by kernel_rfl, by kernel_rfl⟩
def ti100 : TI := ⟨.ptr 96, 1, 8, [(.pointer none)]⟩
theorem ti100_ok : TIOK Tryd.prog 100 ti100 := ⟨by kernel_rfl, by kernel_rfl, by kernel_rfl⟩
def ti101 : TI := ⟨.array 80 22, 80, 640, [(.int .u64 0), (.int .u64 0), (.int .u64 0), (.int .u64 0), (.int .u64 0), (.int .u64 0), (.int .u64 0), (.int .u64 0), (.int .u64 0), (.int .u64 0), (.int .u64 0), (.int .u64 0), (.int .u64 0), (.int .u64 0), (.int .u64 0), (.int .u64 0), (.int .u64 0), (.int .u64 0), (.int .u64 0), (.int .u64 0), (.int .u64 0), (.int .u64 0), (.int .u64 0), (.int .u64 0), (.int .u64 0), (.int .u64 0), (.int .u64 0), (.int .u64 0), (.int .u64 0), (.int .u64 0), (.int .u64 0), (.int .u64 0), (.int .u64 0), (.int .u64 0), (.int .u64 0), (.int .u64 0), (.int .u64 0), (.int .u64 0), (.int .u64 0), (.int .u64 0), (.int .u64 0), (.int .u64 0), (.int .u64 0), (.int .u64 0), (.int .u64 0), (.int .u64 0), (.int .u64 0), (.int .u64 0), (.int .u64 0), (.int .u64 0), (.int .u64 0), (.int .u64 0), (.int .u64 0), (.int .u64 0), (.int .u64 0), (.int .u64 0), (.int .u64 0), (.int .u64 0), (.int .u64 0), (.int .u64 0), (.int .u64 0), (.int .u64 0), (.int .u64 0), (.int .u64 0), (.int .u64 0), (.int .u64 0), (.int .u64 0), (.int .u64 0), (.int .u64 0), (.int .u64 0), (.int .u64 0), (.int .u64 0), (.int .u64 0), (.int .u64 0), (.int .u64 0), (.int .u64 0), (.int .u64 0), (.int .u64 0), (.int .u64 0), (.int .u64 0)]⟩
theorem ti101_ok : TIOK Tryd.prog 101 ti101 := ⟨by kernel_rfl, by kernel_rfl, by kernel_rfl⟩
def ti102 : TI := ⟨.other, 1, 8, [.nilFunc]⟩
theorem ti102_ok : TIOK Tryd.prog 102 ti102 := ⟨by kernel_rfl, by kernel_rfl, by kernel_rfl⟩
def ti103 : TI := ⟨.other, 1, 8, [.nilFunc]⟩
theorem ti103_ok : TIOK Tryd.prog 103 ti103 := ⟨by kernel_rfl, by kernel_rfl, by kernel_rfl⟩
def ti109 : TI := ⟨.other, 1, 8, [.nilFunc]⟩
theorem ti109_ok : TIOK Tryd.prog 109 ti109 := ⟨by kernel_rfl, by kernel_rfl, by kernel_rfl⟩
def ti112 : TI := ⟨.other, 1, 8, [.nilFunc]⟩
theorem ti112_ok : TIOK Tryd.prog 112 ti112 := ⟨by kernel_rfl, by kernel_rfl, by kernel_rfl⟩
def ti113 : TI := ⟨.ptr 5, 1, 8, [(.pointer none)]⟩
theorem ti113_ok : TIOK Tryd.prog 113 ti113 := ⟨by kernel_rfl, by kernel_rfl, by kernel_rfl⟩
def ti116 : TI := ⟨.struct [(0, 12), (1, 12), (2, 32), (3, 110), (4, 5), (5, 5), (6, 111), (7, 112), (8, 113), (9, 114), (10, 115)], 11, 48, [(.int .u64 0), (.int .u64 0), (.int .u32 0), (.int .u8 0), (.int .u8 0), (.int .u8 0), (.int .u8 0), .nilFunc, (.pointer none), (.int .i32 0), (.int .i32 0)]⟩
theorem ti116_ok : TIOK Tryd.prog 116 ti116 := ⟨by kernel_rfl, by kernel_rfl, by kernel_rfl⟩
/-- cleromancy/broad.constants -/
def glob1 : List UInt64 := [4794697086780616226, 8158064640168781261, 13096744586834688815, 16840607885511220156, 4131703408338449720, 6480981068601479193, 10538285296894168987, 12329834152419229976, 15566598209576043074, 1334009975649890238, 2608012711638119052, 6128411473006802146, 8268148722764581231, 9286055187155687089, 11230858885718282805, 13951009754708518548, 16472876342353939154, 17275323862435702243, 1135362057144423861, 2597628984639134821, 3308224258029322869, 5365058923640841347, 6679025012923562964, 8573033837759648693, 10970295158949994411, 12119686244451234320, 12683024718118986047, 13788192230050041572, 14330467153632333762, 15395433587784984357, 489312712824947311, 1452737877330783856, 2861767655752347644, 3322285676063803686, 5560940570517711597, 5996557281743188959, 7280758554555802590, 8532644243296465576, 9350256976987008742, 10552545826968843579, 11727347734174303076, 12113106623233404929, 14000437183269869457, 14369950271660146224, 15101387698204529176, 15463397548674623760, 17586052441742319658, 1182934255886127544, 1847814050463011016, 2177327727835720531, 2830643537854262169, 3796741975233480872, 4115178125766777443, 5681478168544905931, 6601373596472566643, 7507060721942968483, 8399075790359081724, 8693463985226723168, 9568029438360202098, 10144078919501101548, 10430055236837252648, 11840083180663258601, 13761210420658862357, 14299343276471374635, 14566680578165727644, 15097957966210449927, 16922976911328602910, 17689382322260857208, 500013540394364858, 748580250866718886, 1242879168328830382, 1977374033974150939, 2944078676154940804, 3659926193048069267, 4368137639120453308, 4836135668995329356, 5532061633213252278, 6448918945643986474, 6902733635092675308, 7801388544844847127]
instance : GLob := ⟨fun n => match n with | 0 => some (.words glob1) | _ => none⟩
def tt : TT := [(1, ti1), (2, ti2), (3, ti3), (4, ti4), (5, ti5), (9, ti9), (12, ti12), (21, ti21), (22, ti22), (23, ti23), (24, ti24), (25, ti25), (26, ti26), (27, ti27), (29, ti29), (30, ti30), (31, ti31), (32, ti32), (33, ti33), (34, ti34), (35, ti35), (36, ti36), (37, ti37), (38, ti38), (39, ti39), (41, ti41), (42, ti42), (43, ti43), (45, ti45), (46, ti46), (47, ti47), (48, ti48), (49, ti49), (50, ti50), (51, ti51), (52, ti52), (54, ti54), (55, ti55), (56, ti56), (57, ti57), (58, ti58), (60, ti60), (61, ti61), (62, ti62), (63, ti63), (65, ti65), (66, ti66), (67, ti67), (68, ti68), (69, ti69), (70, ti70), (71, ti71), (73, ti73), (74, ti74), (75, ti75), (76, ti76), (77, ti77), (78, ti78), (79, ti79), (80, ti80), (81, ti81), (82, ti82), (83, ti83), (84, ti84), (85, ti85), (86, ti86), (87, ti87), (88, ti88), (89, ti89), (90, ti90), (91, ti91), (92, ti92), (93, ti93), (94, ti94), (95, ti95), (96, ti96), (97, ti97), (98, ti98), (99, ti99), (100, ti100), (101, ti101), (102, ti102), (103, ti103), (109, ti109), (112, ti112), (113, ti113), (116, ti116)]
theorem tt_ok : TTOK Tryd.prog tt := .cons ti1_ok <| .cons ti2_ok <| .cons ti3_ok <| .cons ti4_ok <| .cons ti5_ok <| .cons ti9_ok <| .cons ti12_ok <| .cons ti21_ok <| .cons ti22_ok <| .cons ti23_ok <| .cons ti24_ok <| .cons ti25_ok <| .cons ti26_ok <| .cons ti27_ok <| .cons ti29_ok <| .cons ti30_ok <| .cons ti31_ok <| .cons ti32_ok <| .cons ti33_ok <| .cons ti34_ok <| .cons ti35_ok <| .cons ti36_ok <| .cons ti37_ok <| .cons ti38_ok <| .cons ti39_ok <| .cons ti41_ok <| .cons ti42_ok <| .cons ti43_ok <| .cons ti45_ok <| .cons ti46_ok <| .cons ti47_ok <| .cons ti48_ok <| .cons ti49_ok <| .cons ti50_ok <| .cons ti51_ok <| .cons ti52_ok <| .cons ti54_ok <| .cons ti55_ok <| .cons ti56_ok <| .cons ti57_ok <| .cons ti58_ok <| .cons ti60_ok <| .cons ti61_ok <| .cons ti62_ok <| .cons ti63_ok <| .cons ti65_ok <| .cons ti66_ok <| .cons ti67_ok <| .cons ti68_ok <| .cons ti69_ok <| .cons ti70_ok <| .cons ti71_ok <| .cons ti73_ok <| .cons ti74_ok <| .cons ti75_ok <| .cons ti76_ok <| .cons ti77_ok <| .cons ti78_ok <| .cons ti79_ok <| .cons ti80_ok <| .cons ti81_ok <| .cons ti82_ok <| .cons ti83_ok <| .cons ti84_ok <| .cons ti85_ok <| .cons ti86_ok <| .cons ti87_ok <| .cons ti88_ok <| .cons ti89_ok <| .cons ti90_ok <| .cons ti91_ok <| .cons ti92_ok <| .cons ti93_ok <| .cons ti94_ok <| .cons ti95_ok <| .cons ti96_ok <| .cons ti97_ok <| .cons ti98_ok <| .cons ti99_ok <| .cons ti100_ok <| .cons ti101_ok <| .cons ti102_ok <| .cons ti103_ok <| .cons ti109_ok <| .cons ti112_ok <| .cons ti113_ok <| .cons ti116_ok <| .nil _
theorem mixed : Tryd.prog.follows .mixedOrders = true := by kernel_rfl

end Go.Proofs.YtigkddloeikpbaaDoor
/- The reference's functions on digits (1): what they say, and what their bodies come to. -/
set_option maxRecDepth 10000
namespace Go.Proofs.YtigkddloeikpbaaDoor.R1
open Go.Sym Go.Dig

/-- A number out of its digits. -/
def nv (l : List Int) : Nat := (val l).toNat
/-- Digits, not too many. -/
def Dg (l : List Int) : Prop := Dig l ∧ l.length ≤ 1073741824
/-- A number's digits, not too many. -/
def Can (l : List Int) : Prop := l = dg (nv l) ∧ l.length ≤ 1073741824

--STOP Go.Dig.Dig, Dg, Can

def iTrim (a : List Int) (n : Int) : Prop := 0 ≤ n ∧ n ≤ a.length ∧ val (a.take n.toNat) = val a
def lTrim : Plan := { loops := [(0, { β := List Int × Unit, α := Int × Unit, same := [0], keep := [3], inv := fun b _ x => iTrim b.1 x.1, meas := fun _ x => x.1.toNat })] }
def sTrim : SpecF := fspec (α := List Int × Unit) (β := Num) (fun a => some (Dig a.1 ∧ a.1.length ≤ 4294967296)) (fun a => ⟨nv a.1⟩)
def spRT : Specs := [(1000011, Sym.sNo)]

def iInt (n0 : Int) (n : Int) (out : List Int) : Prop := 0 ≤ n ∧ n ≤ n0 ∧ n0 < 9223372036854775808 ∧ out ++ dg n.toNat = dg n0.toNat
def lInt : Plan := { loops := [(0, { β := Unit, α := Int × OwnI × Unit, same := [], keep := [0, 3], inv := fun _ x0 x => iInt x0.1 x.1 x.2.1.l, meas := fun _ x => x.1.toNat })] }
def sInt : SpecF := fspec (α := Int × Unit) (β := Num) (fun a => some (0 ≤ a.1 ∧ a.1 < 9223372036854775808)) (fun a => ⟨a.1.toNat⟩)

def iAdd (a b : List Int) (i c : Int) (out : List Int) : Prop := 0 ≤ i ∧ i ≤ (max a.length b.length : Nat) + 1 ∧ 0 ≤ c ∧ c ≤ 1 ∧ (i = (max a.length b.length : Nat) + 1 → c = 0) ∧ Dig out ∧ (out.length : Int) = i ∧
  val out + 16777216 ^ i.toNat * c = val (a.take i.toNat) + val (b.take i.toNat)
def lAdd : Plan := { loops := [(0, { β := List Int × List Int × Unit, α := OwnI × Int × Int × Unit, same := [0, 1], keep := [5, 6, 7], inv := fun b _ x => iAdd b.1 b.2.1 x.2.2.1 x.2.1 x.1.l, meas := fun b x => (max b.1.length b.2.1.length + 2 - x.2.2.1).toNat })], cuts := [(4, { β := List Int × List Int × Int × Int × Unit, γ := OwnI × Unit, α := OwnI × Bool × Unit, same := [0, 1, 6, 7], pre := [5], keep := [5, 21], inv := fun b g x => x.1.l = g.1.l ∧ x.2.1 = (decide (b.2.2.2.1 < b.1.length) || decide (b.2.2.2.1 < b.2.1.length) || decide (0 < b.2.2.1)) })], forks := [(6, { β := List Int × List Int × Int × Unit, γ := OwnI × Int × Unit, α := OwnI × Int × Unit, same := [0, 1, 7], pre := [5, 6], keep := [5, 6], inv := fun b g x => x.1.l = g.1.l ∧ x.2.1 = g.2.1 + b.1.getD b.2.2.1.toNat 0 }), (8, { β := List Int × List Int × Int × Unit, γ := OwnI × Int × Unit, α := OwnI × Int × Unit, same := [0, 1, 7], pre := [5, 6], keep := [5, 6], inv := fun b g x => x.1.l = g.1.l ∧ x.2.1 = g.2.1 + b.2.1.getD b.2.2.1.toNat 0 })] }
def sAdd : SpecF := fspec (α := List Int × List Int × Unit) (β := Num) (fun a => some (Dg a.1 ∧ Dg a.2.1)) (fun a => ⟨nv a.1 + nv a.2.1⟩)

def iSub (a b : List Int) (i c : Int) (out : List Int) : Prop := 0 ≤ i ∧ i ≤ a.length ∧ 0 ≤ c ∧ c ≤ 1 ∧ Dig out ∧ (out.length : Int) = i ∧
  val out + val (b.take i.toNat) = val (a.take i.toNat) + 16777216 ^ i.toNat * c
def lSub : Plan := { loops := [(0, { β := List Int × List Int × Unit, α := OwnI × Int × Int × Unit, same := [0, 1], keep := [5, 6, 7], inv := fun b _ x => iSub b.1 b.2.1 x.2.2.1 x.2.1 x.1.l, meas := fun b x => (b.1.length - x.2.2.1).toNat })], forks := [(8, { β := List Int × List Int × Int × Unit, γ := OwnI × Int × Int × Unit, α := OwnI × Int × Int × Unit, same := [0, 1, 7], pre := [5, 6, 8], keep := [5, 6, 8], inv := fun b g x => x.1.l = g.1.l ∧ x.2.1 = g.2.1 ∧ x.2.2.1 = g.2.2.1 - b.2.1.getD b.2.2.1.toNat 0 }), (10, { β := List Int × List Int × Int × Unit, γ := OwnI × Int × Int × Unit, α := OwnI × Int × Int × Unit, same := [0, 1, 7], pre := [5, 6, 8], keep := [5, 6, 8], inv := fun _ g x => x.1.l = g.1.l ∧ x.2.1 = (if g.2.2.1 < 0 then 1 else 0) ∧ x.2.2.1 = (if g.2.2.1 < 0 then g.2.2.1 + 16777216 else g.2.2.1) })] }
def sSub : SpecF := fspec (α := List Int × List Int × Unit) (β := Num) (fun a => some (Dg a.1 ∧ Dg a.2.1 ∧ nv a.2.1 ≤ nv a.1)) (fun a => ⟨nv a.1 - nv a.2.1⟩)

def iMulA (a b : List Int) (i : Int) (out : List Int) : Prop := 0 ≤ i ∧ i ≤ a.length ∧ Dig out ∧ out.length = a.length + b.length + 1 ∧ (∀ k, i.toNat + b.length ≤ k → out.getD k 0 = 0) ∧ val out = val (a.take i.toNat) * val b
def iMulB (a b : List Int) (i : Int) (out0 : List Int) (c j : Int) (out : List Int) : Prop := 0 ≤ j ∧ j ≤ b.length ∧ 0 ≤ c ∧ c < 16777216 ∧ Dig out ∧ out.length = a.length + b.length + 1 ∧ (∀ k, i.toNat + b.length ≤ k → out.getD k 0 = 0) ∧
  val out + 16777216 ^ (i.toNat + j.toNat) * c = val out0 + 16777216 ^ i.toNat * (a.getD i.toNat 0 * val (b.take j.toNat))
def lMul : Plan := { loops := [(0, { β := List Int × List Int × Unit, α := OwnI × Int × Unit, same := [0, 1], keep := [5, 6], inv := fun b _ x => iMulA b.1 b.2.1 x.2.1 x.1.l, meas := fun b x => (b.1.length - x.2.1).toNat }), (2, { β := List Int × List Int × Int × Unit, α := OwnI × Int × Int × Unit, same := [0, 1, 6], keep := [5, 7, 8], inv := fun b x0 x => iMulB b.1 b.2.1 b.2.2.1 x0.1.l x.2.1 x.2.2.1 x.1.l, meas := fun b x => (b.2.1.length - x.2.2.1).toNat })] }
def sMul' : SpecF := fspec (α := List Int × List Int × Unit) (β := Num) (fun a => some (Dg a.1 ∧ Dg a.2.1)) (fun a => ⟨nv a.1 * nv a.2.1⟩)
def spRM : Specs := (1000005, Sym.sNo) :: (1000004, Sym.sNo) :: spRT

def sSmall : SpecF := fspec (α := List Int × Int × Unit) (β := Num) (fun a => some (Dg a.1 ∧ 0 ≤ a.2.1 ∧ a.2.1 < 9223372036854775808)) (fun a => ⟨nv a.1 * a.2.1.toNat⟩)

def iPow2 (n i x : Int) : Prop := 0 ≤ i ∧ i ≤ n ∧ x = 2 ^ i.toNat
def lPow2 : Plan := { loops := [(0, { β := Int × Unit, α := Int × Int × Unit, same := [0], keep := [3, 4], inv := fun b _ x => iPow2 b.1 x.2.1 x.1, meas := fun b x => (b.1 - x.2.1).toNat })] }
def sPow2 : SpecF := fspec (α := Int × Unit) (β := Int) (fun a => some (0 ≤ a.1 ∧ a.1 ≤ 62)) (fun a => 2 ^ a.1.toNat)

def spRS : Specs := (1000009, Sym.sNo) :: (1000006, Sym.sNo) :: spRM
def sShift : SpecF := fspec (α := List Int × Int × Unit) (β := Num) (fun a => some (Dig a.1 ∧ a.1.length ≤ 536870912 ∧ 0 ≤ a.2.1 ∧ a.2.1 ≤ 1073741824)) (fun a => ⟨nv a.1 * 2 ^ a.2.1.toNat⟩)
def spRP : Specs := (1000008, Sym.sNo) :: spRS
def sPower : SpecF := fspec (α := Int × Unit) (β := Num) (fun a => some (0 ≤ a.1 ∧ a.1 ≤ 1073741824)) (fun a => ⟨2 ^ a.1.toNat⟩)

def iCmp (a b : List Int) (i : Int) : Prop := -1 ≤ i ∧ i < a.length ∧ a.length = b.length ∧ a.drop (i + 1).toNat = b.drop (i + 1).toNat
def lCmp : Plan := { loops := [(0, { β := List Int × List Int × Unit, α := Int × Unit, same := [0, 1], keep := [5], inv := fun b _ x => iCmp b.1 b.2.1 x.1, meas := fun _ x => (x.1 + 1).toNat })] }
def cmpN (x y : Nat) : Int := if x < y then -1 else if y < x then 1 else 0
def sCmp : SpecF := fspec (α := List Int × List Int × Unit) (β := Int) (fun a => some (Can a.1 ∧ Can a.2.1)) (fun a => cmpN (nv a.1) (nv a.2.1))

def sBit : SpecF := fspec (α := List Int × Int × Unit) (β := Int) (fun a => some (Dg a.1 ∧ 0 ≤ a.2.1 ∧ a.2.1 ≤ 1073741824)) (fun a => ((nv a.1 / 2 ^ a.2.1.toNat % 2 : Nat) : Int))

def iBits (a : List Int) (n x : Int) : Prop := ∃ k : Nat, k ≤ 24 ∧ x = (((a.getD (a.length - 1) 0).toNat / 2 ^ k : Nat) : Int) ∧ n = 24 * ((a.length : Int) - 1) + k ∧ (0 < k → (a.getD (a.length - 1) 0).toNat / 2 ^ (k - 1) ≠ 0)
def lBits : Plan := { loops := [(0, { β := List Int × Unit, α := Int × Int × Unit, same := [0], keep := [3, 4], inv := fun b _ x => iBits b.1 x.1 x.2.1, meas := fun _ x => x.2.1.toNat })] }
def bitsN (n : Nat) : Nat := if n = 0 then 0 else Nat.log2 n + 1
def sBits : SpecF := fspec (α := List Int × Unit) (β := Int) (fun a => some (Can a.1)) (fun a => bitsN (nv a.1))
end Go.Proofs.YtigkddloeikpbaaDoor.R1
/- Plain facts that the reference's functions on digits need. -/
set_option maxRecDepth 10000
namespace Go.Proofs.YtigkddloeikpbaaDoor.R1
open Go.Sym Go.Dig

theorem bcase_iff {b : Bool} {x y : Prop} : bcase b x y ↔ (b = true → x) ∧ (b = false → y) := by cases b <;> simp [bcase]
theorem bcase_dec {p : Prop} [Decidable p] {x y : Prop} : bcase (decide p) x y ↔ (p → x) ∧ (¬ p → y) := by rw [bcase_iff]; simp
theorem wr {x : Int} (h : -9223372036854775808 ≤ x ∧ x < 9223372036854775808) : IntKind.wrap .i64 x = x := wrap_i64_id h.1 h.2
theorem nv_dg (n : Nat) : nv (dg n) = n := by simp [nv, val_dg]
theorem nv_val {l : List Int} (h : Dig l) : (nv l : Int) = val l := by have := val_nonneg h; simp only [nv]; omega
theorem nv_nil : nv [] = 0 := rfl
theorem dg_nv {l : List Int} (h : Dig l) (hl : ∀ d, l.getLast? = some d → d ≠ 0) : dg (nv l) = l := dg_val_cons h hl
theorem dig_dg (n : Nat) : Dig (Dig.dg n) := Go.Dig.Dig.dg n
theorem Dg.dg {n : Nat} (h : (Dig.dg n).length ≤ 1073741824) : Dg (Dig.dg n) := ⟨dig_dg n, h⟩
theorem Can.dg {n : Nat} (h : (dg n).length ≤ 1073741824) : Can (dg n) := ⟨by rw [nv_dg], h⟩
theorem Can.dig {l : List Int} (h : Can l) : Dig l := by rw [h.1]; exact dig_dg _
theorem getD_dig {l : List Int} (h : Dig l) (i : Nat) : 0 ≤ l.getD i 0 ∧ l.getD i 0 < 16777216 := by
  rw [List.getD_eq_getElem?_getD]
  by_cases hi : i < l.length
  · rw [List.getElem?_eq_getElem hi]; exact h.get i hi
  · rw [List.getElem?_eq_none (by omega)]; simp
theorem getD_lt {l : List Int} {i : Nat} (hi : i < l.length) : l.getD i 0 = l[i] := by
  rw [List.getD_eq_getElem?_getD, List.getElem?_eq_getElem hi]; rfl
theorem getD_ge {l : List Int} {i : Nat} (hi : l.length ≤ i) : l.getD i 0 = 0 := by
  rw [List.getD_eq_getElem?_getD, List.getElem?_eq_none hi]; rfl
/-- One digit more, whether it is there or not. -/
theorem val_take_getD (l : List Int) (i : Nat) : val (l.take (i + 1)) = val (l.take i) + 16777216 ^ i * l.getD i 0 := by
  by_cases hi : i < l.length
  · rw [val_take_succ l i hi, getD_lt hi]
  · rw [List.take_of_length_le (by omega), List.take_of_length_le (by omega), getD_ge (by omega)]; omega
theorem take_cut (l : List Int) (n : Int) : List.drop (Int.toNat 0) (l.take n.toNat) = l.take n.toNat := by simp
theorem tdiv_nn {x : Int} (h : 0 ≤ x) (d : Int) : Int.tdiv x d = x / d := Int.tdiv_eq_ediv_of_nonneg h
theorem tmod_nn {x : Int} (h : 0 ≤ x) (d : Int) : Int.tmod x d = x % d := Int.tmod_eq_emod_of_nonneg h

theorem ok_Trim : SpecOK Tryd.prog 1000000 Sym.sNo := Sym.sNo_ok _ _
end Go.Proofs.YtigkddloeikpbaaDoor.R1
/- The reference's functions on digits (1): what they say is so. -/
set_option maxRecDepth 10000
namespace Go.Proofs.YtigkddloeikpbaaDoor.R1
open Go.Sym Go.Dig

theorem app_one {α : Type} (l : List α) (x : α) : List.drop 0 (List.take l.length l) ++ List.drop 0 (List.take (0 + 1) [x]) = l ++ [x] := by simp
theorem whole {α : Type} (l : List α) : List.drop 0 (List.take (0 + l.length) l) = l := by simp
theorem dg_len_i64 {n : Int} (h : n < 9223372036854775808) : (dg n.toNat).length ≤ 3 := dg_length_lt (by omega)

theorem ok_Int : SpecOK Tryd.prog 1000001 Sym.sNo := Sym.sNo_ok _ _
theorem add_step {B c x y : Int} (hB : B = 16777216) (hc : 0 ≤ c ∧ c ≤ 1) (hx : 0 ≤ x ∧ x < B) (hy : 0 ≤ y ∧ y < B) : 0 ≤ (c + x + y) / B ∧ (c + x + y) / B ≤ 1 ∧ 0 ≤ (c + x + y) % B ∧ (c + x + y) % B < B ∧ (c + x + y) % B + B * ((c + x + y) / B) = c + x + y := by
  subst hB; omega
theorem ok_Add : SpecOK Tryd.prog 1000000 Sym.sNo := Sym.sNo_ok _ _
end Go.Proofs.YtigkddloeikpbaaDoor.R1
/- The reference's functions on digits (2): what they say is so. -/
set_option maxRecDepth 10000
namespace Go.Proofs.YtigkddloeikpbaaDoor.R1
open Go.Sym Go.Dig

theorem val_set : ∀ (l : List Int) (k : Nat) (x : Int), k < l.length → val (l.set k x) = val l + 16777216 ^ k * (x - l.getD k 0)
  | [], k, x, h => by simp at h
  | d :: l, 0, x, _ => by simp [val]; omega
  | d :: l, k + 1, x, h => by
    have := val_set l k x (by simpa using h)
    simp only [List.set_cons_succ, val, this, List.getD_cons_succ, Int.pow_succ]
    generalize (16777216 : Int) ^ k = p
    generalize x - l.getD k 0 = q
    rw [Int.mul_add, Int.mul_comm p 16777216, Int.mul_assoc]
    omega
theorem Dig.set {l : List Int} (h : Dig l) (k : Nat) {x : Int} (hx : 0 ≤ x ∧ x < 16777216) : Dig (l.set k x) := fun d hd => by
  rcases List.mem_or_eq_of_mem_set hd with hd | rfl
  · exact h d hd
  · exact hx
theorem getD_set (l : List Int) (k j : Nat) (x : Int) (h : j ≠ k) : (l.set k x).getD j 0 = l.getD j 0 := by
  simp only [List.getD_eq_getElem?_getD, List.getElem?_set_ne (Ne.symm h)]
theorem val_cut (l : List Int) (n : Nat) : val l = val (l.take n) + 16777216 ^ n * val (l.drop n) := by
  by_cases h : n ≤ l.length
  · have := val_append (l.take n) (l.drop n)
    rw [List.take_append_drop, List.length_take, Nat.min_eq_left h] at this
    exact this
  · rw [List.take_of_length_le (by omega), List.drop_of_length_le (by omega)]; simp [val]
theorem val_split (l : List Int) (i : Nat) : val l = val (l.take i) + 16777216 ^ i * l.getD i 0 + 16777216 ^ (i + 1) * val (l.drop (i + 1)) := by
  rw [val_cut l (i + 1), val_take_getD]
theorem pw_pos (n : Nat) : (0 : Int) < 16777216 ^ n := Int.pow_pos (by omega)

theorem ok_Sub : SpecOK Tryd.prog 1000001 Sym.sNo := Sym.sNo_ok _ _
theorem mul_bound {x y : Int} (hx : 0 ≤ x ∧ x < 16777216) (hy : 0 ≤ y ∧ y < 16777216) : 0 ≤ x * y ∧ x * y ≤ 16777215 * 16777215 := by
  refine ⟨Int.mul_nonneg hx.1 hy.1, Int.mul_le_mul (by omega) (by omega) hy.1 (by omega)⟩
theorem ok_Mul : SpecOK Tryd.prog 1000000 Sym.sNo := Sym.sNo_ok _ _
end Go.Proofs.YtigkddloeikpbaaDoor.R1
/- The reference's functions on digits (3): what they say is so. -/
set_option maxRecDepth 10000
namespace Go.Proofs.YtigkddloeikpbaaDoor.R1
open Go.Sym Go.Dig

theorem spRT_ok : SpecsOK Tryd.prog spRT := .cons ok_Trim (.nil _)
theorem spRM_ok : SpecsOK Tryd.prog spRM := .cons ok_Mul <| .cons ok_Int spRT_ok
theorem ok_Small : SpecOK Tryd.prog 1000006 Sym.sNo := Sym.sNo_ok _ _
theorem ok_Pow2 : SpecOK Tryd.prog 1000003 Sym.sNo := Sym.sNo_ok _ _
theorem spRS_ok : SpecsOK Tryd.prog spRS := .cons ok_Small <| .cons ok_Pow2 spRM_ok
theorem pw_cast (n : Nat) : ((16777216 ^ n : Nat) : Int) = 16777216 ^ n := by rw [Int.natCast_pow]; rfl
theorem pw_le {x y : Nat} (h : x ≤ y) : (16777216 : Int) ^ x ≤ 16777216 ^ y := by
  have := Int.ofNat_le.2 (Nat.pow_le_pow_right (show 0 < 16777216 by omega) h)
  rw [pw_cast, pw_cast] at this; exact this
theorem pw_lt_nat {u n : Nat} (h : (u : Int) < 16777216 ^ n) : u < 16777216 ^ n := by rw [← pw_cast] at h; exact Int.ofNat_lt.1 h
theorem pow24 (q : Nat) : (16777216 : Nat) ^ q = 2 ^ (24 * q) := by rw [Nat.pow_mul]
theorem pow2_le {k n : Nat} (h : k ≤ n) : (2 : Nat) ^ k ≤ 2 ^ n := Nat.pow_le_pow_right (by omega) h
theorem pow2_nat (k : Nat) : ((2 : Int) ^ k).toNat = 2 ^ k := by
  have : ((2 : Int) ^ k) = ((2 ^ k : Nat) : Int) := by simp
  rw [this]; rfl
theorem ok_Shift : SpecOK Tryd.prog 1000005 Sym.sNo := Sym.sNo_ok _ _
theorem spRP_ok : SpecsOK Tryd.prog spRP := .cons ok_Shift spRS_ok
theorem ok_Power : SpecOK Tryd.prog 1000004 Sym.sNo := Sym.sNo_ok _ _
/-- How long a number's digits are. -/
theorem can_top {l : List Int} (h : Can l) (hl : l ≠ []) : l.getD (l.length - 1) 0 ≠ 0 := by
  have hd := h.dig
  have e : l = dg (nv l) := h.1
  have hlen : 0 < l.length := List.length_pos_iff.2 hl
  intro e0
  have hlast : (dg (nv l)).getLast? = some 0 := by
    rw [← e, List.getLast?_eq_getElem?, List.getElem?_eq_getElem (by omega)]
    rw [getD_lt (by omega)] at e0
    rw [e0]
  exact dg_last 0 hlast rfl
theorem can_ge {l : List Int} (h : Can l) (hl : l ≠ []) : 16777216 ^ (l.length - 1) * (l.getD (l.length - 1) 0) ≤ val l ∧ val l = val (l.take (l.length - 1)) + 16777216 ^ (l.length - 1) * l.getD (l.length - 1) 0 := by
  have hlen : 0 < l.length := List.length_pos_iff.2 hl
  have h1 := val_split l (l.length - 1)
  rw [show l.length - 1 + 1 = l.length by omega, List.drop_length] at h1
  simp only [val, Int.mul_zero, Int.add_zero] at h1
  have := val_nonneg (h.dig.take (l.length - 1))
  exact ⟨by omega, h1⟩
theorem can_lt {a b : List Int} (ha : Can a) (hb : Can b) (h : a.length < b.length) : nv a < nv b := by
  have hne : b ≠ [] := by rintro rfl; simp at h
  have h1 := (can_ge hb hne).1
  have h2 := can_top hb hne
  have h3 := (getD_dig hb.dig (b.length - 1)).1
  have h4 := val_lt ha.dig
  have h5 : (16777216 : Int) ^ a.length ≤ 16777216 ^ (b.length - 1) := pw_le (by omega)
  have h6 := Int.mul_le_mul_of_nonneg_left (show (1 : Int) ≤ b.getD (b.length - 1) 0 by omega) (Int.le_of_lt (pw_pos (b.length - 1)))
  have := nv_val ha.dig; have := nv_val hb.dig
  omega
theorem dig_lt {a b : List Int} (ha : Dig a) (hb : Dig b) (i : Nat) (h1 : a.drop (i + 1) = b.drop (i + 1)) (h2 : a.getD i 0 < b.getD i 0) : nv a < nv b := by
  have e1 := val_split a i
  have e2 := val_split b i
  rw [h1] at e1
  have l1 := val_lt (ha.take i)
  have l2 := val_nonneg (hb.take i)
  have hle : (16777216 : Int) ^ (a.take i).length ≤ 16777216 ^ i := pw_le (by simp; omega)
  have h6 := Int.mul_le_mul_of_nonneg_left (show a.getD i 0 + 1 ≤ b.getD i 0 by omega) (Int.le_of_lt (pw_pos i))
  rw [Int.mul_add] at h6
  have := nv_val ha; have := nv_val hb
  omega
theorem cmpN_lt {x y : Nat} (h : x < y) : cmpN x y = -1 := if_pos h
theorem cmpN_gt {x y : Nat} (h : y < x) : cmpN x y = 1 := by unfold cmpN; rw [if_neg (by omega), if_pos h]
theorem cmpN_eq (x : Nat) : cmpN x x = 0 := by unfold cmpN; rw [if_neg (by omega), if_neg (by omega)]
theorem ok_Cmp : SpecOK Tryd.prog 1000002 Sym.sNo := Sym.sNo_ok _ _
/-- A digit of a number. -/
theorem digit_nat {l : List Int} (h : Dig l) (q : Nat) : nv l / 16777216 ^ q % 16777216 = (l.getD q 0).toNat := by
  have h1 := val_split l q
  have h2 := nv_val h
  have h3 := getD_dig h q
  have t0 := val_nonneg (h.take q)
  have d0 := val_nonneg (h.drop (q + 1))
  have t1 := val_lt (h.take q)
  have hle : (16777216 : Int) ^ (l.take q).length ≤ 16777216 ^ q := pw_le (by simp; omega)
  obtain ⟨t, ht⟩ : ∃ t : Nat, val (l.take q) = t := ⟨(val (l.take q)).toNat, by omega⟩
  obtain ⟨u, hu⟩ : ∃ u : Nat, val (l.drop (q + 1)) = u := ⟨(val (l.drop (q + 1))).toNat, by omega⟩
  obtain ⟨d, hd⟩ : ∃ d : Nat, l.getD q 0 = d := ⟨(l.getD q 0).toNat, by omega⟩
  rw [ht, hu, hd, Int.pow_succ] at h1
  have e : nv l = t + 16777216 ^ q * (d + 16777216 * u) := by
    have : (nv l : Int) = t + 16777216 ^ q * (d + 16777216 * u) := by rw [h2, h1, Int.mul_add, Int.mul_assoc]; omega
    rw [← pw_cast] at this
    apply Int.ofNat_inj.1
    rw [this]; simp only [Int.natCast_add, Int.natCast_mul]; rfl
  have ht2 : t < 16777216 ^ q := pw_lt_nat (by omega)
  rw [e, Nat.add_mul_div_left _ _ (Nat.pow_pos (by omega)), Nat.div_eq_of_lt ht2, hd]
  simp only [Int.toNat_natCast]
  omega
theorem bit_mod (m r : Nat) (hr : r < 24) : m % 16777216 / 2 ^ r % 2 = m / 2 ^ r % 2 := by
  have e : (16777216 : Nat) = 2 ^ r * 2 ^ (24 - r) := by rw [← Nat.pow_add, show r + (24 - r) = 24 by omega]
  rw [e, Nat.mod_mul_right_div_self, Nat.mod_mod_of_dvd]
  refine ⟨2 ^ (24 - r - 1), ?_⟩
  rw [← Nat.pow_succ', show (24 - r - 1).succ = 24 - r by omega]
theorem ok_Bit : SpecOK Tryd.prog 1000000 Sym.sNo := Sym.sNo_ok _ _
theorem bitsN_of {m n : Nat} (h : m < 2 ^ n) (h' : m ≠ 0 → 0 < n ∧ 2 ^ (n - 1) ≤ m) (h0 : m = 0 → n = 0) : bitsN m = n := by
  unfold bitsN
  split
  · rename_i e; exact (h0 e).symm
  · rename_i e
    obtain ⟨h1, h2⟩ := h' e
    have : Nat.log2 m = n - 1 := (Nat.log2_eq_iff e).2 ⟨h2, by rw [show n - 1 + 1 = n by omega]; exact h⟩
    omega
theorem ok_Bits : SpecOK Tryd.prog 1000001 Sym.sNo := Sym.sNo_ok _ _
end Go.Proofs.YtigkddloeikpbaaDoor.R1
/- The reference's functions on digits (4): words and bytes: what they say, and what their bodies come to. -/
set_option maxRecDepth 10000
namespace Go.Proofs.YtigkddloeikpbaaDoor.R1
open Go.Sym Go.Dig

--STOP Go.Dig.Dig, Dg, Can

def iDown (a : List Int) (n i : Int) (out : List Int) : Prop := n / 24 ≤ i ∧ (i ≤ a.length ∨ i = n / 24) ∧ Dig out ∧ (out.length : Int) = i - n / 24 ∧ nv out = nv a / 2 ^ n.toNat % 16777216 ^ out.length
def lDown : Plan := { loops := [(0, { β := List Int × Int × Int × Int × Unit, α := OwnI × Int × Unit, same := [0, 1, 5, 6], keep := [7, 8], inv := fun b _ x => iDown b.1 b.2.1 x.2.1 x.1.l, meas := fun b x => (b.1.length - x.2.1).toNat })], forks := [(8, { β := List Int × Int × Int × Int × Int × Unit, γ := OwnI × Int × Unit, α := OwnI × Int × Unit, same := [0, 1, 5, 6, 8], pre := [7, 9], keep := [7, 9], inv := fun b g x => x.1.l = g.1.l ∧ x.2.1 = g.2.1 + b.1.getD (b.2.2.2.2.1 + 1).toNat 0 % b.2.2.1 * b.2.2.2.1 })] }
def sDown : SpecF := fspec (α := List Int × Int × Unit) (β := Num) (fun a => some (Dg a.1 ∧ 0 ≤ a.2.1 ∧ a.2.1 ≤ 1073741824)) (fun a => ⟨nv a.1 / 2 ^ a.2.1.toNat⟩)

/-- A number's lowest words. -/
def wordsL (m n : Nat) : List UInt64 := (List.range n).map fun w => UInt64.ofNat (m / 2 ^ (64 * w))
def iTwA (a : List Int) (n i : Int) (out : List UInt64) : Prop := 0 ≤ i ∧ i ≤ a.length ∧ out = wordsL (nv a % 2 ^ (24 * i.toNat)) n.toNat
def iTwB (a : List Int) (n i k : Int) (out : List UInt64) : Prop := 0 ≤ k ∧ k ≤ 24 ∧ out = wordsL (nv a % 2 ^ (24 * i.toNat + k.toNat)) n.toNat
def iTwC (t : Int) (out0 : List UInt64) (x : UInt64) (j : Int) (out : List UInt64) : Prop := out = out0 ∧ 0 ≤ j ∧ j ≤ t % 64 ∧ x = UInt64.ofNat (2 ^ j.toNat)
def lToWords : Plan := { loops := [(0, { β := List Int × Int × Unit, α := OwnW × Int × Unit, same := [0, 1], keep := [5, 6], inv := fun b _ x => iTwA b.1 b.2.1 x.2.1 x.1.l, meas := fun b x => (b.1.length - x.2.1).toNat }), (2, { β := List Int × Int × Int × Unit, α := OwnW × Int × Unit, same := [0, 1, 6], keep := [5, 7], inv := fun b _ x => iTwB b.1 b.2.1 b.2.2.1 x.2.1 x.1.l, meas := fun _ x => (24 - x.2.1).toNat }), (4, { β := List Int × Int × Int × Int × Int × Unit, α := OwnW × UInt64 × Int × Unit, same := [0, 1, 6, 7, 8], keep := [5, 9, 10], inv := fun b x0 x => iTwC b.2.2.2.2.1 x0.1.l x.2.1 x.2.2.1 x.1.l, meas := fun b x => (b.2.2.2.2.1 % 64 - x.2.2.1).toNat })] }
def sToWords : SpecF := fspec (α := List Int × Int × Unit) (β := List UInt64) (fun a => some (Dg a.1 ∧ 0 ≤ a.2.1 ∧ a.2.1 ≤ 1048576)) (fun a => wordsL (nv a.1) a.2.1.toNat)

/-- A number out of words, the lowest first. -/
def wv : List UInt64 → Nat
  | [] => 0
  | x :: l => x.toNat + 18446744073709551616 * wv l
def iWords (l : List UInt64) (out : Nat) (i : Int) : Prop := -1 ≤ i ∧ i < l.length ∧ out = wv (l.drop (i + 1).toNat)
def lWords : Plan := { loops := [(0, { β := List UInt64 × Unit, α := Num × Int × Unit, same := [0], keep := [3, 4], inv := fun b _ x => iWords b.1 x.1.n x.2.1, meas := fun _ x => (x.2.1 + 1).toNat })] }
def spRW : Specs := (1000000, Sym.sNo) :: spRP
def sWords : SpecF := fspec (α := List UInt64 × Unit) (β := Num) (fun a => some (a.1.length ≤ 1048576)) (fun a => ⟨wv a.1⟩)

def fourN (n : Nat) : Four := ⟨UInt64.ofNat n, UInt64.ofNat (n / 2 ^ 64), UInt64.ofNat (n / 2 ^ 128), UInt64.ofNat (n / 2 ^ 192)⟩
def spRF : Specs := [(1000009, Sym.sNo), (1000011, Sym.sNo)]
def sFour : SpecF := fspec (α := List Int × Unit) (β := Four) (fun a => some (Dg a.1)) (fun a => fourN (nv a.1))
def sOf : SpecF := fspec (α := Four × Unit) (β := Num) total (fun a => ⟨wv [a.1.w0, a.1.w1, a.1.w2, a.1.w3]⟩)

/-- A number out of bytes, the highest first. -/
def bev (b : List UInt8) : Nat := b.foldl (fun n x => n * 256 + x.toNat) 0
def iBig (b : List UInt8) (out : Nat) (i : Int) : Prop := 0 ≤ i ∧ i ≤ b.length ∧ out = bev (b.take i.toNat)
def lBig : Plan := { loops := [(0, { β := List UInt8 × Unit, α := Num × Int × Unit, same := [0], keep := [3, 4], inv := fun b _ x => iBig b.1 x.1.n x.2.1, meas := fun b x => (b.1.length - x.2.1).toNat })] }
def sBig : SpecF := fspec (α := List UInt8 × Unit) (β := Num) (fun a => some (a.1.length ≤ 1048576)) (fun a => ⟨bev a.1⟩)

def iTurned (b : List UInt8) (out : List UInt8) (i : Int) : Prop := -1 ≤ i ∧ i < b.length ∧ out = (b.drop (i + 1).toNat).reverse
def lTurned : Plan := { loops := [(0, { β := List UInt8 × Unit, α := OwnB × Int × Unit, same := [0], keep := [3, 4], inv := fun b _ x => iTurned b.1 x.1.l x.2.1, meas := fun _ x => (x.2.1 + 1).toNat })] }
def sTurned : SpecF := fspec (α := List UInt8 × Unit) (β := List UInt8) (fun a => some (a.1.length ≤ 4294967296)) (fun a => a.1.reverse)
def spRB : Specs := [(1000001, Sym.sNo), (1000010, Sym.sNo)]
def sLittle : SpecF := fspec (α := List UInt8 × Unit) (β := Num) (fun a => some (a.1.length ≤ 1048576)) (fun a => ⟨bev a.1.reverse⟩)

/-- A number's lowest bytes, the lowest first. -/
def bytesN (m n : Nat) : List UInt8 := (List.range n).map fun i => UInt8.ofNat (m / 256 ^ i)
def iTlA (a : List Int) (n i : Int) (out : List UInt8) : Prop := 0 ≤ i ∧ i ≤ n ∧ out = (List.range n.toNat).map fun j => if j < i.toNat then UInt8.ofNat (nv a / 256 ^ j) else 0
def iTlB (a : List Int) (i : Int) (out0 : List UInt8) (x k : Int) (out : List UInt8) : Prop := out = out0 ∧ 0 ≤ k ∧ k ≤ i % 3 ∧ x = (((a.getD (i / 3).toNat 0).toNat / 256 ^ k.toNat : Nat) : Int)
def lToLittle : Plan := { loops := [(0, { β := List Int × Int × Unit, α := OwnB × Int × Unit, same := [0, 1], keep := [5, 6], inv := fun b _ x => iTlA b.1 b.2.1 x.2.1 x.1.l, meas := fun b x => (b.2.1 - x.2.1).toNat }), (2, { β := List Int × Int × Int × Unit, α := OwnB × Int × Int × Unit, same := [0, 1, 6], keep := [5, 7, 8], inv := fun b x0 x => iTlB b.1 b.2.2.1 x0.1.l x.2.1 x.2.2.1 x.1.l, meas := fun b x => (b.2.2.1 % 3 - x.2.2.1).toNat })] }
def sToLittle : SpecF := fspec (α := List Int × Int × Unit) (β := List UInt8) (fun a => some (Dg a.1 ∧ 0 ≤ a.2.1 ∧ a.2.1 ≤ 1048576)) (fun a => bytesN (nv a.1) a.2.1.toNat)
def sToBig : SpecF := fspec (α := List Int × Int × Unit) (β := List UInt8) (fun a => some (Dg a.1 ∧ 0 ≤ a.2.1 ∧ a.2.1 ≤ 1048576)) (fun a => (bytesN (nv a.1) a.2.1.toNat).reverse)

def iSame (a b : List UInt8) (i : Int) : Prop := 0 ≤ i ∧ i ≤ a.length ∧ a.length = b.length ∧ a.take i.toNat = b.take i.toNat
def lSame : Plan := { loops := [(0, { β := List UInt8 × List UInt8 × Unit, α := Int × Unit, same := [0, 1], keep := [5], inv := fun b _ x => iSame b.1 b.2.1 x.1, meas := fun b x => (b.1.length - x.1).toNat })] }
def sSame : SpecF := fspec (α := List UInt8 × List UInt8 × Unit) (β := Bool) (fun a => some (a.1.length ≤ 4294967296)) (fun a => decide (a.1 = a.2.1))
end Go.Proofs.YtigkddloeikpbaaDoor.R1
/- The reference's functions on digits (5): words and bytes: what they say is so. -/
set_option maxRecDepth 10000
namespace Go.Proofs.YtigkddloeikpbaaDoor.R1
open Go.Sym Go.Dig

theorem dlen {m : Nat} (k : Nat) (h : m < 2 ^ (24 * k)) : (dg m).length ≤ k := dg_length_lt (by rw [pow24]; exact h)
theorem dlen2 {m K n : Nat} (h : m < 2 ^ K) (hn : K ≤ 24 * n) : (dg m).length ≤ n := dlen n (Nat.lt_of_lt_of_le h (pow2_le hn))
theorem down_digit (m i r : Nat) (hr : r < 24) : m / 16777216 ^ i / 2 ^ r % 16777216 = m / 16777216 ^ i % 16777216 / 2 ^ r + m / 16777216 ^ (i + 1) % 16777216 % 2 ^ r * 2 ^ (24 - r) := by
  have e1 : m / 16777216 ^ (i + 1) = m / 16777216 ^ i / 16777216 := by rw [Nat.pow_succ, Nat.div_div_eq_div_mul]
  rw [e1]
  generalize m / 16777216 ^ i = M
  have hB : (16777216 : Nat) = 2 ^ r * 2 ^ (24 - r) := by rw [← Nat.pow_add, show r + (24 - r) = 24 by omega]
  have p1 : 0 < 2 ^ r := Nat.pow_pos (by omega)
  have p2 : 0 < 2 ^ (24 - r) := Nat.pow_pos (by omega)
  have e2 : M / 16777216 % 16777216 % 2 ^ r = M / 16777216 % 2 ^ r := Nat.mod_mod_of_dvd _ ⟨_, hB⟩
  rw [e2]
  have e3 : M / 2 ^ r = M % 16777216 / 2 ^ r + 2 ^ (24 - r) * (M / 16777216) := by
    have : M = M % 16777216 + 2 ^ r * (2 ^ (24 - r) * (M / 16777216)) := by rw [← Nat.mul_assoc, ← hB]; omega
    conv => lhs; rw [this]
    rw [Nat.add_mul_div_left _ _ p1]
  have e4 : 2 ^ (24 - r) * (M / 16777216) = 16777216 * (M / 16777216 / 2 ^ r) + M / 16777216 % 2 ^ r * 2 ^ (24 - r) := by
    have := Nat.div_add_mod (M / 16777216) (2 ^ r)
    conv => lhs; rw [← this]
    rw [Nat.mul_add, ← Nat.mul_assoc, Nat.mul_comm (2 ^ (24 - r)) (2 ^ r), ← hB, Nat.mul_comm (2 ^ (24 - r))]
  have l1 : M % 16777216 / 2 ^ r < 2 ^ (24 - r) := Nat.div_lt_of_lt_mul (by rw [← hB]; omega)
  have l2 : (M / 16777216 % 2 ^ r + 1) * 2 ^ (24 - r) ≤ 2 ^ r * 2 ^ (24 - r) := Nat.mul_le_mul_right _ (Nat.mod_lt _ p1)
  rw [← hB, Nat.add_mul, Nat.one_mul] at l2
  rw [e3, e4]
  generalize M % 16777216 / 2 ^ r = x at *
  generalize M / 16777216 % 2 ^ r * 2 ^ (24 - r) = y at *
  generalize M / 16777216 / 2 ^ r = z at *
  omega
theorem nv_snoc {l : List Int} {d : Int} (h : Dig (l ++ [d])) (d' : Nat) (hd : d = d') : nv (l ++ [d]) = nv l + 16777216 ^ l.length * d' := by
  subst hd
  have h1 := nv_val h
  have h2 : Dig l := fun x hx => h x (by simp [hx])
  rw [val_snoc, ← nv_val h2, ← pw_cast, ← Int.natCast_mul, ← Int.natCast_add] at h1
  exact Int.ofNat_inj.1 h1
theorem nv_lt {l : List Int} (h : Dig l) : nv l < 16777216 ^ l.length := pw_lt_nat (by rw [nv_val h]; exact val_lt h)

theorem ok_Down : SpecOK Tryd.prog 1000000 Sym.sNo := Sym.sNo_ok _ _
theorem u64_ofNat_add (a b : Nat) : UInt64.ofNat (a + 18446744073709551616 * b) = UInt64.ofNat a := by
  apply UInt64.toNat_inj.1
  simp only [UInt64.toNat_ofNat']
  omega
theorem word_low {M t w : Nat} (hw : w < t / 64) : UInt64.ofNat ((M + 2 ^ t) / 2 ^ (64 * w)) = UInt64.ofNat (M / 2 ^ (64 * w)) := by
  have e : 2 ^ t = 2 ^ (64 * w) * (2 ^ 64 * 2 ^ (t - 64 * w - 64)) := by rw [← Nat.pow_add, ← Nat.pow_add]; congr 1; omega
  rw [e, Nat.add_mul_div_left _ _ (Nat.pow_pos (by omega))]
  exact u64_ofNat_add _ _
theorem word_at {M t : Nat} : UInt64.ofNat ((M + 2 ^ t) / 2 ^ (64 * (t / 64))) = UInt64.ofNat (M / 2 ^ (64 * (t / 64))) + UInt64.ofNat (2 ^ (t % 64)) := by
  have e : 2 ^ t = 2 ^ (64 * (t / 64)) * 2 ^ (t % 64) := by rw [← Nat.pow_add]; congr 1; omega
  rw [e, Nat.add_mul_div_left _ _ (Nat.pow_pos (by omega)), UInt64.ofNat_add]
theorem word_high {M t w : Nat} (hM : M < 2 ^ t) (hw : t / 64 < w) : UInt64.ofNat ((M + 2 ^ t) / 2 ^ (64 * w)) = UInt64.ofNat (M / 2 ^ (64 * w)) := by
  have h : 2 ^ (t + 1) ≤ 2 ^ (64 * w) := pow2_le (by omega)
  rw [Nat.pow_succ] at h
  rw [Nat.div_eq_of_lt (by omega), Nat.div_eq_of_lt (by omega)]
theorem wordsL_len (m n : Nat) : (wordsL m n).length = n := by simp [wordsL]
theorem wordsL_get (m n w : Nat) (h : w < n) : (wordsL m n).getD w 0 = UInt64.ofNat (m / 2 ^ (64 * w)) := by
  rw [List.getD_eq_getElem?_getD, List.getElem?_eq_getElem (by rw [wordsL_len]; exact h)]
  simp [wordsL]
theorem wordsL_ext {l : List UInt64} {m n : Nat} (hl : l.length = n) (h : ∀ w, w < n → l.getD w 0 = UInt64.ofNat (m / 2 ^ (64 * w))) : l = wordsL m n := by
  apply List.ext_getElem (by rw [wordsL_len, hl])
  intro w h1 h2
  have := h w (by omega)
  rw [List.getD_eq_getElem?_getD, List.getElem?_eq_getElem h1] at this
  simpa [wordsL] using this
theorem wordsL_out {M t n : Nat} (ht : 64 * n ≤ t) : wordsL (M + 2 ^ t) n = wordsL M n := by
  refine wordsL_ext (wordsL_len _ _) (fun w hw => ?_) |>.symm ▸ rfl
  rw [wordsL_get _ _ _ hw, word_low (by omega)]
theorem wordsL_set {M t n : Nat} (hM : M < 2 ^ t) (_ht : t < 64 * n) : (wordsL M n).set (t / 64) ((wordsL M n).getD (t / 64) 0 + UInt64.ofNat (2 ^ (t % 64))) = wordsL (M + 2 ^ t) n := by
  refine wordsL_ext (by simp [wordsL_len]) (fun w hw => ?_)
  by_cases e : w = t / 64
  · subst e
    rw [List.getD_eq_getElem?_getD, List.getElem?_set_self (by rw [wordsL_len]; exact hw), wordsL_get _ _ _ hw, word_at]; rfl
  · rw [List.getD_eq_getElem?_getD, List.getElem?_set_ne (Ne.symm e), ← List.getD_eq_getElem?_getD, wordsL_get _ _ _ hw]
    by_cases h : w < t / 64
    · rw [word_low h]
    · rw [word_high hM (by omega)]

theorem ok_ToWords : SpecOK Tryd.prog 1000001 Sym.sNo := Sym.sNo_ok _ _
end Go.Proofs.YtigkddloeikpbaaDoor.R1
/- The reference's functions on digits (6): words and bytes: what they say is so. -/
set_option maxRecDepth 10000
namespace Go.Proofs.YtigkddloeikpbaaDoor.R1
open Go.Sym Go.Dig

theorem wv_lt : ∀ l : List UInt64, wv l < 2 ^ (64 * l.length)
  | [] => by simp [wv]
  | x :: l => by
    have := wv_lt l
    have := u64_lt x
    simp only [wv, List.length_cons]
    rw [show 64 * (l.length + 1) = 64 * l.length + 64 by omega, Nat.pow_add]
    omega
theorem wv_drop (l : List UInt64) (i : Nat) (h : i < l.length) : wv (l.drop i) = (l.getD i 0).toNat + 18446744073709551616 * wv (l.drop (i + 1)) := by
  rw [List.drop_eq_getElem_cons h, List.getD_eq_getElem?_getD, List.getElem?_eq_getElem h]; rfl
theorem c24 : UInt64.ofNat (Int.toNat 16777216) = 16777216 := rfl
theorem c48 : UInt64.ofNat (Int.toNat 281474976710656) = 281474976710656 := rfl
theorem u24 (x : UInt64) : (x % 16777216).toNat = x.toNat % 16777216 := by rw [UInt64.toNat_mod]; rfl
theorem v24 (x : UInt64) : (x / 16777216).toNat = x.toNat / 16777216 := by rw [UInt64.toNat_div]; rfl
theorem v48 (x : UInt64) : (x / 281474976710656).toNat = x.toNat / 281474976710656 := by rw [UInt64.toNat_div]; rfl
theorem spRW_ok : SpecsOK Tryd.prog spRW := .cons ok_Add spRP_ok
theorem ok_Words : SpecOK Tryd.prog 1000009 Sym.sNo := Sym.sNo_ok _ _
theorem spRF_ok : SpecsOK Tryd.prog spRF := .cons ok_ToWords <| .cons ok_Words <| .nil _
theorem ok_Four : SpecOK Tryd.prog 1000002 Sym.sNo := Sym.sNo_ok _ _
theorem ok_Of : SpecOK Tryd.prog 1000004 Sym.sNo := Sym.sNo_ok _ _
theorem bev_snoc (l : List UInt8) (x : UInt8) : bev (l ++ [x]) = bev l * 256 + x.toNat := by simp [bev]
theorem bev_take (b : List UInt8) (i : Nat) (h : i < b.length) : bev (b.take (i + 1)) = bev (b.take i) * 256 + (b.getD i 0).toNat := by
  rw [List.take_succ_eq_append_getElem h, bev_snoc, List.getD_eq_getElem?_getD, List.getElem?_eq_getElem h]; rfl
theorem bev_lt_take (b : List UInt8) : ∀ i : Nat, i ≤ b.length → bev (b.take i) < 2 ^ (8 * i)
  | 0, _ => by simp [bev]
  | i + 1, h => by
    have := bev_lt_take b i (by omega)
    have := u8_lt (b.getD i 0)
    rw [bev_take b i (by omega), show 8 * (i + 1) = 8 * i + 8 by omega, Nat.pow_add]
    omega
theorem bev_lt (b : List UInt8) : bev b < 2 ^ (8 * b.length) := by
  have := bev_lt_take b b.length (Nat.le_refl _)
  rwa [List.take_length] at this
theorem spBg_ok : SpecsOK Tryd.prog ((1000000, Sym.sNo) :: spRS) := .cons ok_Add spRS_ok
theorem ok_Big : SpecOK Tryd.prog 1000001 Sym.sNo := Sym.sNo_ok _ _
theorem ok_Turned : SpecOK Tryd.prog 1000008 Sym.sNo := Sym.sNo_ok _ _
theorem spRB_ok : SpecsOK Tryd.prog spRB := .cons ok_Big <| .cons ok_Turned <| .nil _
theorem ok_Little : SpecOK Tryd.prog 1000003 Sym.sNo := Sym.sNo_ok _ _
theorem pow256 (q : Nat) : (256 : Nat) ^ q = 2 ^ (8 * q) := by rw [Nat.pow_mul]
theorem byte_digit {a : List Int} (ha : Dig a) (i : Nat) : nv a / 256 ^ i % 256 = (a.getD (i / 3) 0).toNat / 256 ^ (i % 3) % 256 := by
  have h1 : nv a / 256 ^ i = nv a / 16777216 ^ (i / 3) / 256 ^ (i % 3) := by
    rw [Nat.div_div_eq_div_mul, pow24, pow256, pow256, ← Nat.pow_add]
    congr 2; omega
  rw [h1, ← digit_nat ha]
  generalize nv a / 16777216 ^ (i / 3) = m
  have e : (16777216 : Nat) = 256 ^ (i % 3) * 256 ^ (3 - i % 3) := by rw [← Nat.pow_add, show i % 3 + (3 - i % 3) = 3 by omega]
  rw [e, Nat.mod_mul_right_div_self, Nat.mod_mod_of_dvd]
  refine ⟨256 ^ (3 - i % 3 - 1), ?_⟩
  rw [← Nat.pow_succ', show (3 - i % 3 - 1).succ = 3 - i % 3 by omega]
theorem u8_of {m k : Nat} (h : m % 256 = k % 256) : UInt8.ofNat m = UInt8.ofNat k := by
  apply UInt8.toNat_inj.1
  simp only [UInt8.toNat_ofNat']
  exact h
theorem bytesN_len (m n : Nat) : (bytesN m n).length = n := by simp [bytesN]
theorem ok_ToLittle : SpecOK Tryd.prog 1000007 Sym.sNo := Sym.sNo_ok _ _
theorem ok_ToBig : SpecOK Tryd.prog 1000006 Sym.sNo := Sym.sNo_ok _ _
theorem ok_Same : SpecOK Tryd.prog 1000005 Sym.sNo := Sym.sNo_ok _ _
end Go.Proofs.YtigkddloeikpbaaDoor.R1
/- The reference's functions on numbers. -/
set_option maxRecDepth 10000
namespace Go.Sym
open Go.RowKit
section
variable [GLob] {P : Program} {α β α' β' : Type} [Args α] [RetL β] [Args α'] [RetL β']
/-- A specification out of one that says as much. -/
theorem fspec_weaken {f : FuncId} {pre : α → Option Prop} {g : α → β} {pre' : α' → Option Prop} {g' : α' → β'} (h : SpecOK P f (fspec pre g)) (conv : α' → α)
    (hc : ∀ a (at_ : At) w vs, RelL at_ w (Args.encL a) vs → RelL at_ w (Args.encL (conv a)) vs) (hd : ∀ a, Args.decL (Args.encL (conv a)) = some (conv a)) (hp : ∀ a, Ok (pre' a) → Ok (pre (conv a)))
    (hg : ∀ a, Ok (pre' a) → ∀ (at_ : At) w v, Rel at_ w (retSV (RetL.retL (g (conv a)))) v → Rel at_ w (retSV (RetL.retL (g' a))) v) : SpecOK P f (fspec pre' g') := by
  intro at_ w svs vs pr r h1 h2 h3 hs hpr hr
  unfold fspec at hs
  split at hs
  · rename_i a ha
    simp only [Option.some.injEq, Prod.mk.injEq] at hs
    obtain ⟨rfl, rfl⟩ := hs
    have := h at_ w (Args.encL (conv a)) vs (pre (conv a)) _ h1 h2 h3 (by unfold fspec; rw [hd]) (hp a hpr) (hc a _ _ _ (Args.ok ha hr))
    exact Outcome.mono (fun v w' ⟨h3, h4⟩ => ⟨hg a hpr _ _ _ h3, h4⟩) this
  · cases hs
end
theorem SpecsOK.append [GLob] {P : Program} {a b : Specs} (h : SpecsOK P a) (k : SpecsOK P b) : SpecsOK P (a ++ b) := by
  intro f s hl
  rw [List.lookup_append] at hl
  cases ha : a.lookup f with
  | none => rw [ha] at hl; exact k f s (by simpa using hl)
  | some x => rw [ha] at hl; exact h f s (by rw [ha]; simpa using hl)
end Go.Sym
namespace Go.Proofs.YtigkddloeikpbaaDoor.R1
open Go.Sym Go.Dig
/-- Not too many digits. -/
def Sm (n : Nat) : Prop := (dg n).length ≤ 1073741824
theorem Sm.of {n : Nat} (k : Nat) (h : n < 2 ^ (24 * k)) (hk : k ≤ 1073741824) : Sm n := Nat.le_trans (dlen k h) hk
abbrev N1 := Num × Unit
abbrev N2 := Num × Num × Unit
abbrev NI := Num × Int × Unit
def nAdd : SpecF := fspec (α := N2) (β := Num) (fun a => some (Sm a.1.n ∧ Sm a.2.1.n)) (fun a => ⟨a.1.n + a.2.1.n⟩)
def nSub : SpecF := fspec (α := N2) (β := Num) (fun a => some (Sm a.1.n ∧ a.2.1.n ≤ a.1.n ∧ Sm a.2.1.n)) (fun a => ⟨a.1.n - a.2.1.n⟩)
def nMul : SpecF := fspec (α := N2) (β := Num) (fun a => some (Sm a.1.n ∧ Sm a.2.1.n)) (fun a => ⟨a.1.n * a.2.1.n⟩)
def nCmp : SpecF := fspec (α := N2) (β := Int) (fun a => some (Sm a.1.n ∧ Sm a.2.1.n)) (fun a => cmpN a.1.n a.2.1.n)
def nSmall : SpecF := fspec (α := NI) (β := Num) (fun a => some (Sm a.1.n ∧ 0 ≤ a.2.1 ∧ a.2.1 < 9223372036854775808)) (fun a => ⟨a.1.n * a.2.1.toNat⟩)
def nShift : SpecF := fspec (α := NI) (β := Num) (fun a => some ((dg a.1.n).length ≤ 536870912 ∧ 0 ≤ a.2.1 ∧ a.2.1 ≤ 1073741824)) (fun a => ⟨a.1.n * 2 ^ a.2.1.toNat⟩)
def nDown : SpecF := fspec (α := NI) (β := Num) (fun a => some (Sm a.1.n ∧ 0 ≤ a.2.1 ∧ a.2.1 ≤ 1073741824)) (fun a => ⟨a.1.n / 2 ^ a.2.1.toNat⟩)
def nBit : SpecF := fspec (α := NI) (β := Int) (fun a => some (Sm a.1.n ∧ 0 ≤ a.2.1 ∧ a.2.1 ≤ 1073741824)) (fun a => ((a.1.n / 2 ^ a.2.1.toNat % 2 : Nat) : Int))
def nBits : SpecF := fspec (α := N1) (β := Int) (fun a => some (Sm a.1.n)) (fun a => bitsN a.1.n)
def nToWords : SpecF := fspec (α := NI) (β := List UInt64) (fun a => some (Sm a.1.n ∧ 0 ≤ a.2.1 ∧ a.2.1 ≤ 1048576)) (fun a => wordsL a.1.n a.2.1.toNat)
def nFour : SpecF := fspec (α := N1) (β := Four) (fun a => some (Sm a.1.n)) (fun a => fourN a.1.n)
def nToLittle : SpecF := fspec (α := NI) (β := List UInt8) (fun a => some (Sm a.1.n ∧ 0 ≤ a.2.1 ∧ a.2.1 ≤ 1048576)) (fun a => bytesN a.1.n a.2.1.toNat)
def nToBig : SpecF := fspec (α := NI) (β := List UInt8) (fun a => some (Sm a.1.n ∧ 0 ≤ a.2.1 ∧ a.2.1 ≤ 1048576)) (fun a => (bytesN a.1.n a.2.1.toNat).reverse)

def c1 (a : N1) : List Int × Unit := (dg a.1.n, ())
def c2 (a : N2) : List Int × List Int × Unit := (dg a.1.n, dg a.2.1.n, ())
def cI (a : NI) : List Int × Int × Unit := (dg a.1.n, a.2.1, ())
theorem c1_rel (a : N1) (at_ : At) (w : World) (vs : List Value) (h : RelL at_ w (Args.encL a) vs) : RelL at_ w (Args.encL (c1 a)) vs := by
  simp only [Args.encL, RelL, Enc.enc, c1] at h ⊢
  obtain ⟨v, _, rfl, h1, h2⟩ := h
  exact ⟨_, _, rfl, num_ints.1 h1, h2⟩
theorem c2_rel (a : N2) (at_ : At) (w : World) (vs : List Value) (h : RelL at_ w (Args.encL a) vs) : RelL at_ w (Args.encL (c2 a)) vs := by
  simp only [Args.encL, RelL, Enc.enc, c2] at h ⊢
  obtain ⟨v, _, rfl, h1, _, _, rfl, h2, h3⟩ := h
  exact ⟨_, _, rfl, num_ints.1 h1, _, _, rfl, num_ints.1 h2, h3⟩
theorem cI_rel (a : NI) (at_ : At) (w : World) (vs : List Value) (h : RelL at_ w (Args.encL a) vs) : RelL at_ w (Args.encL (cI a)) vs := by
  simp only [Args.encL, RelL, Enc.enc, cI] at h ⊢
  obtain ⟨v, _, rfl, h1, h2⟩ := h
  exact ⟨_, _, rfl, num_ints.1 h1, h2⟩

theorem ok_nAdd : SpecOK Tryd.prog 1000000 Sym.sNo := Sym.sNo_ok _ _
theorem ok_nSub : SpecOK Tryd.prog 1000016 Sym.sNo := Sym.sNo_ok _ _
theorem ok_nMul : SpecOK Tryd.prog 1000009 Sym.sNo := Sym.sNo_ok _ _
theorem ok_nCmp : SpecOK Tryd.prog 1000004 Sym.sNo := Sym.sNo_ok _ _
theorem ok_nSmall : SpecOK Tryd.prog 1000015 Sym.sNo := Sym.sNo_ok _ _
theorem ok_nShift : SpecOK Tryd.prog 1000014 Sym.sNo := Sym.sNo_ok _ _
theorem ok_nDown : SpecOK Tryd.prog 1000005 Sym.sNo := Sym.sNo_ok _ _
theorem ok_nBit : SpecOK Tryd.prog 1000002 Sym.sNo := Sym.sNo_ok _ _
theorem ok_nBits : SpecOK Tryd.prog 1000003 Sym.sNo := Sym.sNo_ok _ _
theorem ok_nToWords : SpecOK Tryd.prog 1000019 Sym.sNo := Sym.sNo_ok _ _
theorem ok_nFour : SpecOK Tryd.prog 1000006 Sym.sNo := Sym.sNo_ok _ _
theorem ok_nToLittle : SpecOK Tryd.prog 1000018 Sym.sNo := Sym.sNo_ok _ _
theorem ok_nToBig : SpecOK Tryd.prog 1000017 Sym.sNo := Sym.sNo_ok _ _
def spN : Specs := (1000010, Sym.sNo) :: (1000000, Sym.sNo) :: (1000016, Sym.sNo) :: (1000012, Sym.sNo) :: (1000004, Sym.sNo) ::
  (1000006, Sym.sNo) :: (1000002, Sym.sNo) :: (1000018, Sym.sNo) :: (1000017, Sym.sNo) :: (1000013, Sym.sNo) ::
  (1000008, Sym.sNo) :: (1000001, Sym.sNo) :: (1000019, Sym.sNo) :: (1000009, Sym.sNo) :: (1000020, Sym.sNo) ::
  (1000014, Sym.sNo) :: (1000005, Sym.sNo) :: (1000003, Sym.sNo) :: (1000007, Sym.sNo) :: (1000015, Sym.sNo) :: (1000011, Sym.sNo) :: []
theorem spN_ok : SpecsOK Tryd.prog spN := .cons ok_Of <| .cons ok_nAdd <| .cons ok_nSub <| .cons ok_Power <| .cons ok_nCmp <| .cons ok_nFour <| .cons ok_nBit <| .cons ok_nToLittle <| .cons ok_nToBig <| .cons ok_Same <|
  .cons ok_Little <| .cons ok_Big <| .cons ok_nToWords <| .cons ok_nMul <| .cons ok_Words <| .cons ok_nShift <| .cons ok_nDown <| .cons ok_nBits <| .cons ok_Int <| .cons ok_nSmall <| .cons ok_Pow2 <| .nil _
end Go.Proofs.YtigkddloeikpbaaDoor.R1
/- The reference's functions on digits (7): quotients and rests: what they say, and what their bodies come to. -/
set_option maxRecDepth 10000
namespace Go.Proofs.YtigkddloeikpbaaDoor.R1
open Go.Sym Go.Dig

--STOP Go.Dig.Dig, Dg, Can, Sm

def spDg : Specs := [(1000003, Sym.sNo), (1000000, Sym.sNo), (1000004, Sym.sNo), (1000005, Sym.sNo)]
def iDgA (a : Nat) (b : List Int) (rest : Nat) (i : Int) (q : List Int) : Prop := -1 ≤ i ∧ i < (dg a).length ∧ q.length = (dg a).length ∧ Dig q ∧ (∀ k : Nat, (k : Int) ≤ i → q.getD k 0 = 0) ∧
  rest = a / 16777216 ^ (i + 1).toNat % nv b ∧ nv q = 16777216 ^ (i + 1).toNat * (a / 16777216 ^ (i + 1).toNat / nv b)
def iDgB (b : List Int) (rest : Nat) (q0 : List Int) (low high : Int) (q : List Int) : Prop := q = q0 ∧ 0 ≤ low ∧ low ≤ ((rest / nv b : Nat) : Int) ∧ ((rest / nv b : Nat) : Int) < high ∧ high ≤ 16777216
def lDigits : Plan := { loops := [(0, { β := Num × List Int × Unit, α := Num × OwnI × Int × Unit, same := [0, 1], keep := [6, 7, 8], inv := fun b _ x => iDgA b.1.n b.2.1 x.1.n x.2.2.1 x.2.1.l, meas := fun _ x => (x.2.2.1 + 1).toNat }), (2, { β := Num × List Int × Num × Int × Unit, α := OwnI × Int × Int × Unit, same := [0, 1, 6, 8], keep := [7, 10, 11], inv := fun b x0 x => iDgB b.2.1 b.2.2.1.n x0.1.l x.2.1 x.2.2.1 x.1.l, meas := fun _ x => (x.2.2.1 - x.2.1).toNat })], cuts := [(7, { β := Num × List Int × Int × Unit, γ := Num × OwnI × Unit, α := Num × OwnI × Unit, same := [0, 1, 8], pre := [6, 7], keep := [6, 7], inv := fun b g x => x.1.n = ((dg b.1.n).getD b.2.2.1.toNat 0).toNat + 16777216 * g.1.n ∧ x.2.1.l = g.2.1.l })], forks := [(10, { β := Num × List Int × Num × Int × Unit, γ := OwnI × Unit, α := OwnI × Int × Int × Unit, same := [0, 1, 6, 8], pre := [7], keep := [7, 10, 11], inv := fun b g x => iDgB b.2.1 b.2.2.1.n g.1.l x.2.1 x.2.2.1 x.1.l })] }
def sDigits : SpecF := fspec (α := Num × List Int × Unit) (β := Num × Num × Unit) (fun a => some (Sm a.1.n ∧ Can a.2.1 ∧ a.2.1.length ≤ 1073741000 ∧ 0 < nv a.2.1)) (fun a => (⟨a.1.n / nv a.2.1⟩, ⟨a.1.n % nv a.2.1⟩, ()))
def spDv : Specs := [(1000003, Sym.sNo), (1000006, Sym.sNo)]
def lDiv : Plan := { cuts := [(1, { β := Num × Num × Unit, γ := Unit, α := Int × Unit, same := [0, 1], pre := [], keep := [6], inv := fun _ _ x => 1 ≤ x.1 ∧ x.1 ≤ 8388608 })] }
def nDiv : SpecF := fspec (α := N2) (β := Num × Num × Unit) (fun a => some ((dg a.1.n).length ≤ 536870912 ∧ (dg a.2.1.n).length ≤ 536870912 ∧ 0 < a.2.1.n)) (fun a => (⟨a.1.n / a.2.1.n⟩, ⟨a.1.n % a.2.1.n⟩, ()))
def nMod : SpecF := fspec (α := N2) (β := Num) (fun a => some ((dg a.1.n).length ≤ 536870912 ∧ (dg a.2.1.n).length ≤ 536870912 ∧ 0 < a.2.1.n)) (fun a => ⟨a.1.n % a.2.1.n⟩)
end Go.Proofs.YtigkddloeikpbaaDoor.R1
/- The reference's functions on digits (8): quotients and rests: what they say is so. -/
set_option maxRecDepth 10000
namespace Go.Proofs.YtigkddloeikpbaaDoor.R1
open Go.Sym Go.Dig

/-- What the highest digits say of a quotient. -/
theorem quot_bounds {n b P bt bl : Nat} (hP : 0 < P) (hb : b = bl + P * bt) (hl : bl < P) (ht : 1 ≤ bt) : n / P / (bt + 1) ≤ n / b ∧ n / b < n / P / bt + 1 := by
  have hbp : 0 < b := by have := Nat.mul_pos hP ht; omega
  refine ⟨?_, ?_⟩
  · rw [Nat.le_div_iff_mul_le hbp]
    have h1 : n / P / (bt + 1) * (bt + 1) ≤ n / P := Nat.div_mul_le_self _ _
    have h2 : P * (n / P) ≤ n := Nat.mul_div_le n P
    have h3 : b ≤ P * (bt + 1) := by rw [Nat.mul_add]; omega
    calc n / P / (bt + 1) * b ≤ n / P / (bt + 1) * (P * (bt + 1)) := Nat.mul_le_mul_left _ h3
      _ = P * (n / P / (bt + 1) * (bt + 1)) := by rw [Nat.mul_left_comm]
      _ ≤ P * (n / P) := Nat.mul_le_mul_left _ h1
      _ ≤ n := h2
  · rw [Nat.div_lt_iff_lt_mul hbp]
    have h1 : n < P * (n / P + 1) := Nat.lt_mul_div_succ n hP
    have h2 : n / P < bt * (n / P / bt + 1) := Nat.lt_mul_div_succ _ (by omega)
    have h3 : P * bt ≤ b := by omega
    calc n < P * (n / P + 1) := h1
      _ ≤ P * (bt * (n / P / bt + 1)) := Nat.mul_le_mul_left _ h2
      _ = P * bt * (n / P / bt + 1) := by rw [Nat.mul_assoc]
      _ ≤ b * (n / P / bt + 1) := Nat.mul_le_mul_right _ h3
      _ = (n / P / bt + 1) * b := Nat.mul_comm _ _
theorem dg_top_ge {n : Nat} (h : n ≠ 0) : 16777216 ^ ((dg n).length - 1) ≤ n := by
  have hc : dg n ≠ [] := fun e => h (dg_nil_iff.1 e)
  have hlen : 0 < (dg n).length := List.length_pos_iff.2 hc
  by_cases e : 16777216 ^ ((dg n).length - 1) ≤ n
  · exact e
  · have := dg_length_lt (n := n) (k := (dg n).length - 1) (by omega)
    omega
theorem len_le_of_lt {n k : Nat} (h : n < 16777216 ^ k) : (dg n).length ≤ k := dg_length_lt h
theorem lt_len {n k : Nat} (h : 16777216 ^ k ≤ n) : k < (dg n).length := by
  by_cases e : k < (dg n).length
  · exact e
  · have h1 := lt_of_dg_length n
    have h2 : (16777216 : Nat) ^ (dg n).length ≤ 16777216 ^ k := Nat.pow_le_pow_right (by omega) (by omega)
    omega
theorem dg_digit (n q : Nat) : ((dg n).getD q 0) = ((n / 16777216 ^ q % 16777216 : Nat) : Int) := by
  have h := digit_nat (dig_dg n) q
  rw [nv_dg] at h
  have := getD_dig (dig_dg n) q
  omega
theorem spDg_ok : SpecsOK Tryd.prog spDg := .cons ok_Small <| .cons ok_nCmp <| .cons ok_nSub <| .cons ok_Trim <| .nil _
theorem cmpN_le {x y : Nat} : cmpN x y ≤ 0 ↔ x ≤ y := by
  unfold cmpN
  split
  · simp; omega
  · split <;> simp <;> omega

theorem ok_Digits : SpecOK Tryd.prog 1000002 Sym.sNo := Sym.sNo_ok _ _
theorem spDv_ok : SpecsOK Tryd.prog spDv := .cons ok_nSmall <| .cons ok_Digits <| .nil _
theorem dg_len_mul {n m k l : Nat} (h : (dg n).length ≤ k) (h' : (dg m).length ≤ l) : (dg (n * m)).length ≤ k + l := by
  refine dg_length_lt ?_
  rw [Nat.pow_add]
  have h1 := Nat.lt_of_lt_of_le (lt_of_dg_length n) (Nat.pow_le_pow_right (show 0 < 16777216 by omega) h)
  have h2 := Nat.lt_of_lt_of_le (lt_of_dg_length m) (Nat.pow_le_pow_right (show 0 < 16777216 by omega) h')
  exact Nat.mul_lt_mul_of_lt_of_le h1 (Nat.le_of_lt h2) (Nat.pow_pos (by omega))
theorem dg_len_le {n m : Nat} (h : n ≤ m) : (dg n).length ≤ (dg m).length := dg_length_lt (Nat.lt_of_le_of_lt h (lt_of_dg_length m))
theorem ok_nDiv : SpecOK Tryd.prog 1000000 Sym.sNo := Sym.sNo_ok _ _
theorem ok_nMod : SpecOK Tryd.prog 1000001 Sym.sNo := Sym.sNo_ok _ _
end Go.Proofs.YtigkddloeikpbaaDoor.R1
