/- A symbolic machine for Go functions, and what the functions that the law reaches come to: SymL, TT, RefA, Ref0, RefP, RefQ, RefR, RefB, RefS, RefT, RefU. -/
import Derived.Test.YtficbeeoafiiaaaGreatDoorQ3
import Derived.WalkKit
import Derived.ProofKit
import Derived.OpenShut
import Derived.ChangeOld
import Derived.SizedLaws
import Derived.ChangeSlices
import Derived.Test.YtficbeeoafiiaaaGreatDoorProg
/- Laws' rows: what an argument reads as, told as symbolic values. -/
namespace Go.Sym
open Go.RowKit Go.ChangeShapes Go.WideShapes

section
variable {H : Type} {enc : TypeId × Value → H} {P : Program} {W : World} {base b0 : Nat} {spare : Nat → Bool} {held : Bool} {t e : TypeId} {v : Value} {d : DataW H} {ps : List MemPlace}

theorem four_list {l : List Value} (h : l.length = 4) : ∃ a b c d, l = [a, b, c, d] := by
  match l, h with
  | [a, b, c, d], _ => exact ⟨a, b, c, d, rfl⟩
theorem u64_of_wf {n : Int} (h : (Lit.int .u64 n).wf = true) : ∃ x : UInt64, (.int .u64 n : Value) = .int .u64 (x.toNat : Int) := by
  simp [Lit.wf, IntKind.min, IntKind.max, IntKind.signed, IntKind.bits] at h
  refine ⟨UInt64.ofNat n.toNat, ?_⟩
  simp; omega
theorem open_u64 (ht : P.underlying t = some (.int .u64)) (hval : Value.okWide P W .any b0 t v) (hd : DataW.Trod enc P W base spare held t v d ps) : ∃ x : UInt64, Rel noAt W (.u64 x) v := by
  obtain ⟨n, rfl, _, _, hw⟩ := open_int ht hval hd
  obtain ⟨x, hx⟩ := u64_of_wf hw
  exact ⟨x, by simp only [Rel]; exact hx⟩
theorem open_i64 (ht : P.underlying t = some (.int .i64)) (hval : Value.okWide P W .any b0 t v) (hd : DataW.Trod enc P W base spare held t v d ps) : ∃ x : Int, Rel noAt W (.i64 x) v := by
  obtain ⟨n, rfl, _, _, hw⟩ := open_int ht hval hd
  exact ⟨n, by simp only [Rel]⟩
theorem open_bool' (ht : P.underlying t = some .bool) (hval : Value.okWide P W .any b0 t v) : ∃ x : Bool, Rel noAt W (.bool x) v := by
  obtain ⟨n, rfl⟩ := okWide_bool ht hval
  exact ⟨n, by simp only [Rel]⟩
theorem open_four (ht : P.underlying t = some (.array 4 e)) (he : P.underlying e = some (.int .u64)) (hc : P.cellsOf t = 4) (hce : P.cellsOf e = 1) (hval : Value.okWide P W .any b0 t v) (hd : DataW.Trod enc P W base spare held t v d ps) :
    ∃ x : Four, Rel noAt W x.sv v := by
  obtain ⟨cs, rfl, hsz, _⟩ : ∃ cs, v = .agg cs ∧ cs.size = P.cellsOf t ∧ Row.okWide P W .any b0 t cs := by simpa [Value.okWide, ht] using hval
  rw [hc] at hsz
  obtain ⟨l⟩ := cs
  obtain ⟨c0, c1, c2, c3, rfl⟩ := four_list (by simpa using hsz)
  obtain ⟨fuel, hf⟩ := hd
  obtain ⟨y0, y1, y2, y3, m, hx, hy0, hy1, hy2, hy3⟩ := trod_array4 ht hce hf
  obtain ⟨x0, e0, rfl, w0⟩ := DataW.trod_int he hy0
  obtain ⟨x1, e1, rfl, w1⟩ := DataW.trod_int he hy1
  obtain ⟨x2, e2, rfl, w2⟩ := DataW.trod_int he hy2
  obtain ⟨x3, e3, rfl, w3⟩ := DataW.trod_int he hy3
  simp at e0 e1 e2 e3
  subst e0 e1 e2 e3
  obtain ⟨a0, h0⟩ := u64_of_wf w0
  obtain ⟨a1, h1⟩ := u64_of_wf w1
  obtain ⟨a2, h2⟩ := u64_of_wf w2
  obtain ⟨a3, h3⟩ := u64_of_wf w3
  refine ⟨⟨a0, a1, a2, a3⟩, ?_⟩
  simp only [Four.sv, Rel, RelL]
  rw [h0, h1, h2, h3]
  exact ⟨_, rfl, _, _, rfl, rfl, _, _, rfl, rfl, _, _, rfl, rfl, _, _, rfl, rfl, rfl⟩
theorem u8_of_wf {n : Int} (h : (Lit.int .u8 n).wf = true) : 0 ≤ n ∧ n < 256 := by
  simp [Lit.wf, IntKind.min, IntKind.max, IntKind.signed, IntKind.bits] at h
  omega
theorem open_bytes (ht : P.underlying t = some (.slice e)) (he : P.underlying e = some (.int .u8)) (hc : P.cellsOf e = 1) (hval : Value.okWide P W .any b0 t v) (hd : DataW.Trod enc P W base spare held t v d ps) :
    ∃ l : List UInt8, Rel noAt W (.lst (.bytes l)) v := by
  obtain ⟨a0, len0, cap0, rfl⟩ := okWide_slice ht hval
  obtain ⟨fuel, hf⟩ := hd
  rcases open_ints ht he hc hf with ⟨h1, _⟩ | ⟨a, len, cap, zs, h1, _, h3, _, h5, _, h7, h8⟩
  · have : Value.slice a0 len0 cap0 = .slice none 0 0 := by simpa [Value.cells] using h1
    rw [this]
    refine ⟨[], ?_⟩
    simp only [Rel]
    exact ⟨none, 0, rfl, by simp [LV.len], fun j u hj => by simp [LV.vals] at hj⟩
  · have : Value.slice a0 len0 cap0 = .slice (some a) len cap := by simpa [Value.cells] using h1
    rw [this]
    have hlen : len ≤ zs.length := by rw [h5]; split <;> omega
    refine ⟨(zs.take len).map fun n => UInt8.ofNat n.toNat, ?_⟩
    simp only [Rel]
    refine ⟨some a, cap, by simp [LV.len, Nat.min_eq_left hlen], by simp [LV.len, Nat.min_eq_left hlen]; omega, fun j u hj => ⟨a, rfl, ⟨fun n e => by simp [noAt] at e, fun e => by simp [noAt] at e, fun n b c k e => by simp [noAt] at e⟩, ?_⟩⟩
    simp only [LV.vals, List.map_map, List.getElem?_map, Option.map_eq_some_iff] at hj
    obtain ⟨z, hz, rfl⟩ := hj
    rw [List.getElem?_take] at hz
    split at hz
    · rename_i hjl
      have hjz : j < zs.length := by omega
      rw [List.getElem?_eq_getElem hjz] at hz
      simp only [Option.some.injEq] at hz
      have h9 := h7 j hjz
      rw [List.getD_eq_getElem?_getD, List.getElem?_eq_getElem hjz] at h9
      simp only [Option.getD_some, hz] at h9
      have hw := u8_of_wf (h8 z (hz ▸ List.getElem_mem hjz))
      rw [h9]
      simp only [Function.comp, UInt8.toNat_ofNat']
      congr 2
      omega
    · cases hz
end

/-- A law's call, from its specification. -/
theorem calls_of_spec [GLob] {P : Program} {f : FuncId} {fn : Func} {s : SpecF} (hs : SpecOK P f s) (hf : P.funcs[f]? = some fn) (hname : (fn.name == "runtime.NumGoroutine") = false) (hb : fn.body.isSome = true) {svs : List SV} {vs : List Value} {w : World} {pre : Option Prop} {r : SV}
    (hg : GLOK noAt w) (h : s svs = some (pre, r)) (hp : Ok pre) (hr : RelL noAt w svs vs) : Calls P f (List.toArray vs) w fun e w' => ∃ v, e = .returned v ∧ Rel noAt w' r v ∧ Below w.heap.size w w' := by
  have h1 := hs noAt w svs vs pre r (fun n g e => by simp [noAt] at e) (fun g e => by simp [noAt] at e) hg h hp hr
  obtain ⟨c, hc⟩ := Option.isSome_iff_exists.1 hb
  have hrun : (callFunc f (List.toArray vs)).run P w = .ok (.enter f (List.toArray vs)) w := by
    have h1 : fn.name ≠ "runtime.NumGoroutine" := by simpa using hname
    simp [callFunc, hf, h1, hc]
  rw [hrun] at h1
  exact Calls.mono h1 fun e w' ⟨v, k1, k2, k3⟩ => ⟨v, k1, k2, k3⟩
end Go.Sym
/- The types of the seat's program, as the symbolic machine wants them. Written by a program of this claim's author. -/
namespace Go.Proofs.YtficbeeoafiiaaaGreatDoor
open Go.Sym

def ti1 : TI := ⟨.other, 1, 8, [.nilFunc]⟩
theorem ti1_ok : TIOK Tryz.prog 1 ti1 := ⟨by kernel_rfl, by kernel_rfl, by kernel_rfl⟩
def ti2 : TI := ⟨.int .i64, 1, 8, [(.int .i64 0)]⟩
theorem ti2_ok : TIOK Tryz.prog 2 ti2 := ⟨by kernel_rfl, by kernel_rfl, by kernel_rfl⟩
def ti3 : TI := ⟨.int .i64, 1, 8, [(.int .i64 0)]⟩
theorem ti3_ok : TIOK Tryz.prog 3 ti3 := ⟨by kernel_rfl, by kernel_rfl, by kernel_rfl⟩
def ti4 : TI := ⟨.bool, 1, 1, [(.bool false)]⟩
theorem ti4_ok : TIOK Tryz.prog 4 ti4 := ⟨by kernel_rfl, by kernel_rfl, by kernel_rfl⟩
def ti5 : TI := ⟨.int .u8, 1, 1, [(.int .u8 0)]⟩
theorem ti5_ok : TIOK Tryz.prog 5 ti5 := ⟨by kernel_rfl, by kernel_rfl, by kernel_rfl⟩
def ti9 : TI := ⟨.str, 1, 16, [(.string ⟨#[]⟩)]⟩
theorem ti9_ok : TIOK Tryz.prog 9 ti9 := ⟨by kernel_rfl, by kernel_rfl, by kernel_rfl⟩
def ti12 : TI := ⟨.int .u64, 1, 8, [(.int .u64 0)]⟩
theorem ti12_ok : TIOK Tryz.prog 12 ti12 := ⟨by kernel_rfl, by kernel_rfl, by kernel_rfl⟩
def ti21 : TI := ⟨.int .i32, 1, 4, [(.int .i32 0)]⟩
theorem ti21_ok : TIOK Tryz.prog 21 ti21 := ⟨by kernel_rfl, by kernel_rfl, by kernel_rfl⟩
def ti22 : TI := ⟨.slice 5, 1, 24, [(.slice none 0 0)]⟩
theorem ti22_ok : TIOK Tryz.prog 22 ti22 := ⟨by kernel_rfl, by kernel_rfl, by kernel_rfl⟩
def ti23 : TI := ⟨.other, 1, 8, [.nilFunc]⟩
theorem ti23_ok : TIOK Tryz.prog 23 ti23 := ⟨by kernel_rfl, by kernel_rfl, by kernel_rfl⟩
def ti24 : TI := ⟨.int .i64, 1, 8, [(.int .i64 0)]⟩
theorem ti24_ok : TIOK Tryz.prog 24 ti24 := ⟨by kernel_rfl, by kernel_rfl, by kernel_rfl⟩
def ti26 : TI := ⟨.other, 1, 8, [.nilFunc]⟩
theorem ti26_ok : TIOK Tryz.prog 26 ti26 := ⟨by kernel_rfl, by kernel_rfl, by kernel_rfl⟩
def ti27 : TI := ⟨.int .u64, 1, 8, [(.int .u64 0)]⟩
theorem ti27_ok : TIOK Tryz.prog 27 ti27 := ⟨by kernel_rfl, by kernel_rfl, by kernel_rfl⟩
def ti28 : TI := ⟨.array 4 27, 4, 32, [(.int .u64 0), (.int .u64 0), (.int .u64 0), (.int .u64 0)]⟩
theorem ti28_ok : TIOK Tryz.prog 28 ti28 := ⟨by kernel_rfl, by kernel_rfl, by kernel_rfl⟩
def ti29 : TI := ⟨.array 4 27, 4, 32, [(.int .u64 0), (.int .u64 0), (.int .u64 0), (.int .u64 0)]⟩
theorem ti29_ok : TIOK Tryz.prog 29 ti29 := ⟨by kernel_rfl, by kernel_rfl, by kernel_rfl⟩
def ti31 : TI := ⟨.other, 1, 8, [.nilFunc]⟩
theorem ti31_ok : TIOK Tryz.prog 31 ti31 := ⟨by kernel_rfl, by kernel_rfl, by kernel_rfl⟩
def ti32 : TI := ⟨.ptr 99, 1, 8, [(.pointer none)]⟩
theorem ti32_ok : TIOK Tryz.prog 32 ti32 := ⟨by kernel_rfl, by kernel_rfl, by kernel_rfl⟩
def ti33 : TI := ⟨.struct [(0, 32)], 1, 8, [(.pointer none)]⟩
theorem ti33_ok : TIOK Tryz.prog 33 ti33 := ⟨by kernel_rfl, by kernel_rfl, by kernel_rfl⟩
def ti34 : TI := ⟨.struct [(0, 32)], 1, 8, [(.pointer none)]⟩
theorem ti34_ok : TIOK Tryz.prog 34 ti34 := ⟨by kernel_rfl, by kernel_rfl, by kernel_rfl⟩
def ti35 : TI := ⟨.struct [(0, 34), (1, 29), (5, 29), (9, 29)], 13, 104, [(.pointer none), (.int .u64 0), (.int .u64 0), (.int .u64 0), (.int .u64 0), (.int .u64 0), (.int .u64 0), (.int .u64 0), (.int .u64 0), (.int .u64 0), (.int .u64 0), (.int .u64 0), (.int .u64 0)]⟩
theorem ti35_ok : TIOK Tryz.prog 35 ti35 := ⟨by kernel_rfl, by kernel_rfl, by kernel_rfl⟩
def ti36 : TI := ⟨.struct [(0, 34), (1, 29), (5, 29), (9, 29)], 13, 104, [(.pointer none), (.int .u64 0), (.int .u64 0), (.int .u64 0), (.int .u64 0), (.int .u64 0), (.int .u64 0), (.int .u64 0), (.int .u64 0), (.int .u64 0), (.int .u64 0), (.int .u64 0), (.int .u64 0)]⟩
theorem ti36_ok : TIOK Tryz.prog 36 ti36 := ⟨by kernel_rfl, by kernel_rfl, by kernel_rfl⟩
def ti38 : TI := ⟨.other, 1, 8, [.nilFunc]⟩
theorem ti38_ok : TIOK Tryz.prog 38 ti38 := ⟨by kernel_rfl, by kernel_rfl, by kernel_rfl⟩
def ti39 : TI := ⟨.other, 1, 8, [.nilFunc]⟩
theorem ti39_ok : TIOK Tryz.prog 39 ti39 := ⟨by kernel_rfl, by kernel_rfl, by kernel_rfl⟩
def ti40 : TI := ⟨.other, 1, 8, [.nilFunc]⟩
theorem ti40_ok : TIOK Tryz.prog 40 ti40 := ⟨by kernel_rfl, by kernel_rfl, by kernel_rfl⟩
def ti41 : TI := ⟨.slice 3, 1, 24, [(.slice none 0 0)]⟩
theorem ti41_ok : TIOK Tryz.prog 41 ti41 := ⟨by kernel_rfl, by kernel_rfl, by kernel_rfl⟩
def ti42 : TI := ⟨.other, 1, 8, [.nilFunc]⟩
theorem ti42_ok : TIOK Tryz.prog 42 ti42 := ⟨by kernel_rfl, by kernel_rfl, by kernel_rfl⟩
def ti43 : TI := ⟨.other, 1, 8, [.nilFunc]⟩
theorem ti43_ok : TIOK Tryz.prog 43 ti43 := ⟨by kernel_rfl, by kernel_rfl, by kernel_rfl⟩
def ti44 : TI := ⟨.other, 1, 8, [.nilFunc]⟩
theorem ti44_ok : TIOK Tryz.prog 44 ti44 := ⟨by kernel_rfl, by kernel_rfl, by kernel_rfl⟩
def ti45 : TI := ⟨.other, 1, 8, [.nilFunc]⟩
theorem ti45_ok : TIOK Tryz.prog 45 ti45 := ⟨by kernel_rfl, by kernel_rfl, by kernel_rfl⟩
def ti46 : TI := ⟨.struct [(0, 41), (1, 41)], 2, 48, [(.slice none 0 0), (.slice none 0 0)]⟩
theorem ti46_ok : TIOK Tryz.prog 46 ti46 := ⟨by kernel_rfl, by kernel_rfl, by kernel_rfl⟩
def ti47 : TI := ⟨.struct [(0, 41), (1, 41)], 2, 48, [(.slice none 0 0), (.slice none 0 0)]⟩
theorem ti47_ok : TIOK Tryz.prog 47 ti47 := ⟨by kernel_rfl, by kernel_rfl, by kernel_rfl⟩
def ti48 : TI := ⟨.other, 1, 8, [.nilFunc]⟩
theorem ti48_ok : TIOK Tryz.prog 48 ti48 := ⟨by kernel_rfl, by kernel_rfl, by kernel_rfl⟩
def ti49 : TI := ⟨.struct [(0, 41), (1, 41), (2, 41)], 3, 72, [(.slice none 0 0), (.slice none 0 0), (.slice none 0 0)]⟩
theorem ti49_ok : TIOK Tryz.prog 49 ti49 := ⟨by kernel_rfl, by kernel_rfl, by kernel_rfl⟩
def ti50 : TI := ⟨.struct [(0, 41), (1, 41), (2, 41)], 3, 72, [(.slice none 0 0), (.slice none 0 0), (.slice none 0 0)]⟩
theorem ti50_ok : TIOK Tryz.prog 50 ti50 := ⟨by kernel_rfl, by kernel_rfl, by kernel_rfl⟩
def ti51 : TI := ⟨.other, 1, 8, [.nilFunc]⟩
theorem ti51_ok : TIOK Tryz.prog 51 ti51 := ⟨by kernel_rfl, by kernel_rfl, by kernel_rfl⟩
def ti52 : TI := ⟨.other, 1, 8, [.nilFunc]⟩
theorem ti52_ok : TIOK Tryz.prog 52 ti52 := ⟨by kernel_rfl, by kernel_rfl, by kernel_rfl⟩
def ti53 : TI := ⟨.other, 1, 8, [.nilFunc]⟩
theorem ti53_ok : TIOK Tryz.prog 53 ti53 := ⟨by kernel_rfl, by kernel_rfl, by kernel_rfl⟩
def ti54 : TI := ⟨.other, 1, 8, [.nilFunc]⟩
theorem ti54_ok : TIOK Tryz.prog 54 ti54 := ⟨by kernel_rfl, by kernel_rfl, by kernel_rfl⟩
def ti55 : TI := ⟨.int .u64, 1, 8, [(.int .u64 0)]⟩
theorem ti55_ok : TIOK Tryz.prog 55 ti55 := ⟨by kernel_rfl, by kernel_rfl, by kernel_rfl⟩
def ti56 : TI := ⟨.other, 1, 8, [.nilFunc]⟩
theorem ti56_ok : TIOK Tryz.prog 56 ti56 := ⟨by kernel_rfl, by kernel_rfl, by kernel_rfl⟩
def ti57 : TI := ⟨.other, 1, 8, [.nilFunc]⟩
theorem ti57_ok : TIOK Tryz.prog 57 ti57 := ⟨by kernel_rfl, by kernel_rfl, by kernel_rfl⟩
def ti58 : TI := ⟨.other, 1, 8, [.nilFunc]⟩
theorem ti58_ok : TIOK Tryz.prog 58 ti58 := ⟨by kernel_rfl, by kernel_rfl, by kernel_rfl⟩
def ti59 : TI := ⟨.other, 1, 8, [.nilFunc]⟩
theorem ti59_ok : TIOK Tryz.prog 59 ti59 := ⟨by kernel_rfl, by kernel_rfl, by kernel_rfl⟩
def ti60 : TI := ⟨.struct [(0, 32), (1, 29), (5, 29), (9, 29)], 13, 104, [(.pointer none), (.int .u64 0), (.int .u64 0), (.int .u64 0), (.int .u64 0), (.int .u64 0), (.int .u64 0), (.int .u64 0), (.int .u64 0), (.int .u64 0), (.int .u64 0), (.int .u64 0), (.int .u64 0)]⟩
theorem ti60_ok : TIOK Tryz.prog 60 ti60 := ⟨by kernel_rfl, by kernel_rfl, by kernel_rfl⟩
def ti61 : TI := ⟨.struct [(0, 32), (1, 29), (5, 29), (9, 29)], 13, 104, [(.pointer none), (.int .u64 0), (.int .u64 0), (.int .u64 0), (.int .u64 0), (.int .u64 0), (.int .u64 0), (.int .u64 0), (.int .u64 0), (.int .u64 0), (.int .u64 0), (.int .u64 0), (.int .u64 0)]⟩
theorem ti61_ok : TIOK Tryz.prog 61 ti61 := ⟨by kernel_rfl, by kernel_rfl, by kernel_rfl⟩
def ti62 : TI := ⟨.other, 1, 8, [.nilFunc]⟩
theorem ti62_ok : TIOK Tryz.prog 62 ti62 := ⟨by kernel_rfl, by kernel_rfl, by kernel_rfl⟩
def ti63 : TI := ⟨.other, 1, 8, [.nilFunc]⟩
theorem ti63_ok : TIOK Tryz.prog 63 ti63 := ⟨by kernel_rfl, by kernel_rfl, by kernel_rfl⟩
def ti64 : TI := ⟨.array 8 27, 8, 64, [(.int .u64 0), (.int .u64 0), (.int .u64 0), (.int .u64 0), (.int .u64 0), (.int .u64 0), (.int .u64 0), (.int .u64 0)]⟩
theorem ti64_ok : TIOK Tryz.prog 64 ti64 := ⟨by kernel_rfl, by kernel_rfl, by kernel_rfl⟩
def ti65 : TI := ⟨.array 8 27, 8, 64, [(.int .u64 0), (.int .u64 0), (.int .u64 0), (.int .u64 0), (.int .u64 0), (.int .u64 0), (.int .u64 0), (.int .u64 0)]⟩
theorem ti65_ok : TIOK Tryz.prog 65 ti65 := ⟨by kernel_rfl, by kernel_rfl, by kernel_rfl⟩
def ti66 : TI := ⟨.other, 1, 8, [.nilFunc]⟩
theorem ti66_ok : TIOK Tryz.prog 66 ti66 := ⟨by kernel_rfl, by kernel_rfl, by kernel_rfl⟩
def ti67 : TI := ⟨.other, 1, 8, [.nilFunc]⟩
theorem ti67_ok : TIOK Tryz.prog 67 ti67 := ⟨by kernel_rfl, by kernel_rfl, by kernel_rfl⟩
def ti68 : TI := ⟨.other, 1, 8, [.nilFunc]⟩
theorem ti68_ok : TIOK Tryz.prog 68 ti68 := ⟨by kernel_rfl, by kernel_rfl, by kernel_rfl⟩
def ti69 : TI := ⟨.other, 1, 8, [.nilFunc]⟩
theorem ti69_ok : TIOK Tryz.prog 69 ti69 := ⟨by kernel_rfl, by kernel_rfl, by kernel_rfl⟩
def ti70 : TI := ⟨.other, 1, 8, [.nilFunc]⟩
theorem ti70_ok : TIOK Tryz.prog 70 ti70 := ⟨by kernel_rfl, by kernel_rfl, by kernel_rfl⟩
def ti71 : TI := ⟨.other, 1, 8, [.nilFunc]⟩
theorem ti71_ok : TIOK Tryz.prog 71 ti71 := ⟨by kernel_rfl, by kernel_rfl, by kernel_rfl⟩
def ti72 : TI := ⟨.slice 27, 1, 24, [(.slice none 0 0)]⟩
theorem ti72_ok : TIOK Tryz.prog 72 ti72 := ⟨by kernel_rfl, by kernel_rfl, by kernel_rfl⟩
def ti73 : TI := ⟨.other, 1, 8, [.nilFunc]⟩
theorem ti73_ok : TIOK Tryz.prog 73 ti73 := ⟨by kernel_rfl, by kernel_rfl, by kernel_rfl⟩
def ti75 : TI := ⟨.other, 1, 8, [.nilFunc]⟩
theorem ti75_ok : TIOK Tryz.prog 75 ti75 := ⟨by kernel_rfl, by kernel_rfl, by kernel_rfl⟩
def ti76 : TI := ⟨.other, 1, 8, [.nilFunc]⟩
theorem ti76_ok : TIOK Tryz.prog 76 ti76 := ⟨by kernel_rfl, by kernel_rfl, by kernel_rfl⟩
def ti78 : TI := ⟨.other, 1, 8, [.nilFunc]⟩
theorem ti78_ok : TIOK Tryz.prog 78 ti78 := ⟨by kernel_rfl, by kernel_rfl, by kernel_rfl⟩
def ti79 : TI := ⟨.other, 1, 8, [.nilFunc]⟩
theorem ti79_ok : TIOK Tryz.prog 79 ti79 := ⟨by kernel_rfl, by kernel_rfl, by kernel_rfl⟩
def ti80 : TI := ⟨.other, 1, 8, [.nilFunc]⟩
theorem ti80_ok : TIOK Tryz.prog 80 ti80 := ⟨by kernel_rfl, by kernel_rfl, by kernel_rfl⟩
def ti81 : TI := ⟨.other, 1, 8, [.nilFunc]⟩
theorem ti81_ok : TIOK Tryz.prog 81 ti81 := ⟨by kernel_rfl, by kernel_rfl, by kernel_rfl⟩
def ti82 : TI := ⟨.other, 1, 8, [.nilFunc]⟩
theorem ti82_ok : TIOK Tryz.prog 82 ti82 := ⟨by kernel_rfl, by kernel_rfl, by kernel_rfl⟩
def ti84 : TI := ⟨.other, 1, 8, [.nilFunc]⟩
theorem ti84_ok : TIOK Tryz.prog 84 ti84 := ⟨by kernel_rfl, by kernel_rfl, by kernel_rfl⟩
def ti85 : TI := ⟨.other, 1, 8, [.nilFunc]⟩
theorem ti85_ok : TIOK Tryz.prog 85 ti85 := ⟨by kernel_rfl, by kernel_rfl, by kernel_rfl⟩
def ti86 : TI := ⟨.slice 22, 1, 24, [(.slice none 0 0)]⟩
theorem ti86_ok : TIOK Tryz.prog 86 ti86 := ⟨by kernel_rfl, by kernel_rfl, by kernel_rfl⟩
def ti87 : TI := ⟨.ptr 118, 1, 8, [(.pointer none)]⟩
theorem ti87_ok : TIOK Tryz.prog 87 ti87 := ⟨by kernel_rfl, by kernel_rfl, by kernel_rfl⟩
def ti88 : TI := ⟨.other, 1, 8, [.nilFunc]⟩
theorem ti88_ok : TIOK Tryz.prog 88 ti88 := ⟨by kernel_rfl, by kernel_rfl, by kernel_rfl⟩
def ti89 : TI := ⟨.other, 1, 8, [.nilFunc]⟩
theorem ti89_ok : TIOK Tryz.prog 89 ti89 := ⟨by kernel_rfl, by kernel_rfl, by kernel_rfl⟩
def ti90 : TI := ⟨.other, 1, 8, [.nilFunc]⟩
theorem ti90_ok : TIOK Tryz.prog 90 ti90 := ⟨by kernel_rfl, by kernel_rfl, by kernel_rfl⟩
def ti92 : TI := ⟨.other, 1, 8, [.nilFunc]⟩
theorem ti92_ok : TIOK Tryz.prog 92 ti92 := ⟨by kernel_rfl, by kernel_rfl, by kernel_rfl⟩
def ti93 : TI := ⟨.other, 1, 8, [.nilFunc]⟩
theorem ti93_ok : TIOK Tryz.prog 93 ti93 := ⟨by kernel_rfl, by kernel_rfl, by kernel_rfl⟩
def ti94 : TI := ⟨.other, 1, 8, [.nilFunc]⟩
theorem ti94_ok : TIOK Tryz.prog 94 ti94 := ⟨by kernel_rfl, by kernel_rfl, by kernel_rfl⟩
def ti95 : TI := ⟨.other, 1, 8, [.nilFunc]⟩
theorem ti95_ok : TIOK Tryz.prog 95 ti95 := ⟨by kernel_rfl, by kernel_rfl, by kernel_rfl⟩
def ti96 : TI := ⟨.struct [(0, 29), (4, 27), (5, 29), (9, 29)], 13, 104, [(.int .u64 0), (.int .u64 0), (.int .u64 0), (.int .u64 0), (.int .u64 0), (.int .u64 0), (.int .u64 0), (.int .u64 0), (.int .u64 0), (.int .u64 0), (.int .u64 0), (.int .u64 0), (.int .u64 0)]⟩
theorem ti96_ok : TIOK Tryz.prog 96 ti96 := ⟨by kernel_rfl, by kernel_rfl, by kernel_rfl⟩
def ti97 : TI := ⟨.struct [(0, 29), (4, 27), (5, 29), (9, 29)], 13, 104, [(.int .u64 0), (.int .u64 0), (.int .u64 0), (.int .u64 0), (.int .u64 0), (.int .u64 0), (.int .u64 0), (.int .u64 0), (.int .u64 0), (.int .u64 0), (.int .u64 0), (.int .u64 0), (.int .u64 0)]⟩
theorem ti97_ok : TIOK Tryz.prog 97 ti97 := ⟨by kernel_rfl, by kernel_rfl, by kernel_rfl⟩
def ti98 : TI := ⟨.struct [(0, 97)], 13, 104, [(.int .u64 0), (.int .u64 0), (.int .u64 0), (.int .u64 0), (.int .u64 0), (.int .u64 0), (.int .u64 0), (.int .u64 0), (.int .u64 0), (.int .u64 0), (.int .u64 0), (.int .u64 0), (.int .u64 0)]⟩
theorem ti98_ok : TIOK Tryz.prog 98 ti98 := ⟨by kernel_rfl, by kernel_rfl, by kernel_rfl⟩
def ti99 : TI := ⟨.struct [(0, 97)], 13, 104, [(.int .u64 0), (.int .u64 0), (.int .u64 0), (.int .u64 0), (.int .u64 0), (.int .u64 0), (.int .u64 0), (.int .u64 0), (.int .u64 0), (.int .u64 0), (.int .u64 0), (.int .u64 0), (.int .u64 0)]⟩
theorem ti99_ok : TIOK Tryz.prog 99 ti99 := ⟨by kernel_rfl, by kernel_rfl, by kernel_rfl⟩
def ti101 : TI := ⟨.other, 1, 8, [.nilFunc]⟩
theorem ti101_ok : TIOK Tryz.prog 101 ti101 := ⟨by kernel_rfl, by kernel_rfl, by kernel_rfl⟩
def ti103 : TI := ⟨.other, 1, 8, [.nilFunc]⟩
theorem ti103_ok : TIOK Tryz.prog 103 ti103 := ⟨by kernel_rfl, by kernel_rfl, by kernel_rfl⟩
def ti104 : TI := ⟨.slice 108, 1, 24, [(.slice none 0 0)]⟩
theorem ti104_ok : TIOK Tryz.prog 104 ti104 := ⟨by kernel_rfl, by kernel_rfl, by kernel_rfl⟩
def ti105 : TI := ⟨.other, 1, 8, [.nilFunc]⟩
theorem ti105_ok : TIOK Tryz.prog 105 ti105 := ⟨by kernel_rfl, by kernel_rfl, by kernel_rfl⟩
def ti106 : TI := ⟨.other, 1, 8, [.nilFunc]⟩
theorem ti106_ok : TIOK Tryz.prog 106 ti106 := ⟨by kernel_rfl, by kernel_rfl, by kernel_rfl⟩
def ti107 : TI := ⟨.other, 1, 8, [.nilFunc]⟩
theorem ti107_ok : TIOK Tryz.prog 107 ti107 := ⟨by kernel_rfl, by kernel_rfl, by kernel_rfl⟩
def ti108 : TI := ⟨.int .u32, 1, 4, [(.int .u32 0)]⟩
theorem ti108_ok : TIOK Tryz.prog 108 ti108 := ⟨by kernel_rfl, by kernel_rfl, by kernel_rfl⟩
def ti110 : TI := ⟨.other, 1, 8, [.nilFunc]⟩
theorem ti110_ok : TIOK Tryz.prog 110 ti110 := ⟨by kernel_rfl, by kernel_rfl, by kernel_rfl⟩
def ti111 : TI := ⟨.other, 1, 8, [.nilFunc]⟩
theorem ti111_ok : TIOK Tryz.prog 111 ti111 := ⟨by kernel_rfl, by kernel_rfl, by kernel_rfl⟩
def ti112 : TI := ⟨.other, 1, 8, [.nilFunc]⟩
theorem ti112_ok : TIOK Tryz.prog 112 ti112 := ⟨by kernel_rfl, by kernel_rfl, by kernel_rfl⟩
def ti113 : TI := ⟨.other, 1, 8, [.nilFunc]⟩
theorem ti113_ok : TIOK Tryz.prog 113 ti113 := ⟨by kernel_rfl, by kernel_rfl, by kernel_rfl⟩
def ti114 : TI := ⟨.array 8 108, 8, 32, [(.int .u32 0), (.int .u32 0), (.int .u32 0), (.int .u32 0), (.int .u32 0), (.int .u32 0), (.int .u32 0), (.int .u32 0)]⟩
theorem ti114_ok : TIOK Tryz.prog 114 ti114 := ⟨by kernel_rfl, by kernel_rfl, by kernel_rfl⟩
def ti115 : TI := ⟨.array 8 108, 8, 32, [(.int .u32 0), (.int .u32 0), (.int .u32 0), (.int .u32 0), (.int .u32 0), (.int .u32 0), (.int .u32 0), (.int .u32 0)]⟩
theorem ti115_ok : TIOK Tryz.prog 115 ti115 := ⟨by kernel_rfl, by kernel_rfl, by kernel_rfl⟩
def ti116 : TI := ⟨.other, 1, 8, [.nilFunc]⟩
theorem ti116_ok : TIOK Tryz.prog 116 ti116 := ⟨by kernel_rfl, by kernel_rfl, by kernel_rfl⟩
def ti117 : TI := ⟨.struct [(0, 115), (8, 22), (9, 27), (10, 4)], 11, 72, [(.int .u32 0), (.int .u32 0), (.int .u32 0), (.int .u32 0), (.int .u32 0), (.int .u32 0), (.int .u32 0), (.int .u32 0), (.slice none 0 0), (.int .u64 0), (.bool false)]⟩
theorem ti117_ok : TIOK Tryz.prog 117 ti117 := ⟨by kernel_rfl, by kernel_rfl, by kernel_rfl⟩
def ti118 : TI := ⟨.struct [(0, 115), (8, 22), (9, 27), (10, 4)], 11, 72, [(.int .u32 0), (.int .u32 0), (.int .u32 0), (.int .u32 0), (.int .u32 0), (.int .u32 0), (.int .u32 0), (.int .u32 0), (.slice none 0 0), (.int .u64 0), (.bool false)]⟩
theorem ti118_ok : TIOK Tryz.prog 118 ti118 := ⟨by kernel_rfl, by kernel_rfl, by kernel_rfl⟩
def ti120 : TI := ⟨.other, 1, 8, [.nilFunc]⟩
theorem ti120_ok : TIOK Tryz.prog 120 ti120 := ⟨by kernel_rfl, by kernel_rfl, by kernel_rfl⟩
def ti121 : TI := ⟨.other, 1, 8, [.nilFunc]⟩
theorem ti121_ok : TIOK Tryz.prog 121 ti121 := ⟨by kernel_rfl, by kernel_rfl, by kernel_rfl⟩
def ti122 : TI := ⟨.ptr 97, 1, 8, [(.pointer none)]⟩
theorem ti122_ok : TIOK Tryz.prog 122 ti122 := ⟨by kernel_rfl, by kernel_rfl, by kernel_rfl⟩
def ti123 : TI := ⟨.other, 1, 8, [.nilFunc]⟩
theorem ti123_ok : TIOK Tryz.prog 123 ti123 := ⟨by kernel_rfl, by kernel_rfl, by kernel_rfl⟩
def ti124 : TI := ⟨.other, 1, 8, [.nilFunc]⟩
theorem ti124_ok : TIOK Tryz.prog 124 ti124 := ⟨by kernel_rfl, by kernel_rfl, by kernel_rfl⟩
def ti125 : TI := ⟨.other, 1, 8, [.nilFunc]⟩
theorem ti125_ok : TIOK Tryz.prog 125 ti125 := ⟨by kernel_rfl, by kernel_rfl, by kernel_rfl⟩
def ti126 : TI := ⟨.other, 1, 8, [.nilFunc]⟩
theorem ti126_ok : TIOK Tryz.prog 126 ti126 := ⟨by kernel_rfl, by kernel_rfl, by kernel_rfl⟩
def ti127 : TI := ⟨.other, 1, 8, [.nilFunc]⟩
theorem ti127_ok : TIOK Tryz.prog 127 ti127 := ⟨by kernel_rfl, by kernel_rfl, by kernel_rfl⟩
def ti128 : TI := ⟨.other, 1, 8, [.nilFunc]⟩
theorem ti128_ok : TIOK Tryz.prog 128 ti128 := ⟨by kernel_rfl, by kernel_rfl, by kernel_rfl⟩
def ti129 : TI := ⟨.ptr 115, 1, 8, [(.pointer none)]⟩
theorem ti129_ok : TIOK Tryz.prog 129 ti129 := ⟨by kernel_rfl, by kernel_rfl, by kernel_rfl⟩
def ti130 : TI := ⟨.array 64 108, 64, 256, [(.int .u32 0), (.int .u32 0), (.int .u32 0), (.int .u32 0), (.int .u32 0), (.int .u32 0), (.int .u32 0), (.int .u32 0), (.int .u32 0), (.int .u32 0), (.int .u32 0), (.int .u32 0), (.int .u32 0), (.int .u32 0), (.int .u32 0), (.int .u32 0), (.int .u32 0), (.int .u32 0), (.int .u32 0), (.int .u32 0), (.int .u32 0), (.int .u32 0), (.int .u32 0), (.int .u32 0), (.int .u32 0), (.int .u32 0), (.int .u32 0), (.int .u32 0), (.int .u32 0), (.int .u32 0), (.int .u32 0), (.int .u32 0), (.int .u32 0), (.int .u32 0), (.int .u32 0), (.int .u32 0), (.int .u32 0), (.int .u32 0), (.int .u32 0), (.int .u32 0), (.int .u32 0), (.int .u32 0), (.int .u32 0), (.int .u32 0), (.int .u32 0), (.int .u32 0), (.int .u32 0), (.int .u32 0), (.int .u32 0), (.int .u32 0), (.int .u32 0), (.int .u32 0), (.int .u32 0), (.int .u32 0), (.int .u32 0), (.int .u32 0), (.int .u32 0), (.int .u32 0), (.int .u32 0), (.int .u32 0), (.int .u32 0), (.int .u32 0), (.int .u32 0), (.int .u32 0)]⟩
theorem ti130_ok : TIOK Tryz.prog 130 ti130 := ⟨by kernel_rfl, by kernel_rfl, by kernel_rfl⟩
def ti132 : TI := ⟨.other, 1, 8, [.nilFunc]⟩
theorem ti132_ok : TIOK Tryz.prog 132 ti132 := ⟨by kernel_rfl, by kernel_rfl, by kernel_rfl⟩
def ti133 : TI := ⟨.other, 1, 8, [.nilFunc]⟩
theorem ti133_ok : TIOK Tryz.prog 133 ti133 := ⟨by kernel_rfl, by kernel_rfl, by kernel_rfl⟩
def ti134 : TI := ⟨.other, 1, 8, [.nilFunc]⟩
theorem ti134_ok : TIOK Tryz.prog 134 ti134 := ⟨by kernel_rfl, by kernel_rfl, by kernel_rfl⟩
def ti135 : TI := ⟨.other, 1, 8, [.nilFunc]⟩
theorem ti135_ok : TIOK Tryz.prog 135 ti135 := ⟨by kernel_rfl, by kernel_rfl, by kernel_rfl⟩
def ti136 : TI := ⟨.other, 1, 8, [.nilFunc]⟩
theorem ti136_ok : TIOK Tryz.prog 136 ti136 := ⟨by kernel_rfl, by kernel_rfl, by kernel_rfl⟩
def ti137 : TI := ⟨.other, 1, 8, [.nilFunc]⟩
theorem ti137_ok : TIOK Tryz.prog 137 ti137 := ⟨by kernel_rfl, by kernel_rfl, by kernel_rfl⟩
def ti138 : TI := ⟨.other, 1, 8, [.nilFunc]⟩
theorem ti138_ok : TIOK Tryz.prog 138 ti138 := ⟨by kernel_rfl, by kernel_rfl, by kernel_rfl⟩
def ti139 : TI := ⟨.other, 1, 8, [.nilFunc]⟩
theorem ti139_ok : TIOK Tryz.prog 139 ti139 := ⟨by kernel_rfl, by kernel_rfl, by kernel_rfl⟩
def ti140 : TI := ⟨.other, 1, 8, [.nilFunc]⟩
theorem ti140_ok : TIOK Tryz.prog 140 ti140 := ⟨by kernel_rfl, by kernel_rfl, by kernel_rfl⟩
def ti141 : TI := ⟨.other, 1, 8, [.nilFunc]⟩
theorem ti141_ok : TIOK Tryz.prog 141 ti141 := ⟨by kernel_rfl, by kernel_rfl, by kernel_rfl⟩
def ti142 : TI := ⟨.other, 1, 8, [.nilFunc]⟩
theorem ti142_ok : TIOK Tryz.prog 142 ti142 := ⟨by kernel_rfl, by kernel_rfl, by kernel_rfl⟩
def ti148 : TI := ⟨.other, 1, 8, [.nilFunc]⟩
theorem ti148_ok : TIOK Tryz.prog 148 ti148 := ⟨by kernel_rfl, by kernel_rfl, by kernel_rfl⟩
def ti151 : TI := ⟨.other, 1, 8, [.nilFunc]⟩
theorem ti151_ok : TIOK Tryz.prog 151 ti151 := ⟨by kernel_rfl, by kernel_rfl, by kernel_rfl⟩
def ti152 : TI := ⟨.ptr 5, 1, 8, [(.pointer none)]⟩
theorem ti152_ok : TIOK Tryz.prog 152 ti152 := ⟨by kernel_rfl, by kernel_rfl, by kernel_rfl⟩
def ti155 : TI := ⟨.struct [(0, 12), (1, 12), (2, 108), (3, 149), (4, 5), (5, 5), (6, 150), (7, 151), (8, 152), (9, 153), (10, 154)], 11, 48, [(.int .u64 0), (.int .u64 0), (.int .u32 0), (.int .u8 0), (.int .u8 0), (.int .u8 0), (.int .u8 0), .nilFunc, (.pointer none), (.int .i32 0), (.int .i32 0)]⟩
theorem ti155_ok : TIOK Tryz.prog 155 ti155 := ⟨by kernel_rfl, by kernel_rfl, by kernel_rfl⟩
/-- cleromancy/digest.constants -/
def glob0 : List UInt32 := [1116352408, 1899447441, 3049323471, 3921009573, 961987163, 1508970993, 2453635748, 2870763221, 3624381080, 310598401, 607225278, 1426881987, 1925078388, 2162078206, 2614888103, 3248222580, 3835390401, 4022224774, 264347078, 604807628, 770255983, 1249150122, 1555081692, 1996064986, 2554220882, 2821834349, 2952996808, 3210313671, 3336571891, 3584528711, 113926993, 338241895, 666307205, 773529912, 1294757372, 1396182291, 1695183700, 1986661051, 2177026350, 2456956037, 2730485921, 2820302411, 3259730800, 3345764771, 3516065817, 3600352804, 4094571909, 275423344, 430227734, 506948616, 659060556, 883997877, 958139571, 1322822218, 1537002063, 1747873779, 1955562222, 2024104815, 2227730452, 2361852424, 2428436474, 2756734187, 3204031479, 3329325298]
instance : GLob := ⟨fun n => match n with | 0 => some (.halfs glob0) | _ => none⟩
def tt : TT := [(1, ti1), (2, ti2), (3, ti3), (4, ti4), (5, ti5), (9, ti9), (12, ti12), (21, ti21), (22, ti22), (23, ti23), (24, ti24), (26, ti26), (27, ti27), (28, ti28), (29, ti29), (31, ti31), (32, ti32), (33, ti33), (34, ti34), (35, ti35), (36, ti36), (38, ti38), (39, ti39), (40, ti40), (41, ti41), (42, ti42), (43, ti43), (44, ti44), (45, ti45), (46, ti46), (47, ti47), (48, ti48), (49, ti49), (50, ti50), (51, ti51), (52, ti52), (53, ti53), (54, ti54), (55, ti55), (56, ti56), (57, ti57), (58, ti58), (59, ti59), (60, ti60), (61, ti61), (62, ti62), (63, ti63), (64, ti64), (65, ti65), (66, ti66), (67, ti67), (68, ti68), (69, ti69), (70, ti70), (71, ti71), (72, ti72), (73, ti73), (75, ti75), (76, ti76), (78, ti78), (79, ti79), (80, ti80), (81, ti81), (82, ti82), (84, ti84), (85, ti85), (86, ti86), (87, ti87), (88, ti88), (89, ti89), (90, ti90), (92, ti92), (93, ti93), (94, ti94), (95, ti95), (96, ti96), (97, ti97), (98, ti98), (99, ti99), (101, ti101), (103, ti103), (104, ti104), (105, ti105), (106, ti106), (107, ti107), (108, ti108), (110, ti110), (111, ti111), (112, ti112), (113, ti113), (114, ti114), (115, ti115), (116, ti116), (117, ti117), (118, ti118), (120, ti120), (121, ti121), (122, ti122), (123, ti123), (124, ti124), (125, ti125), (126, ti126), (127, ti127), (128, ti128), (129, ti129), (130, ti130), (132, ti132), (133, ti133), (134, ti134), (135, ti135), (136, ti136), (137, ti137), (138, ti138), (139, ti139), (140, ti140), (141, ti141), (142, ti142), (148, ti148), (151, ti151), (152, ti152), (155, ti155)]
theorem tt_ok : TTOK Tryz.prog tt := .cons ti1_ok <| .cons ti2_ok <| .cons ti3_ok <| .cons ti4_ok <| .cons ti5_ok <| .cons ti9_ok <| .cons ti12_ok <| .cons ti21_ok <| .cons ti22_ok <| .cons ti23_ok <| .cons ti24_ok <| .cons ti26_ok <| .cons ti27_ok <| .cons ti28_ok <| .cons ti29_ok <| .cons ti31_ok <| .cons ti32_ok <| .cons ti33_ok <| .cons ti34_ok <| .cons ti35_ok <| .cons ti36_ok <| .cons ti38_ok <| .cons ti39_ok <| .cons ti40_ok <| .cons ti41_ok <| .cons ti42_ok <| .cons ti43_ok <| .cons ti44_ok <| .cons ti45_ok <| .cons ti46_ok <| .cons ti47_ok <| .cons ti48_ok <| .cons ti49_ok <| .cons ti50_ok <| .cons ti51_ok <| .cons ti52_ok <| .cons ti53_ok <| .cons ti54_ok <| .cons ti55_ok <| .cons ti56_ok <| .cons ti57_ok <| .cons ti58_ok <| .cons ti59_ok <| .cons ti60_ok <| .cons ti61_ok <| .cons ti62_ok <| .cons ti63_ok <| .cons ti64_ok <| .cons ti65_ok <| .cons ti66_ok <| .cons ti67_ok <| .cons ti68_ok <| .cons ti69_ok <| .cons ti70_ok <| .cons ti71_ok <| .cons ti72_ok <| .cons ti73_ok <| .cons ti75_ok <| .cons ti76_ok <| .cons ti78_ok <| .cons ti79_ok <| .cons ti80_ok <| .cons ti81_ok <| .cons ti82_ok <| .cons ti84_ok <| .cons ti85_ok <| .cons ti86_ok <| .cons ti87_ok <| .cons ti88_ok <| .cons ti89_ok <| .cons ti90_ok <| .cons ti92_ok <| .cons ti93_ok <| .cons ti94_ok <| .cons ti95_ok <| .cons ti96_ok <| .cons ti97_ok <| .cons ti98_ok <| .cons ti99_ok <| .cons ti101_ok <| .cons ti103_ok <| .cons ti104_ok <| .cons ti105_ok <| .cons ti106_ok <| .cons ti107_ok <| .cons ti108_ok <| .cons ti110_ok <| .cons ti111_ok <| .cons ti112_ok <| .cons ti113_ok <| .cons ti114_ok <| .cons ti115_ok <| .cons ti116_ok <| .cons ti117_ok <| .cons ti118_ok <| .cons ti120_ok <| .cons ti121_ok <| .cons ti122_ok <| .cons ti123_ok <| .cons ti124_ok <| .cons ti125_ok <| .cons ti126_ok <| .cons ti127_ok <| .cons ti128_ok <| .cons ti129_ok <| .cons ti130_ok <| .cons ti132_ok <| .cons ti133_ok <| .cons ti134_ok <| .cons ti135_ok <| .cons ti136_ok <| .cons ti137_ok <| .cons ti138_ok <| .cons ti139_ok <| .cons ti140_ok <| .cons ti141_ok <| .cons ti142_ok <| .cons ti148_ok <| .cons ti151_ok <| .cons ti152_ok <| .cons ti155_ok <| .nil _
theorem mixed : Tryz.prog.follows .mixedOrders = true := by kernel_rfl

end Go.Proofs.YtficbeeoafiiaaaGreatDoor
/- The reference's functions on digits (1): what they say, and what their bodies come to. -/
set_option maxRecDepth 10000
namespace Go.Proofs.YtficbeeoafiiaaaGreatDoor.R1
open Go.Sym Go.Dig

/-- A number out of its digits. -/
def nv (l : List Int) : Nat := (val l).toNat
/-- Digits, not too many. -/
def Dg (l : List Int) : Prop := Dig l ∧ l.length ≤ 1073741824
/-- A number's digits, not too many. -/
def Can (l : List Int) : Prop := l = dg (nv l) ∧ l.length ≤ 1073741824

--STOP Go.Dig.Dig, Dg, Can

def iTrim (a : List Int) (n : Int) : Prop := 0 ≤ n ∧ n ≤ a.length ∧ val (a.take n.toNat) = val a
def lTrim : Plan := { loops := [(0, { β := List Int × Unit, α := Int × Unit, same := [0], keep := [3], inv := fun b _ x => iTrim b.1 x.1, meas := fun _ x => x.1.toNat })] }
theorem vcTrim (a : List Int) (Q : SV → Prop) : LnRaw tt [] 3 [] lTrim Tryz.f96 Q (a, ()) =
 ((iTrim a (↑(List.length a) : Int)) ∧ (∀ a_1 : Int, ((iTrim a a_1) → bcase (decide (a_1 > (0 : Int))) (((((0 : Int) ≤ IntKind.wrap IntKind.i64 (a_1 - (1 : Int))) ∧ (IntKind.wrap IntKind.i64 (a_1 - (1 : Int)) < (↑(List.length a) : Int))) ∧ bcase (List.getD a (Int.toNat (IntKind.wrap IntKind.i64 (a_1 - (1 : Int)))) (0 : Int) == (0 : Int)) ((((a, ()) = (a, ())) ∧ ((iTrim a (IntKind.wrap IntKind.i64 (a_1 - (1 : Int)))) ∧ (Int.toNat (IntKind.wrap IntKind.i64 (a_1 - (1 : Int))) < Int.toNat a_1)))) (((((0 : Int) ≤ (0 : Int)) ∧ (((0 : Int) ≤ a_1) ∧ (a_1 ≤ (↑(List.length a) : Int)))) ∧ (Q (SV.lst (LV.ints (List.drop (Int.toNat (0 : Int)) (List.take (Int.toNat a_1) a))))))))) (((((0 : Int) ≤ (0 : Int)) ∧ (((0 : Int) ≤ a_1) ∧ (a_1 ≤ (↑(List.length a) : Int)))) ∧ (Q (SV.lst (LV.ints (List.drop (Int.toNat (0 : Int)) (List.take (Int.toNat a_1) a)))))))))) := by kernel_rfl
def sTrim : SpecF := fspec (α := List Int × Unit) (β := Num) (fun a => some (Dig a.1 ∧ a.1.length ≤ 4294967296)) (fun a => ⟨nv a.1⟩)
def spRT : Specs := [(96, sTrim)]

def iInt (n0 : Int) (n : Int) (out : List Int) : Prop := 0 ≤ n ∧ n ≤ n0 ∧ n0 < 9223372036854775808 ∧ out ++ dg n.toNat = dg n0.toNat
def lInt : Plan := { loops := [(0, { β := Unit, α := Int × OwnI × Unit, same := [], keep := [0, 3], inv := fun _ x0 x => iInt x0.1 x.1 x.2.1.l, meas := fun _ x => x.1.toNat })] }
theorem vcInt (n : Int) (Q : SV → Prop) : LnRaw tt [] 3 [] lInt Tryz.f24 Q (n, ()) =
 ((((0 : Nat) = (0 : Nat)) ∧ ((0 : Nat) = List.length (List.replicate (0 : Nat) (0 : Int)))) ∧ ((iInt n n (List.replicate (0 : Nat) (0 : Int))) ∧ (∀ a : Int, (∀ l : List Int, ((iInt n a l) → bcase (decide (a > (0 : Int))) (((((0 : Nat) + List.length l = List.length l) ∧ (List.length (List.drop (0 : Nat) (List.take (List.length l) l) ++ List.drop (0 : Nat) (List.take ((0 : Nat) + (1 : Nat)) [Int.tmod a (16777216 : Int)])) ≤ appLim)) ∧ ((((0 : Nat) = (0 : Nat)) ∧ (List.length (List.drop (0 : Nat) (List.take (List.length l) l) ++ List.drop (0 : Nat) (List.take ((0 : Nat) + (1 : Nat)) [Int.tmod a (16777216 : Int)])) = List.length (List.drop (0 : Nat) (List.take (List.length l) l) ++ List.drop (0 : Nat) (List.take ((0 : Nat) + (1 : Nat)) [Int.tmod a (16777216 : Int)])))) ∧ ((() = ()) ∧ ((iInt n (IntKind.wrap IntKind.i64 (Int.tdiv a (16777216 : Int))) (List.drop (0 : Nat) (List.take (List.length l) l) ++ List.drop (0 : Nat) (List.take ((0 : Nat) + (1 : Nat)) [Int.tmod a (16777216 : Int)]))) ∧
 (Int.toNat (IntKind.wrap IntKind.i64 (Int.tdiv a (16777216 : Int))) < Int.toNat a)))))) ((Q (SV.lst (LV.ints (List.drop (0 : Nat) (List.take ((0 : Nat) + List.length l) l))))))))))) := by kernel_rfl
def sInt : SpecF := fspec (α := Int × Unit) (β := Num) (fun a => some (0 ≤ a.1 ∧ a.1 < 9223372036854775808)) (fun a => ⟨a.1.toNat⟩)

def iAdd (a b : List Int) (i c : Int) (out : List Int) : Prop := 0 ≤ i ∧ i ≤ (max a.length b.length : Nat) + 1 ∧ 0 ≤ c ∧ c ≤ 1 ∧ (i = (max a.length b.length : Nat) + 1 → c = 0) ∧ Dig out ∧ (out.length : Int) = i ∧
  val out + 16777216 ^ i.toNat * c = val (a.take i.toNat) + val (b.take i.toNat)
def lAdd : Plan := { loops := [(0, { β := List Int × List Int × Unit, α := OwnI × Int × Int × Unit, same := [0, 1], keep := [5, 6, 7], inv := fun b _ x => iAdd b.1 b.2.1 x.2.2.1 x.2.1 x.1.l, meas := fun b x => (max b.1.length b.2.1.length + 2 - x.2.2.1).toNat })], cuts := [(4, { β := List Int × List Int × Int × Int × Unit, γ := OwnI × Unit, α := OwnI × Bool × Unit, same := [0, 1, 6, 7], pre := [5], keep := [5, 21], inv := fun b g x => x.1.l = g.1.l ∧ x.2.1 = (decide (b.2.2.2.1 < b.1.length) || decide (b.2.2.2.1 < b.2.1.length) || decide (0 < b.2.2.1)) })], forks := [(6, { β := List Int × List Int × Int × Unit, γ := OwnI × Int × Unit, α := OwnI × Int × Unit, same := [0, 1, 7], pre := [5, 6], keep := [5, 6], inv := fun b g x => x.1.l = g.1.l ∧ x.2.1 = g.2.1 + b.1.getD b.2.2.1.toNat 0 }), (8, { β := List Int × List Int × Int × Unit, γ := OwnI × Int × Unit, α := OwnI × Int × Unit, same := [0, 1, 7], pre := [5, 6], keep := [5, 6], inv := fun b g x => x.1.l = g.1.l ∧ x.2.1 = g.2.1 + b.2.1.getD b.2.2.1.toNat 0 })] }
theorem vcAdd (a b : List Int) (Q : SV → Prop) : LnRaw tt spRT 3 [] lAdd Tryz.f67 Q (a, b, ()) =
 ((((0 : Nat) = (0 : Nat)) ∧ ((0 : Nat) = List.length (List.replicate (0 : Nat) (0 : Int)))) ∧ ((iAdd a b (0 : Int) (0 : Int) (List.replicate (0 : Nat) (0 : Int))) ∧ (∀ l : List Int, (∀ a_1 : Int, (∀ a_2 : Int, ((iAdd a b a_2 a_1 l) → ((((0 : Nat) = (0 : Nat)) ∧ (List.length l = List.length l)) ∧ (bcase (decide (a_2 < (↑(List.length a) : Int))) (((((0 : Nat) = (0 : Nat)) ∧ (List.length l = List.length l)) ∧ (((a, b, a_1, a_2, ()) = (a, b, a_1, a_2, ())) ∧ ((l = l) ∧ (true = (decide (a_2 < (↑(List.length a) : Int)) || decide (a_2 < (↑(List.length b) : Int)) || decide ((0 : Int) < a_1))))))) (bcase (decide (a_2 < (↑(List.length b) : Int))) (((((0 : Nat) = (0 : Nat)) ∧ (List.length l = List.length l)) ∧ (((a, b, a_1, a_2, ()) = (a, b, a_1, a_2, ())) ∧ ((l = l) ∧ (true = (decide (a_2 < (↑(List.length a) : Int)) || decide (a_2 < (↑(List.length b) : Int)) || decide ((0 : Int) < a_1))))))) (((((0 : Nat) = (0 : Nat)) ∧ (List.length l = List.length l)) ∧
 (((a, b, a_1, a_2, ()) = (a, b, a_1, a_2, ())) ∧ ((l = l) ∧ (decide (a_1 > (0 : Int)) = (decide (a_2 < (↑(List.length a) : Int)) || decide (a_2 < (↑(List.length b) : Int)) || decide ((0 : Int) < a_1)))))))) ∧ (∀ l_1 : List Int, (∀ a_3 : Bool, (((l_1 = l) ∧ (a_3 = (decide (a_2 < (↑(List.length a) : Int)) || decide (a_2 < (↑(List.length b) : Int)) || decide ((0 : Int) < a_1)))) → bcase (a_3) (((((0 : Nat) = (0 : Nat)) ∧ (List.length l_1 = List.length l_1)) ∧ (bcase (decide (a_2 < (↑(List.length a) : Int))) (((((0 : Int) ≤ a_2) ∧ (a_2 < (↑(List.length a) : Int))) ∧ ((((0 : Nat) = (0 : Nat)) ∧ (List.length l_1 = List.length l_1)) ∧ (((a, b, a_2, ()) = (a, b, a_2, ())) ∧ ((l_1 = l_1) ∧ (IntKind.wrap IntKind.i64 (a_1 + List.getD a (Int.toNat a_2) (0 : Int)) = a_1 + List.getD a (Int.toNat a_2) (0 : Int))))))) (((((0 : Nat) = (0 : Nat)) ∧ (List.length l_1 = List.length l_1)) ∧ (((a, b, a_2, ()) = (a, b, a_2, ())) ∧ ((l_1 = l_1) ∧ (a_1 = a_1 + List.getD a (Int.toNat a_2) (0 : Int)))))) ∧
 (∀ l_2 : List Int, (∀ a_4 : Int, (((l_2 = l_1) ∧ (a_4 = a_1 + List.getD a (Int.toNat a_2) (0 : Int))) → ((((0 : Nat) = (0 : Nat)) ∧ (List.length l_2 = List.length l_2)) ∧ (bcase (decide (a_2 < (↑(List.length b) : Int))) (((((0 : Int) ≤ a_2) ∧ (a_2 < (↑(List.length b) : Int))) ∧ ((((0 : Nat) = (0 : Nat)) ∧ (List.length l_2 = List.length l_2)) ∧ (((a, b, a_2, ()) = (a, b, a_2, ())) ∧ ((l_2 = l_2) ∧ (IntKind.wrap IntKind.i64 (a_4 + List.getD b (Int.toNat a_2) (0 : Int)) = a_4 + List.getD b (Int.toNat a_2) (0 : Int))))))) (((((0 : Nat) = (0 : Nat)) ∧ (List.length l_2 = List.length l_2)) ∧ (((a, b, a_2, ()) = (a, b, a_2, ())) ∧ ((l_2 = l_2) ∧ (a_4 = a_4 + List.getD b (Int.toNat a_2) (0 : Int)))))) ∧ (∀ l_3 : List Int, (∀ a_5 : Int, (((l_3 = l_2) ∧ (a_5 = a_4 + List.getD b (Int.toNat a_2) (0 : Int))) → ((((0 : Nat) + List.length l_3 = List.length l_3) ∧ (List.length (List.drop (0 : Nat) (List.take (List.length l_3) l_3) ++
 List.drop (0 : Nat) (List.take ((0 : Nat) + (1 : Nat)) [Int.tmod a_5 (16777216 : Int)])) ≤ appLim)) ∧ ((((0 : Nat) = (0 : Nat)) ∧ (List.length (List.drop (0 : Nat) (List.take (List.length l_3) l_3) ++ List.drop (0 : Nat) (List.take ((0 : Nat) + (1 : Nat)) [Int.tmod a_5 (16777216 : Int)])) = List.length (List.drop (0 : Nat) (List.take (List.length l_3) l_3) ++ List.drop (0 : Nat) (List.take ((0 : Nat) + (1 : Nat)) [Int.tmod a_5 (16777216 : Int)])))) ∧ (((a, b, ()) = (a, b, ())) ∧ ((iAdd a b (IntKind.wrap IntKind.i64 (a_2 + (1 : Int))) (IntKind.wrap IntKind.i64 (Int.tdiv a_5 (16777216 : Int))) (List.drop (0 : Nat) (List.take (List.length l_3) l_3) ++ List.drop (0 : Nat) (List.take ((0 : Nat) + (1 : Nat)) [Int.tmod a_5 (16777216 : Int)]))) ∧ (Int.toNat ((↑(max (List.length a) (List.length b)) : Int) + (2 : Int) - IntKind.wrap IntKind.i64 (a_2 + (1 : Int))) < Int.toNat ((↑(max (List.length a) (List.length b)) : Int) + (2 : Int) - a_2)))))))))))))))))
 ((((Dig (List.drop (0 : Nat) (List.take ((0 : Nat) + List.length l_1) l_1))) ∧ (List.length (List.drop (0 : Nat) (List.take ((0 : Nat) + List.length l_1) l_1)) ≤ (4294967296 : Nat))) ∧ (Q (SV.lst (LV.num (nv (List.drop (0 : Nat) (List.take ((0 : Nat) + List.length l_1) l_1))))))))))))))))))) := by kernel_rfl
def sAdd : SpecF := fspec (α := List Int × List Int × Unit) (β := Num) (fun a => some (Dg a.1 ∧ Dg a.2.1)) (fun a => ⟨nv a.1 + nv a.2.1⟩)

def iSub (a b : List Int) (i c : Int) (out : List Int) : Prop := 0 ≤ i ∧ i ≤ a.length ∧ 0 ≤ c ∧ c ≤ 1 ∧ Dig out ∧ (out.length : Int) = i ∧
  val out + val (b.take i.toNat) = val (a.take i.toNat) + 16777216 ^ i.toNat * c
def lSub : Plan := { loops := [(0, { β := List Int × List Int × Unit, α := OwnI × Int × Int × Unit, same := [0, 1], keep := [5, 6, 7], inv := fun b _ x => iSub b.1 b.2.1 x.2.2.1 x.2.1 x.1.l, meas := fun b x => (b.1.length - x.2.2.1).toNat })], forks := [(8, { β := List Int × List Int × Int × Unit, γ := OwnI × Int × Int × Unit, α := OwnI × Int × Int × Unit, same := [0, 1, 7], pre := [5, 6, 8], keep := [5, 6, 8], inv := fun b g x => x.1.l = g.1.l ∧ x.2.1 = g.2.1 ∧ x.2.2.1 = g.2.2.1 - b.2.1.getD b.2.2.1.toNat 0 }), (10, { β := List Int × List Int × Int × Unit, γ := OwnI × Int × Int × Unit, α := OwnI × Int × Int × Unit, same := [0, 1, 7], pre := [5, 6, 8], keep := [5, 6, 8], inv := fun _ g x => x.1.l = g.1.l ∧ x.2.1 = (if g.2.2.1 < 0 then 1 else 0) ∧ x.2.2.1 = (if g.2.2.1 < 0 then g.2.2.1 + 16777216 else g.2.2.1) })] }
theorem vcSub (a b : List Int) (Q : SV → Prop) : LnRaw tt spRT 3 [] lSub Tryz.f70 Q (a, b, ()) =
 ((((0 : Nat) = (0 : Nat)) ∧ ((0 : Nat) = List.length (List.replicate (0 : Nat) (0 : Int)))) ∧ ((iSub a b (0 : Int) (0 : Int) (List.replicate (0 : Nat) (0 : Int))) ∧ (∀ l : List Int, (∀ a_1 : Int, (∀ a_2 : Int, ((iSub a b a_2 a_1 l) → bcase (decide (a_2 < (↑(List.length a) : Int))) (((((0 : Int) ≤ a_2) ∧ (a_2 < (↑(List.length a) : Int))) ∧ ((((0 : Nat) = (0 : Nat)) ∧ (List.length l = List.length l)) ∧ (bcase (decide (a_2 < (↑(List.length b) : Int))) (((((0 : Int) ≤ a_2) ∧ (a_2 < (↑(List.length b) : Int))) ∧ ((((0 : Nat) = (0 : Nat)) ∧ (List.length l = List.length l)) ∧ (((a, b, a_2, ()) = (a, b, a_2, ())) ∧ ((l = l) ∧ (((0 : Int) = (0 : Int)) ∧ (IntKind.wrap IntKind.i64 (IntKind.wrap IntKind.i64 (List.getD a (Int.toNat a_2) (0 : Int) - a_1) - List.getD b (Int.toNat a_2) (0 : Int)) = IntKind.wrap IntKind.i64 (List.getD a (Int.toNat a_2) (0 : Int) - a_1) - List.getD b (Int.toNat a_2) (0 : Int)))))))) (((((0 : Nat) = (0 : Nat)) ∧ (List.length l = List.length l)) ∧
 (((a, b, a_2, ()) = (a, b, a_2, ())) ∧ ((l = l) ∧ (((0 : Int) = (0 : Int)) ∧ (IntKind.wrap IntKind.i64 (List.getD a (Int.toNat a_2) (0 : Int) - a_1) = IntKind.wrap IntKind.i64 (List.getD a (Int.toNat a_2) (0 : Int) - a_1) - List.getD b (Int.toNat a_2) (0 : Int))))))) ∧ (∀ l_1 : List Int, (∀ a_3 : Int, (∀ a_4 : Int, (((l_1 = l) ∧ ((a_3 = (0 : Int)) ∧ (a_4 = IntKind.wrap IntKind.i64 (List.getD a (Int.toNat a_2) (0 : Int) - a_1) - List.getD b (Int.toNat a_2) (0 : Int)))) → ((((0 : Nat) = (0 : Nat)) ∧ (List.length l_1 = List.length l_1)) ∧ (bcase (decide (a_4 < (0 : Int))) (((((0 : Nat) = (0 : Nat)) ∧ (List.length l_1 = List.length l_1)) ∧ (((a, b, a_2, ()) = (a, b, a_2, ())) ∧ ((l_1 = l_1) ∧ (((1 : Int) = if a_4 < (0 : Int) then (1 : Int) else (0 : Int)) ∧ (IntKind.wrap IntKind.i64 (a_4 + (16777216 : Int)) = if a_4 < (0 : Int) then a_4 + (16777216 : Int) else a_4)))))) (((((0 : Nat) = (0 : Nat)) ∧ (List.length l_1 = List.length l_1)) ∧ (((a, b, a_2, ()) = (a, b, a_2, ())) ∧ ((l_1 = l_1) ∧
 ((a_3 = if a_4 < (0 : Int) then (1 : Int) else (0 : Int)) ∧ (a_4 = if a_4 < (0 : Int) then a_4 + (16777216 : Int) else a_4)))))) ∧ (∀ l_2 : List Int, (∀ a_5 : Int, (∀ a_6 : Int, (((l_2 = l_1) ∧ ((a_5 = if a_4 < (0 : Int) then (1 : Int) else (0 : Int)) ∧ (a_6 = if a_4 < (0 : Int) then a_4 + (16777216 : Int) else a_4))) → ((((0 : Nat) + List.length l_2 = List.length l_2) ∧ (List.length (List.drop (0 : Nat) (List.take (List.length l_2) l_2) ++ List.drop (0 : Nat) (List.take ((0 : Nat) + (1 : Nat)) [a_6])) ≤ appLim)) ∧ ((((0 : Nat) = (0 : Nat)) ∧ (List.length (List.drop (0 : Nat) (List.take (List.length l_2) l_2) ++ List.drop (0 : Nat) (List.take ((0 : Nat) + (1 : Nat)) [a_6])) = List.length (List.drop (0 : Nat) (List.take (List.length l_2) l_2) ++ List.drop (0 : Nat) (List.take ((0 : Nat) + (1 : Nat)) [a_6])))) ∧ (((a, b, ()) = (a, b, ())) ∧ ((iSub a b (IntKind.wrap IntKind.i64 (a_2 + (1 : Int))) a_5 (List.drop (0 : Nat) (List.take (List.length l_2) l_2) ++
 List.drop (0 : Nat) (List.take ((0 : Nat) + (1 : Nat)) [a_6]))) ∧ (Int.toNat ((↑(List.length a) : Int) - IntKind.wrap IntKind.i64 (a_2 + (1 : Int))) < Int.toNat ((↑(List.length a) : Int) - a_2)))))))))))))))))))) ((((Dig (List.drop (0 : Nat) (List.take ((0 : Nat) + List.length l) l))) ∧ (List.length (List.drop (0 : Nat) (List.take ((0 : Nat) + List.length l) l)) ≤ (4294967296 : Nat))) ∧ (Q (SV.lst (LV.num (nv (List.drop (0 : Nat) (List.take ((0 : Nat) + List.length l) l)))))))))))))) := by kernel_rfl
def sSub : SpecF := fspec (α := List Int × List Int × Unit) (β := Num) (fun a => some (Dg a.1 ∧ Dg a.2.1 ∧ nv a.2.1 ≤ nv a.1)) (fun a => ⟨nv a.1 - nv a.2.1⟩)

def iMulA (a b : List Int) (i : Int) (out : List Int) : Prop := 0 ≤ i ∧ i ≤ a.length ∧ Dig out ∧ out.length = a.length + b.length + 1 ∧ (∀ k, i.toNat + b.length ≤ k → out.getD k 0 = 0) ∧ val out = val (a.take i.toNat) * val b
def iMulB (a b : List Int) (i : Int) (out0 : List Int) (c j : Int) (out : List Int) : Prop := 0 ≤ j ∧ j ≤ b.length ∧ 0 ≤ c ∧ c < 16777216 ∧ Dig out ∧ out.length = a.length + b.length + 1 ∧ (∀ k, i.toNat + b.length ≤ k → out.getD k 0 = 0) ∧
  val out + 16777216 ^ (i.toNat + j.toNat) * c = val out0 + 16777216 ^ i.toNat * (a.getD i.toNat 0 * val (b.take j.toNat))
def lMul : Plan := { loops := [(0, { β := List Int × List Int × Unit, α := OwnI × Int × Unit, same := [0, 1], keep := [5, 6], inv := fun b _ x => iMulA b.1 b.2.1 x.2.1 x.1.l, meas := fun b x => (b.1.length - x.2.1).toNat }), (2, { β := List Int × List Int × Int × Unit, α := OwnI × Int × Int × Unit, same := [0, 1, 6], keep := [5, 7, 8], inv := fun b x0 x => iMulB b.1 b.2.1 b.2.2.1 x0.1.l x.2.1 x.2.2.1 x.1.l, meas := fun b x => (b.2.1.length - x.2.2.1).toNat })] }
theorem vcMul (a b : List Int) (Q : SV → Prop) : LnRaw tt spRT 3 [] lMul Tryz.f74 Q (a, b, ()) =
 ((((0 : Int) ≤ IntKind.wrap IntKind.i64 (IntKind.wrap IntKind.i64 ((↑(List.length a) : Int) + (↑(List.length b) : Int)) + (1 : Int))) ∧ ((IntKind.wrap IntKind.i64 (IntKind.wrap IntKind.i64 ((↑(List.length a) : Int) + (↑(List.length b) : Int)) + (1 : Int)) = IntKind.wrap IntKind.i64 (IntKind.wrap IntKind.i64 ((↑(List.length a) : Int) + (↑(List.length b) : Int)) + (1 : Int))) ∧ (IntKind.wrap IntKind.i64 (IntKind.wrap IntKind.i64 ((↑(List.length a) : Int) + (↑(List.length b) : Int)) + (1 : Int)) ≤ (1099511627776 : Int)))) ∧ ((((0 : Nat) = (0 : Nat)) ∧ (Int.toNat (IntKind.wrap IntKind.i64 (IntKind.wrap IntKind.i64 ((↑(List.length a) : Int) + (↑(List.length b) : Int)) + (1 : Int))) = List.length (List.replicate (Int.toNat (IntKind.wrap IntKind.i64 (IntKind.wrap IntKind.i64 ((↑(List.length a) : Int) + (↑(List.length b) : Int)) + (1 : Int)))) (0 : Int)))) ∧ ((iMulA a b (0 : Int) (List.replicate (Int.toNat (IntKind.wrap IntKind.i64
 (IntKind.wrap IntKind.i64 ((↑(List.length a) : Int) + (↑(List.length b) : Int)) + (1 : Int)))) (0 : Int))) ∧ (∀ l : List Int, (∀ a_1 : Int, ((iMulA a b a_1 l) → bcase (decide (a_1 < (↑(List.length a) : Int))) (((((0 : Nat) = (0 : Nat)) ∧ (List.length l = List.length l)) ∧ ((iMulB a b a_1 l (0 : Int) (0 : Int) l) ∧ (∀ l_1 : List Int, (∀ a_2 : Int, (∀ a_3 : Int, ((iMulB a b a_1 l a_2 a_3 l_1) → bcase (decide (a_3 < (↑(List.length b) : Int))) (((((0 : Int) ≤ IntKind.wrap IntKind.i64 (a_1 + a_3)) ∧ (IntKind.wrap IntKind.i64 (a_1 + a_3) < (↑(List.length l_1) : Int))) ∧ ((((0 : Int) ≤ a_1) ∧ (a_1 < (↑(List.length a) : Int))) ∧ ((((0 : Int) ≤ a_3) ∧ (a_3 < (↑(List.length b) : Int))) ∧ ((((0 : Int) ≤ IntKind.wrap IntKind.i64 (a_1 + a_3)) ∧ (IntKind.wrap IntKind.i64 (a_1 + a_3) < (↑(List.length l_1) : Int))) ∧ ((((0 : Nat) = (0 : Nat)) ∧ (List.length l_1 = List.length (List.set l_1 ((0 : Nat) + Int.toNat (IntKind.wrap IntKind.i64 (a_1 + a_3))) (Int.tmod (IntKind.wrap IntKind.i64
 (IntKind.wrap IntKind.i64 (a_2 + List.getD l_1 ((0 : Nat) + Int.toNat (IntKind.wrap IntKind.i64 (a_1 + a_3))) (0 : Int)) + IntKind.wrap IntKind.i64 (List.getD a (Int.toNat a_1) (0 : Int) * List.getD b (Int.toNat a_3) (0 : Int)))) (16777216 : Int))))) ∧ (((a, b, a_1, ()) = (a, b, a_1, ())) ∧ ((iMulB a b a_1 l (IntKind.wrap IntKind.i64 (Int.tdiv (IntKind.wrap IntKind.i64 (IntKind.wrap IntKind.i64 (a_2 + List.getD l_1 ((0 : Nat) + Int.toNat (IntKind.wrap IntKind.i64 (a_1 + a_3))) (0 : Int)) + IntKind.wrap IntKind.i64 (List.getD a (Int.toNat a_1) (0 : Int) * List.getD b (Int.toNat a_3) (0 : Int)))) (16777216 : Int))) (IntKind.wrap IntKind.i64 (a_3 + (1 : Int))) (List.set l_1 ((0 : Nat) + Int.toNat (IntKind.wrap IntKind.i64 (a_1 + a_3))) (Int.tmod (IntKind.wrap IntKind.i64 (IntKind.wrap IntKind.i64 (a_2 + List.getD l_1 ((0 : Nat) + Int.toNat (IntKind.wrap IntKind.i64 (a_1 + a_3))) (0 : Int)) +
 IntKind.wrap IntKind.i64 (List.getD a (Int.toNat a_1) (0 : Int) * List.getD b (Int.toNat a_3) (0 : Int)))) (16777216 : Int)))) ∧ (Int.toNat ((↑(List.length b) : Int) - IntKind.wrap IntKind.i64 (a_3 + (1 : Int))) < Int.toNat ((↑(List.length b) : Int) - a_3)))))))))) (((((0 : Int) ≤ IntKind.wrap IntKind.i64 (a_1 + (↑(List.length b) : Int))) ∧ (IntKind.wrap IntKind.i64 (a_1 + (↑(List.length b) : Int)) < (↑(List.length l_1) : Int))) ∧ ((((0 : Int) ≤ IntKind.wrap IntKind.i64 (a_1 + (↑(List.length b) : Int))) ∧ (IntKind.wrap IntKind.i64 (a_1 + (↑(List.length b) : Int)) < (↑(List.length l_1) : Int))) ∧ ((((0 : Nat) = (0 : Nat)) ∧ (List.length l_1 = List.length (List.set l_1 ((0 : Nat) + Int.toNat (IntKind.wrap IntKind.i64 (a_1 + (↑(List.length b) : Int)))) (IntKind.wrap IntKind.i64 (List.getD l_1 ((0 : Nat) + Int.toNat (IntKind.wrap IntKind.i64 (a_1 + (↑(List.length b) : Int)))) (0 : Int) + a_2))))) ∧ (((a, b, ()) = (a, b, ())) ∧ ((iMulA a b (IntKind.wrap IntKind.i64 (a_1 + (1 : Int)))
 (List.set l_1 ((0 : Nat) + Int.toNat (IntKind.wrap IntKind.i64 (a_1 + (↑(List.length b) : Int)))) (IntKind.wrap IntKind.i64 (List.getD l_1 ((0 : Nat) + Int.toNat (IntKind.wrap IntKind.i64 (a_1 + (↑(List.length b) : Int)))) (0 : Int) + a_2)))) ∧ (Int.toNat ((↑(List.length a) : Int) - IntKind.wrap IntKind.i64 (a_1 + (1 : Int))) < Int.toNat ((↑(List.length a) : Int) - a_1))))))))))))))) ((((Dig (List.drop (0 : Nat) (List.take ((0 : Nat) + List.length l) l))) ∧ (List.length (List.drop (0 : Nat) (List.take ((0 : Nat) + List.length l) l)) ≤ (4294967296 : Nat))) ∧ (Q (SV.lst (LV.num (nv (List.drop (0 : Nat) (List.take ((0 : Nat) + List.length l) l)))))))))))))) := by kernel_rfl
def sMul' : SpecF := fspec (α := List Int × List Int × Unit) (β := Num) (fun a => some (Dg a.1 ∧ Dg a.2.1)) (fun a => ⟨nv a.1 * nv a.2.1⟩)
def spRM : Specs := (74, sMul') :: (24, sInt) :: spRT

theorem vcSmall (a : List Int) (n : Int) (Q : SV → Prop) : LnRaw tt spRM 3 [] {} Tryz.f68 Q (a, n, ()) =
 ((((0 : Int) ≤ n) ∧ (n < (9223372036854775808 : Int))) ∧ (((Dg a) ∧ (Dg (dg (Int.toNat n)))) ∧ (Q (SV.lst (LV.num (nv a * nv (dg (Int.toNat n)))))))) := by kernel_rfl
def sSmall : SpecF := fspec (α := List Int × Int × Unit) (β := Num) (fun a => some (Dg a.1 ∧ 0 ≤ a.2.1 ∧ a.2.1 < 9223372036854775808)) (fun a => ⟨nv a.1 * a.2.1.toNat⟩)

def iPow2 (n i x : Int) : Prop := 0 ≤ i ∧ i ≤ n ∧ x = 2 ^ i.toNat
def lPow2 : Plan := { loops := [(0, { β := Int × Unit, α := Int × Int × Unit, same := [0], keep := [3, 4], inv := fun b _ x => iPow2 b.1 x.2.1 x.1, meas := fun b x => (b.1 - x.2.1).toNat })] }
theorem vcPow2 (n : Int) (Q : SV → Prop) : LnRaw tt [] 3 [] lPow2 Tryz.f71 Q (n, ()) =
 ((iPow2 n (0 : Int) (1 : Int)) ∧ (∀ a : Int, (∀ a_1 : Int, ((iPow2 n a_1 a) → bcase (decide (a_1 < n)) ((((n, ()) = (n, ())) ∧ ((iPow2 n (IntKind.wrap IntKind.i64 (a_1 + (1 : Int))) (IntKind.wrap IntKind.i64 ((2 : Int) * a))) ∧ (Int.toNat (n - IntKind.wrap IntKind.i64 (a_1 + (1 : Int))) < Int.toNat (n - a_1))))) ((Q (SV.i64 a))))))) := by kernel_rfl
def sPow2 : SpecF := fspec (α := Int × Unit) (β := Int) (fun a => some (0 ≤ a.1 ∧ a.1 ≤ 62)) (fun a => 2 ^ a.1.toNat)

def spRS : Specs := (68, sSmall) :: (71, sPow2) :: spRM
theorem vcShift (a : List Int) (n : Int) (Q : SV → Prop) : LnRaw tt spRS 3 [] {} Tryz.f95 Q (a, n, ()) =
 bcase ((↑(List.length a) : Int) == (0 : Int)) ((Q (SV.val (Value.slice none (0 : Nat) (0 : Nat))))) (((((0 : Int) ≤ IntKind.wrap IntKind.i64 (Int.tdiv n (24 : Int))) ∧ ((IntKind.wrap IntKind.i64 (Int.tdiv n (24 : Int)) = IntKind.wrap IntKind.i64 (Int.tdiv n (24 : Int))) ∧ (IntKind.wrap IntKind.i64 (Int.tdiv n (24 : Int)) ≤ (1099511627776 : Int)))) ∧ ((((0 : Nat) + Int.toNat (IntKind.wrap IntKind.i64 (Int.tdiv n (24 : Int))) = List.length (List.replicate (Int.toNat (IntKind.wrap IntKind.i64 (Int.tdiv n (24 : Int)))) (0 : Int))) ∧ (List.length (List.drop (0 : Nat) (List.take (List.length (List.replicate (Int.toNat (IntKind.wrap IntKind.i64 (Int.tdiv n (24 : Int)))) (0 : Int))) (List.replicate (Int.toNat (IntKind.wrap IntKind.i64 (Int.tdiv n (24 : Int)))) (0 : Int))) ++ a) ≤ appLim)) ∧ ((((0 : Int) ≤ Int.tmod n (24 : Int)) ∧ (Int.tmod n (24 : Int) ≤ (62 : Int))) ∧ (((Dg (List.drop (0 : Nat) (List.take ((0 : Nat) + List.length (List.drop (0 : Nat) (List.take
 (List.length (List.replicate (Int.toNat (IntKind.wrap IntKind.i64 (Int.tdiv n (24 : Int)))) (0 : Int))) (List.replicate (Int.toNat (IntKind.wrap IntKind.i64 (Int.tdiv n (24 : Int)))) (0 : Int))) ++ a)) (List.drop (0 : Nat) (List.take (List.length (List.replicate (Int.toNat (IntKind.wrap IntKind.i64 (Int.tdiv n (24 : Int)))) (0 : Int))) (List.replicate (Int.toNat (IntKind.wrap IntKind.i64 (Int.tdiv n (24 : Int)))) (0 : Int))) ++ a)))) ∧ (((0 : Int) ≤ (2 : Int) ^ Int.toNat (Int.tmod n (24 : Int))) ∧ ((2 : Int) ^ Int.toNat (Int.tmod n (24 : Int)) < (9223372036854775808 : Int)))) ∧ (Q (SV.lst (LV.num (nv (List.drop (0 : Nat) (List.take ((0 : Nat) + List.length (List.drop (0 : Nat) (List.take (List.length (List.replicate (Int.toNat (IntKind.wrap IntKind.i64 (Int.tdiv n (24 : Int)))) (0 : Int))) (List.replicate (Int.toNat (IntKind.wrap IntKind.i64 (Int.tdiv n (24 : Int)))) (0 : Int))) ++ a)) (List.drop (0 : Nat) (List.take (List.length
 (List.replicate (Int.toNat (IntKind.wrap IntKind.i64 (Int.tdiv n (24 : Int)))) (0 : Int))) (List.replicate (Int.toNat (IntKind.wrap IntKind.i64 (Int.tdiv n (24 : Int)))) (0 : Int))) ++ a))) * Int.toNat ((2 : Int) ^ Int.toNat (Int.tmod n (24 : Int)))))))))))) := by kernel_rfl
def sShift : SpecF := fspec (α := List Int × Int × Unit) (β := Num) (fun a => some (Dig a.1 ∧ a.1.length ≤ 536870912 ∧ 0 ≤ a.2.1 ∧ a.2.1 ≤ 1073741824)) (fun a => ⟨nv a.1 * 2 ^ a.2.1.toNat⟩)
def spRP : Specs := (95, sShift) :: spRS
theorem vcPower (n : Int) (Q : SV → Prop) : LnRaw tt spRP 3 [] {} Tryz.f69 Q (n, ()) =
 (((Dig (List.drop (0 : Nat) (List.take ((0 : Nat) + (1 : Nat)) [(1 : Int)]))) ∧ ((List.length (List.drop (0 : Nat) (List.take ((0 : Nat) + (1 : Nat)) [(1 : Int)])) ≤ (536870912 : Nat)) ∧ (((0 : Int) ≤ n) ∧ (n ≤ (1073741824 : Int))))) ∧ (Q (SV.lst (LV.num (nv (List.drop (0 : Nat) (List.take ((0 : Nat) + (1 : Nat)) [(1 : Int)])) * (2 : Nat) ^ Int.toNat n))))) := by kernel_rfl
def sPower : SpecF := fspec (α := Int × Unit) (β := Num) (fun a => some (0 ≤ a.1 ∧ a.1 ≤ 1073741824)) (fun a => ⟨2 ^ a.1.toNat⟩)

def iCmp (a b : List Int) (i : Int) : Prop := -1 ≤ i ∧ i < a.length ∧ a.length = b.length ∧ a.drop (i + 1).toNat = b.drop (i + 1).toNat
def lCmp : Plan := { loops := [(0, { β := List Int × List Int × Unit, α := Int × Unit, same := [0, 1], keep := [5], inv := fun b _ x => iCmp b.1 b.2.1 x.1, meas := fun _ x => (x.1 + 1).toNat })] }
theorem vcCmp (a b : List Int) (Q : SV → Prop) : LnRaw tt [] 3 [] lCmp Tryz.f77 Q (a, b, ()) =
 bcase (decide ((↑(List.length a) : Int) < (↑(List.length b) : Int))) ((Q (SV.i64 (-1 : Int)))) (bcase (decide ((↑(List.length a) : Int) > (↑(List.length b) : Int))) ((Q (SV.i64 (1 : Int)))) (((iCmp a b (IntKind.wrap IntKind.i64 ((↑(List.length a) : Int) - (1 : Int)))) ∧ (∀ a_1 : Int, ((iCmp a b a_1) → bcase (decide (a_1 ≥ (0 : Int))) (((((0 : Int) ≤ a_1) ∧ (a_1 < (↑(List.length a) : Int))) ∧ ((((0 : Int) ≤ a_1) ∧ (a_1 < (↑(List.length b) : Int))) ∧ bcase (decide (List.getD a (Int.toNat a_1) (0 : Int) < List.getD b (Int.toNat a_1) (0 : Int))) ((Q (SV.i64 (-1 : Int)))) (((((0 : Int) ≤ a_1) ∧ (a_1 < (↑(List.length a) : Int))) ∧ ((((0 : Int) ≤ a_1) ∧ (a_1 < (↑(List.length b) : Int))) ∧ bcase (decide (List.getD a (Int.toNat a_1) (0 : Int) > List.getD b (Int.toNat a_1) (0 : Int))) ((Q (SV.i64 (1 : Int)))) ((((a, b, ()) = (a, b, ())) ∧ ((iCmp a b (IntKind.wrap IntKind.i64 (a_1 - (1 : Int)))) ∧
 (Int.toNat (IntKind.wrap IntKind.i64 (a_1 - (1 : Int)) + (1 : Int)) < Int.toNat (a_1 + (1 : Int)))))))))))) ((Q (SV.i64 (0 : Int))))))))) := by kernel_rfl
def cmpN (x y : Nat) : Int := if x < y then -1 else if y < x then 1 else 0
def sCmp : SpecF := fspec (α := List Int × List Int × Unit) (β := Int) (fun a => some (Can a.1 ∧ Can a.2.1)) (fun a => cmpN (nv a.1) (nv a.2.1))

theorem vcBit (a : List Int) (i : Int) (Q : SV → Prop) : LnRaw tt spRS 3 [] {} Tryz.f33 Q (a, i, ()) =
 bcase (decide (i < (0 : Int))) ((Q (SV.i64 (0 : Int)))) (bcase (decide (IntKind.wrap IntKind.i64 (Int.tdiv i (24 : Int)) ≥ (↑(List.length a) : Int))) ((Q (SV.i64 (0 : Int)))) (((((0 : Int) ≤ IntKind.wrap IntKind.i64 (Int.tdiv i (24 : Int))) ∧ (IntKind.wrap IntKind.i64 (Int.tdiv i (24 : Int)) < (↑(List.length a) : Int))) ∧ ((((0 : Int) ≤ Int.tmod i (24 : Int)) ∧ (Int.tmod i (24 : Int) ≤ (62 : Int))) ∧ (((2 : Int) ^ Int.toNat (Int.tmod i (24 : Int)) ≠ (0 : Int)) ∧ (Q (SV.i64 (Int.tmod (IntKind.wrap IntKind.i64 (Int.tdiv (List.getD a (Int.toNat (IntKind.wrap IntKind.i64 (Int.tdiv i (24 : Int)))) (0 : Int)) ((2 : Int) ^ Int.toNat (Int.tmod i (24 : Int))))) (2 : Int))))))))) := by kernel_rfl
def sBit : SpecF := fspec (α := List Int × Int × Unit) (β := Int) (fun a => some (Dg a.1 ∧ 0 ≤ a.2.1 ∧ a.2.1 ≤ 1073741824)) (fun a => ((nv a.1 / 2 ^ a.2.1.toNat % 2 : Nat) : Int))

def iBits (a : List Int) (n x : Int) : Prop := ∃ k : Nat, k ≤ 24 ∧ x = (((a.getD (a.length - 1) 0).toNat / 2 ^ k : Nat) : Int) ∧ n = 24 * ((a.length : Int) - 1) + k ∧ (0 < k → (a.getD (a.length - 1) 0).toNat / 2 ^ (k - 1) ≠ 0)
def lBits : Plan := { loops := [(0, { β := List Int × Unit, α := Int × Int × Unit, same := [0], keep := [3, 4], inv := fun b _ x => iBits b.1 x.1 x.2.1, meas := fun _ x => x.2.1.toNat })] }
theorem vcBits (a : List Int) (Q : SV → Prop) : LnRaw tt [] 3 [] lBits Tryz.f99 Q (a, ()) =
 bcase ((↑(List.length a) : Int) == (0 : Int)) ((Q (SV.i64 (0 : Int)))) (((((0 : Int) ≤ IntKind.wrap IntKind.i64 ((↑(List.length a) : Int) - (1 : Int))) ∧ (IntKind.wrap IntKind.i64 ((↑(List.length a) : Int) - (1 : Int)) < (↑(List.length a) : Int))) ∧ ((iBits a (IntKind.wrap IntKind.i64 ((24 : Int) * IntKind.wrap IntKind.i64 ((↑(List.length a) : Int) - (1 : Int)))) (List.getD a (Int.toNat (IntKind.wrap IntKind.i64 ((↑(List.length a) : Int) - (1 : Int)))) (0 : Int))) ∧ (∀ a_1 : Int, (∀ a_2 : Int, ((iBits a a_1 a_2) → bcase (decide (a_2 > (0 : Int))) ((((a, ()) = (a, ())) ∧ ((iBits a (IntKind.wrap IntKind.i64 (a_1 + (1 : Int))) (IntKind.wrap IntKind.i64 (Int.tdiv a_2 (2 : Int)))) ∧ (Int.toNat (IntKind.wrap IntKind.i64 (Int.tdiv a_2 (2 : Int))) < Int.toNat a_2)))) ((Q (SV.i64 a_1))))))))) := by kernel_rfl
def bitsN (n : Nat) : Nat := if n = 0 then 0 else Nat.log2 n + 1
def sBits : SpecF := fspec (α := List Int × Unit) (β := Int) (fun a => some (Can a.1)) (fun a => bitsN (nv a.1))
end Go.Proofs.YtficbeeoafiiaaaGreatDoor.R1
/- Plain facts that the reference's functions on digits need. -/
set_option maxRecDepth 10000
namespace Go.Proofs.YtficbeeoafiiaaaGreatDoor.R1
open Go.Sym Go.Dig

theorem bcase_iff {b : Bool} {x y : Prop} : bcase b x y ↔ (b = true → x) ∧ (b = false → y) := by cases b <;> simp [bcase]
theorem bcase_dec {p : Prop} [Decidable p] {x y : Prop} : bcase (decide p) x y ↔ (p → x) ∧ (¬ p → y) := by rw [bcase_iff]; simp
theorem wr {x : Int} (h : -9223372036854775808 ≤ x ∧ x < 9223372036854775808) : IntKind.wrap .i64 x = x := wrap_i64_id h.1 h.2
theorem nv_dg (n : Nat) : nv (dg n) = n := by simp [nv, val_dg]
theorem nv_val {l : List Int} (h : Dig l) : (nv l : Int) = val l := by have := val_nonneg h; simp only [nv]; omega
theorem nv_nil : nv [] = 0 := rfl
theorem dg_nv {l : List Int} (h : Dig l) (hl : ∀ d, l.getLast? = some d → d ≠ 0) : dg (nv l) = l := dg_val_cons h hl
theorem dig_dg (n : Nat) : Dig (Dig.dg n) := Go.Dig.Dig.dg n
theorem Dg.dg {n : Nat} (h : (Dig.dg n).length ≤ 1073741824) : Dg (Dig.dg n) := ⟨dig_dg n, h⟩
theorem Can.dg {n : Nat} (h : (dg n).length ≤ 1073741824) : Can (dg n) := ⟨by rw [nv_dg], h⟩
theorem Can.dig {l : List Int} (h : Can l) : Dig l := by rw [h.1]; exact dig_dg _
theorem getD_dig {l : List Int} (h : Dig l) (i : Nat) : 0 ≤ l.getD i 0 ∧ l.getD i 0 < 16777216 := by
  rw [List.getD_eq_getElem?_getD]
  by_cases hi : i < l.length
  · rw [List.getElem?_eq_getElem hi]; exact h.get i hi
  · rw [List.getElem?_eq_none (by omega)]; simp
theorem getD_lt {l : List Int} {i : Nat} (hi : i < l.length) : l.getD i 0 = l[i] := by
  rw [List.getD_eq_getElem?_getD, List.getElem?_eq_getElem hi]; rfl
theorem getD_ge {l : List Int} {i : Nat} (hi : l.length ≤ i) : l.getD i 0 = 0 := by
  rw [List.getD_eq_getElem?_getD, List.getElem?_eq_none hi]; rfl
/-- One digit more, whether it is there or not. -/
theorem val_take_getD (l : List Int) (i : Nat) : val (l.take (i + 1)) = val (l.take i) + 16777216 ^ i * l.getD i 0 := by
  by_cases hi : i < l.length
  · rw [val_take_succ l i hi, getD_lt hi]
  · rw [List.take_of_length_le (by omega), List.take_of_length_le (by omega), getD_ge (by omega)]; omega
theorem take_cut (l : List Int) (n : Int) : List.drop (Int.toNat 0) (l.take n.toNat) = l.take n.toNat := by simp
theorem tdiv_nn {x : Int} (h : 0 ≤ x) (d : Int) : Int.tdiv x d = x / d := Int.tdiv_eq_ediv_of_nonneg h
theorem tmod_nn {x : Int} (h : 0 ≤ x) (d : Int) : Int.tmod x d = x % d := Int.tmod_eq_emod_of_nonneg h

theorem ok_Trim : SpecOK Tryz.prog 96 sTrim := by
  refine fn_okL (by kernel_rfl) tt_ok (SpecsOK.nil _) 3 Tryz.func96 (by decide +kernel) (by kernel_rfl) ?_
  rintro ⟨a, _⟩ ⟨hd, hl⟩
  simp only at hd hl
  refine ⟨[], lTrim, isNum (nv a), LnVD.of (vcTrim a _) ?_, fun x h at_ w v r => isNum_ok h r⟩
  have done : ∀ n : Int, iTrim a n → (n ≤ 0 ∨ a.getD (n - 1).toNat 0 ≠ 0) → isNum (nv a) (.lst (.ints (List.drop (Int.toNat 0) (List.take n.toNat a)))) := by
    intro n ⟨h0, h1, h2⟩ h3
    right; left
    rw [take_cut a n]
    have e : nv a = nv (a.take n.toNat) := by simp only [nv, h2]
    rw [e, dg_nv (hd.take _)]
    intro d hd'
    rcases h3 with h3 | h3
    · have : n.toNat = 0 := by omega
      rw [this] at hd'; simp at hd'
    · rw [List.getLast?_take] at hd'
      split at hd'
      · cases hd'
      · rename_i hn
        have hlt : n.toNat - 1 < a.length := by omega
        rw [List.getElem?_eq_getElem hlt] at hd'
        simp only [Option.some_or, Option.some.injEq] at hd'
        rw [getD_lt (by omega)] at h3
        have : (n - 1).toNat = n.toNat - 1 := by omega
        simp only [this] at h3
        rw [← hd']; exact h3
  refine ⟨⟨by omega, by omega, by simp⟩, fun n hI => ?_⟩
  have hI' := hI
  obtain ⟨h0, h1, h2⟩ := hI
  rw [bcase_dec]
  refine ⟨fun hn => ?_, fun hn => ⟨⟨by omega, by omega, by omega⟩, done n hI' (.inl (by omega))⟩⟩
  rw [wr (by omega)]
  refine ⟨⟨by omega, by omega⟩, ?_⟩
  rw [bcase_iff]
  refine ⟨fun hz => ⟨rfl, ⟨by omega, by omega, ?_⟩, by omega⟩, fun hz => ⟨⟨by omega, by omega, by omega⟩, done n hI' (.inr (by simpa using hz))⟩⟩
  have e : n.toNat = (n - 1).toNat + 1 := by omega
  rw [e, val_take_getD] at h2
  have hz : a.getD (n - 1).toNat 0 = 0 := by simpa using hz
  rw [hz] at h2
  omega

end Go.Proofs.YtficbeeoafiiaaaGreatDoor.R1
/- The reference's functions on digits (1): what they say is so. -/
set_option maxRecDepth 10000
namespace Go.Proofs.YtficbeeoafiiaaaGreatDoor.R1
open Go.Sym Go.Dig

theorem app_one {α : Type} (l : List α) (x : α) : List.drop 0 (List.take l.length l) ++ List.drop 0 (List.take (0 + 1) [x]) = l ++ [x] := by simp
theorem whole {α : Type} (l : List α) : List.drop 0 (List.take (0 + l.length) l) = l := by simp
theorem dg_len_i64 {n : Int} (h : n < 9223372036854775808) : (dg n.toNat).length ≤ 3 := dg_length_lt (by omega)

theorem ok_Int : SpecOK Tryz.prog 24 sInt := by
  refine fn_okL (by kernel_rfl) tt_ok (SpecsOK.nil _) 3 Tryz.func24 (by decide +kernel) (by kernel_rfl) ?_
  rintro ⟨n, _⟩ ⟨h0, h1⟩
  simp only at h0 h1
  refine ⟨[], lInt, isNum n.toNat, LnVD.of (vcInt n _) ?_, fun x h at_ w v r => isNum_ok h r⟩
  refine ⟨⟨rfl, rfl⟩, ⟨h0, by omega, h1, by simp⟩, fun m l ⟨i0, i1, i2, i3⟩ => ?_⟩
  simp only [app_one, whole]
  rw [bcase_dec]
  have hlen := dg_len_i64 h1
  refine ⟨fun hm => ?_, fun hm => ?_⟩
  · rw [tdiv_nn i0, tmod_nn i0, wr (by omega)]
    have e : dg m.toNat = (m % 16777216) :: dg (m / 16777216).toNat := by
      rw [dg_pos (by omega)]
      congr 1
      · omega
      · congr 1; omega
    have i4 : l ++ [m % 16777216] ++ dg (m / 16777216).toNat = dg n.toNat := by
      rw [← i3, e, List.append_assoc]; rfl
    refine ⟨⟨by omega, ?_⟩, ⟨trivial, trivial⟩, trivial, ⟨by omega, by omega, i2, i4⟩, by omega⟩
    rw [← i4, List.length_append] at hlen
    unfold appLim; omega
  · right; left
    have : m = 0 := by omega
    subst this
    simp only [Int.toNat_zero, dg_zero, List.append_nil] at i3
    rw [i3]

theorem add_step {B c x y : Int} (hB : B = 16777216) (hc : 0 ≤ c ∧ c ≤ 1) (hx : 0 ≤ x ∧ x < B) (hy : 0 ≤ y ∧ y < B) : 0 ≤ (c + x + y) / B ∧ (c + x + y) / B ≤ 1 ∧ 0 ≤ (c + x + y) % B ∧ (c + x + y) % B < B ∧ (c + x + y) % B + B * ((c + x + y) / B) = c + x + y := by
  subst hB; omega
theorem ok_Add : SpecOK Tryz.prog 67 sAdd := by
  refine fn_okL (by kernel_rfl) tt_ok (.cons ok_Trim (.nil _)) 3 Tryz.func67 (by decide +kernel) (by kernel_rfl) ?_
  rintro ⟨a, b, _⟩ ⟨⟨ha, hla⟩, hb, hlb⟩
  simp only at ha hla hb hlb
  refine ⟨[], lAdd, isNum (nv a + nv b), LnVD.of (vcAdd a b _) ?_, fun x h at_ w v r => isNum_ok h r⟩
  refine ⟨⟨rfl, rfl⟩, ⟨by omega, by omega, by omega, by omega, fun _ => rfl, Dig.nil, rfl, by simp [val]⟩, fun out c i ⟨i0, i1, c0, c1, ic, hd, hl, hv⟩ => ⟨⟨rfl, rfl⟩, ?_, ?_⟩⟩
  · simp only [bcase_dec, true_and, and_true]
    refine ⟨fun h => by simp [h], fun h => ⟨fun h2 => by simp [h2], fun h2 => by simp [h, h2]⟩⟩
  · rintro l1 t ⟨rfl, rfl⟩
    rw [bcase_iff]
    have da := getD_dig ha i.toNat
    have db := getD_dig hb i.toNat
    refine ⟨fun ht => ⟨⟨rfl, rfl⟩, ?_, ?_⟩, fun ht => ?_⟩
    · simp only [bcase_dec, true_and, and_true]
      refine ⟨fun h => ⟨⟨by omega, h⟩, wr (by omega)⟩, fun h => ?_⟩
      rw [getD_ge (by omega)]; omega
    · rintro l2 c2 ⟨rfl, rfl⟩
      refine ⟨⟨rfl, rfl⟩, ?_, ?_⟩
      · simp only [bcase_dec, true_and, and_true]
        refine ⟨fun h => ⟨⟨by omega, h⟩, wr (by omega)⟩, fun h => ?_⟩
        rw [getD_ge (l := b) (by omega)]; omega
      · rintro l3 c3 ⟨rfl, rfl⟩
        simp only [app_one]
        obtain ⟨s1, s2, s3, s4, s5⟩ := add_step rfl ⟨c0, c1⟩ da db
        have hi1 : i ≤ (max a.length b.length : Nat) := by
          by_cases e : i = (max a.length b.length : Nat) + 1
          · have := ic e
            subst this
            simp at ht; omega
          · omega
        rw [tdiv_nn (by omega), tmod_nn (by omega), wr (x := _ / _) (by omega), wr (x := i + 1) (by omega)]
        refine ⟨⟨by omega, by simp [appLim]; omega⟩, ⟨trivial, trivial⟩, trivial, ⟨by omega, by omega, s1, s2, fun e => ?_, hd.append (Dig.cons s3 s4 Dig.nil), by simp; omega, ?_⟩, by omega⟩
        · have e1 : a.getD i.toNat 0 = 0 := getD_ge (by omega)
          have e2 : b.getD i.toNat 0 = 0 := getD_ge (by omega)
          rw [e1, e2]; omega
        · have e : (i + 1).toNat = i.toNat + 1 := by omega
          have el : l3.length = i.toNat := by omega
          rw [e, val_snoc, val_take_getD, val_take_getD, el, Int.pow_succ]
          generalize (16777216 : Int) ^ i.toNat = p at *
          obtain ⟨s, hs⟩ : ∃ s, s = c + a.getD i.toNat 0 + b.getD i.toNat 0 := ⟨_, rfl⟩
          rw [← hs] at s1 s2 s3 s4 s5 ⊢
          have : p * (s % 16777216) + p * 16777216 * (s / 16777216) = p * s := by rw [Int.mul_assoc, ← Int.mul_add, s5]
          have h2 : p * s = p * c + p * a.getD i.toNat 0 + p * b.getD i.toNat 0 := by
            rw [hs, Int.mul_add, Int.mul_add]
          omega
    · simp only [whole]
      simp at ht
      have e1 : a.take i.toNat = a := List.take_of_length_le (by omega)
      have e2 : b.take i.toNat = b := List.take_of_length_le (by omega)
      have e3 : c = 0 := by omega
      subst e3
      rw [e1, e2] at hv
      refine ⟨⟨hd, by omega⟩, .inl ?_⟩
      have := nv_val hd; have := nv_val ha; have := nv_val hb
      congr 3
      omega

end Go.Proofs.YtficbeeoafiiaaaGreatDoor.R1
/- The reference's functions on digits (2): what they say is so. -/
set_option maxRecDepth 10000
namespace Go.Proofs.YtficbeeoafiiaaaGreatDoor.R1
open Go.Sym Go.Dig

theorem val_set : ∀ (l : List Int) (k : Nat) (x : Int), k < l.length → val (l.set k x) = val l + 16777216 ^ k * (x - l.getD k 0)
  | [], k, x, h => by simp at h
  | d :: l, 0, x, _ => by simp [val]; omega
  | d :: l, k + 1, x, h => by
    have := val_set l k x (by simpa using h)
    simp only [List.set_cons_succ, val, this, List.getD_cons_succ, Int.pow_succ]
    generalize (16777216 : Int) ^ k = p
    generalize x - l.getD k 0 = q
    rw [Int.mul_add, Int.mul_comm p 16777216, Int.mul_assoc]
    omega
theorem Dig.set {l : List Int} (h : Dig l) (k : Nat) {x : Int} (hx : 0 ≤ x ∧ x < 16777216) : Dig (l.set k x) := fun d hd => by
  rcases List.mem_or_eq_of_mem_set hd with hd | rfl
  · exact h d hd
  · exact hx
theorem getD_set (l : List Int) (k j : Nat) (x : Int) (h : j ≠ k) : (l.set k x).getD j 0 = l.getD j 0 := by
  simp only [List.getD_eq_getElem?_getD, List.getElem?_set_ne (Ne.symm h)]
theorem val_cut (l : List Int) (n : Nat) : val l = val (l.take n) + 16777216 ^ n * val (l.drop n) := by
  by_cases h : n ≤ l.length
  · have := val_append (l.take n) (l.drop n)
    rw [List.take_append_drop, List.length_take, Nat.min_eq_left h] at this
    exact this
  · rw [List.take_of_length_le (by omega), List.drop_of_length_le (by omega)]; simp [val]
theorem val_split (l : List Int) (i : Nat) : val l = val (l.take i) + 16777216 ^ i * l.getD i 0 + 16777216 ^ (i + 1) * val (l.drop (i + 1)) := by
  rw [val_cut l (i + 1), val_take_getD]
theorem pw_pos (n : Nat) : (0 : Int) < 16777216 ^ n := Int.pow_pos (by omega)

theorem ok_Sub : SpecOK Tryz.prog 70 sSub := by
  refine fn_okL (by kernel_rfl) tt_ok (.cons ok_Trim (.nil _)) 3 Tryz.func70 (by decide +kernel) (by kernel_rfl) ?_
  rintro ⟨a, b, _⟩ ⟨⟨ha, hla⟩, ⟨hb, hlb⟩, hle⟩
  simp only at ha hla hb hlb hle
  refine ⟨[], lSub, isNum (nv a - nv b), LnVD.of (vcSub a b _) ?_, fun x h at_ w v r => isNum_ok h r⟩
  refine ⟨⟨rfl, rfl⟩, ⟨by omega, by omega, by omega, by omega, Dig.nil, rfl, by simp [val]⟩, fun out c i ⟨i0, i1, c0, c1, hd, hl, hv⟩ => ?_⟩
  have da := getD_dig ha i.toNat
  have db := getD_dig hb i.toNat
  rw [bcase_dec]
  refine ⟨fun hi => ⟨⟨i0, hi⟩, ⟨rfl, rfl⟩, ?_, ?_⟩, fun hi => ?_⟩
  · simp only [bcase_dec, true_and, and_true]
    rw [wr (x := _ - c) (by omega)]
    refine ⟨fun h => ⟨⟨by omega, h⟩, wr (by omega)⟩, fun h => ?_⟩
    rw [getD_ge (l := b) (by omega)]; omega
  · rintro l1 c1' x ⟨rfl, rfl, rfl⟩
    rw [wr (x := _ - c) (by omega)]
    refine ⟨⟨rfl, rfl⟩, ?_, ?_⟩
    · simp only [bcase_dec, true_and, and_true]
      refine ⟨fun h => ?_, fun h => ?_⟩
      · rw [if_pos h, if_pos h]; exact ⟨rfl, wr (by omega)⟩
      · rw [if_neg h, if_neg h]; exact ⟨rfl, rfl⟩
    · rintro l2 c2 x2 ⟨rfl, hc2, hx2⟩
      simp only [app_one]
      rw [wr (x := i + 1) (by omega)]
      have key : 0 ≤ c2 ∧ c2 ≤ 1 ∧ 0 ≤ x2 ∧ x2 < 16777216 ∧ x2 = a.getD i.toNat 0 - c - b.getD i.toNat 0 + 16777216 * c2 := by
        split at hc2 <;> split at hx2 <;> omega
      obtain ⟨k1, k2, k3, k4, k5⟩ := key
      refine ⟨⟨by omega, by simp [appLim]; omega⟩, ⟨trivial, trivial⟩, trivial, ⟨by omega, by omega, k1, k2, hd.append (Dig.cons k3 k4 Dig.nil), by simp; omega, ?_⟩, by omega⟩
      have e : (i + 1).toNat = i.toNat + 1 := by omega
      have el : l2.length = i.toNat := by omega
      rw [e, val_snoc, val_take_getD, val_take_getD, el, Int.pow_succ, k5]
      generalize (16777216 : Int) ^ i.toNat = p at *
      simp only [Int.mul_add, Int.mul_sub]
      rw [Int.mul_assoc]
      omega
  · simp only [whole]
    have e1 : i.toNat = a.length := by omega
    rw [e1, List.take_length] at hv
    have h1 := nv_val hd; have h2 := nv_val ha; have h3 := nv_val hb
    have l1 := val_lt ha
    have l2 := val_lt hd
    have el : out.length = a.length := by omega
    rw [el] at l2
    have hcut := val_cut b a.length
    have d0 := val_nonneg (hb.drop a.length)
    have t0 := val_nonneg (hb.take a.length)
    have p0 := pw_pos a.length
    have hz : val (b.drop a.length) = 0 := by
      by_cases h : val (b.drop a.length) = 0
      · exact h
      · have : 1 ≤ val (b.drop a.length) := by omega
        have := Int.mul_le_mul_of_nonneg_left this (Int.le_of_lt p0)
        omega
    rw [hz] at hcut
    have hc : c = 0 := by
      have : c = 0 ∨ c = 1 := by omega
      rcases this with h | h
      · exact h
      · subst h; omega
    subst hc
    refine ⟨⟨hd, by omega⟩, .inl ?_⟩
    congr 3
    omega

theorem mul_bound {x y : Int} (hx : 0 ≤ x ∧ x < 16777216) (hy : 0 ≤ y ∧ y < 16777216) : 0 ≤ x * y ∧ x * y ≤ 16777215 * 16777215 := by
  refine ⟨Int.mul_nonneg hx.1 hy.1, Int.mul_le_mul (by omega) (by omega) hy.1 (by omega)⟩
theorem ok_Mul : SpecOK Tryz.prog 74 sMul' := by
  refine fn_okL (by kernel_rfl) tt_ok (.cons ok_Trim (.nil _)) 3 Tryz.func74 (by decide +kernel) (by kernel_rfl) ?_
  rintro ⟨a, b, _⟩ ⟨⟨ha, hla⟩, hb, hlb⟩
  simp only at ha hla hb hlb
  refine ⟨[], lMul, isNum (nv a * nv b), LnVD.of (vcMul a b _) ?_, fun x h at_ w v r => isNum_ok h r⟩
  rw [wr (x := (a.length : Int) + b.length) (by omega), wr (x := (a.length : Int) + b.length + 1) (by omega)]
  refine ⟨⟨by omega, rfl, by omega⟩, ⟨rfl, by simp⟩, ⟨by omega, by omega, Dig.replicate _, by simp; omega, fun k _ => ?_, by simp [val, val_replicate]⟩, fun out i ⟨i0, i1, hd, hl, hz, hv⟩ => ?_⟩
  · simp only [List.getD_eq_getElem?_getD, List.getElem?_replicate]; split <;> rfl
  rw [bcase_dec]
  refine ⟨fun hi => ⟨⟨rfl, rfl⟩, ⟨by omega, by omega, by omega, by omega, hd, hl, hz, by simp [val]⟩, fun o c j ⟨j0, j1, c0, c1, hd', hl', hz', hv'⟩ => ?_⟩, fun hi => ?_⟩
  · rw [bcase_dec]
    refine ⟨fun hj => ?_, fun hj => ?_⟩
    · have da := getD_dig ha i.toNat
      have db := getD_dig hb j.toNat
      have dm := mul_bound da db
      have ei : (0 + (i + j).toNat) = i.toNat + j.toNat := by omega
      rw [wr (x := i + j) (by omega), wr (x := _ * _) (by omega), ei]
      have dn := getD_dig hd' (i.toNat + j.toNat)
      rw [wr (x := c + _) (by omega), wr (x := c + _ + _) (by omega), wr (x := j + 1) (by omega)]
      obtain ⟨s, hs⟩ : ∃ s, s = c + o.getD (i.toNat + j.toNat) 0 + a.getD i.toNat 0 * b.getD j.toNat 0 := ⟨_, rfl⟩
      rw [← hs, tdiv_nn (by omega), tmod_nn (by omega), wr (x := s / _) (by omega)]
      refine ⟨⟨by omega, by omega⟩, ⟨i0, hi⟩, ⟨j0, hj⟩, ⟨by omega, by omega⟩, ⟨rfl, by simp⟩, rfl, ⟨by omega, by omega, by omega, by omega, Dig.set hd' _ (by omega), by simp [hl'], fun k hk => ?_, ?_⟩, by omega⟩
      · rw [getD_set _ _ _ _ (by omega)]; exact hz' k hk
      · have e1 : (j + 1).toNat = j.toNat + 1 := by omega
        rw [val_set _ _ _ (by omega), e1, val_take_getD, ← Nat.add_assoc, Int.pow_succ]
        rw [Int.pow_add] at hv' ⊢
        generalize (16777216 : Int) ^ i.toNat = p at *
        generalize (16777216 : Int) ^ j.toNat = q at *
        have e2 : s % 16777216 = s - 16777216 * (s / 16777216) := by omega
        rw [e2, hs]
        generalize (c + o.getD (i.toNat + j.toNat) 0 + a.getD i.toNat 0 * b.getD j.toNat 0) / 16777216 = z
        generalize a.getD i.toNat 0 = x at *
        generalize b.getD j.toNat 0 = y at *
        generalize o.getD (i.toNat + j.toNat) 0 = u at *
        grind
    · have ej : j = b.length := by omega
      subst ej
      have ei : (0 + (i + (b.length : Int)).toNat) = i.toNat + b.length := by omega
      rw [wr (x := i + b.length) (by omega), ei, hz' _ (Nat.le_refl _), wr (x := 0 + c) (by omega), wr (x := i + 1) (by omega)]
      refine ⟨⟨by omega, by omega⟩, ⟨by omega, by omega⟩, ⟨rfl, by simp⟩, rfl, ⟨by omega, by omega, Dig.set hd' _ (by omega), by simp [hl'], fun k hk => ?_, ?_⟩, by omega⟩
      · rw [getD_set _ _ _ _ (by omega)]; exact hz' k (by omega)
      · have e1 : (i + 1).toNat = i.toNat + 1 := by omega
        simp only [Int.toNat_natCast, List.take_length] at hv'
        rw [val_set _ _ _ (by omega), e1, val_take_getD, hz' _ (Nat.le_refl _), Int.add_mul, ← hv, Int.mul_assoc, ← hv']
        simp
  · simp only [whole]
    have e1 : a.take i.toNat = a := List.take_of_length_le (by omega)
    rw [e1] at hv
    refine ⟨⟨hd, by omega⟩, .inl ?_⟩
    have h1 := nv_val hd; have h2 := nv_val ha; have h3 := nv_val hb
    congr 3
    rw [hv, ← h2, ← h3, ← Int.natCast_mul] at h1
    omega

end Go.Proofs.YtficbeeoafiiaaaGreatDoor.R1
/- The reference's functions on digits (3): what they say is so. -/
set_option maxRecDepth 10000
namespace Go.Proofs.YtficbeeoafiiaaaGreatDoor.R1
open Go.Sym Go.Dig

theorem spRT_ok : SpecsOK Tryz.prog spRT := .cons ok_Trim (.nil _)
theorem spRM_ok : SpecsOK Tryz.prog spRM := .cons ok_Mul <| .cons ok_Int spRT_ok
theorem ok_Small : SpecOK Tryz.prog 68 sSmall := by
  refine fn_okL (by kernel_rfl) tt_ok spRM_ok 3 Tryz.func68 (by decide +kernel) (by kernel_rfl) ?_
  rintro ⟨a, n, _⟩ ⟨ha, h0, h1⟩
  simp only at ha h0 h1
  refine ⟨[], {}, isNum (nv a * n.toNat), LnVD.of (vcSmall a n _) ?_, fun x h at_ w v r => isNum_ok h r⟩
  have := dg_len_i64 h1
  refine ⟨⟨h0, h1⟩, ⟨ha, Dg.dg (by omega)⟩, .inl ?_⟩
  rw [nv_dg]

theorem ok_Pow2 : SpecOK Tryz.prog 71 sPow2 := by
  refine fn_okL (by kernel_rfl) tt_ok (.nil _) 3 Tryz.func71 (by decide +kernel) (by kernel_rfl) ?_
  rintro ⟨n, _⟩ ⟨h0, h1⟩
  simp only at h0 h1
  refine ⟨[], lPow2, fun x => x = .i64 (2 ^ n.toNat), LnVD.of (vcPow2 n _) ?_, fun x h at_ w v r => by have h' : x = _ := h; subst h'; exact r⟩
  refine ⟨⟨by omega, h0, rfl⟩, fun x i ⟨i0, i1, hx⟩ => ?_⟩
  rw [bcase_dec]
  refine ⟨fun hi => ?_, fun hi => ?_⟩
  · have e : (i + 1).toNat = i.toNat + 1 := by omega
    have hb : (2 : Int) * x ≤ 2 ^ 62 := by
      rw [hx, Int.mul_comm, ← Int.pow_succ]
      have : (2 : Nat) ^ (i.toNat + 1) ≤ 2 ^ 62 := Nat.pow_le_pow_right (by omega) (by omega)
      exact_mod_cast this
    have hp : 0 ≤ x := by rw [hx]; exact Int.le_of_lt (Int.pow_pos (by omega))
    rw [wr (x := i + 1) (by omega), wr (x := 2 * x) (by omega)]
    refine ⟨rfl, ⟨by omega, by omega, ?_⟩, by omega⟩
    rw [e, Int.pow_succ, hx, Int.mul_comm]
  · have : i = n := by omega
    rw [hx, this]

theorem spRS_ok : SpecsOK Tryz.prog spRS := .cons ok_Small <| .cons ok_Pow2 spRM_ok
theorem pw_cast (n : Nat) : ((16777216 ^ n : Nat) : Int) = 16777216 ^ n := by rw [Int.natCast_pow]; rfl
theorem pw_le {x y : Nat} (h : x ≤ y) : (16777216 : Int) ^ x ≤ 16777216 ^ y := by
  have := Int.ofNat_le.2 (Nat.pow_le_pow_right (show 0 < 16777216 by omega) h)
  rw [pw_cast, pw_cast] at this; exact this
theorem pw_lt_nat {u n : Nat} (h : (u : Int) < 16777216 ^ n) : u < 16777216 ^ n := by rw [← pw_cast] at h; exact Int.ofNat_lt.1 h
theorem pow24 (q : Nat) : (16777216 : Nat) ^ q = 2 ^ (24 * q) := by rw [Nat.pow_mul]
theorem pow2_le {k n : Nat} (h : k ≤ n) : (2 : Nat) ^ k ≤ 2 ^ n := Nat.pow_le_pow_right (by omega) h
theorem pow2_nat (k : Nat) : ((2 : Int) ^ k).toNat = 2 ^ k := by
  have : ((2 : Int) ^ k) = ((2 ^ k : Nat) : Int) := by simp
  rw [this]; rfl
theorem ok_Shift : SpecOK Tryz.prog 95 sShift := by
  refine fn_okL (by kernel_rfl) tt_ok spRS_ok 3 Tryz.func95 (by decide +kernel) (by kernel_rfl) ?_
  rintro ⟨a, n, _⟩ ⟨ha, hl, h0, h1⟩
  simp only at ha hl h0 h1
  refine ⟨[], {}, isNum (nv a * 2 ^ n.toNat), LnVD.of (vcShift a n _) ?_, fun x h at_ w v r => isNum_ok h r⟩
  rw [bcase_iff]
  refine ⟨fun hz => ?_, fun hz => ?_⟩
  · have : a = [] := List.eq_nil_of_length_eq_zero (by simpa using hz)
    subst this
    exact .inr (.inr ⟨by simp [nv_nil], rfl⟩)
  · rw [tdiv_nn h0, tmod_nn h0, wr (x := n / 24) (by omega)]
    have e1 : List.drop 0 (List.take (List.replicate (n / 24).toNat (0 : Int)).length (List.replicate (n / 24).toNat (0 : Int))) = List.replicate (n / 24).toNat (0 : Int) := by simp
    rw [e1, whole]
    have hd : Dig (List.replicate (n / 24).toNat (0 : Int) ++ a) := (Dig.replicate _).append ha
    have hp := pow2_le (k := (n % 24).toNat) (n := 62) (by omega)
    have hpn := pow2_nat (n % 24).toNat
    refine ⟨⟨by omega, rfl, by omega⟩, ⟨by simp, by simp [appLim]; omega⟩, ⟨by omega, by omega⟩, ⟨⟨hd, by simp; omega⟩, Int.le_of_lt (Int.pow_pos (by omega)), by omega⟩, .inl ?_⟩
    rw [hpn]
    have e2 : nv (List.replicate (n / 24).toNat (0 : Int) ++ a) = 2 ^ (24 * (n / 24).toNat) * nv a := by
      have e4 := nv_val hd
      rw [val_append, val_replicate, List.length_replicate, ← nv_val ha, Int.zero_add] at e4
      rw [← pow24]
      rw [← pw_cast, ← Int.natCast_mul] at e4
      exact Int.ofNat_inj.1 e4
    have e3 : nv a * 2 ^ n.toNat = nv (List.replicate (n / 24).toNat (0 : Int) ++ a) * 2 ^ (n % 24).toNat := by
      rw [e2, Nat.mul_comm (2 ^ _) (nv a), Nat.mul_assoc, ← Nat.pow_add, show 24 * (n / 24).toNat + (n % 24).toNat = n.toNat by omega]
    rw [e3]

theorem spRP_ok : SpecsOK Tryz.prog spRP := .cons ok_Shift spRS_ok
theorem ok_Power : SpecOK Tryz.prog 69 sPower := by
  refine fn_okL (by kernel_rfl) tt_ok spRP_ok 3 Tryz.func69 (by decide +kernel) (by kernel_rfl) ?_
  rintro ⟨n, _⟩ ⟨h0, h1⟩
  simp only at h0 h1
  refine ⟨[], {}, isNum (2 ^ n.toNat), LnVD.of (vcPower n _) ?_, fun x h at_ w v r => isNum_ok h r⟩
  refine ⟨⟨Dig.cons (by omega) (by omega) Dig.nil, by simp, h0, h1⟩, .inl ?_⟩
  have : nv (List.drop 0 (List.take (0 + 1) [(1 : Int)])) = 1 := rfl
  rw [this, Nat.one_mul]

/-- How long a number's digits are. -/
theorem can_top {l : List Int} (h : Can l) (hl : l ≠ []) : l.getD (l.length - 1) 0 ≠ 0 := by
  have hd := h.dig
  have e : l = dg (nv l) := h.1
  have hlen : 0 < l.length := List.length_pos_iff.2 hl
  intro e0
  have hlast : (dg (nv l)).getLast? = some 0 := by
    rw [← e, List.getLast?_eq_getElem?, List.getElem?_eq_getElem (by omega)]
    rw [getD_lt (by omega)] at e0
    rw [e0]
  exact dg_last 0 hlast rfl
theorem can_ge {l : List Int} (h : Can l) (hl : l ≠ []) : 16777216 ^ (l.length - 1) * (l.getD (l.length - 1) 0) ≤ val l ∧ val l = val (l.take (l.length - 1)) + 16777216 ^ (l.length - 1) * l.getD (l.length - 1) 0 := by
  have hlen : 0 < l.length := List.length_pos_iff.2 hl
  have h1 := val_split l (l.length - 1)
  rw [show l.length - 1 + 1 = l.length by omega, List.drop_length] at h1
  simp only [val, Int.mul_zero, Int.add_zero] at h1
  have := val_nonneg (h.dig.take (l.length - 1))
  exact ⟨by omega, h1⟩
theorem can_lt {a b : List Int} (ha : Can a) (hb : Can b) (h : a.length < b.length) : nv a < nv b := by
  have hne : b ≠ [] := by rintro rfl; simp at h
  have h1 := (can_ge hb hne).1
  have h2 := can_top hb hne
  have h3 := (getD_dig hb.dig (b.length - 1)).1
  have h4 := val_lt ha.dig
  have h5 : (16777216 : Int) ^ a.length ≤ 16777216 ^ (b.length - 1) := pw_le (by omega)
  have h6 := Int.mul_le_mul_of_nonneg_left (show (1 : Int) ≤ b.getD (b.length - 1) 0 by omega) (Int.le_of_lt (pw_pos (b.length - 1)))
  have := nv_val ha.dig; have := nv_val hb.dig
  omega
theorem dig_lt {a b : List Int} (ha : Dig a) (hb : Dig b) (i : Nat) (h1 : a.drop (i + 1) = b.drop (i + 1)) (h2 : a.getD i 0 < b.getD i 0) : nv a < nv b := by
  have e1 := val_split a i
  have e2 := val_split b i
  rw [h1] at e1
  have l1 := val_lt (ha.take i)
  have l2 := val_nonneg (hb.take i)
  have hle : (16777216 : Int) ^ (a.take i).length ≤ 16777216 ^ i := pw_le (by simp; omega)
  have h6 := Int.mul_le_mul_of_nonneg_left (show a.getD i 0 + 1 ≤ b.getD i 0 by omega) (Int.le_of_lt (pw_pos i))
  rw [Int.mul_add] at h6
  have := nv_val ha; have := nv_val hb
  omega
theorem cmpN_lt {x y : Nat} (h : x < y) : cmpN x y = -1 := if_pos h
theorem cmpN_gt {x y : Nat} (h : y < x) : cmpN x y = 1 := by unfold cmpN; rw [if_neg (by omega), if_pos h]
theorem cmpN_eq (x : Nat) : cmpN x x = 0 := by unfold cmpN; rw [if_neg (by omega), if_neg (by omega)]
theorem ok_Cmp : SpecOK Tryz.prog 77 sCmp := by
  refine fn_okL (by kernel_rfl) tt_ok (.nil _) 3 Tryz.func77 (by decide +kernel) (by kernel_rfl) ?_
  rintro ⟨a, b, _⟩ ⟨ha, hb⟩
  simp only at ha hb
  refine ⟨[], lCmp, fun x => x = .i64 (cmpN (nv a) (nv b)), LnVD.of (vcCmp a b _) ?_, fun x h at_ w v r => by have h' : x = _ := h; subst h'; exact r⟩
  have hla := ha.2
  have hlb := hb.2
  simp only [bcase_dec]
  refine ⟨fun h => by rw [cmpN_lt (can_lt ha hb (by omega))], fun h => ⟨fun h' => by rw [cmpN_gt (can_lt hb ha (by omega))], fun h' => ?_⟩⟩
  rw [wr (x := (a.length : Int) - 1) (by omega)]
  refine ⟨⟨by omega, by omega, by omega, ?_⟩, fun i ⟨i0, i1, i2, i3⟩ => ⟨fun hi => ?_, fun hi => ?_⟩⟩
  · rw [List.drop_of_length_le (by omega), List.drop_of_length_le (by omega)]
  · have e : (i + 1).toNat = i.toNat + 1 := by omega
    rw [e] at i3
    refine ⟨⟨by omega, by omega⟩, ⟨by omega, by omega⟩, fun hlt => ?_, fun hlt => ⟨⟨by omega, by omega⟩, ⟨by omega, by omega⟩, fun hgt => ?_, fun hgt => ?_⟩⟩
    · rw [cmpN_lt (dig_lt ha.dig hb.dig _ i3 hlt)]
    · rw [cmpN_gt (dig_lt hb.dig ha.dig _ i3.symm hgt)]
    · rw [wr (x := i - 1) (by omega)]
      refine ⟨trivial, ⟨by omega, by omega, i2, ?_⟩, by omega⟩
      have e2 : (i - 1 + 1).toNat = i.toNat := by omega
      have hi' : i.toNat < a.length := by omega
      have hi2 : i.toNat < b.length := by omega
      rw [e2, List.drop_eq_getElem_cons hi', List.drop_eq_getElem_cons hi2, i3]
      rw [getD_lt hi', getD_lt hi2] at hlt hgt
      congr 1
      omega
  · have : (i + 1).toNat = 0 := by omega
    rw [this] at i3
    simp only [List.drop_zero] at i3
    rw [i3, cmpN_eq]

/-- A digit of a number. -/
theorem digit_nat {l : List Int} (h : Dig l) (q : Nat) : nv l / 16777216 ^ q % 16777216 = (l.getD q 0).toNat := by
  have h1 := val_split l q
  have h2 := nv_val h
  have h3 := getD_dig h q
  have t0 := val_nonneg (h.take q)
  have d0 := val_nonneg (h.drop (q + 1))
  have t1 := val_lt (h.take q)
  have hle : (16777216 : Int) ^ (l.take q).length ≤ 16777216 ^ q := pw_le (by simp; omega)
  obtain ⟨t, ht⟩ : ∃ t : Nat, val (l.take q) = t := ⟨(val (l.take q)).toNat, by omega⟩
  obtain ⟨u, hu⟩ : ∃ u : Nat, val (l.drop (q + 1)) = u := ⟨(val (l.drop (q + 1))).toNat, by omega⟩
  obtain ⟨d, hd⟩ : ∃ d : Nat, l.getD q 0 = d := ⟨(l.getD q 0).toNat, by omega⟩
  rw [ht, hu, hd, Int.pow_succ] at h1
  have e : nv l = t + 16777216 ^ q * (d + 16777216 * u) := by
    have : (nv l : Int) = t + 16777216 ^ q * (d + 16777216 * u) := by rw [h2, h1, Int.mul_add, Int.mul_assoc]; omega
    rw [← pw_cast] at this
    apply Int.ofNat_inj.1
    rw [this]; simp only [Int.natCast_add, Int.natCast_mul]; rfl
  have ht2 : t < 16777216 ^ q := pw_lt_nat (by omega)
  rw [e, Nat.add_mul_div_left _ _ (Nat.pow_pos (by omega)), Nat.div_eq_of_lt ht2, hd]
  simp only [Int.toNat_natCast]
  omega
theorem bit_mod (m r : Nat) (hr : r < 24) : m % 16777216 / 2 ^ r % 2 = m / 2 ^ r % 2 := by
  have e : (16777216 : Nat) = 2 ^ r * 2 ^ (24 - r) := by rw [← Nat.pow_add, show r + (24 - r) = 24 by omega]
  rw [e, Nat.mod_mul_right_div_self, Nat.mod_mod_of_dvd]
  refine ⟨2 ^ (24 - r - 1), ?_⟩
  rw [← Nat.pow_succ', show (24 - r - 1).succ = 24 - r by omega]
theorem ok_Bit : SpecOK Tryz.prog 33 sBit := by
  refine fn_okL (by kernel_rfl) tt_ok spRS_ok 3 Tryz.func33 (by decide +kernel) (by kernel_rfl) ?_
  rintro ⟨a, i, _⟩ ⟨⟨ha, hla⟩, h0, h1⟩
  simp only at ha hla h0 h1
  refine ⟨[], {}, fun x => x = .i64 ((nv a / 2 ^ i.toNat % 2 : Nat) : Int), LnVD.of (vcBit a i _) ?_, fun x h at_ w v r => by have h' : x = _ := h; subst h'; exact r⟩
  have hp := pow2_le (k := (i % 24).toNat) (n := 62) (by omega)
  have hpn := pow2_nat (i % 24).toNat
  have hpp : (0 : Int) < 2 ^ (i % 24).toNat := Int.pow_pos (by omega)
  have hdg := getD_dig ha (i / 24).toNat
  have key : nv a / 2 ^ i.toNat % 2 = (a.getD (i / 24).toNat 0).toNat / 2 ^ (i % 24).toNat % 2 := by
    rw [← digit_nat ha, bit_mod _ _ (by omega), pow24, Nat.div_div_eq_div_mul, ← Nat.pow_add]
    congr 3
    omega
  rw [tdiv_nn h0, tmod_nn h0, wr (x := i / 24) (by omega)]
  simp only [bcase_dec]
  refine ⟨fun h => by omega, fun h => ⟨fun h' => ?_, fun h' => ⟨⟨by omega, by omega⟩, ⟨by omega, by omega⟩, by omega, ?_⟩⟩⟩
  · rw [key, getD_ge (by omega)]; simp
  · obtain ⟨d, hd⟩ : ∃ d : Nat, a.getD (i / 24).toNat 0 = d := ⟨(a.getD (i / 24).toNat 0).toNat, by omega⟩
    obtain ⟨p, hp'⟩ : ∃ p : Nat, (2 : Int) ^ (i % 24).toNat = p := ⟨2 ^ (i % 24).toNat, by omega⟩
    have hpe : 2 ^ (i % 24).toNat = p := by omega
    rw [key, hd, hp', hpe]
    have hlt : d / p ≤ d := Nat.div_le_self _ _
    rw [tdiv_nn (by omega), ← Int.natCast_ediv]
    simp only [Int.toNat_natCast]
    generalize d / p = z at *
    rw [wr (by omega), tmod_nn (by omega)]
    rfl

theorem bitsN_of {m n : Nat} (h : m < 2 ^ n) (h' : m ≠ 0 → 0 < n ∧ 2 ^ (n - 1) ≤ m) (h0 : m = 0 → n = 0) : bitsN m = n := by
  unfold bitsN
  split
  · rename_i e; exact (h0 e).symm
  · rename_i e
    obtain ⟨h1, h2⟩ := h' e
    have : Nat.log2 m = n - 1 := (Nat.log2_eq_iff e).2 ⟨h2, by rw [show n - 1 + 1 = n by omega]; exact h⟩
    omega
theorem ok_Bits : SpecOK Tryz.prog 99 sBits := by
  refine fn_okL (by kernel_rfl) tt_ok (.nil _) 3 Tryz.func99 (by decide +kernel) (by kernel_rfl) ?_
  rintro ⟨a, _⟩ ha
  replace ha : Can a := ha
  refine ⟨[], lBits, fun x => x = .i64 (bitsN (nv a)), LnVD.of (vcBits a _) ?_, fun x h at_ w v r => by have h' : x = _ := h; subst h'; exact r⟩
  have hla := ha.2
  rw [bcase_iff]
  refine ⟨fun hz => ?_, fun hz => ?_⟩
  · have : a = [] := List.eq_nil_of_length_eq_zero (by simpa using hz)
    subst this; rfl
  · have hne : a ≠ [] := by rintro rfl; simp at hz
    have hlen : 0 < a.length := List.length_pos_iff.2 hne
    have e1 : ((a.length : Int) - 1).toNat = a.length - 1 := by omega
    have ht := getD_dig ha.dig (a.length - 1)
    have htop := can_top ha hne
    obtain ⟨t, htt⟩ : ∃ t : Nat, a.getD (a.length - 1) 0 = t := ⟨(a.getD (a.length - 1) 0).toNat, by omega⟩
    have hge := (can_ge ha hne).2
    rw [wr (x := (a.length : Int) - 1) (by omega), wr (x := 24 * _) (by omega), e1]
    refine ⟨⟨by omega, by omega⟩, ⟨0, by omega, by rw [Nat.pow_zero, Nat.div_one]; omega, by omega, by omega⟩, fun n x ⟨k, k1, k2, k3, k4⟩ => ?_⟩
    simp only [htt, Int.toNat_natCast] at k2 k4
    rw [bcase_dec]
    refine ⟨fun hx => ?_, fun hx => ?_⟩
    · have hle : t / 2 ^ k ≤ t := Nat.div_le_self _ _
      have hk : k < 24 := by
        by_cases e : k = 24
        · subst e
          have : t / 2 ^ 24 = 0 := Nat.div_eq_of_lt (by omega)
          omega
        · omega
      obtain ⟨z, hz⟩ : ∃ z, z = t / 2 ^ k := ⟨_, rfl⟩
      rw [← hz] at k2 hle
      rw [wr (x := n + 1) (by omega), tdiv_nn (by omega), wr (x := x / 2) (by omega)]
      refine ⟨rfl, ⟨k + 1, by omega, ?_, by omega, fun _ => ?_⟩, by omega⟩
      · simp only [htt, Int.toNat_natCast]
        rw [Nat.pow_succ, ← Nat.div_div_eq_div_mul, ← hz, k2]; rfl
      · simp only [htt, Int.toNat_natCast, Nat.add_sub_cancel]; omega
    · have hz : t / 2 ^ k = 0 := by generalize t / 2 ^ k = z at *; omega
      have hlt : t < 2 ^ k := by
        rcases Nat.div_eq_zero_iff.1 hz with h | h
        · have := Nat.pow_pos (n := k) (show 0 < 2 by omega); omega
        · exact h
      have hk0 : 0 < k := by
        by_cases e : k = 0
        · subst e; simp at hlt; omega
        · omega
      have k5 := k4 hk0
      have hge2 : 2 ^ (k - 1) ≤ t := by
        by_cases e : 2 ^ (k - 1) ≤ t
        · exact e
        · exact absurd (Nat.div_eq_of_lt (by omega)) k5
      rw [htt] at hge
      have tl := val_lt (ha.dig.take (a.length - 1))
      have t0 := val_nonneg (ha.dig.take (a.length - 1))
      rw [List.length_take, Nat.min_eq_left (by omega)] at tl
      obtain ⟨u, hu⟩ : ∃ u : Nat, val (a.take (a.length - 1)) = u := ⟨(val (a.take (a.length - 1))).toNat, by omega⟩
      have hnv := nv_val ha.dig
      have e2 : nv a = u + 16777216 ^ (a.length - 1) * t := by
        have : (nv a : Int) = u + 16777216 ^ (a.length - 1) * t := by rw [hnv, hge, hu]
        rw [← pw_cast] at this
        apply Int.ofNat_inj.1
        rw [this]; simp only [Int.natCast_add, Int.natCast_mul]
      have hu2 : u < 16777216 ^ (a.length - 1) := pw_lt_nat (by omega)
      have hn : n = ((24 * (a.length - 1) + k : Nat) : Int) := by omega
      rw [hn]
      congr 1
      have := bitsN_of (m := nv a) (n := 24 * (a.length - 1) + k) ?_ (fun _ => ⟨by omega, ?_⟩) (fun e => ?_)
      · rw [this]
      · rw [e2, Nat.pow_add, ← pow24]
        have h1 := Nat.mul_le_mul_left (16777216 ^ (a.length - 1)) (show t + 1 ≤ 2 ^ k by omega)
        rw [Nat.mul_add] at h1
        omega
      · rw [e2, show 24 * (a.length - 1) + k - 1 = 24 * (a.length - 1) + (k - 1) by omega, Nat.pow_add, ← pow24]
        have := Nat.mul_le_mul_left (16777216 ^ (a.length - 1)) hge2
        omega
      · rw [e2] at e
        have h1 := Nat.mul_pos (Nat.pow_pos (n := a.length - 1) (show 0 < 16777216 by omega)) (show 0 < t by omega)
        omega

end Go.Proofs.YtficbeeoafiiaaaGreatDoor.R1
/- The reference's functions on digits (4): words and bytes: what they say, and what their bodies come to. -/
set_option maxRecDepth 10000
namespace Go.Proofs.YtficbeeoafiiaaaGreatDoor.R1
open Go.Sym Go.Dig

--STOP Go.Dig.Dig, Dg, Can

def iDown (a : List Int) (n i : Int) (out : List Int) : Prop := n / 24 ≤ i ∧ (i ≤ a.length ∨ i = n / 24) ∧ Dig out ∧ (out.length : Int) = i - n / 24 ∧ nv out = nv a / 2 ^ n.toNat % 16777216 ^ out.length
def lDown : Plan := { loops := [(0, { β := List Int × Int × Int × Int × Unit, α := OwnI × Int × Unit, same := [0, 1, 5, 6], keep := [7, 8], inv := fun b _ x => iDown b.1 b.2.1 x.2.1 x.1.l, meas := fun b x => (b.1.length - x.2.1).toNat })], forks := [(8, { β := List Int × Int × Int × Int × Int × Unit, γ := OwnI × Int × Unit, α := OwnI × Int × Unit, same := [0, 1, 5, 6, 8], pre := [7, 9], keep := [7, 9], inv := fun b g x => x.1.l = g.1.l ∧ x.2.1 = g.2.1 + b.1.getD (b.2.2.2.2.1 + 1).toNat 0 % b.2.2.1 * b.2.2.2.1 })] }
theorem vcDown (a : List Int) (n : Int) (Q : SV → Prop) : LnRaw tt spRS 3 [] lDown Tryz.f76 Q (a, n, ()) =
 ((((0 : Int) ≤ Int.tmod n (24 : Int)) ∧ (Int.tmod n (24 : Int) ≤ (62 : Int))) ∧ ((((0 : Int) ≤ IntKind.wrap IntKind.i64 ((24 : Int) - Int.tmod n (24 : Int))) ∧ (IntKind.wrap IntKind.i64 ((24 : Int) - Int.tmod n (24 : Int)) ≤ (62 : Int))) ∧ ((((0 : Nat) = (0 : Nat)) ∧ ((0 : Nat) = List.length (List.replicate (0 : Nat) (0 : Int)))) ∧ ((iDown a n (IntKind.wrap IntKind.i64 (Int.tdiv n (24 : Int))) (List.replicate (0 : Nat) (0 : Int))) ∧ (∀ l : List Int, (∀ a_1 : Int, ((iDown a n a_1 l) → bcase (decide (a_1 < (↑(List.length a) : Int))) (((((0 : Int) ≤ a_1) ∧ (a_1 < (↑(List.length a) : Int))) ∧ (((2 : Int) ^ Int.toNat (Int.tmod n (24 : Int)) ≠ (0 : Int)) ∧ ((((0 : Nat) = (0 : Nat)) ∧ (List.length l = List.length l)) ∧ (bcase (decide (IntKind.wrap IntKind.i64 (a_1 + (1 : Int)) < (↑(List.length a) : Int))) (((((0 : Int) ≤ IntKind.wrap IntKind.i64 (a_1 + (1 : Int))) ∧ (IntKind.wrap IntKind.i64 (a_1 + (1 : Int)) < (↑(List.length a) : Int))) ∧
 (((2 : Int) ^ Int.toNat (Int.tmod n (24 : Int)) ≠ (0 : Int)) ∧ ((((0 : Nat) = (0 : Nat)) ∧ (List.length l = List.length l)) ∧ (((a, n, (2 : Int) ^ Int.toNat (Int.tmod n (24 : Int)), (2 : Int) ^ Int.toNat (IntKind.wrap IntKind.i64 ((24 : Int) - Int.tmod n (24 : Int))), a_1, ()) = (a, n, (2 : Int) ^ Int.toNat (Int.tmod n (24 : Int)), (2 : Int) ^ Int.toNat (IntKind.wrap IntKind.i64 ((24 : Int) - Int.tmod n (24 : Int))), a_1, ())) ∧ ((l = l) ∧ (IntKind.wrap IntKind.i64 (IntKind.wrap IntKind.i64 (Int.tdiv (List.getD a (Int.toNat a_1) (0 : Int)) ((2 : Int) ^ Int.toNat (Int.tmod n (24 : Int)))) + IntKind.wrap IntKind.i64 (Int.tmod (List.getD a (Int.toNat (IntKind.wrap IntKind.i64 (a_1 + (1 : Int)))) (0 : Int)) ((2 : Int) ^ Int.toNat (Int.tmod n (24 : Int))) * (2 : Int) ^ Int.toNat (IntKind.wrap IntKind.i64 ((24 : Int) - Int.tmod n (24 : Int))))) = IntKind.wrap IntKind.i64 (Int.tdiv (List.getD a (Int.toNat a_1) (0 : Int)) ((2 : Int) ^ Int.toNat (Int.tmod n (24 : Int)))) +
 List.getD a (Int.toNat (a_1 + (1 : Int))) (0 : Int) % (2 : Int) ^ Int.toNat (Int.tmod n (24 : Int)) * (2 : Int) ^ Int.toNat (IntKind.wrap IntKind.i64 ((24 : Int) - Int.tmod n (24 : Int)))))))))) (((((0 : Nat) = (0 : Nat)) ∧ (List.length l = List.length l)) ∧ (((a, n, (2 : Int) ^ Int.toNat (Int.tmod n (24 : Int)), (2 : Int) ^ Int.toNat (IntKind.wrap IntKind.i64 ((24 : Int) - Int.tmod n (24 : Int))), a_1, ()) = (a, n, (2 : Int) ^ Int.toNat (Int.tmod n (24 : Int)), (2 : Int) ^ Int.toNat (IntKind.wrap IntKind.i64 ((24 : Int) - Int.tmod n (24 : Int))), a_1, ())) ∧ ((l = l) ∧ (IntKind.wrap IntKind.i64 (Int.tdiv (List.getD a (Int.toNat a_1) (0 : Int)) ((2 : Int) ^ Int.toNat (Int.tmod n (24 : Int)))) = IntKind.wrap IntKind.i64 (Int.tdiv (List.getD a (Int.toNat a_1) (0 : Int)) ((2 : Int) ^ Int.toNat (Int.tmod n (24 : Int)))) + List.getD a (Int.toNat (a_1 + (1 : Int))) (0 : Int) % (2 : Int) ^ Int.toNat (Int.tmod n (24 : Int)) *
 (2 : Int) ^ Int.toNat (IntKind.wrap IntKind.i64 ((24 : Int) - Int.tmod n (24 : Int)))))))) ∧ (∀ l_1 : List Int, (∀ a_2 : Int, (((l_1 = l) ∧ (a_2 = IntKind.wrap IntKind.i64 (Int.tdiv (List.getD a (Int.toNat a_1) (0 : Int)) ((2 : Int) ^ Int.toNat (Int.tmod n (24 : Int)))) + List.getD a (Int.toNat (a_1 + (1 : Int))) (0 : Int) % (2 : Int) ^ Int.toNat (Int.tmod n (24 : Int)) * (2 : Int) ^ Int.toNat (IntKind.wrap IntKind.i64 ((24 : Int) - Int.tmod n (24 : Int))))) → ((((0 : Nat) + List.length l_1 = List.length l_1) ∧ (List.length (List.drop (0 : Nat) (List.take (List.length l_1) l_1) ++ List.drop (0 : Nat) (List.take ((0 : Nat) + (1 : Nat)) [a_2])) ≤ appLim)) ∧ ((((0 : Nat) = (0 : Nat)) ∧ (List.length (List.drop (0 : Nat) (List.take (List.length l_1) l_1) ++ List.drop (0 : Nat) (List.take ((0 : Nat) + (1 : Nat)) [a_2])) = List.length (List.drop (0 : Nat) (List.take (List.length l_1) l_1) ++ List.drop (0 : Nat) (List.take ((0 : Nat) + (1 : Nat)) [a_2])))) ∧
 (((a, n, (2 : Int) ^ Int.toNat (Int.tmod n (24 : Int)), (2 : Int) ^ Int.toNat (IntKind.wrap IntKind.i64 ((24 : Int) - Int.tmod n (24 : Int))), ()) = (a, n, (2 : Int) ^ Int.toNat (Int.tmod n (24 : Int)), (2 : Int) ^ Int.toNat (IntKind.wrap IntKind.i64 ((24 : Int) - Int.tmod n (24 : Int))), ())) ∧ ((iDown a n (IntKind.wrap IntKind.i64 (a_1 + (1 : Int))) (List.drop (0 : Nat) (List.take (List.length l_1) l_1) ++ List.drop (0 : Nat) (List.take ((0 : Nat) + (1 : Nat)) [a_2]))) ∧ (Int.toNat ((↑(List.length a) : Int) - IntKind.wrap IntKind.i64 (a_1 + (1 : Int))) < Int.toNat ((↑(List.length a) : Int) - a_1)))))))))))))) ((((Dig (List.drop (0 : Nat) (List.take ((0 : Nat) + List.length l) l))) ∧ (List.length (List.drop (0 : Nat) (List.take ((0 : Nat) + List.length l) l)) ≤ (4294967296 : Nat))) ∧ (Q (SV.lst (LV.num (nv (List.drop (0 : Nat) (List.take ((0 : Nat) + List.length l) l))))))))))))))) := by kernel_rfl
def sDown : SpecF := fspec (α := List Int × Int × Unit) (β := Num) (fun a => some (Dg a.1 ∧ 0 ≤ a.2.1 ∧ a.2.1 ≤ 1073741824)) (fun a => ⟨nv a.1 / 2 ^ a.2.1.toNat⟩)

/-- A number's lowest words. -/
def wordsL (m n : Nat) : List UInt64 := (List.range n).map fun w => UInt64.ofNat (m / 2 ^ (64 * w))
def iTwA (a : List Int) (n i : Int) (out : List UInt64) : Prop := 0 ≤ i ∧ i ≤ a.length ∧ out = wordsL (nv a % 2 ^ (24 * i.toNat)) n.toNat
def iTwB (a : List Int) (n i k : Int) (out : List UInt64) : Prop := 0 ≤ k ∧ k ≤ 24 ∧ out = wordsL (nv a % 2 ^ (24 * i.toNat + k.toNat)) n.toNat
def iTwC (t : Int) (out0 : List UInt64) (x : UInt64) (j : Int) (out : List UInt64) : Prop := out = out0 ∧ 0 ≤ j ∧ j ≤ t % 64 ∧ x = UInt64.ofNat (2 ^ j.toNat)
def lToWords : Plan := { loops := [(0, { β := List Int × Int × Unit, α := OwnW × Int × Unit, same := [0, 1], keep := [5, 6], inv := fun b _ x => iTwA b.1 b.2.1 x.2.1 x.1.l, meas := fun b x => (b.1.length - x.2.1).toNat }), (2, { β := List Int × Int × Int × Unit, α := OwnW × Int × Unit, same := [0, 1, 6], keep := [5, 7], inv := fun b _ x => iTwB b.1 b.2.1 b.2.2.1 x.2.1 x.1.l, meas := fun _ x => (24 - x.2.1).toNat }), (4, { β := List Int × Int × Int × Int × Int × Unit, α := OwnW × UInt64 × Int × Unit, same := [0, 1, 6, 7, 8], keep := [5, 9, 10], inv := fun b x0 x => iTwC b.2.2.2.2.1 x0.1.l x.2.1 x.2.2.1 x.1.l, meas := fun b x => (b.2.2.2.2.1 % 64 - x.2.2.1).toNat })] }
theorem vcToWords (a : List Int) (n : Int) (Q : SV → Prop) : LnRaw tt spRS 3 [] lToWords Tryz.f29 Q (a, n, ()) =
 ((((0 : Int) ≤ n) ∧ ((n = n) ∧ (n ≤ (1099511627776 : Int)))) ∧ ((((0 : Nat) = (0 : Nat)) ∧ (Int.toNat n = List.length (List.replicate (Int.toNat n) (0 : UInt64)))) ∧ ((iTwA a n (0 : Int) (List.replicate (Int.toNat n) (0 : UInt64))) ∧ (∀ l : List UInt64, (∀ a_1 : Int, ((iTwA a n a_1 l) → bcase (decide (a_1 < (↑(List.length a) : Int))) (((((0 : Nat) = (0 : Nat)) ∧ (List.length l = List.length l)) ∧ ((iTwB a n a_1 (0 : Int) l) ∧ (∀ l_1 : List UInt64, (∀ a_2 : Int, ((iTwB a n a_1 a_2 l_1) → bcase (decide (a_2 < (24 : Int))) (((((0 : Int) ≤ a_1) ∧ (a_1 < (↑(List.length a) : Int))) ∧ ((((0 : Int) ≤ a_2) ∧ (a_2 ≤ (62 : Int))) ∧ (((2 : Int) ^ Int.toNat a_2 ≠ (0 : Int)) ∧ bcase (Int.tmod (IntKind.wrap IntKind.i64 (Int.tdiv (List.getD a (Int.toNat a_1) (0 : Int)) ((2 : Int) ^ Int.toNat a_2))) (2 : Int) == (1 : Int)) (bcase (decide (IntKind.wrap IntKind.i64 (IntKind.wrap IntKind.i64 ((24 : Int) * a_1) + a_2) < IntKind.wrap IntKind.i64 ((64 : Int) * n))) (((((0 : Nat) = (0 : Nat)) ∧
 (List.length l_1 = List.length l_1)) ∧ ((iTwC (IntKind.wrap IntKind.i64 (IntKind.wrap IntKind.i64 ((24 : Int) * a_1) + a_2)) l_1 (UInt64.ofNat (Int.toNat (1 : Int))) (0 : Int) l_1) ∧ (∀ l_2 : List UInt64, (∀ a_3 : UInt64, (∀ a_4 : Int, ((iTwC (IntKind.wrap IntKind.i64 (IntKind.wrap IntKind.i64 ((24 : Int) * a_1) + a_2)) l_1 a_3 a_4 l_2) → bcase (decide (a_4 < Int.tmod (IntKind.wrap IntKind.i64 (IntKind.wrap IntKind.i64 ((24 : Int) * a_1) + a_2)) (64 : Int))) (((((0 : Nat) = (0 : Nat)) ∧ (List.length l_2 = List.length l_2)) ∧ (((a, n, a_1, a_2, IntKind.wrap IntKind.i64 (IntKind.wrap IntKind.i64 ((24 : Int) * a_1) + a_2), ()) = (a, n, a_1, a_2, IntKind.wrap IntKind.i64 (IntKind.wrap IntKind.i64 ((24 : Int) * a_1) + a_2), ())) ∧ ((iTwC (IntKind.wrap IntKind.i64 (IntKind.wrap IntKind.i64 ((24 : Int) * a_1) + a_2)) l_1 (UInt64.ofNat (Int.toNat (2 : Int)) * a_3) (IntKind.wrap IntKind.i64 (a_4 + (1 : Int))) l_2) ∧ (Int.toNat
 (IntKind.wrap IntKind.i64 (IntKind.wrap IntKind.i64 ((24 : Int) * a_1) + a_2) % (64 : Int) - IntKind.wrap IntKind.i64 (a_4 + (1 : Int))) < Int.toNat (IntKind.wrap IntKind.i64 (IntKind.wrap IntKind.i64 ((24 : Int) * a_1) + a_2) % (64 : Int) - a_4)))))) (((((0 : Int) ≤ IntKind.wrap IntKind.i64 (Int.tdiv (IntKind.wrap IntKind.i64 (IntKind.wrap IntKind.i64 ((24 : Int) * a_1) + a_2)) (64 : Int))) ∧ (IntKind.wrap IntKind.i64 (Int.tdiv (IntKind.wrap IntKind.i64 (IntKind.wrap IntKind.i64 ((24 : Int) * a_1) + a_2)) (64 : Int)) < (↑(List.length l_2) : Int))) ∧ ((((0 : Int) ≤ IntKind.wrap IntKind.i64 (Int.tdiv (IntKind.wrap IntKind.i64 (IntKind.wrap IntKind.i64 ((24 : Int) * a_1) + a_2)) (64 : Int))) ∧ (IntKind.wrap IntKind.i64 (Int.tdiv (IntKind.wrap IntKind.i64 (IntKind.wrap IntKind.i64 ((24 : Int) * a_1) + a_2)) (64 : Int)) < (↑(List.length l_2) : Int))) ∧ ((((0 : Nat) = (0 : Nat)) ∧ (List.length l_2 = List.length (List.set l_2 ((0 : Nat) + Int.toNat (IntKind.wrap IntKind.i64
 (Int.tdiv (IntKind.wrap IntKind.i64 (IntKind.wrap IntKind.i64 ((24 : Int) * a_1) + a_2)) (64 : Int)))) (List.getD l_2 ((0 : Nat) + Int.toNat (IntKind.wrap IntKind.i64 (Int.tdiv (IntKind.wrap IntKind.i64 (IntKind.wrap IntKind.i64 ((24 : Int) * a_1) + a_2)) (64 : Int)))) (0 : UInt64) + a_3)))) ∧ (((a, n, a_1, ()) = (a, n, a_1, ())) ∧ ((iTwB a n a_1 (IntKind.wrap IntKind.i64 (a_2 + (1 : Int))) (List.set l_2 ((0 : Nat) + Int.toNat (IntKind.wrap IntKind.i64 (Int.tdiv (IntKind.wrap IntKind.i64 (IntKind.wrap IntKind.i64 ((24 : Int) * a_1) + a_2)) (64 : Int)))) (List.getD l_2 ((0 : Nat) + Int.toNat (IntKind.wrap IntKind.i64 (Int.tdiv (IntKind.wrap IntKind.i64 (IntKind.wrap IntKind.i64 ((24 : Int) * a_1) + a_2)) (64 : Int)))) (0 : UInt64) + a_3))) ∧ (Int.toNat ((24 : Int) - IntKind.wrap IntKind.i64 (a_2 + (1 : Int))) < Int.toNat ((24 : Int) - a_2))))))))))))))) (((((0 : Nat) = (0 : Nat)) ∧ (List.length l_1 = List.length l_1)) ∧ (((a, n, a_1, ()) = (a, n, a_1, ())) ∧
 ((iTwB a n a_1 (IntKind.wrap IntKind.i64 (a_2 + (1 : Int))) l_1) ∧ (Int.toNat ((24 : Int) - IntKind.wrap IntKind.i64 (a_2 + (1 : Int))) < Int.toNat ((24 : Int) - a_2))))))) (((((0 : Nat) = (0 : Nat)) ∧ (List.length l_1 = List.length l_1)) ∧ (((a, n, a_1, ()) = (a, n, a_1, ())) ∧ ((iTwB a n a_1 (IntKind.wrap IntKind.i64 (a_2 + (1 : Int))) l_1) ∧ (Int.toNat ((24 : Int) - IntKind.wrap IntKind.i64 (a_2 + (1 : Int))) < Int.toNat ((24 : Int) - a_2)))))))))) (((((0 : Nat) = (0 : Nat)) ∧ (List.length l_1 = List.length l_1)) ∧ (((a, n, ()) = (a, n, ())) ∧ ((iTwA a n (IntKind.wrap IntKind.i64 (a_1 + (1 : Int))) l_1) ∧ (Int.toNat ((↑(List.length a) : Int) - IntKind.wrap IntKind.i64 (a_1 + (1 : Int))) < Int.toNat ((↑(List.length a) : Int) - a_1)))))))))))) ((Q (SV.lst (LV.words (List.drop (0 : Nat) (List.take ((0 : Nat) + List.length l) l)))))))))))) := by kernel_rfl
def sToWords : SpecF := fspec (α := List Int × Int × Unit) (β := List UInt64) (fun a => some (Dg a.1 ∧ 0 ≤ a.2.1 ∧ a.2.1 ≤ 1048576)) (fun a => wordsL (nv a.1) a.2.1.toNat)

/-- A number out of words, the lowest first. -/
def wv : List UInt64 → Nat
  | [] => 0
  | x :: l => x.toNat + 18446744073709551616 * wv l
def iWords (l : List UInt64) (out : Nat) (i : Int) : Prop := -1 ≤ i ∧ i < l.length ∧ out = wv (l.drop (i + 1).toNat)
def lWords : Plan := { loops := [(0, { β := List UInt64 × Unit, α := Num × Int × Unit, same := [0], keep := [3, 4], inv := fun b _ x => iWords b.1 x.1.n x.2.1, meas := fun _ x => (x.2.1 + 1).toNat })] }
def spRW : Specs := (67, sAdd) :: spRP
theorem vcWords (l : List UInt64) (Q : SV → Prop) : LnRaw tt spRW 3 [] lWords Tryz.f65 Q (l, ()) =
 ((iWords l (0 : Nat) (IntKind.wrap IntKind.i64 ((↑(List.length l) : Int) - (1 : Int)))) ∧ (∀ a : Num, (∀ a_1 : Int, ((iWords l (Num.n a) a_1) → bcase (decide (a_1 ≥ (0 : Int))) (((((0 : Int) ≤ a_1) ∧ (a_1 < (↑(List.length l) : Int))) ∧ (((Dig (dg (Num.n a))) ∧ ((List.length (dg (Num.n a)) ≤ (536870912 : Nat)) ∧ (((0 : Int) ≤ (64 : Int)) ∧ ((64 : Int) ≤ (1073741824 : Int))))) ∧ (((Dg (dg (nv (dg (Num.n a)) * (2 : Nat) ^ Int.toNat (64 : Int)))) ∧ (Dg (List.drop (0 : Nat) (List.take ((0 : Nat) + (3 : Nat)) [IntKind.wrap IntKind.i64 (↑(UInt64.toNat (List.getD l (Int.toNat a_1) (0 : UInt64) % UInt64.ofNat (Int.toNat (16777216 : Int)))) : Int), IntKind.wrap IntKind.i64 (↑(UInt64.toNat (List.getD l (Int.toNat a_1) (0 : UInt64) / UInt64.ofNat (Int.toNat (16777216 : Int)) % UInt64.ofNat (Int.toNat (16777216 : Int)))) : Int), IntKind.wrap IntKind.i64 (↑(UInt64.toNat (List.getD l (Int.toNat a_1) (0 : UInt64) / UInt64.ofNat (Int.toNat (281474976710656 : Int)))) : Int)])))) ∧ (((l, ()) = (l, ())) ∧
 ((iWords l (nv (dg (nv (dg (Num.n a)) * (2 : Nat) ^ Int.toNat (64 : Int))) + nv (List.drop (0 : Nat) (List.take ((0 : Nat) + (3 : Nat)) [IntKind.wrap IntKind.i64 (↑(UInt64.toNat (List.getD l (Int.toNat a_1) (0 : UInt64) % UInt64.ofNat (Int.toNat (16777216 : Int)))) : Int), IntKind.wrap IntKind.i64 (↑(UInt64.toNat (List.getD l (Int.toNat a_1) (0 : UInt64) / UInt64.ofNat (Int.toNat (16777216 : Int)) % UInt64.ofNat (Int.toNat (16777216 : Int)))) : Int), IntKind.wrap IntKind.i64 (↑(UInt64.toNat (List.getD l (Int.toNat a_1) (0 : UInt64) / UInt64.ofNat (Int.toNat (281474976710656 : Int)))) : Int)]))) (IntKind.wrap IntKind.i64 (a_1 - (1 : Int)))) ∧ (Int.toNat (IntKind.wrap IntKind.i64 (a_1 - (1 : Int)) + (1 : Int)) < Int.toNat (a_1 + (1 : Int))))))))) ((((Dig (dg (Num.n a))) ∧ (List.length (dg (Num.n a)) ≤ (4294967296 : Nat))) ∧ (Q (SV.lst (LV.num (nv (dg (Num.n a)))))))))))) := by kernel_rfl
def sWords : SpecF := fspec (α := List UInt64 × Unit) (β := Num) (fun a => some (a.1.length ≤ 1048576)) (fun a => ⟨wv a.1⟩)

def fourN (n : Nat) : Four := ⟨UInt64.ofNat n, UInt64.ofNat (n / 2 ^ 64), UInt64.ofNat (n / 2 ^ 128), UInt64.ofNat (n / 2 ^ 192)⟩
def spRF : Specs := [(29, sToWords), (65, sWords)]
theorem vcFour (a : List Int) (Q : SV → Prop) : LnRaw tt spRF 3 [] {} Tryz.f11 Q (a, ()) =
 (((Dg a) ∧ (((0 : Int) ≤ (4 : Int)) ∧ ((4 : Int) ≤ (1048576 : Int)))) ∧ ((((0 : Int) ≤ (0 : Int)) ∧ ((0 : Int) < (↑(List.length (wordsL (nv a) (Int.toNat (4 : Int)))) : Int))) ∧ ((((0 : Int) ≤ (1 : Int)) ∧ ((1 : Int) < (↑(List.length (wordsL (nv a) (Int.toNat (4 : Int)))) : Int))) ∧ ((((0 : Int) ≤ (2 : Int)) ∧ ((2 : Int) < (↑(List.length (wordsL (nv a) (Int.toNat (4 : Int)))) : Int))) ∧ ((((0 : Int) ≤ (3 : Int)) ∧ ((3 : Int) < (↑(List.length (wordsL (nv a) (Int.toNat (4 : Int)))) : Int))) ∧ (Q (SV.agg [SV.u64 (List.getD (wordsL (nv a) (Int.toNat (4 : Int))) (Int.toNat (0 : Int)) (0 : UInt64)), SV.u64 (List.getD (wordsL (nv a) (Int.toNat (4 : Int))) (Int.toNat (1 : Int)) (0 : UInt64)), SV.u64 (List.getD (wordsL (nv a) (Int.toNat (4 : Int))) (Int.toNat (2 : Int)) (0 : UInt64)), SV.u64 (List.getD (wordsL (nv a) (Int.toNat (4 : Int))) (Int.toNat (3 : Int)) (0 : UInt64))]))))))) := by kernel_rfl
def sFour : SpecF := fspec (α := List Int × Unit) (β := Four) (fun a => some (Dg a.1)) (fun a => fourN (nv a.1))
def sOf : SpecF := fspec (α := Four × Unit) (β := Num) total (fun a => ⟨wv [a.1.w0, a.1.w1, a.1.w2, a.1.w3]⟩)

/-- A number out of bytes, the highest first. -/
def bev (b : List UInt8) : Nat := b.foldl (fun n x => n * 256 + x.toNat) 0
def iBig (b : List UInt8) (out : Nat) (i : Int) : Prop := 0 ≤ i ∧ i ≤ b.length ∧ out = bev (b.take i.toNat)
def lBig : Plan := { loops := [(0, { β := List UInt8 × Unit, α := Num × Int × Unit, same := [0], keep := [3, 4], inv := fun b _ x => iBig b.1 x.1.n x.2.1, meas := fun b x => (b.1.length - x.2.1).toNat })] }
theorem vcBig (b : List UInt8) (Q : SV → Prop) : LnRaw tt ((67, sAdd) :: spRS) 3 [] lBig Tryz.f27 Q (b, ()) =
 ((iBig b (0 : Nat) (0 : Int)) ∧ (∀ a : Num, (∀ a_1 : Int, ((iBig b (Num.n a) a_1) → bcase (decide (a_1 < (↑(List.length b) : Int))) ((((Dg (dg (Num.n a))) ∧ (((0 : Int) ≤ (256 : Int)) ∧ ((256 : Int) < (9223372036854775808 : Int)))) ∧ ((((0 : Int) ≤ a_1) ∧ (a_1 < (↑(List.length b) : Int))) ∧ ((((0 : Int) ≤ (↑(UInt8.toNat (List.getD b (Int.toNat a_1) (0 : UInt8))) : Int)) ∧ ((↑(UInt8.toNat (List.getD b (Int.toNat a_1) (0 : UInt8))) : Int) < (9223372036854775808 : Int))) ∧ (((Dg (dg (nv (dg (Num.n a)) * Int.toNat (256 : Int)))) ∧ (Dg (dg (Int.toNat (↑(UInt8.toNat (List.getD b (Int.toNat a_1) (0 : UInt8))) : Int))))) ∧ (((b, ()) = (b, ())) ∧ ((iBig b (nv (dg (nv (dg (Num.n a)) * Int.toNat (256 : Int))) + nv (dg (Int.toNat (↑(UInt8.toNat (List.getD b (Int.toNat a_1) (0 : UInt8))) : Int)))) (IntKind.wrap IntKind.i64 (a_1 + (1 : Int)))) ∧ (Int.toNat ((↑(List.length b) : Int) - IntKind.wrap IntKind.i64 (a_1 + (1 : Int))) < Int.toNat ((↑(List.length b) : Int) - a_1)))))))))
 ((Q (SV.lst (LV.num (Num.n a))))))))) := by kernel_rfl
def sBig : SpecF := fspec (α := List UInt8 × Unit) (β := Num) (fun a => some (a.1.length ≤ 1048576)) (fun a => ⟨bev a.1⟩)

def iTurned (b : List UInt8) (out : List UInt8) (i : Int) : Prop := -1 ≤ i ∧ i < b.length ∧ out = (b.drop (i + 1).toNat).reverse
def lTurned : Plan := { loops := [(0, { β := List UInt8 × Unit, α := OwnB × Int × Unit, same := [0], keep := [3, 4], inv := fun b _ x => iTurned b.1 x.1.l x.2.1, meas := fun _ x => (x.2.1 + 1).toNat })] }
theorem vcTurned (b : List UInt8) (Q : SV → Prop) : LnRaw tt [] 3 [] lTurned Tryz.f61 Q (b, ()) =
 ((((0 : Nat) = (0 : Nat)) ∧ ((0 : Nat) = List.length (List.replicate (0 : Nat) (0 : UInt8)))) ∧ ((iTurned b (List.replicate (0 : Nat) (0 : UInt8)) (IntKind.wrap IntKind.i64 ((↑(List.length b) : Int) - (1 : Int)))) ∧ (∀ l : List UInt8, (∀ a : Int, ((iTurned b l a) → bcase (decide (a ≥ (0 : Int))) (((((0 : Int) ≤ a) ∧ (a < (↑(List.length b) : Int))) ∧ ((((0 : Nat) + List.length l = List.length l) ∧ (List.length (List.drop (0 : Nat) (List.take (List.length l) l) ++ List.drop (0 : Nat) (List.take ((0 : Nat) + (1 : Nat)) [List.getD b (Int.toNat a) (0 : UInt8)])) ≤ appLim)) ∧ ((((0 : Nat) = (0 : Nat)) ∧ (List.length (List.drop (0 : Nat) (List.take (List.length l) l) ++ List.drop (0 : Nat) (List.take ((0 : Nat) + (1 : Nat)) [List.getD b (Int.toNat a) (0 : UInt8)])) = List.length (List.drop (0 : Nat) (List.take (List.length l) l) ++ List.drop (0 : Nat) (List.take ((0 : Nat) + (1 : Nat)) [List.getD b (Int.toNat a) (0 : UInt8)])))) ∧ (((b, ()) = (b, ())) ∧ ((iTurned b
 (List.drop (0 : Nat) (List.take (List.length l) l) ++ List.drop (0 : Nat) (List.take ((0 : Nat) + (1 : Nat)) [List.getD b (Int.toNat a) (0 : UInt8)])) (IntKind.wrap IntKind.i64 (a - (1 : Int)))) ∧ (Int.toNat (IntKind.wrap IntKind.i64 (a - (1 : Int)) + (1 : Int)) < Int.toNat (a + (1 : Int))))))))) ((Q (SV.lst (LV.bytes (List.drop (0 : Nat) (List.take ((0 : Nat) + List.length l) l))))))))))) := by kernel_rfl
def sTurned : SpecF := fspec (α := List UInt8 × Unit) (β := List UInt8) (fun a => some (a.1.length ≤ 4294967296)) (fun a => a.1.reverse)
def spRB : Specs := [(27, sBig), (61, sTurned)]
def sLittle : SpecF := fspec (α := List UInt8 × Unit) (β := Num) (fun a => some (a.1.length ≤ 1048576)) (fun a => ⟨bev a.1.reverse⟩)

/-- A number's lowest bytes, the lowest first. -/
def bytesN (m n : Nat) : List UInt8 := (List.range n).map fun i => UInt8.ofNat (m / 256 ^ i)
def iTlA (a : List Int) (n i : Int) (out : List UInt8) : Prop := 0 ≤ i ∧ i ≤ n ∧ out = (List.range n.toNat).map fun j => if j < i.toNat then UInt8.ofNat (nv a / 256 ^ j) else 0
def iTlB (a : List Int) (i : Int) (out0 : List UInt8) (x k : Int) (out : List UInt8) : Prop := out = out0 ∧ 0 ≤ k ∧ k ≤ i % 3 ∧ x = (((a.getD (i / 3).toNat 0).toNat / 256 ^ k.toNat : Nat) : Int)
def lToLittle : Plan := { loops := [(0, { β := List Int × Int × Unit, α := OwnB × Int × Unit, same := [0, 1], keep := [5, 6], inv := fun b _ x => iTlA b.1 b.2.1 x.2.1 x.1.l, meas := fun b x => (b.2.1 - x.2.1).toNat }), (2, { β := List Int × Int × Int × Unit, α := OwnB × Int × Int × Unit, same := [0, 1, 6], keep := [5, 7, 8], inv := fun b x0 x => iTlB b.1 b.2.2.1 x0.1.l x.2.1 x.2.2.1 x.1.l, meas := fun b x => (b.2.2.1 % 3 - x.2.2.1).toNat })] }
theorem vcToLittle (a : List Int) (n : Int) (Q : SV → Prop) : LnRaw tt [] 3 [] lToLittle Tryz.f62 Q (a, n, ()) =
 ((((0 : Int) ≤ n) ∧ ((n = n) ∧ (n ≤ (1099511627776 : Int)))) ∧ ((((0 : Nat) = (0 : Nat)) ∧ (Int.toNat n = List.length (List.replicate (Int.toNat n) (0 : UInt8)))) ∧ ((iTlA a n (0 : Int) (List.replicate (Int.toNat n) (0 : UInt8))) ∧ (∀ l : List UInt8, (∀ a_1 : Int, ((iTlA a n a_1 l) → bcase (decide (a_1 < n)) (bcase (decide (IntKind.wrap IntKind.i64 (Int.tdiv a_1 (3 : Int)) < (↑(List.length a) : Int))) (((((0 : Int) ≤ IntKind.wrap IntKind.i64 (Int.tdiv a_1 (3 : Int))) ∧ (IntKind.wrap IntKind.i64 (Int.tdiv a_1 (3 : Int)) < (↑(List.length a) : Int))) ∧ ((((0 : Nat) = (0 : Nat)) ∧ (List.length l = List.length l)) ∧ ((iTlB a a_1 l (List.getD a (Int.toNat (IntKind.wrap IntKind.i64 (Int.tdiv a_1 (3 : Int)))) (0 : Int)) (0 : Int) l) ∧ (∀ l_1 : List UInt8, (∀ a_2 : Int, (∀ a_3 : Int, ((iTlB a a_1 l a_2 a_3 l_1) → bcase (decide (a_3 < Int.tmod a_1 (3 : Int))) (((((0 : Nat) = (0 : Nat)) ∧ (List.length l_1 = List.length l_1)) ∧ (((a, n, a_1, ()) = (a, n, a_1, ())) ∧
 ((iTlB a a_1 l (IntKind.wrap IntKind.i64 (Int.tdiv a_2 (256 : Int))) (IntKind.wrap IntKind.i64 (a_3 + (1 : Int))) l_1) ∧ (Int.toNat (a_1 % (3 : Int) - IntKind.wrap IntKind.i64 (a_3 + (1 : Int))) < Int.toNat (a_1 % (3 : Int) - a_3)))))) (((((0 : Int) ≤ a_1) ∧ (a_1 < (↑(List.length l_1) : Int))) ∧ ((((0 : Nat) = (0 : Nat)) ∧ (List.length l_1 = List.length (List.set l_1 ((0 : Nat) + Int.toNat a_1) (UInt8.ofInt (Int.tmod a_2 (256 : Int)))))) ∧ (((a, n, ()) = (a, n, ())) ∧ ((iTlA a n (IntKind.wrap IntKind.i64 (a_1 + (1 : Int))) (List.set l_1 ((0 : Nat) + Int.toNat a_1) (UInt8.ofInt (Int.tmod a_2 (256 : Int))))) ∧ (Int.toNat (n - IntKind.wrap IntKind.i64 (a_1 + (1 : Int))) < Int.toNat (n - a_1))))))))))))))) (((((0 : Nat) = (0 : Nat)) ∧ (List.length l = List.length l)) ∧ (((a, n, ()) = (a, n, ())) ∧ ((iTlA a n (IntKind.wrap IntKind.i64 (a_1 + (1 : Int))) l) ∧ (Int.toNat (n - IntKind.wrap IntKind.i64 (a_1 + (1 : Int))) < Int.toNat (n - a_1)))))))
 ((Q (SV.lst (LV.bytes (List.drop (0 : Nat) (List.take ((0 : Nat) + List.length l) l)))))))))))) := by kernel_rfl
def sToLittle : SpecF := fspec (α := List Int × Int × Unit) (β := List UInt8) (fun a => some (Dg a.1 ∧ 0 ≤ a.2.1 ∧ a.2.1 ≤ 1048576)) (fun a => bytesN (nv a.1) a.2.1.toNat)
theorem vcToBig (a : List Int) (n : Int) (Q : SV → Prop) : LnRaw tt ((62, sToLittle) :: spRB) 3 [] {} Tryz.f23 Q (a, n, ()) =
 (((Dg a) ∧ (((0 : Int) ≤ n) ∧ (n ≤ (1048576 : Int)))) ∧ ((List.length (bytesN (nv a) (Int.toNat n)) ≤ (4294967296 : Nat)) ∧ (Q (SV.lst (LV.bytes (List.reverse (bytesN (nv a) (Int.toNat n)))))))) := by kernel_rfl
def sToBig : SpecF := fspec (α := List Int × Int × Unit) (β := List UInt8) (fun a => some (Dg a.1 ∧ 0 ≤ a.2.1 ∧ a.2.1 ≤ 1048576)) (fun a => (bytesN (nv a.1) a.2.1.toNat).reverse)

def iSame (a b : List UInt8) (i : Int) : Prop := 0 ≤ i ∧ i ≤ a.length ∧ a.length = b.length ∧ a.take i.toNat = b.take i.toNat
def lSame : Plan := { loops := [(0, { β := List UInt8 × List UInt8 × Unit, α := Int × Unit, same := [0, 1], keep := [5], inv := fun b _ x => iSame b.1 b.2.1 x.1, meas := fun b x => (b.1.length - x.1).toNat })] }
theorem vcSame (a b : List UInt8) (Q : SV → Prop) : LnRaw tt [] 3 [] lSame Tryz.f8 Q (a, b, ()) =
 bcase ((↑(List.length a) : Int) != (↑(List.length b) : Int)) ((Q (SV.bool false))) (((iSame a b (0 : Int)) ∧ (∀ a_1 : Int, ((iSame a b a_1) → bcase (decide (a_1 < (↑(List.length a) : Int))) (((((0 : Int) ≤ a_1) ∧ (a_1 < (↑(List.length a) : Int))) ∧ ((((0 : Int) ≤ a_1) ∧ (a_1 < (↑(List.length b) : Int))) ∧ bcase (List.getD a (Int.toNat a_1) (0 : UInt8) != List.getD b (Int.toNat a_1) (0 : UInt8)) ((Q (SV.bool false))) ((((a, b, ()) = (a, b, ())) ∧ ((iSame a b (IntKind.wrap IntKind.i64 (a_1 + (1 : Int)))) ∧ (Int.toNat ((↑(List.length a) : Int) - IntKind.wrap IntKind.i64 (a_1 + (1 : Int))) < Int.toNat ((↑(List.length a) : Int) - a_1)))))))) ((Q (SV.bool true))))))) := by kernel_rfl
def sSame : SpecF := fspec (α := List UInt8 × List UInt8 × Unit) (β := Bool) (fun a => some (a.1.length ≤ 4294967296)) (fun a => decide (a.1 = a.2.1))
end Go.Proofs.YtficbeeoafiiaaaGreatDoor.R1
/- The reference's functions on digits (5): words and bytes: what they say is so. -/
set_option maxRecDepth 10000
namespace Go.Proofs.YtficbeeoafiiaaaGreatDoor.R1
open Go.Sym Go.Dig

theorem dlen {m : Nat} (k : Nat) (h : m < 2 ^ (24 * k)) : (dg m).length ≤ k := dg_length_lt (by rw [pow24]; exact h)
theorem dlen2 {m K n : Nat} (h : m < 2 ^ K) (hn : K ≤ 24 * n) : (dg m).length ≤ n := dlen n (Nat.lt_of_lt_of_le h (pow2_le hn))
theorem down_digit (m i r : Nat) (hr : r < 24) : m / 16777216 ^ i / 2 ^ r % 16777216 = m / 16777216 ^ i % 16777216 / 2 ^ r + m / 16777216 ^ (i + 1) % 16777216 % 2 ^ r * 2 ^ (24 - r) := by
  have e1 : m / 16777216 ^ (i + 1) = m / 16777216 ^ i / 16777216 := by rw [Nat.pow_succ, Nat.div_div_eq_div_mul]
  rw [e1]
  generalize m / 16777216 ^ i = M
  have hB : (16777216 : Nat) = 2 ^ r * 2 ^ (24 - r) := by rw [← Nat.pow_add, show r + (24 - r) = 24 by omega]
  have p1 : 0 < 2 ^ r := Nat.pow_pos (by omega)
  have p2 : 0 < 2 ^ (24 - r) := Nat.pow_pos (by omega)
  have e2 : M / 16777216 % 16777216 % 2 ^ r = M / 16777216 % 2 ^ r := Nat.mod_mod_of_dvd _ ⟨_, hB⟩
  rw [e2]
  have e3 : M / 2 ^ r = M % 16777216 / 2 ^ r + 2 ^ (24 - r) * (M / 16777216) := by
    have : M = M % 16777216 + 2 ^ r * (2 ^ (24 - r) * (M / 16777216)) := by rw [← Nat.mul_assoc, ← hB]; omega
    conv => lhs; rw [this]
    rw [Nat.add_mul_div_left _ _ p1]
  have e4 : 2 ^ (24 - r) * (M / 16777216) = 16777216 * (M / 16777216 / 2 ^ r) + M / 16777216 % 2 ^ r * 2 ^ (24 - r) := by
    have := Nat.div_add_mod (M / 16777216) (2 ^ r)
    conv => lhs; rw [← this]
    rw [Nat.mul_add, ← Nat.mul_assoc, Nat.mul_comm (2 ^ (24 - r)) (2 ^ r), ← hB, Nat.mul_comm (2 ^ (24 - r))]
  have l1 : M % 16777216 / 2 ^ r < 2 ^ (24 - r) := Nat.div_lt_of_lt_mul (by rw [← hB]; omega)
  have l2 : (M / 16777216 % 2 ^ r + 1) * 2 ^ (24 - r) ≤ 2 ^ r * 2 ^ (24 - r) := Nat.mul_le_mul_right _ (Nat.mod_lt _ p1)
  rw [← hB, Nat.add_mul, Nat.one_mul] at l2
  rw [e3, e4]
  generalize M % 16777216 / 2 ^ r = x at *
  generalize M / 16777216 % 2 ^ r * 2 ^ (24 - r) = y at *
  generalize M / 16777216 / 2 ^ r = z at *
  omega
theorem nv_snoc {l : List Int} {d : Int} (h : Dig (l ++ [d])) (d' : Nat) (hd : d = d') : nv (l ++ [d]) = nv l + 16777216 ^ l.length * d' := by
  subst hd
  have h1 := nv_val h
  have h2 : Dig l := fun x hx => h x (by simp [hx])
  rw [val_snoc, ← nv_val h2, ← pw_cast, ← Int.natCast_mul, ← Int.natCast_add] at h1
  exact Int.ofNat_inj.1 h1
theorem nv_lt {l : List Int} (h : Dig l) : nv l < 16777216 ^ l.length := pw_lt_nat (by rw [nv_val h]; exact val_lt h)

theorem ok_Down : SpecOK Tryz.prog 76 sDown := by
  refine fn_okL (by kernel_rfl) tt_ok spRS_ok 3 Tryz.func76 (by decide +kernel) (by kernel_rfl) ?_
  rintro ⟨a, n, _⟩ ⟨⟨ha, hla⟩, h0, h1⟩
  simp only at ha hla h0 h1
  refine ⟨[], lDown, isNum (nv a / 2 ^ n.toNat), LnVD.of (vcDown a n _) ?_, fun x h at_ w v r => isNum_ok h r⟩
  rw [tdiv_nn h0, tmod_nn h0, wr (x := n / 24) (by omega), wr (x := 24 - n % 24) (by omega)]
  obtain ⟨r, hr⟩ : ∃ r : Nat, n % 24 = r := ⟨(n % 24).toNat, by omega⟩
  have hr24 : r < 24 := by omega
  have er : ((24 : Int) - n % 24).toNat = 24 - r := by omega
  rw [er, hr]
  simp only [Int.toNat_natCast]
  have ek : ((2 : Int) ^ r) = ((2 ^ r : Nat) : Int) := by simp
  have eu : ((2 : Int) ^ (24 - r)) = ((2 ^ (24 - r) : Nat) : Int) := by simp
  have pk : 0 < 2 ^ r := Nat.pow_pos (by omega)
  have pu : 0 < 2 ^ (24 - r) := Nat.pow_pos (by omega)
  rw [ek, eu]
  refine ⟨⟨by omega, by omega⟩, ⟨by omega, by omega⟩, ⟨trivial, rfl⟩, ⟨by omega, .inr rfl, Dig.nil, by simp, by simp [nv_nil, Nat.mod_one]⟩, fun out i ⟨i0, i1, hd, hl, hv⟩ => ?_⟩
  rw [bcase_dec]
  refine ⟨fun hi => ⟨⟨by omega, hi⟩, by omega, ⟨trivial, trivial⟩, ?_, ?_⟩, fun hi => ?_⟩
  all_goals
    have da := getD_dig ha i.toNat
    have db := getD_dig ha (i + 1).toNat
    have dd := down_digit (nv a) i.toNat r hr24
    rw [digit_nat ha, show i.toNat + 1 = (i + 1).toNat by omega, digit_nat ha] at dd
    obtain ⟨d0, hd0⟩ : ∃ d : Nat, a.getD i.toNat 0 = d := ⟨(a.getD i.toNat 0).toNat, by omega⟩
    obtain ⟨d1, hd1⟩ : ∃ d : Nat, a.getD (i + 1).toNat 0 = d := ⟨(a.getD (i + 1).toNat 0).toNat, by omega⟩
    rw [hd0, hd1] at dd
    simp only [Int.toNat_natCast] at dd
    have lt : d0 / 2 ^ r + d1 % 2 ^ r * 2 ^ (24 - r) < 16777216 := by rw [← dd]; exact Nat.mod_lt _ (by omega)
  · rw [wr (x := i + 1) (by omega), tdiv_nn da.1, tmod_nn db.1, hd0, hd1, ← Int.natCast_ediv, ← Int.natCast_emod, ← Int.natCast_mul]
    rw [hd1] at db
    generalize d0 / 2 ^ r = x at *
    generalize hy : d1 % 2 ^ r * 2 ^ (24 - r) = y at *
    rw [wr (x := (x : Int)) (by omega), wr (x := (y : Int)) (by omega), wr (x := (x : Int) + y) (by omega), bcase_dec]
    refine ⟨fun h => ⟨⟨by omega, h⟩, by omega, ⟨by trivial, by trivial⟩, by trivial, by trivial, by trivial⟩, fun h => ⟨⟨by trivial, by trivial⟩, by trivial, by trivial, ?_⟩⟩
    have : d1 = 0 := by rw [getD_ge (by omega)] at hd1; omega
    subst this
    simp at hy
    omega
  · rintro l1 x ⟨rfl, hx⟩
    rw [tdiv_nn da.1, hd0, hd1, ← Int.natCast_ediv, ← Int.natCast_emod, ← Int.natCast_mul] at hx
    have hx2 : x = ((d0 / 2 ^ r + d1 % 2 ^ r * 2 ^ (24 - r) : Nat) : Int) := by
      generalize d0 / 2 ^ r = x0 at *
      generalize d1 % 2 ^ r * 2 ^ (24 - r) = y at *
      rw [wr (x := (x0 : Int)) (by omega)] at hx
      rw [hx]; omega
    rw [← dd] at hx2
    simp only [app_one]
    rw [wr (x := i + 1) (by omega)]
    have hd' : Dig (l1 ++ [x]) := hd.append (Dig.cons (by omega) (by rw [hx2]; have := Nat.mod_lt (nv a / 16777216 ^ i.toNat / 2 ^ r) (show 16777216 > 0 by omega); omega) Dig.nil)
    refine ⟨⟨by omega, by simp [appLim]; omega⟩, ⟨trivial, trivial⟩, trivial, ⟨by omega, .inl (by omega), hd', by simp; omega, ?_⟩, by omega⟩
    rw [nv_snoc hd' _ hx2, List.length_append, List.length_singleton, Nat.mod_pow_succ, ← hv]
    congr 3
    rw [pow24, pow24, Nat.div_div_eq_div_mul, Nat.div_div_eq_div_mul, ← Nat.pow_add, ← Nat.pow_add]
    congr 2
    omega
  · simp only [whole]
    refine ⟨⟨hd, by omega⟩, .inl ?_⟩
    have : nv a / 2 ^ n.toNat < 16777216 ^ out.length := by
      refine Nat.div_lt_of_lt_mul ?_
      rw [pow24, ← Nat.pow_add]
      refine Nat.lt_of_lt_of_le (nv_lt ha) ?_
      rw [pow24]
      exact pow2_le (by omega)
    rw [hv, Nat.mod_eq_of_lt this]

theorem u64_ofNat_add (a b : Nat) : UInt64.ofNat (a + 18446744073709551616 * b) = UInt64.ofNat a := by
  apply UInt64.toNat_inj.1
  simp only [UInt64.toNat_ofNat']
  omega
theorem word_low {M t w : Nat} (hw : w < t / 64) : UInt64.ofNat ((M + 2 ^ t) / 2 ^ (64 * w)) = UInt64.ofNat (M / 2 ^ (64 * w)) := by
  have e : 2 ^ t = 2 ^ (64 * w) * (2 ^ 64 * 2 ^ (t - 64 * w - 64)) := by rw [← Nat.pow_add, ← Nat.pow_add]; congr 1; omega
  rw [e, Nat.add_mul_div_left _ _ (Nat.pow_pos (by omega))]
  exact u64_ofNat_add _ _
theorem word_at {M t : Nat} : UInt64.ofNat ((M + 2 ^ t) / 2 ^ (64 * (t / 64))) = UInt64.ofNat (M / 2 ^ (64 * (t / 64))) + UInt64.ofNat (2 ^ (t % 64)) := by
  have e : 2 ^ t = 2 ^ (64 * (t / 64)) * 2 ^ (t % 64) := by rw [← Nat.pow_add]; congr 1; omega
  rw [e, Nat.add_mul_div_left _ _ (Nat.pow_pos (by omega)), UInt64.ofNat_add]
theorem word_high {M t w : Nat} (hM : M < 2 ^ t) (hw : t / 64 < w) : UInt64.ofNat ((M + 2 ^ t) / 2 ^ (64 * w)) = UInt64.ofNat (M / 2 ^ (64 * w)) := by
  have h : 2 ^ (t + 1) ≤ 2 ^ (64 * w) := pow2_le (by omega)
  rw [Nat.pow_succ] at h
  rw [Nat.div_eq_of_lt (by omega), Nat.div_eq_of_lt (by omega)]
theorem wordsL_len (m n : Nat) : (wordsL m n).length = n := by simp [wordsL]
theorem wordsL_get (m n w : Nat) (h : w < n) : (wordsL m n).getD w 0 = UInt64.ofNat (m / 2 ^ (64 * w)) := by
  rw [List.getD_eq_getElem?_getD, List.getElem?_eq_getElem (by rw [wordsL_len]; exact h)]
  simp [wordsL]
theorem wordsL_ext {l : List UInt64} {m n : Nat} (hl : l.length = n) (h : ∀ w, w < n → l.getD w 0 = UInt64.ofNat (m / 2 ^ (64 * w))) : l = wordsL m n := by
  apply List.ext_getElem (by rw [wordsL_len, hl])
  intro w h1 h2
  have := h w (by omega)
  rw [List.getD_eq_getElem?_getD, List.getElem?_eq_getElem h1] at this
  simpa [wordsL] using this
theorem wordsL_out {M t n : Nat} (ht : 64 * n ≤ t) : wordsL (M + 2 ^ t) n = wordsL M n := by
  refine wordsL_ext (wordsL_len _ _) (fun w hw => ?_) |>.symm ▸ rfl
  rw [wordsL_get _ _ _ hw, word_low (by omega)]
theorem wordsL_set {M t n : Nat} (hM : M < 2 ^ t) (_ht : t < 64 * n) : (wordsL M n).set (t / 64) ((wordsL M n).getD (t / 64) 0 + UInt64.ofNat (2 ^ (t % 64))) = wordsL (M + 2 ^ t) n := by
  refine wordsL_ext (by simp [wordsL_len]) (fun w hw => ?_)
  by_cases e : w = t / 64
  · subst e
    rw [List.getD_eq_getElem?_getD, List.getElem?_set_self (by rw [wordsL_len]; exact hw), wordsL_get _ _ _ hw, word_at]; rfl
  · rw [List.getD_eq_getElem?_getD, List.getElem?_set_ne (Ne.symm e), ← List.getD_eq_getElem?_getD, wordsL_get _ _ _ hw]
    by_cases h : w < t / 64
    · rw [word_low h]
    · rw [word_high hM (by omega)]

theorem ok_ToWords : SpecOK Tryz.prog 29 sToWords := by
  refine fn_okL (by kernel_rfl) tt_ok spRS_ok 3 Tryz.func29 (by decide +kernel) (by kernel_rfl) ?_
  rintro ⟨a, n, _⟩ ⟨⟨ha, hla⟩, h0, h1⟩
  simp only at ha hla h0 h1
  refine ⟨[], lToWords, fun x => x = .lst (.words (wordsL (nv a) n.toNat)), LnVD.of (vcToWords a n _) ?_, fun x h at_ w v r => by have h' : x = _ := h; subst h'; exact r⟩
  refine ⟨⟨h0, rfl, by omega⟩, ⟨rfl, by simp⟩, ⟨by omega, by omega, ?_⟩, fun out i ⟨i0, i1, hv⟩ => ?_⟩
  · refine wordsL_ext (by simp) (fun w hw => ?_)
    simp [List.getD_eq_getElem?_getD, hw, Nat.mod_one]
  rw [bcase_dec]
  refine ⟨fun hi => ⟨⟨rfl, rfl⟩, ⟨by omega, by omega, by simpa using hv⟩, fun o k ⟨k0, k1, hv2⟩ => ?_⟩, fun hi => ?_⟩
  · rw [bcase_dec]
    refine ⟨fun hk => ?_, fun hk => ?_⟩
    · obtain ⟨K, hK⟩ : ∃ K : Nat, k = K := ⟨k.toNat, by omega⟩
      subst hK
      obtain ⟨I, hI⟩ : ∃ I : Nat, i = I := ⟨i.toNat, by omega⟩
      subst hI
      simp only [Int.toNat_natCast] at hv2 hv ⊢
      have da := getD_dig ha I
      obtain ⟨d, hd⟩ : ∃ d : Nat, a.getD I 0 = d := ⟨(a.getD I 0).toNat, by omega⟩
      have ek : ((2 : Int) ^ K) = ((2 ^ K : Nat) : Int) := by simp
      have pk : 0 < 2 ^ K := Nat.pow_pos (by omega)
      have hle : d / 2 ^ K ≤ d := Nat.div_le_self _ _
      have hbit : nv a / 2 ^ (24 * I + K) % 2 = d / 2 ^ K % 2 := by
        have := digit_nat ha I
        rw [hd, Int.toNat_natCast] at this
        rw [← this, bit_mod _ _ (by omega), pow24, Nat.div_div_eq_div_mul, ← Nat.pow_add]
      have hsucc := Nat.mod_pow_succ (x := nv a) (b := 2) (k := 24 * I + K)
      rw [hbit] at hsucc
      have hmod : nv a % 2 ^ (24 * I + K) < 2 ^ (24 * I + K) := Nat.mod_lt _ (Nat.pow_pos (by omega))
      rw [wr (x := 24 * (I : Int)) (by omega), wr (x := 24 * (I : Int) + K) (by omega), wr (x := (K : Int) + 1) (by omega), wr (x := 64 * n) (by omega), ek, hd, tdiv_nn (by omega), ← Int.natCast_ediv]
      have e1 : ((K : Int) + 1).toNat = K + 1 := by omega
      generalize d / 2 ^ K = z at *
      rw [wr (x := (z : Int)) (by omega), tmod_nn (by omega)]
      refine ⟨⟨by omega, hi⟩, ⟨by omega, by omega⟩, by omega, ?_⟩
      rw [bcase_iff, bcase_dec]
      refine ⟨fun hb => ⟨fun ht => ⟨⟨by trivial, by trivial⟩, ⟨rfl, by omega, by omega, by trivial⟩, fun o2 x j ⟨ho, j0, j1, hx⟩ => ?_⟩, fun ht => ⟨⟨by trivial, by trivial⟩, by trivial, ⟨by omega, by omega, ?_⟩, by omega⟩⟩, fun hb => ⟨⟨by trivial, by trivial⟩, by trivial, ⟨by omega, by omega, ?_⟩, by omega⟩⟩
      · have hb : z % 2 = 1 := by simp at hb; omega
        rw [hb, Nat.mul_one] at hsucc
        rw [tmod_nn (by omega), tdiv_nn (by omega), bcase_dec]
        subst ho
        refine ⟨fun hj => ?_, fun hj => ?_⟩
        · rw [wr (x := j + 1) (by omega)]
          refine ⟨⟨by trivial, by trivial⟩, by trivial, ⟨by trivial, by omega, by omega, ?_⟩, by omega⟩
          rw [hx, show (j + 1).toNat = j.toNat + 1 by omega, Nat.pow_succ', UInt64.ofNat_mul]; rfl
        · have ej : j.toNat = (24 * I + K) % 64 := by omega
          rw [wr (x := (24 * (I : Int) + K) / 64) (by omega)]
          have e2 : (0 + ((24 * (I : Int) + K) / 64).toNat) = (24 * I + K) / 64 := by omega
          have hlen : o2.length = n.toNat := by rw [hv2, wordsL_len]
          rw [e2]
          refine ⟨⟨by omega, by omega⟩, ⟨by omega, by omega⟩, ⟨by trivial, by simp⟩, by trivial, ⟨by omega, by omega, ?_⟩, by omega⟩
          simp only [Int.toNat_natCast]; rw [e1, ← Nat.add_assoc, hsucc, hx, ej, hv2]
          exact wordsL_set hmod (by omega)
      · have hb : z % 2 = 1 := by simp at hb; omega
        rw [hb, Nat.mul_one] at hsucc
        simp only [Int.toNat_natCast, e1]
        rw [← Nat.add_assoc, hsucc, wordsL_out (by omega), hv2]
      · have hb : z % 2 = 0 := by simp at hb; omega
        rw [hb, Nat.mul_zero] at hsucc
        simp only [Int.toNat_natCast, e1]
        rw [← Nat.add_assoc, hsucc, hv2]; rfl
    · have : k = 24 := by omega
      subst this
      rw [wr (x := i + 1) (by omega)]
      refine ⟨⟨rfl, rfl⟩, rfl, ⟨by omega, by omega, ?_⟩, by omega⟩
      rw [hv2]
      congr 3
      omega
  · simp only [whole]
    have : nv a < 2 ^ (24 * i.toNat) := by rw [← pow24, show i.toNat = a.length by omega]; exact nv_lt ha
    rw [hv, Nat.mod_eq_of_lt this]

end Go.Proofs.YtficbeeoafiiaaaGreatDoor.R1
/- The reference's functions on digits (6): words and bytes: what they say is so. -/
set_option maxRecDepth 10000
namespace Go.Proofs.YtficbeeoafiiaaaGreatDoor.R1
open Go.Sym Go.Dig

theorem wv_lt : ∀ l : List UInt64, wv l < 2 ^ (64 * l.length)
  | [] => by simp [wv]
  | x :: l => by
    have := wv_lt l
    have := u64_lt x
    simp only [wv, List.length_cons]
    rw [show 64 * (l.length + 1) = 64 * l.length + 64 by omega, Nat.pow_add]
    omega
theorem wv_drop (l : List UInt64) (i : Nat) (h : i < l.length) : wv (l.drop i) = (l.getD i 0).toNat + 18446744073709551616 * wv (l.drop (i + 1)) := by
  rw [List.drop_eq_getElem_cons h, List.getD_eq_getElem?_getD, List.getElem?_eq_getElem h]; rfl
theorem c24 : UInt64.ofNat (Int.toNat 16777216) = 16777216 := rfl
theorem c48 : UInt64.ofNat (Int.toNat 281474976710656) = 281474976710656 := rfl
theorem u24 (x : UInt64) : (x % 16777216).toNat = x.toNat % 16777216 := by rw [UInt64.toNat_mod]; rfl
theorem v24 (x : UInt64) : (x / 16777216).toNat = x.toNat / 16777216 := by rw [UInt64.toNat_div]; rfl
theorem v48 (x : UInt64) : (x / 281474976710656).toNat = x.toNat / 281474976710656 := by rw [UInt64.toNat_div]; rfl
theorem spRW_ok : SpecsOK Tryz.prog spRW := .cons ok_Add spRP_ok
theorem ok_Words : SpecOK Tryz.prog 65 sWords := by
  refine fn_okL (by kernel_rfl) tt_ok spRW_ok 3 Tryz.func65 (by decide +kernel) (by kernel_rfl) ?_
  rintro ⟨l, _⟩ hl
  replace hl : l.length ≤ 1048576 := hl
  refine ⟨[], lWords, isNum (wv l), LnVD.of (vcWords l _) ?_, fun x h at_ w v r => isNum_ok h r⟩
  rw [wr (x := (l.length : Int) - 1) (by omega)]
  refine ⟨⟨by omega, by omega, ?_⟩, fun a i ⟨i0, i1, hv⟩ => ?_⟩
  · rw [show ((l.length : Int) - 1 + 1).toNat = l.length by omega, List.drop_length]; rfl
  · obtain ⟨m⟩ := a
    simp only at hv ⊢
    obtain ⟨K, hK⟩ : ∃ K : Nat, K = 64 * 1048576 := ⟨_, rfl⟩
    have hb : m < 2 ^ K := by
      have := wv_lt (l.drop (i + 1).toNat)
      rw [← hv] at this
      exact Nat.lt_of_lt_of_le this (pow2_le (by rw [List.length_drop]; omega))
    have hm1 : (dg m).length ≤ 4194304 := dlen2 hb (by omega)
    rw [bcase_dec]
    refine ⟨fun hi => ?_, fun hi => ?_⟩
    · have hm2 : (dg (m * 2 ^ 64)).length ≤ 8388608 := by
        have : m * 2 ^ 64 < 2 ^ K * 2 ^ 64 := Nat.mul_lt_mul_of_pos_right hb (by omega)
        rw [← Nat.pow_add] at this
        exact dlen2 this (by omega)
      obtain ⟨x, hx⟩ : ∃ x, l.getD i.toNat 0 = x := ⟨_, rfl⟩
      have hxl := u64_lt x
      rw [wr (x := i - 1) (by omega), hx, c24, c48, u24, u24, v24, v48, nv_dg, show Int.toNat 64 = 64 from rfl]
      rw [wr (x := ((x.toNat % 16777216 : Nat) : Int)) (by omega), wr (x := ((x.toNat / 16777216 % 16777216 : Nat) : Int)) (by omega), wr (x := ((x.toNat / 281474976710656 : Nat) : Int)) (by omega)]
      have hdig : Dig [((x.toNat % 16777216 : Nat) : Int), ((x.toNat / 16777216 % 16777216 : Nat) : Int), ((x.toNat / 281474976710656 : Nat) : Int)] := Dig.cons (by omega) (by omega) (Dig.cons (by omega) (by omega) (Dig.cons (by omega) (by omega) Dig.nil))
      have hnv : nv [((x.toNat % 16777216 : Nat) : Int), ((x.toNat / 16777216 % 16777216 : Nat) : Int), ((x.toNat / 281474976710656 : Nat) : Int)] = x.toNat := by
        simp only [nv, val]; omega
      have e3 : ∀ d0 d1 d2 : Int, List.drop 0 (List.take (0 + 3) [d0, d1, d2]) = [d0, d1, d2] := fun _ _ _ => rfl
      rw [e3, hnv, nv_dg]
      refine ⟨⟨by omega, by omega⟩, ⟨dig_dg _, by omega, by omega, by omega⟩, ⟨Dg.dg (by omega), hdig, by simp⟩, by trivial, ⟨by omega, by omega, ?_⟩, by omega⟩
      have e1 : (i - 1 + 1).toNat = i.toNat := by omega
      rw [e1, wv_drop l i.toNat (by omega), hx, show i.toNat + 1 = (i + 1).toNat by omega, ← hv]
      omega
    · have e1 : (i + 1).toNat = 0 := by omega
      rw [e1, List.drop_zero] at hv
      refine ⟨⟨dig_dg _, by omega⟩, .inl ?_⟩
      rw [nv_dg, hv]

theorem spRF_ok : SpecsOK Tryz.prog spRF := .cons ok_ToWords <| .cons ok_Words <| .nil _
theorem ok_Four : SpecOK Tryz.prog 11 sFour := by
  refine fn_okL (by kernel_rfl) tt_ok spRF_ok 3 Tryz.func11 (by decide +kernel) (by kernel_rfl) ?_
  rintro ⟨a, _⟩ ha
  replace ha : Dg a := ha
  refine ⟨[], {}, fun x => x = (fourN (nv a)).sv, LnVD.of (vcFour a _) ?_, fun x h at_ w v r => by have h' : x = _ := h; subst h'; exact r⟩
  rw [show Int.toNat 4 = 4 from rfl, wordsL_len]
  refine ⟨⟨ha, by omega, by omega⟩, ⟨by omega, by omega⟩, ⟨by omega, by omega⟩, ⟨by omega, by omega⟩, ⟨by omega, by omega⟩, ?_⟩
  rw [show Int.toNat 0 = 0 from rfl, show Int.toNat 1 = 1 from rfl, show Int.toNat 2 = 2 from rfl, show Int.toNat 3 = 3 from rfl]
  rw [wordsL_get _ _ _ (by omega), wordsL_get _ _ _ (by omega), wordsL_get _ _ _ (by omega), wordsL_get _ _ _ (by omega)]
  simp only [Four.sv, fourN, Nat.mul_zero, Nat.pow_zero, Nat.div_one]
theorem ok_Of : SpecOK Tryz.prog 1000001 Sym.sNo := Sym.sNo_ok _ _
theorem bev_snoc (l : List UInt8) (x : UInt8) : bev (l ++ [x]) = bev l * 256 + x.toNat := by simp [bev]
theorem bev_take (b : List UInt8) (i : Nat) (h : i < b.length) : bev (b.take (i + 1)) = bev (b.take i) * 256 + (b.getD i 0).toNat := by
  rw [List.take_succ_eq_append_getElem h, bev_snoc, List.getD_eq_getElem?_getD, List.getElem?_eq_getElem h]; rfl
theorem bev_lt_take (b : List UInt8) : ∀ i : Nat, i ≤ b.length → bev (b.take i) < 2 ^ (8 * i)
  | 0, _ => by simp [bev]
  | i + 1, h => by
    have := bev_lt_take b i (by omega)
    have := u8_lt (b.getD i 0)
    rw [bev_take b i (by omega), show 8 * (i + 1) = 8 * i + 8 by omega, Nat.pow_add]
    omega
theorem bev_lt (b : List UInt8) : bev b < 2 ^ (8 * b.length) := by
  have := bev_lt_take b b.length (Nat.le_refl _)
  rwa [List.take_length] at this
theorem spBg_ok : SpecsOK Tryz.prog ((67, .pure sAdd) :: spRS) := .cons ok_Add spRS_ok
theorem ok_Big : SpecOK Tryz.prog 27 sBig := by
  refine fn_okL (by kernel_rfl) tt_ok spBg_ok 3 Tryz.func27 (by decide +kernel) (by kernel_rfl) ?_
  rintro ⟨b, _⟩ hl
  replace hl : b.length ≤ 1048576 := hl
  refine ⟨[], lBig, isNum (bev b), LnVD.of (vcBig b _) ?_, fun x h at_ w v r => isNum_ok h r⟩
  refine ⟨⟨by omega, by omega, rfl⟩, fun a i ⟨i0, i1, hv⟩ => ?_⟩
  obtain ⟨m⟩ := a
  simp only at hv ⊢
  rw [bcase_dec]
  refine ⟨fun hi => ?_, fun hi => ?_⟩
  · obtain ⟨K, hK⟩ : ∃ K : Nat, K = 8 * 1048576 := ⟨_, rfl⟩
    have hb : m < 2 ^ K := by
      have := bev_lt_take b i.toNat (by omega)
      rw [← hv] at this
      exact Nat.lt_of_lt_of_le this (pow2_le (by omega))
    have hm1 : (dg m).length ≤ 4194304 := dlen2 hb (by omega)
    have hm2 : (dg (m * 256)).length ≤ 8388608 := by
      have : m * 2 ^ 8 < 2 ^ K * 2 ^ 8 := Nat.mul_lt_mul_of_pos_right hb (by omega)
      rw [← Nat.pow_add] at this
      exact dlen2 this (by omega)
    obtain ⟨x, hx⟩ : ∃ x, b.getD i.toNat 0 = x := ⟨_, rfl⟩
    have hxl := u8_lt x
    have hm3 : (dg x.toNat).length ≤ 1 := dlen _ (by omega)
    rw [wr (x := i + 1) (by omega), hx, nv_dg, nv_dg, show Int.toNat 256 = 256 from rfl, Int.toNat_natCast, nv_dg]
    refine ⟨⟨Dg.dg (by omega), by omega, by omega⟩, ⟨i0, hi⟩, ⟨by omega, by omega⟩, ⟨Dg.dg (by omega), Dg.dg (by omega)⟩, by trivial, ⟨by omega, by omega, ?_⟩, by omega⟩
    rw [show (i + 1).toNat = i.toNat + 1 by omega, bev_take b _ (by omega), hx, hv]
  · have : b.take i.toNat = b := List.take_of_length_le (by omega)
    rw [this] at hv
    exact .inl (by rw [hv])

theorem ok_Turned : SpecOK Tryz.prog 61 sTurned := by
  refine fn_okL (by kernel_rfl) tt_ok (.nil _) 3 Tryz.func61 (by decide +kernel) (by kernel_rfl) ?_
  rintro ⟨b, _⟩ hl
  replace hl : b.length ≤ 4294967296 := hl
  refine ⟨[], lTurned, fun x => x = .lst (.bytes b.reverse), LnVD.of (vcTurned b _) ?_, fun x h at_ w v r => by have h' : x = _ := h; subst h'; exact r⟩
  rw [wr (x := (b.length : Int) - 1) (by omega)]
  refine ⟨⟨by trivial, by trivial⟩, ⟨by omega, by omega, ?_⟩, fun l i ⟨i0, i1, hv⟩ => ?_⟩
  · rw [show ((b.length : Int) - 1 + 1).toNat = b.length by omega, List.drop_length]; rfl
  · simp only [app_one, whole]
    rw [bcase_dec]
    refine ⟨fun hi => ?_, fun hi => ?_⟩
    · rw [wr (x := i - 1) (by omega)]
      have hl2 : l.length = b.length - (i + 1).toNat := by rw [hv]; simp
      refine ⟨⟨by omega, by omega⟩, ⟨by omega, by simp [appLim]; omega⟩, ⟨by trivial, by trivial⟩, by trivial, ⟨by omega, by omega, ?_⟩, by omega⟩
      rw [show (i - 1 + 1).toNat = i.toNat by omega, List.drop_eq_getElem_cons (show i.toNat < b.length by omega), List.reverse_cons, hv, show (i + 1).toNat = i.toNat + 1 by omega]
      rw [List.getD_eq_getElem?_getD, List.getElem?_eq_getElem (show i.toNat < b.length by omega)]; rfl
    · rw [hv, show (i + 1).toNat = 0 by omega, List.drop_zero]
theorem spRB_ok : SpecsOK Tryz.prog spRB := .cons ok_Big <| .cons ok_Turned <| .nil _
theorem ok_Little : SpecOK Tryz.prog 1000000 Sym.sNo := Sym.sNo_ok _ _
theorem pow256 (q : Nat) : (256 : Nat) ^ q = 2 ^ (8 * q) := by rw [Nat.pow_mul]
theorem byte_digit {a : List Int} (ha : Dig a) (i : Nat) : nv a / 256 ^ i % 256 = (a.getD (i / 3) 0).toNat / 256 ^ (i % 3) % 256 := by
  have h1 : nv a / 256 ^ i = nv a / 16777216 ^ (i / 3) / 256 ^ (i % 3) := by
    rw [Nat.div_div_eq_div_mul, pow24, pow256, pow256, ← Nat.pow_add]
    congr 2; omega
  rw [h1, ← digit_nat ha]
  generalize nv a / 16777216 ^ (i / 3) = m
  have e : (16777216 : Nat) = 256 ^ (i % 3) * 256 ^ (3 - i % 3) := by rw [← Nat.pow_add, show i % 3 + (3 - i % 3) = 3 by omega]
  rw [e, Nat.mod_mul_right_div_self, Nat.mod_mod_of_dvd]
  refine ⟨256 ^ (3 - i % 3 - 1), ?_⟩
  rw [← Nat.pow_succ', show (3 - i % 3 - 1).succ = 3 - i % 3 by omega]
theorem u8_of {m k : Nat} (h : m % 256 = k % 256) : UInt8.ofNat m = UInt8.ofNat k := by
  apply UInt8.toNat_inj.1
  simp only [UInt8.toNat_ofNat']
  exact h
theorem bytesN_len (m n : Nat) : (bytesN m n).length = n := by simp [bytesN]
theorem ok_ToLittle : SpecOK Tryz.prog 62 sToLittle := by
  refine fn_okL (by kernel_rfl) tt_ok (.nil _) 3 Tryz.func62 (by decide +kernel) (by kernel_rfl) ?_
  rintro ⟨a, n, _⟩ ⟨⟨ha, hla⟩, h0, h1⟩
  simp only at ha hla h0 h1
  refine ⟨[], lToLittle, fun x => x = .lst (.bytes (bytesN (nv a) n.toNat)), LnVD.of (vcToLittle a n _) ?_, fun x h at_ w v r => by have h' : x = _ := h; subst h'; exact r⟩
  refine ⟨⟨h0, by trivial, by omega⟩, ⟨by trivial, by simp⟩, ⟨by omega, by omega, ?_⟩, fun out i ⟨i0, i1, hv⟩ => ?_⟩
  · apply List.ext_getElem (by simp)
    intro j h1 h2
    simp
  have hlen : out.length = n.toNat := by rw [hv]; simp
  rw [bcase_dec]
  refine ⟨fun hi => ?_, fun hi => ?_⟩
  · rw [tdiv_nn i0, tmod_nn i0, wr (x := i / 3) (by omega), wr (x := i + 1) (by omega), bcase_dec]
    have e1 : (i + 1).toNat = i.toNat + 1 := by omega
    have ei3 : (i / 3).toNat = i.toNat / 3 := by omega
    refine ⟨fun h3 => ⟨⟨by omega, h3⟩, ⟨by trivial, by trivial⟩, ⟨by trivial, by omega, by omega, ?_⟩, fun o x k ⟨ho, k0, k1, hx⟩ => ?_⟩, fun h3 => ⟨⟨by trivial, by trivial⟩, by trivial, ⟨by omega, by omega, ?_⟩, by omega⟩⟩
    · have := getD_dig ha (i / 3).toNat
      simp only [Int.toNat_zero, Nat.pow_zero, Nat.div_one]; omega
    · subst ho
      rw [bcase_dec]
      refine ⟨fun hk => ?_, fun hk => ?_⟩
      · have hx0 : 0 ≤ x := by rw [hx]; exact Int.natCast_nonneg _
        rw [wr (x := k + 1) (by omega), tdiv_nn hx0]
        have hd := getD_dig ha (i / 3).toNat
        have hle : (a.getD (i / 3).toNat 0).toNat / 256 ^ k.toNat ≤ (a.getD (i / 3).toNat 0).toNat := Nat.div_le_self _ _
        have hx2 : x / 256 = (((a.getD (i / 3).toNat 0).toNat / 256 ^ (k + 1).toNat : Nat) : Int) := by
          rw [show (k + 1).toNat = k.toNat + 1 by omega, Nat.pow_succ, ← Nat.div_div_eq_div_mul, hx]; rfl
        have hb : 0 ≤ x ∧ x < 16777216 := by
          rw [hx]
          generalize (a.getD (i / 3).toNat 0).toNat / 256 ^ k.toNat = z at *
          omega
        rw [wr (x := x / 256) (by omega)]
        exact ⟨⟨by trivial, by trivial⟩, by trivial, ⟨by trivial, by omega, by omega, hx2⟩, by omega⟩
      · have ek : k.toNat = i.toNat % 3 := by omega
        have hx0 : 0 ≤ x := by rw [hx]; exact Int.natCast_nonneg _
        rw [tmod_nn hx0, show 0 + i.toNat = i.toNat by omega]
        refine ⟨⟨i0, by omega⟩, ⟨by trivial, by simp⟩, by trivial, ⟨by omega, by omega, ?_⟩, by omega⟩
        have hb := byte_digit ha i.toNat
        rw [ek, ei3] at hx
        have hu : UInt8.ofInt (x % 256) = UInt8.ofNat (nv a / 256 ^ i.toNat) := by
          have e2 : x % 256 = ((nv a / 256 ^ i.toNat % 256 : Nat) : Int) := by rw [hb, hx]; rfl
          rw [e2]
          apply UInt8.toNat_inj.1
          rw [ofInt8]
          simp only [UInt8.toNat_ofNat']
          omega
        rw [hu, hv]
        apply List.ext_getElem (by simp)
        intro j h1 h2
        simp only [List.length_set, List.length_map, List.length_range] at h1
        simp only [List.getElem_set, List.getElem_map, List.getElem_range, e1]
        by_cases hj : i.toNat = j
        · subst hj; simp
        · rw [if_neg hj]
          by_cases hj2 : j < i.toNat
          · rw [if_pos hj2, if_pos (by omega)]
          · rw [if_neg hj2, if_neg (by omega)]
    · rw [hv]
      apply List.ext_getElem (by simp)
      intro j h1 h2
      simp only [List.length_map, List.length_range] at h1
      simp only [List.getElem_map, List.getElem_range, e1]
      by_cases hj : j < i.toNat
      · rw [if_pos hj, if_pos (by omega)]
      · by_cases hj2 : j = i.toNat
        · subst hj2
          rw [if_neg (by omega), if_pos (by omega)]
          have hb := byte_digit ha i.toNat
          rw [getD_ge (l := a) (by omega)] at hb
          rw [u8_of (k := 0) (by rw [hb]; simp)]; rfl
        · rw [if_neg hj, if_neg (by omega)]
  · simp only [whole]
    rw [hv]
    congr 2
    unfold bytesN
    apply List.map_congr_left
    intro j hj
    rw [List.mem_range] at hj
    rw [if_pos (by omega)]
theorem ok_ToBig : SpecOK Tryz.prog 23 sToBig := by
  refine fn_okL (by kernel_rfl) tt_ok (.cons ok_ToLittle spRB_ok) 3 Tryz.func23 (by decide +kernel) (by kernel_rfl) ?_
  rintro ⟨a, n, _⟩ ⟨ha, h0, h1⟩
  simp only at ha h0 h1
  refine ⟨[], {}, fun x => x = .lst (.bytes (bytesN (nv a) n.toNat).reverse), LnVD.of (vcToBig a n _) ?_, fun x h at_ w v r => by have h' : x = _ := h; subst h'; exact r⟩
  exact ⟨⟨ha, h0, h1⟩, by rw [bytesN_len]; omega, rfl⟩

theorem ok_Same : SpecOK Tryz.prog 8 sSame := by
  refine fn_okL (by kernel_rfl) tt_ok (.nil _) 3 Tryz.func8 (by decide +kernel) (by kernel_rfl) ?_
  rintro ⟨a, b, _⟩ hl
  replace hl : a.length ≤ 4294967296 := hl
  refine ⟨[], lSame, fun x => x = .bool (decide (a = b)), LnVD.of (vcSame a b _) ?_, fun x h at_ w v r => by have h' : x = _ := h; subst h'; exact r⟩
  rw [bcase_iff]
  refine ⟨fun hne => ?_, fun heq => ⟨⟨by omega, by omega, Int.ofNat_inj.1 (by simpa using heq), by simp⟩, fun i ⟨i0, i1, i2, i3⟩ => ?_⟩⟩
  · have : a ≠ b := by rintro rfl; simp at hne
    simp [this]
  · rw [bcase_dec]
    refine ⟨fun hi => ⟨⟨i0, hi⟩, ⟨i0, by omega⟩, ?_⟩, fun hi => ?_⟩
    · have ga : ∀ l : List UInt8, (h : i.toNat < l.length) → l.getD i.toNat 0 = l[i.toNat] := fun l h => by rw [List.getD_eq_getElem?_getD, List.getElem?_eq_getElem h]; rfl
      rw [ga a (by omega), ga b (by omega), bcase_iff]
      refine ⟨fun hne => ?_, fun heq => ?_⟩
      · have : a ≠ b := by rintro rfl; simp at hne
        simp [this]
      · rw [wr (x := i + 1) (by omega)]
        refine ⟨by trivial, ⟨by omega, by omega, i2, ?_⟩, by omega⟩
        rw [show (i + 1).toNat = i.toNat + 1 by omega, List.take_succ_eq_append_getElem (show i.toNat < a.length by omega), List.take_succ_eq_append_getElem (show i.toNat < b.length by omega), i3]
        congr 2
        simpa using heq
    · rw [List.take_of_length_le (by omega), List.take_of_length_le (by omega)] at i3
      simp [i3]

end Go.Proofs.YtficbeeoafiiaaaGreatDoor.R1
/- The reference's functions on numbers. -/
set_option maxRecDepth 10000
namespace Go.Sym
open Go.RowKit
section
variable [GLob] {P : Program} {α β α' β' : Type} [Args α] [RetL β] [Args α'] [RetL β']
/-- A specification out of one that says as much. -/
theorem fspec_weaken {f : FuncId} {pre : α → Option Prop} {g : α → β} {pre' : α' → Option Prop} {g' : α' → β'} (h : SpecOK P f (fspec pre g)) (conv : α' → α)
    (hc : ∀ a (at_ : At) w vs, RelL at_ w (Args.encL a) vs → RelL at_ w (Args.encL (conv a)) vs) (hd : ∀ a, Args.decL (Args.encL (conv a)) = some (conv a)) (hp : ∀ a, Ok (pre' a) → Ok (pre (conv a)))
    (hg : ∀ a, Ok (pre' a) → ∀ (at_ : At) w v, Rel at_ w (retSV (RetL.retL (g (conv a)))) v → Rel at_ w (retSV (RetL.retL (g' a))) v) : SpecOK P f (fspec pre' g') := by
  intro at_ w svs vs pr r h1 h2 h3 hs hpr hr
  unfold fspec at hs
  split at hs
  · rename_i a ha
    simp only [Option.some.injEq, Prod.mk.injEq] at hs
    obtain ⟨rfl, rfl⟩ := hs
    have := h at_ w (Args.encL (conv a)) vs (pre (conv a)) _ h1 h2 h3 (by unfold fspec; rw [hd]) (hp a hpr) (hc a _ _ _ (Args.ok ha hr))
    exact Outcome.mono (fun v w' ⟨h3, h4⟩ => ⟨hg a hpr _ _ _ h3, h4⟩) this
  · cases hs
end
theorem SpecsOK.append [GLob] {P : Program} {a b : Specs} (h : SpecsOK P a) (k : SpecsOK P b) : SpecsOK P (a ++ b) := by
  intro f s hl
  rw [List.lookup_append] at hl
  cases ha : a.lookup f with
  | none => rw [ha] at hl; exact k f s (by simpa using hl)
  | some x => rw [ha] at hl; exact h f s (by rw [ha]; simpa using hl)
end Go.Sym
namespace Go.Proofs.YtficbeeoafiiaaaGreatDoor.R1
open Go.Sym Go.Dig
/-- Not too many digits. -/
def Sm (n : Nat) : Prop := (dg n).length ≤ 1073741824
theorem Sm.of {n : Nat} (k : Nat) (h : n < 2 ^ (24 * k)) (hk : k ≤ 1073741824) : Sm n := Nat.le_trans (dlen k h) hk
abbrev N1 := Num × Unit
abbrev N2 := Num × Num × Unit
abbrev NI := Num × Int × Unit
def nAdd : SpecF := fspec (α := N2) (β := Num) (fun a => some (Sm a.1.n ∧ Sm a.2.1.n)) (fun a => ⟨a.1.n + a.2.1.n⟩)
def nSub : SpecF := fspec (α := N2) (β := Num) (fun a => some (Sm a.1.n ∧ a.2.1.n ≤ a.1.n ∧ Sm a.2.1.n)) (fun a => ⟨a.1.n - a.2.1.n⟩)
def nMul : SpecF := fspec (α := N2) (β := Num) (fun a => some (Sm a.1.n ∧ Sm a.2.1.n)) (fun a => ⟨a.1.n * a.2.1.n⟩)
def nCmp : SpecF := fspec (α := N2) (β := Int) (fun a => some (Sm a.1.n ∧ Sm a.2.1.n)) (fun a => cmpN a.1.n a.2.1.n)
def nSmall : SpecF := fspec (α := NI) (β := Num) (fun a => some (Sm a.1.n ∧ 0 ≤ a.2.1 ∧ a.2.1 < 9223372036854775808)) (fun a => ⟨a.1.n * a.2.1.toNat⟩)
def nShift : SpecF := fspec (α := NI) (β := Num) (fun a => some ((dg a.1.n).length ≤ 536870912 ∧ 0 ≤ a.2.1 ∧ a.2.1 ≤ 1073741824)) (fun a => ⟨a.1.n * 2 ^ a.2.1.toNat⟩)
def nDown : SpecF := fspec (α := NI) (β := Num) (fun a => some (Sm a.1.n ∧ 0 ≤ a.2.1 ∧ a.2.1 ≤ 1073741824)) (fun a => ⟨a.1.n / 2 ^ a.2.1.toNat⟩)
def nBit : SpecF := fspec (α := NI) (β := Int) (fun a => some (Sm a.1.n ∧ 0 ≤ a.2.1 ∧ a.2.1 ≤ 1073741824)) (fun a => ((a.1.n / 2 ^ a.2.1.toNat % 2 : Nat) : Int))
def nBits : SpecF := fspec (α := N1) (β := Int) (fun a => some (Sm a.1.n)) (fun a => bitsN a.1.n)
def nToWords : SpecF := fspec (α := NI) (β := List UInt64) (fun a => some (Sm a.1.n ∧ 0 ≤ a.2.1 ∧ a.2.1 ≤ 1048576)) (fun a => wordsL a.1.n a.2.1.toNat)
def nFour : SpecF := fspec (α := N1) (β := Four) (fun a => some (Sm a.1.n)) (fun a => fourN a.1.n)
def nToLittle : SpecF := fspec (α := NI) (β := List UInt8) (fun a => some (Sm a.1.n ∧ 0 ≤ a.2.1 ∧ a.2.1 ≤ 1048576)) (fun a => bytesN a.1.n a.2.1.toNat)
def nToBig : SpecF := fspec (α := NI) (β := List UInt8) (fun a => some (Sm a.1.n ∧ 0 ≤ a.2.1 ∧ a.2.1 ≤ 1048576)) (fun a => (bytesN a.1.n a.2.1.toNat).reverse)

def c1 (a : N1) : List Int × Unit := (dg a.1.n, ())
def c2 (a : N2) : List Int × List Int × Unit := (dg a.1.n, dg a.2.1.n, ())
def cI (a : NI) : List Int × Int × Unit := (dg a.1.n, a.2.1, ())
theorem c1_rel (a : N1) (at_ : At) (w : World) (vs : List Value) (h : RelL at_ w (Args.encL a) vs) : RelL at_ w (Args.encL (c1 a)) vs := by
  simp only [Args.encL, RelL, Enc.enc, c1] at h ⊢
  obtain ⟨v, _, rfl, h1, h2⟩ := h
  exact ⟨_, _, rfl, num_ints.1 h1, h2⟩
theorem c2_rel (a : N2) (at_ : At) (w : World) (vs : List Value) (h : RelL at_ w (Args.encL a) vs) : RelL at_ w (Args.encL (c2 a)) vs := by
  simp only [Args.encL, RelL, Enc.enc, c2] at h ⊢
  obtain ⟨v, _, rfl, h1, _, _, rfl, h2, h3⟩ := h
  exact ⟨_, _, rfl, num_ints.1 h1, _, _, rfl, num_ints.1 h2, h3⟩
theorem cI_rel (a : NI) (at_ : At) (w : World) (vs : List Value) (h : RelL at_ w (Args.encL a) vs) : RelL at_ w (Args.encL (cI a)) vs := by
  simp only [Args.encL, RelL, Enc.enc, cI] at h ⊢
  obtain ⟨v, _, rfl, h1, h2⟩ := h
  exact ⟨_, _, rfl, num_ints.1 h1, h2⟩

theorem ok_nAdd : SpecOK Tryz.prog 67 nAdd := fspec_weaken ok_Add c2 c2_rel (fun _ => rfl) (fun _ h => ⟨Dg.dg h.1, Dg.dg h.2⟩) (fun a _ _ _ _ r => by simpa only [c2, nv_dg] using r)
theorem ok_nSub : SpecOK Tryz.prog 70 nSub := fspec_weaken ok_Sub c2 c2_rel (fun _ => rfl) (fun _ h => ⟨Dg.dg h.1, Dg.dg h.2.2, by simp only [c2, nv_dg]; exact h.2.1⟩) (fun a _ _ _ _ r => by simpa only [c2, nv_dg] using r)
theorem ok_nMul : SpecOK Tryz.prog 74 nMul := fspec_weaken ok_Mul c2 c2_rel (fun _ => rfl) (fun _ h => ⟨Dg.dg h.1, Dg.dg h.2⟩) (fun a _ _ _ _ r => by simpa only [c2, nv_dg] using r)
theorem ok_nCmp : SpecOK Tryz.prog 77 nCmp := fspec_weaken ok_Cmp c2 c2_rel (fun _ => rfl) (fun _ h => ⟨Can.dg h.1, Can.dg h.2⟩) (fun a _ _ _ _ r => by simpa only [c2, nv_dg] using r)
theorem ok_nSmall : SpecOK Tryz.prog 68 nSmall := fspec_weaken ok_Small cI cI_rel (fun _ => rfl) (fun _ h => ⟨Dg.dg h.1, h.2⟩) (fun a _ _ _ _ r => by simpa only [cI, nv_dg] using r)
theorem ok_nShift : SpecOK Tryz.prog 95 nShift := fspec_weaken ok_Shift cI cI_rel (fun _ => rfl) (fun _ h => ⟨dig_dg _, h⟩) (fun a _ _ _ _ r => by simpa only [cI, nv_dg] using r)
theorem ok_nDown : SpecOK Tryz.prog 76 nDown := fspec_weaken ok_Down cI cI_rel (fun _ => rfl) (fun _ h => ⟨Dg.dg h.1, h.2⟩) (fun a _ _ _ _ r => by simpa only [cI, nv_dg] using r)
theorem ok_nBit : SpecOK Tryz.prog 33 nBit := fspec_weaken ok_Bit cI cI_rel (fun _ => rfl) (fun _ h => ⟨Dg.dg h.1, h.2⟩) (fun a _ _ _ _ r => by simpa only [cI, nv_dg] using r)
theorem ok_nBits : SpecOK Tryz.prog 99 nBits := fspec_weaken ok_Bits c1 c1_rel (fun _ => rfl) (fun _ h => Can.dg h) (fun a _ _ _ _ r => by simpa only [c1, nv_dg] using r)
theorem ok_nToWords : SpecOK Tryz.prog 29 nToWords := fspec_weaken ok_ToWords cI cI_rel (fun _ => rfl) (fun _ h => ⟨Dg.dg h.1, h.2⟩) (fun a _ _ _ _ r => by simpa only [cI, nv_dg] using r)
theorem ok_nFour : SpecOK Tryz.prog 11 nFour := fspec_weaken ok_Four c1 c1_rel (fun _ => rfl) (fun _ h => Dg.dg h) (fun a _ _ _ _ r => by simpa only [c1, nv_dg] using r)
theorem ok_nToLittle : SpecOK Tryz.prog 62 nToLittle := fspec_weaken ok_ToLittle cI cI_rel (fun _ => rfl) (fun _ h => ⟨Dg.dg h.1, h.2⟩) (fun a _ _ _ _ r => by simpa only [cI, nv_dg] using r)
theorem ok_nToBig : SpecOK Tryz.prog 23 nToBig := fspec_weaken ok_ToBig cI cI_rel (fun _ => rfl) (fun _ h => ⟨Dg.dg h.1, h.2⟩) (fun a _ _ _ _ r => by simpa only [cI, nv_dg] using r)

def spN : Specs := (1000001, Sym.sNo) :: (67, nAdd) :: (70, nSub) :: (69, sPower) :: (77, nCmp) ::
  (11, nFour) :: (33, nBit) :: (62, nToLittle) :: (23, nToBig) :: (8, sSame) ::
  (1000000, Sym.sNo) :: (27, sBig) :: (29, nToWords) :: (74, nMul) :: (65, sWords) ::
  (95, nShift) :: (76, nDown) :: (99, nBits) :: (24, sInt) :: (68, nSmall) :: (71, sPow2) :: []
theorem spN_ok : SpecsOK Tryz.prog spN := .cons ok_Of <| .cons ok_nAdd <| .cons ok_nSub <| .cons ok_Power <| .cons ok_nCmp <| .cons ok_nFour <| .cons ok_nBit <| .cons ok_nToLittle <| .cons ok_nToBig <| .cons ok_Same <|
  .cons ok_Little <| .cons ok_Big <| .cons ok_nToWords <| .cons ok_nMul <| .cons ok_Words <| .cons ok_nShift <| .cons ok_nDown <| .cons ok_nBits <| .cons ok_Int <| .cons ok_nSmall <| .cons ok_Pow2 <| .nil _
end Go.Proofs.YtficbeeoafiiaaaGreatDoor.R1
