/- A symbolic machine for Go functions, and what the functions that the law reaches come to: SymP, TT. -/
import Derived.Test.YtomoihkepkmgdaaDoorQ2
import Derived.Test.YtomoihkepkmgdaaDoorProg
/- Functions whose results are nobody's but the caller's. -/
namespace Go.Sym
open Go.RowKit

def melt1 (M : List (Option Blk)) : SV → Option SV
  | .sl b lo len => match M[b]? with
    | some (some [.own l]) => some (.lst (l.cut lo (lo + len)))
    | _ => none
  | .ptr b 0 => match M[b]? with
    | some (some cs) => if noNameL cs = true then some (.ro cs 0) else none
    | _ => none
  | s => if s.flat = true then some s else none
def melt (M : List (Option Blk)) : SV → Option SV
  | .tup (x :: xs) => match melt1 M x with
    | some y => if flatL xs = true then some (.tup (y :: xs)) else none
    | none => none
  | s => melt1 M s
def finF (tt : TT) (fr : List ResultVar) (Q : SV → Prop) : KT := fun e st =>
  match e with
  | .normal | .ret => match resAll tt st fr with
    | some vs => match melt st.M (retSV vs) with
      | some r => Q r
      | none => False
    | none => False
  | _ => False

theorem take_drop_cut {α : Type} (xs : List α) (base n lo len : Nat) (h : lo + len ≤ n) : (xs.drop (base + lo)).take len = (((xs.drop base).take n).take (lo + len)).drop lo := by
  apply List.ext_getElem?
  intro i
  simp only [List.getElem?_take, List.getElem?_drop]
  by_cases hi : i < len
  · rw [if_pos hi, if_pos (by omega), if_pos (by omega)]; congr 1; omega
  · rw [if_neg hi, if_neg (by omega)]
section
variable [GLob] {at_ at' : At} {w : World} {M : List (Option Blk)} {N : Nat}
theorem FRel1.of_flat {r : SV} {v : Value} (hfl : r.flat = true) (h : Rel at' w r v) : FRel1 at_ N w r v := by
  have _ := ‹GLob›
  unfold FRel1
  split
  · simp [SV.flat, SV.flat1] at hfl
  · simp [SV.flat, SV.flat1] at hfl
  · exact Rel.flat _ _ hfl h
theorem melt1_ok (hM : MemOK at' M w) (hnew : ∀ n g, at' n = some g → N ≤ g) (hgnew : ∀ n g b c k, at'.gn n = .live g b c k → N ≤ g) (hfix : ∀ g, Fix at' g → Fix at_ g) {s r : SV} {v : Value} (h : melt1 M s = some r) (hr : Rel at' w s v) : FRel1 at_ N w r v := by
  unfold melt1 at h
  split at h
  · rename_i b lo len
    split at h
    · rename_i l hl
      simp only [Option.some.injEq] at h; subst h
      simp only [Rel] at hr
      obtain ⟨r1, r2, r3, _⟩ := hr
      simp only [FRel1]
      rcases hM.glk b l hl with ⟨k1, k2⟩ | ⟨g, base, c, k1, arr, ty, k2, k3, k4, k5, k6⟩
      · obtain ⟨rfl, rfl, rfl⟩ := r2 k1
        exact .inl ⟨by rw [LV.len_cut _ _ _ (by omega)], rfl⟩
      · obtain ⟨h1, _, ad, h2, h3⟩ := r3 _ _ _ _ (by rw [k1]; rfl)
        have hcl : (l.cut lo (lo + len)).len = len := by rw [LV.len_cut _ _ _ h1]; omega
        refine .inr ⟨g, base + lo, c - lo, ad, hgnew _ _ _ _ _ k1, ⟨arr, ty, k2, by omega, by rw [hcl]; omega, by omega, ?_⟩, by rw [hcl]; exact h2, fun hc => h3 (by omega)⟩
        rw [hcl, LV.vals_cut, ← k6, take_drop_cut _ _ l.len _ _ h1]
    · cases h
  · rename_i b
    split at h
    · rename_i cs hc
      split at h
      · rename_i hn
        simp only [Option.some.injEq] at h; subst h
        simp only [Rel] at hr
        obtain ⟨g, h1, h2⟩ := hr
        obtain ⟨ty, vs, h4, h5⟩ := hM.blk _ _ _ h1 hc
        simp only [FRel1]
        refine ⟨g, ty, vs, hnew _ _ h1, h2, h4, RelL.noName (fun k hk => ?_) _ _ hn h5⟩
        have hk' := hfix k hk
        exact ⟨hk'.1, fun e => by
          rcases e with e | e
          · exact hk'.2.1 e
          · subst e; exact hk.1 b h1, hk'.2.2⟩
      · cases h
    · cases h
  · split at h
    · rename_i hfl
      simp only [Option.some.injEq] at h; subst h
      exact FRel1.of_flat hfl hr
    · cases h
theorem melt_ok (hM : MemOK at' M w) (hnew : ∀ n g, at' n = some g → N ≤ g) (hgnew : ∀ n g b c k, at'.gn n = .live g b c k → N ≤ g) (hfix : ∀ g, Fix at' g → Fix at_ g) {s r : SV} {v : Value} (h : melt M s = some r) (hr : Rel at' w s v) : FRel at_ N w r v := by
  unfold melt at h
  split at h
  · split at h
    · rename_i hy
      split at h
      · rename_i hfl
        simp only [Option.some.injEq] at h; subst h
        simp only [Rel, RelL] at hr
        obtain ⟨vs, rfl, u, us, rfl, h1, h2⟩ := hr
        simp only [FRel]
        exact ⟨u, us, rfl, melt1_ok hM hnew hgnew hfix hy h1, RelL.flat _ _ hfl h2⟩
      · cases h
    · cases h
  · rename_i e1
    have hx := melt1_ok hM hnew hgnew hfix h hr
    unfold FRel
    split
    · rename_i x xs _
      exfalso
      unfold melt1 at h
      split at h
      · split at h <;> cases h
      · split at h
        · split at h <;> cases h
        · cases h
      · split at h
        · simp only [Option.some.injEq] at h; exact e1 _ _ h
        · cases h
    · exact hx

variable {P : Program}
theorem calls_of_awpF {tt : TT} (hT : TTOK P tt) {f : FuncId} {fn : Func} {c : Code} (hf : P.funcs[f]? = some fn) (hb : fn.body = some c) {svs : List SV} {Q : SV → Prop}
    (hvc : ∀ B : Base, B.dfs = [] → B.obs = [] → Clean 0 B.at0 → AWp none P B c (init svs fn.ntmps) (finF tt fn.results.toList Q)) (hn : noNameL svs = true) {vs : List Value} {w : World} (hat : ∀ n g, at_ n = some g → g < w.heap.size) (hout : ∀ g, (at_.out g ∨ ∃ n b c k, at_.gn n = .live g b c k) → g < w.heap.size) (hgl : GLOK at_ w) (hr : RelL at_ w svs vs) :
    Calls P f (List.toArray vs) w fun e w' => ∃ v, e = .returned v ∧ ∃ r, Q r ∧ FRel at_ w.heap.size w' r v ∧ Below w.heap.size w w' := by
  refine calls_of_wp hf hb ?_
  let at0 : At := ⟨fun _ => none, fun g => (∃ n, at_ n = some g) ∨ at_.out g ∨ ∃ n b c k, at_.gn n = .live g b c k, fun _ => .unborn⟩
  have fixA : ∀ g, Fix at_ g → Fix at0 g := fun g h => ⟨fun n e => by simp [at0] at e, fun e => by
    rcases e with ⟨n, e⟩ | e | ⟨n, b, c, k, e⟩
    · exact h.1 n e
    · exact h.2.1 e
    · exact h.2.2 n b c k e, fun _ _ _ _ e => by simp [at0] at e⟩
  have fixB : ∀ g, ¬ at0.out g → Fix at_ g := fun g h => ⟨fun n e => h (.inl ⟨n, e⟩), fun e => h (.inr (.inl e)), fun n b c k e => h (.inr (.inr ⟨n, b, c, k, e⟩))⟩
  have hlen := hr.length
  have hstart : Reps ⟨at0, w, [], []⟩ (init svs fn.ntmps) { tmps := List.toArray vs ++ Array.replicate (fn.ntmps - (List.toArray vs).size) Go.undef, defers := [] } w := by
    refine ⟨at0, Later.refl _ _, ⟨fun n g cs e1 e => by simp [init] at e, fun n m g e => by simp [at0] at e, fun n g e => by simp [at0] at e, fun g h => ?_, fun n l e => by simp [init] at e, fun n m g b c k b' c' k' e => by simp [at0] at e, fun n m g b c k e => by simp [at0] at e, fun n e => by simp [at0] at e, fun n g b c k e => by simp [at0] at e, fun n g b c k e => by simp [at0] at e, fun n g e => by simp [at0] at e, hgl.fixed fixA⟩, ?_, rfl, ObsOK.nil _ _⟩
    · rcases h with ⟨n, h⟩ | h
      · exact hat n g h
      · exact hout g h
    · simp only [init, Array.toList_append, Array.toList_replicate, List.size_toArray, hlen]
      exact RelL.append (RelL.noName fixA _ _ hn hr) (RelL.replicate _ (by simp only [Rel]))
  refine Code.wp_mono ?_ (wpIn_wide.1 (hvc ⟨at0, w, [], []⟩ rfl rfl (fun _ _ => ⟨rfl, rfl⟩) _ _ hstart))
  rintro e a' w' ⟨st', ⟨at', hl, hM, hT', hd, _⟩, hk⟩
  have fin : finF tt fn.results.toList Q .ret st' →
      a'.defers = [] ∧ ∃ v, (results fn a'.tmps).run P w' = .ok v w' ∧ ∃ u, Ending.returned v = .returned u ∧ ∃ r, Q r ∧ FRel at_ w.heap.size w' r u ∧ Below w.heap.size w w' := by
    intro hk
    refine ⟨hd, ?_⟩
    simp only [finF] at hk
    split at hk
    · rename_i svs' hres
      split at hk
      · rename_i r hfr
        obtain ⟨us, h1, h2⟩ := resAll_ok hT hM hT' _ _ hres
        have hrun := results_run h1
        refine ⟨_, hrun, _, rfl, r, hk, ?_, ?_⟩
        · have hrel : Rel at' w' (retSV svs') (retV us) := by
            rcases svs' with _ | ⟨s, _ | ⟨s', ss⟩⟩
            · simp only [RelL] at h2; subst h2; simp only [retSV, Rel]; exact ⟨[], rfl, RelL.nil⟩
            · simp only [RelL] at h2
              obtain ⟨v, vs', rfl, h3, rfl⟩ := h2
              exact h3
            · have h2' := h2
              simp only [RelL] at h2
              obtain ⟨v, vs', rfl, h3, v', vs'', rfl, h4, h5⟩ := h2
              simp only [retSV, Rel]
              exact ⟨_, rfl, h2'⟩
          refine melt_ok hM (fun n g e => ?_) (fun n g b c k e => ?_) (fun g hg => fixB g (fun ho => hg.2.1 (by rw [hl.out]; exact ho))) hfr hrel
          · rcases hl.new n g e with e' | e'
            · simp [at0] at e'
            · exact e'
          · rcases hl.gnew n g b c k e with ⟨m, b', c', k', e'⟩ | e'
            · simp [at0] at e'
            · exact e'
        · refine ⟨hl.os, hl.tape, hl.output, hl.size, fun k hk' => ?_⟩
          exact (hl.keep k (fun n e => by simp [at0] at e) (fun n b c k e => by simp [at0] at e) hk').2.2
      · exact hk.elim
    · exact hk.elim
  cases e with
  | normal => exact fin hk
  | ret => exact fin hk
  | exit id => exact hk.elim
  | goto l => exact hk.elim
  | panic ch => exact hk.elim
  | outgrown => exact hk.elim

variable {α β : Type} [Args α] [RetL β]
def LfRaw (tt : TT) (sp : Specs) (fuel : Nat) (D : Dec) (L : Plan) (fn : Func) (Q : SV → Prop) (a : α) : Prop := vcl tt sp fuel D L 0 (fn.body.getD .skip) 0 (init (Args.encL a) fn.ntmps) (finF tt fn.results.toList Q)
structure LfVD (tt : TT) (sp : Specs) (fuel : Nat) (D : Dec) (L : Plan) (fn : Func) (Q : SV → Prop) (a : α) : Prop where
  out : LfRaw tt sp fuel D L fn Q a
theorem LfVD.of {tt : TT} {sp : Specs} {fuel : Nat} {D : Dec} {L : Plan} {fn : Func} {Q : SV → Prop} {a : α} {E : Prop} (hE : LfRaw tt sp fuel D L fn Q a = E) (k : E) : LfVD tt sp fuel D L fn Q a := ⟨by rw [hE]; exact k⟩
/-- A function whose result is the caller's own, out of its body's proposition. -/
theorem fn_okF {tt : TT} (hm : P.follows .mixedOrders = true) (hT : TTOK P tt) {sp : Specs} (hS : SpecsOK P sp) (fuel : Nat) {f : FuncId} {fn : Func} (hf : P.funcs[f]? = some fn) (hname : (fn.name == "runtime.NumGoroutine") = false) (hb : fn.body.isSome = true) {pre : α → Option Prop} {g : α → β}
    (H : ∀ a, Ok (pre a) → ∃ D L, ∃ Q : SV → Prop, LfVD tt sp fuel D L fn Q a ∧ ∀ x, Q x → ∀ (at_ : At) (n : Nat) (w : World) (v : Value), FRel at_ n w x v → FRel at_ n w (retSV (RetL.retL (g a))) v) : FSpecOK P f (fspec pre g) := by
  obtain ⟨c, hc⟩ := Option.isSome_iff_exists.1 hb
  intro at_ w svs vs pr r hat hout hgl hs hp hr
  unfold fspec at hs
  split at hs
  · rename_i a ha
    simp only [Option.some.injEq, Prod.mk.injEq] at hs
    obtain ⟨rfl, rfl⟩ := hs
    have hrun : (callFunc f (List.toArray vs)).run P w = .ok (.enter f (List.toArray vs)) w := by
      have h1 : fn.name ≠ "runtime.NumGoroutine" := by simpa using hname
      simp [callFunc, hf, h1, hc]
    rw [hrun]
    obtain ⟨D, L, Q, ⟨h⟩, hQ⟩ := H a hp
    unfold LfRaw at h
    rw [hc] at h
    refine (calls_of_awpF hT hf hc (fun B _ _ hcl => vcl_ok hm hT hS hcl c 0 _ _ h) (Args.nn a) hat hout hgl (Args.ok ha hr)).mono ?_
    rintro e w' ⟨v, h1, r', h2, h3, h4⟩
    exact ⟨v, h1, hQ _ h2 _ _ _ _ h3, h4⟩
  · cases hs

/-- What is the caller's own reads as what nobody writes. -/
theorem FRel1.rel {r : SV} {v : Value} (hat : ∀ n g, at_ n = some g → g < N) (hout : ∀ g, (at_.out g ∨ ∃ n b c k, at_.gn n = .live g b c k) → g < N) (hn : r.noName = true) (h : FRel1 at_ N w r v) : Rel at_ w r v := by
  have _ := ‹GLob›
  have fix : ∀ g, N ≤ g → Fix at_ g := fun g hg => ⟨fun n e => by have := hat n g e; omega, fun e => by have := hout g (.inl e); omega, fun n b c k e => by have := hout g (.inr ⟨n, b, c, k, e⟩); omega⟩
  unfold FRel1 at h
  split at h
  · rcases h with ⟨hl, rfl⟩ | ⟨g, base, cap, ad, hge, ⟨arr, ty, k2, k3, k4, k5, k6⟩, rfl, had⟩
    · exact nil_lst hl ⟨0, rfl⟩ (by simp only [Rel])
    · simp only [Rel]
      refine ⟨ad, cap, rfl, k4, fun j u hj => ?_⟩
      have hlt := (List.getElem?_eq_some_iff.1 hj).1
      rw [LV.len_vals] at hlt
      refine ⟨_, had (by omega), fix g hge, ?_⟩
      rw [addr_add, cell_of_row w g _ _ ty (0, 0) k2, ← Array.getElem?_toList]
      rw [← k6, List.getElem?_take, if_pos hlt, List.getElem?_drop] at hj
      exact hj
  · obtain ⟨g, ty, vs, h1, h2, h3, h4⟩ := h
    simp only [Rel]
    exact ⟨g, ty, (0, 0), vs, h2, fix g h1, h3, RelL.noName (fun k hk => (Fix.of_hide hk).1) _ _ (by simpa only [SV.noName] using hn) h4⟩
  · exact h
theorem FRel.rel {r : SV} {v : Value} (hat : ∀ n g, at_ n = some g → g < N) (hout : ∀ g, (at_.out g ∨ ∃ n b c k, at_.gn n = .live g b c k) → g < N) (hn : r.noName = true) (h : FRel at_ N w r v) : Rel at_ w r v := by
  unfold FRel at h
  split at h
  · obtain ⟨u, us, rfl, h1, h2⟩ := h
    simp only [SV.noName, noNameL, Bool.and_eq_true] at hn
    simp only [Rel]
    exact ⟨_, rfl, RelL.cons (FRel1.rel hat hout hn.1 h1) h2⟩
  · exact FRel1.rel hat hout hn h
theorem FSpecOK.pure {f : FuncId} {s : SpecF} (h : FSpecOK P f s) (hs : ∀ svs pre r, s svs = some (pre, r) → r.noName = true) : SpecOK P f s := fun at_ w svs vs pre r hat hout hgl e hp hr =>
  Outcome.mono (fun _ _ ⟨h1, h2⟩ => ⟨FRel.rel (fun n g e => hat n g e) hout (hs _ _ _ e) h1, h2⟩) (h at_ w svs vs pre r hat hout hgl e hp hr)
end
end Go.Sym
/- The types of the seat's program, as the symbolic machine wants them. Written by a program of this claim's author. -/
namespace Go.Proofs.YtomoihkepkmgdaaDoor
open Go.Sym

def ti1 : TI := ⟨.other, 1, 8, [.nilFunc]⟩
theorem ti1_ok : TIOK Tryd.prog 1 ti1 := ⟨by kernel_rfl, by kernel_rfl, by kernel_rfl⟩
def ti2 : TI := ⟨.int .i64, 1, 8, [(.int .i64 0)]⟩
theorem ti2_ok : TIOK Tryd.prog 2 ti2 := ⟨by kernel_rfl, by kernel_rfl, by kernel_rfl⟩
def ti3 : TI := ⟨.int .i64, 1, 8, [(.int .i64 0)]⟩
theorem ti3_ok : TIOK Tryd.prog 3 ti3 := ⟨by kernel_rfl, by kernel_rfl, by kernel_rfl⟩
def ti4 : TI := ⟨.bool, 1, 1, [(.bool false)]⟩
theorem ti4_ok : TIOK Tryd.prog 4 ti4 := ⟨by kernel_rfl, by kernel_rfl, by kernel_rfl⟩
def ti5 : TI := ⟨.int .u8, 1, 1, [(.int .u8 0)]⟩
theorem ti5_ok : TIOK Tryd.prog 5 ti5 := ⟨by kernel_rfl, by kernel_rfl, by kernel_rfl⟩
def ti9 : TI := ⟨.str, 1, 16, [(.string ⟨#[]⟩)]⟩
theorem ti9_ok : TIOK Tryd.prog 9 ti9 := ⟨by kernel_rfl, by kernel_rfl, by kernel_rfl⟩
def ti12 : TI := ⟨.int .u64, 1, 8, [(.int .u64 0)]⟩
theorem ti12_ok : TIOK Tryd.prog 12 ti12 := ⟨by kernel_rfl, by kernel_rfl, by kernel_rfl⟩
def ti21 : TI := ⟨.int .i32, 1, 4, [(.int .i32 0)]⟩
theorem ti21_ok : TIOK Tryd.prog 21 ti21 := ⟨by kernel_rfl, by kernel_rfl, by kernel_rfl⟩
def ti22 : TI := ⟨.slice 5, 1, 24, [(.slice none 0 0)]⟩
theorem ti22_ok : TIOK Tryd.prog 22 ti22 := ⟨by kernel_rfl, by kernel_rfl, by kernel_rfl⟩
def ti23 : TI := ⟨.slice 22, 1, 24, [(.slice none 0 0)]⟩
theorem ti23_ok : TIOK Tryd.prog 23 ti23 := ⟨by kernel_rfl, by kernel_rfl, by kernel_rfl⟩
def ti24 : TI := ⟨.other, 1, 8, [.nilFunc]⟩
theorem ti24_ok : TIOK Tryd.prog 24 ti24 := ⟨by kernel_rfl, by kernel_rfl, by kernel_rfl⟩
def ti25 : TI := ⟨.other, 1, 8, [.nilFunc]⟩
theorem ti25_ok : TIOK Tryd.prog 25 ti25 := ⟨by kernel_rfl, by kernel_rfl, by kernel_rfl⟩
def ti26 : TI := ⟨.other, 1, 8, [.nilFunc]⟩
theorem ti26_ok : TIOK Tryd.prog 26 ti26 := ⟨by kernel_rfl, by kernel_rfl, by kernel_rfl⟩
def ti27 : TI := ⟨.other, 1, 8, [.nilFunc]⟩
theorem ti27_ok : TIOK Tryd.prog 27 ti27 := ⟨by kernel_rfl, by kernel_rfl, by kernel_rfl⟩
def ti28 : TI := ⟨.other, 1, 8, [.nilFunc]⟩
theorem ti28_ok : TIOK Tryd.prog 28 ti28 := ⟨by kernel_rfl, by kernel_rfl, by kernel_rfl⟩
def ti29 : TI := ⟨.other, 1, 8, [.nilFunc]⟩
theorem ti29_ok : TIOK Tryd.prog 29 ti29 := ⟨by kernel_rfl, by kernel_rfl, by kernel_rfl⟩
def ti30 : TI := ⟨.other, 1, 8, [.nilFunc]⟩
theorem ti30_ok : TIOK Tryd.prog 30 ti30 := ⟨by kernel_rfl, by kernel_rfl, by kernel_rfl⟩
def ti31 : TI := ⟨.int .i64, 1, 8, [(.int .i64 0)]⟩
theorem ti31_ok : TIOK Tryd.prog 31 ti31 := ⟨by kernel_rfl, by kernel_rfl, by kernel_rfl⟩
def ti33 : TI := ⟨.other, 1, 8, [.nilFunc]⟩
theorem ti33_ok : TIOK Tryd.prog 33 ti33 := ⟨by kernel_rfl, by kernel_rfl, by kernel_rfl⟩
def ti34 : TI := ⟨.other, 1, 8, [.nilFunc]⟩
theorem ti34_ok : TIOK Tryd.prog 34 ti34 := ⟨by kernel_rfl, by kernel_rfl, by kernel_rfl⟩
def ti35 : TI := ⟨.other, 1, 8, [.nilFunc]⟩
theorem ti35_ok : TIOK Tryd.prog 35 ti35 := ⟨by kernel_rfl, by kernel_rfl, by kernel_rfl⟩
def ti36 : TI := ⟨.int .u16, 1, 2, [(.int .u16 0)]⟩
theorem ti36_ok : TIOK Tryd.prog 36 ti36 := ⟨by kernel_rfl, by kernel_rfl, by kernel_rfl⟩
def ti37 : TI := ⟨.ptr 71, 1, 8, [(.pointer none)]⟩
theorem ti37_ok : TIOK Tryd.prog 37 ti37 := ⟨by kernel_rfl, by kernel_rfl, by kernel_rfl⟩
def ti38 : TI := ⟨.other, 1, 8, [.nilFunc]⟩
theorem ti38_ok : TIOK Tryd.prog 38 ti38 := ⟨by kernel_rfl, by kernel_rfl, by kernel_rfl⟩
def ti39 : TI := ⟨.other, 1, 8, [.nilFunc]⟩
theorem ti39_ok : TIOK Tryd.prog 39 ti39 := ⟨by kernel_rfl, by kernel_rfl, by kernel_rfl⟩
def ti40 : TI := ⟨.int .u64, 1, 8, [(.int .u64 0)]⟩
theorem ti40_ok : TIOK Tryd.prog 40 ti40 := ⟨by kernel_rfl, by kernel_rfl, by kernel_rfl⟩
def ti41 : TI := ⟨.other, 1, 8, [.nilFunc]⟩
theorem ti41_ok : TIOK Tryd.prog 41 ti41 := ⟨by kernel_rfl, by kernel_rfl, by kernel_rfl⟩
def ti42 : TI := ⟨.other, 1, 8, [.nilFunc]⟩
theorem ti42_ok : TIOK Tryd.prog 42 ti42 := ⟨by kernel_rfl, by kernel_rfl, by kernel_rfl⟩
def ti43 : TI := ⟨.int .u64, 1, 8, [(.int .u64 0)]⟩
theorem ti43_ok : TIOK Tryd.prog 43 ti43 := ⟨by kernel_rfl, by kernel_rfl, by kernel_rfl⟩
def ti44 : TI := ⟨.array 4 43, 4, 32, [(.int .u64 0), (.int .u64 0), (.int .u64 0), (.int .u64 0)]⟩
theorem ti44_ok : TIOK Tryd.prog 44 ti44 := ⟨by kernel_rfl, by kernel_rfl, by kernel_rfl⟩
def ti45 : TI := ⟨.array 4 43, 4, 32, [(.int .u64 0), (.int .u64 0), (.int .u64 0), (.int .u64 0)]⟩
theorem ti45_ok : TIOK Tryd.prog 45 ti45 := ⟨by kernel_rfl, by kernel_rfl, by kernel_rfl⟩
def ti46 : TI := ⟨.ptr 79, 1, 8, [(.pointer none)]⟩
theorem ti46_ok : TIOK Tryd.prog 46 ti46 := ⟨by kernel_rfl, by kernel_rfl, by kernel_rfl⟩
def ti48 : TI := ⟨.other, 1, 8, [.nilFunc]⟩
theorem ti48_ok : TIOK Tryd.prog 48 ti48 := ⟨by kernel_rfl, by kernel_rfl, by kernel_rfl⟩
def ti49 : TI := ⟨.other, 1, 8, [.nilFunc]⟩
theorem ti49_ok : TIOK Tryd.prog 49 ti49 := ⟨by kernel_rfl, by kernel_rfl, by kernel_rfl⟩
def ti50 : TI := ⟨.ptr 85, 1, 8, [(.pointer none)]⟩
theorem ti50_ok : TIOK Tryd.prog 50 ti50 := ⟨by kernel_rfl, by kernel_rfl, by kernel_rfl⟩
def ti51 : TI := ⟨.other, 1, 8, [.nilFunc]⟩
theorem ti51_ok : TIOK Tryd.prog 51 ti51 := ⟨by kernel_rfl, by kernel_rfl, by kernel_rfl⟩
def ti53 : TI := ⟨.other, 1, 8, [.nilFunc]⟩
theorem ti53_ok : TIOK Tryd.prog 53 ti53 := ⟨by kernel_rfl, by kernel_rfl, by kernel_rfl⟩
def ti54 : TI := ⟨.other, 1, 8, [.nilFunc]⟩
theorem ti54_ok : TIOK Tryd.prog 54 ti54 := ⟨by kernel_rfl, by kernel_rfl, by kernel_rfl⟩
def ti55 : TI := ⟨.other, 1, 8, [.nilFunc]⟩
theorem ti55_ok : TIOK Tryd.prog 55 ti55 := ⟨by kernel_rfl, by kernel_rfl, by kernel_rfl⟩
def ti56 : TI := ⟨.other, 1, 8, [.nilFunc]⟩
theorem ti56_ok : TIOK Tryd.prog 56 ti56 := ⟨by kernel_rfl, by kernel_rfl, by kernel_rfl⟩
def ti57 : TI := ⟨.ptr 95, 1, 8, [(.pointer none)]⟩
theorem ti57_ok : TIOK Tryd.prog 57 ti57 := ⟨by kernel_rfl, by kernel_rfl, by kernel_rfl⟩
def ti58 : TI := ⟨.other, 1, 8, [.nilFunc]⟩
theorem ti58_ok : TIOK Tryd.prog 58 ti58 := ⟨by kernel_rfl, by kernel_rfl, by kernel_rfl⟩
def ti59 : TI := ⟨.other, 1, 8, [.nilFunc]⟩
theorem ti59_ok : TIOK Tryd.prog 59 ti59 := ⟨by kernel_rfl, by kernel_rfl, by kernel_rfl⟩
def ti60 : TI := ⟨.other, 1, 8, [.nilFunc]⟩
theorem ti60_ok : TIOK Tryd.prog 60 ti60 := ⟨by kernel_rfl, by kernel_rfl, by kernel_rfl⟩
def ti61 : TI := ⟨.other, 1, 8, [.nilFunc]⟩
theorem ti61_ok : TIOK Tryd.prog 61 ti61 := ⟨by kernel_rfl, by kernel_rfl, by kernel_rfl⟩
def ti62 : TI := ⟨.other, 1, 8, [.nilFunc]⟩
theorem ti62_ok : TIOK Tryd.prog 62 ti62 := ⟨by kernel_rfl, by kernel_rfl, by kernel_rfl⟩
def ti63 : TI := ⟨.other, 1, 8, [.nilFunc]⟩
theorem ti63_ok : TIOK Tryd.prog 63 ti63 := ⟨by kernel_rfl, by kernel_rfl, by kernel_rfl⟩
def ti64 : TI := ⟨.other, 1, 8, [.nilFunc]⟩
theorem ti64_ok : TIOK Tryd.prog 64 ti64 := ⟨by kernel_rfl, by kernel_rfl, by kernel_rfl⟩
def ti65 : TI := ⟨.slice 3, 1, 24, [(.slice none 0 0)]⟩
theorem ti65_ok : TIOK Tryd.prog 65 ti65 := ⟨by kernel_rfl, by kernel_rfl, by kernel_rfl⟩
def ti66 : TI := ⟨.other, 1, 8, [.nilFunc]⟩
theorem ti66_ok : TIOK Tryd.prog 66 ti66 := ⟨by kernel_rfl, by kernel_rfl, by kernel_rfl⟩
def ti67 : TI := ⟨.array 8 43, 8, 64, [(.int .u64 0), (.int .u64 0), (.int .u64 0), (.int .u64 0), (.int .u64 0), (.int .u64 0), (.int .u64 0), (.int .u64 0)]⟩
theorem ti67_ok : TIOK Tryd.prog 67 ti67 := ⟨by kernel_rfl, by kernel_rfl, by kernel_rfl⟩
def ti68 : TI := ⟨.array 8 43, 8, 64, [(.int .u64 0), (.int .u64 0), (.int .u64 0), (.int .u64 0), (.int .u64 0), (.int .u64 0), (.int .u64 0), (.int .u64 0)]⟩
theorem ti68_ok : TIOK Tryd.prog 68 ti68 := ⟨by kernel_rfl, by kernel_rfl, by kernel_rfl⟩
def ti69 : TI := ⟨.other, 1, 8, [.nilFunc]⟩
theorem ti69_ok : TIOK Tryd.prog 69 ti69 := ⟨by kernel_rfl, by kernel_rfl, by kernel_rfl⟩
def ti70 : TI := ⟨.struct [(0, 68), (8, 22), (9, 43), (10, 4)], 11, 104, [(.int .u64 0), (.int .u64 0), (.int .u64 0), (.int .u64 0), (.int .u64 0), (.int .u64 0), (.int .u64 0), (.int .u64 0), (.slice none 0 0), (.int .u64 0), (.bool false)]⟩
theorem ti70_ok : TIOK Tryd.prog 70 ti70 := ⟨by kernel_rfl, by kernel_rfl, by kernel_rfl⟩
def ti71 : TI := ⟨.struct [(0, 68), (8, 22), (9, 43), (10, 4)], 11, 104, [(.int .u64 0), (.int .u64 0), (.int .u64 0), (.int .u64 0), (.int .u64 0), (.int .u64 0), (.int .u64 0), (.int .u64 0), (.slice none 0 0), (.int .u64 0), (.bool false)]⟩
theorem ti71_ok : TIOK Tryd.prog 71 ti71 := ⟨by kernel_rfl, by kernel_rfl, by kernel_rfl⟩
def ti73 : TI := ⟨.other, 1, 8, [.nilFunc]⟩
theorem ti73_ok : TIOK Tryd.prog 73 ti73 := ⟨by kernel_rfl, by kernel_rfl, by kernel_rfl⟩
def ti74 : TI := ⟨.other, 1, 8, [.nilFunc]⟩
theorem ti74_ok : TIOK Tryd.prog 74 ti74 := ⟨by kernel_rfl, by kernel_rfl, by kernel_rfl⟩
def ti75 : TI := ⟨.other, 1, 8, [.nilFunc]⟩
theorem ti75_ok : TIOK Tryd.prog 75 ti75 := ⟨by kernel_rfl, by kernel_rfl, by kernel_rfl⟩
def ti76 : TI := ⟨.struct [(0, 22), (1, 22)], 2, 48, [(.slice none 0 0), (.slice none 0 0)]⟩
theorem ti76_ok : TIOK Tryd.prog 76 ti76 := ⟨by kernel_rfl, by kernel_rfl, by kernel_rfl⟩
def ti77 : TI := ⟨.struct [(0, 22), (1, 22)], 2, 48, [(.slice none 0 0), (.slice none 0 0)]⟩
theorem ti77_ok : TIOK Tryd.prog 77 ti77 := ⟨by kernel_rfl, by kernel_rfl, by kernel_rfl⟩
def ti78 : TI := ⟨.struct [(0, 77), (2, 45), (6, 4)], 7, 88, [(.slice none 0 0), (.slice none 0 0), (.int .u64 0), (.int .u64 0), (.int .u64 0), (.int .u64 0), (.bool false)]⟩
theorem ti78_ok : TIOK Tryd.prog 78 ti78 := ⟨by kernel_rfl, by kernel_rfl, by kernel_rfl⟩
def ti79 : TI := ⟨.struct [(0, 77), (2, 45), (6, 4)], 7, 88, [(.slice none 0 0), (.slice none 0 0), (.int .u64 0), (.int .u64 0), (.int .u64 0), (.int .u64 0), (.bool false)]⟩
theorem ti79_ok : TIOK Tryd.prog 79 ti79 := ⟨by kernel_rfl, by kernel_rfl, by kernel_rfl⟩
def ti80 : TI := ⟨.other, 1, 8, [.nilFunc]⟩
theorem ti80_ok : TIOK Tryd.prog 80 ti80 := ⟨by kernel_rfl, by kernel_rfl, by kernel_rfl⟩
def ti81 : TI := ⟨.other, 1, 8, [.nilFunc]⟩
theorem ti81_ok : TIOK Tryd.prog 81 ti81 := ⟨by kernel_rfl, by kernel_rfl, by kernel_rfl⟩
def ti82 : TI := ⟨.other, 1, 8, [.nilFunc]⟩
theorem ti82_ok : TIOK Tryd.prog 82 ti82 := ⟨by kernel_rfl, by kernel_rfl, by kernel_rfl⟩
def ti83 : TI := ⟨.other, 1, 8, [.nilFunc]⟩
theorem ti83_ok : TIOK Tryd.prog 83 ti83 := ⟨by kernel_rfl, by kernel_rfl, by kernel_rfl⟩
def ti84 : TI := ⟨.struct [(0, 22), (1, 22), (2, 65), (3, 4)], 4, 80, [(.slice none 0 0), (.slice none 0 0), (.slice none 0 0), (.bool false)]⟩
theorem ti84_ok : TIOK Tryd.prog 84 ti84 := ⟨by kernel_rfl, by kernel_rfl, by kernel_rfl⟩
def ti85 : TI := ⟨.struct [(0, 22), (1, 22), (2, 65), (3, 4)], 4, 80, [(.slice none 0 0), (.slice none 0 0), (.slice none 0 0), (.bool false)]⟩
theorem ti85_ok : TIOK Tryd.prog 85 ti85 := ⟨by kernel_rfl, by kernel_rfl, by kernel_rfl⟩
def ti86 : TI := ⟨.other, 1, 8, [.nilFunc]⟩
theorem ti86_ok : TIOK Tryd.prog 86 ti86 := ⟨by kernel_rfl, by kernel_rfl, by kernel_rfl⟩
def ti87 : TI := ⟨.other, 1, 8, [.nilFunc]⟩
theorem ti87_ok : TIOK Tryd.prog 87 ti87 := ⟨by kernel_rfl, by kernel_rfl, by kernel_rfl⟩
def ti88 : TI := ⟨.other, 1, 8, [.nilFunc]⟩
theorem ti88_ok : TIOK Tryd.prog 88 ti88 := ⟨by kernel_rfl, by kernel_rfl, by kernel_rfl⟩
def ti89 : TI := ⟨.other, 1, 8, [.nilFunc]⟩
theorem ti89_ok : TIOK Tryd.prog 89 ti89 := ⟨by kernel_rfl, by kernel_rfl, by kernel_rfl⟩
def ti90 : TI := ⟨.int .u32, 1, 4, [(.int .u32 0)]⟩
theorem ti90_ok : TIOK Tryd.prog 90 ti90 := ⟨by kernel_rfl, by kernel_rfl, by kernel_rfl⟩
def ti91 : TI := ⟨.array 8 90, 8, 32, [(.int .u32 0), (.int .u32 0), (.int .u32 0), (.int .u32 0), (.int .u32 0), (.int .u32 0), (.int .u32 0), (.int .u32 0)]⟩
theorem ti91_ok : TIOK Tryd.prog 91 ti91 := ⟨by kernel_rfl, by kernel_rfl, by kernel_rfl⟩
def ti92 : TI := ⟨.array 8 90, 8, 32, [(.int .u32 0), (.int .u32 0), (.int .u32 0), (.int .u32 0), (.int .u32 0), (.int .u32 0), (.int .u32 0), (.int .u32 0)]⟩
theorem ti92_ok : TIOK Tryd.prog 92 ti92 := ⟨by kernel_rfl, by kernel_rfl, by kernel_rfl⟩
def ti93 : TI := ⟨.other, 1, 8, [.nilFunc]⟩
theorem ti93_ok : TIOK Tryd.prog 93 ti93 := ⟨by kernel_rfl, by kernel_rfl, by kernel_rfl⟩
def ti94 : TI := ⟨.struct [(0, 92), (8, 22), (9, 43), (10, 4)], 11, 72, [(.int .u32 0), (.int .u32 0), (.int .u32 0), (.int .u32 0), (.int .u32 0), (.int .u32 0), (.int .u32 0), (.int .u32 0), (.slice none 0 0), (.int .u64 0), (.bool false)]⟩
theorem ti94_ok : TIOK Tryd.prog 94 ti94 := ⟨by kernel_rfl, by kernel_rfl, by kernel_rfl⟩
def ti95 : TI := ⟨.struct [(0, 92), (8, 22), (9, 43), (10, 4)], 11, 72, [(.int .u32 0), (.int .u32 0), (.int .u32 0), (.int .u32 0), (.int .u32 0), (.int .u32 0), (.int .u32 0), (.int .u32 0), (.slice none 0 0), (.int .u64 0), (.bool false)]⟩
theorem ti95_ok : TIOK Tryd.prog 95 ti95 := ⟨by kernel_rfl, by kernel_rfl, by kernel_rfl⟩
def ti96 : TI := ⟨.slice 90, 1, 24, [(.slice none 0 0)]⟩
theorem ti96_ok : TIOK Tryd.prog 96 ti96 := ⟨by kernel_rfl, by kernel_rfl, by kernel_rfl⟩
def ti97 : TI := ⟨.other, 1, 8, [.nilFunc]⟩
theorem ti97_ok : TIOK Tryd.prog 97 ti97 := ⟨by kernel_rfl, by kernel_rfl, by kernel_rfl⟩
def ti98 : TI := ⟨.other, 1, 8, [.nilFunc]⟩
theorem ti98_ok : TIOK Tryd.prog 98 ti98 := ⟨by kernel_rfl, by kernel_rfl, by kernel_rfl⟩
def ti99 : TI := ⟨.other, 1, 8, [.nilFunc]⟩
theorem ti99_ok : TIOK Tryd.prog 99 ti99 := ⟨by kernel_rfl, by kernel_rfl, by kernel_rfl⟩
def ti100 : TI := ⟨.slice 43, 1, 24, [(.slice none 0 0)]⟩
theorem ti100_ok : TIOK Tryd.prog 100 ti100 := ⟨by kernel_rfl, by kernel_rfl, by kernel_rfl⟩
def ti101 : TI := ⟨.other, 1, 8, [.nilFunc]⟩
theorem ti101_ok : TIOK Tryd.prog 101 ti101 := ⟨by kernel_rfl, by kernel_rfl, by kernel_rfl⟩
def ti102 : TI := ⟨.other, 1, 8, [.nilFunc]⟩
theorem ti102_ok : TIOK Tryd.prog 102 ti102 := ⟨by kernel_rfl, by kernel_rfl, by kernel_rfl⟩
def ti103 : TI := ⟨.other, 1, 8, [.nilFunc]⟩
theorem ti103_ok : TIOK Tryd.prog 103 ti103 := ⟨by kernel_rfl, by kernel_rfl, by kernel_rfl⟩
def ti104 : TI := ⟨.ptr 68, 1, 8, [(.pointer none)]⟩
theorem ti104_ok : TIOK Tryd.prog 104 ti104 := ⟨by kernel_rfl, by kernel_rfl, by kernel_rfl⟩
def ti105 : TI := ⟨.array 80 43, 80, 640, [(.int .u64 0), (.int .u64 0), (.int .u64 0), (.int .u64 0), (.int .u64 0), (.int .u64 0), (.int .u64 0), (.int .u64 0), (.int .u64 0), (.int .u64 0), (.int .u64 0), (.int .u64 0), (.int .u64 0), (.int .u64 0), (.int .u64 0), (.int .u64 0), (.int .u64 0), (.int .u64 0), (.int .u64 0), (.int .u64 0), (.int .u64 0), (.int .u64 0), (.int .u64 0), (.int .u64 0), (.int .u64 0), (.int .u64 0), (.int .u64 0), (.int .u64 0), (.int .u64 0), (.int .u64 0), (.int .u64 0), (.int .u64 0), (.int .u64 0), (.int .u64 0), (.int .u64 0), (.int .u64 0), (.int .u64 0), (.int .u64 0), (.int .u64 0), (.int .u64 0), (.int .u64 0), (.int .u64 0), (.int .u64 0), (.int .u64 0), (.int .u64 0), (.int .u64 0), (.int .u64 0), (.int .u64 0), (.int .u64 0), (.int .u64 0), (.int .u64 0), (.int .u64 0), (.int .u64 0), (.int .u64 0), (.int .u64 0), (.int .u64 0), (.int .u64 0), (.int .u64 0), (.int .u64 0), (.int .u64 0), (.int .u64 0), (.int .u64 0), (.int .u64 0), (.int .u64 0), (.int .u64 0), (.int .u64 0), (.int .u64 0), (.int .u64 0), (.int .u64 0), (.int .u64 0), (.int .u64 0), (.int .u64 0), (.int .u64 0), (.int .u64 0), (.int .u64 0), (.int .u64 0), (.int .u64 0), (.int .u64 0), (.int .u64 0), (.int .u64 0)]⟩
theorem ti105_ok : TIOK Tryd.prog 105 ti105 := ⟨by kernel_rfl, by kernel_rfl, by kernel_rfl⟩
def ti106 : TI := ⟨.other, 1, 8, [.nilFunc]⟩
theorem ti106_ok : TIOK Tryd.prog 106 ti106 := ⟨by kernel_rfl, by kernel_rfl, by kernel_rfl⟩
def ti107 : TI := ⟨.other, 1, 8, [.nilFunc]⟩
theorem ti107_ok : TIOK Tryd.prog 107 ti107 := ⟨by kernel_rfl, by kernel_rfl, by kernel_rfl⟩
def ti109 : TI := ⟨.other, 1, 8, [.nilFunc]⟩
theorem ti109_ok : TIOK Tryd.prog 109 ti109 := ⟨by kernel_rfl, by kernel_rfl, by kernel_rfl⟩
def ti111 : TI := ⟨.other, 1, 8, [.nilFunc]⟩
theorem ti111_ok : TIOK Tryd.prog 111 ti111 := ⟨by kernel_rfl, by kernel_rfl, by kernel_rfl⟩
def ti112 : TI := ⟨.other, 1, 8, [.nilFunc]⟩
theorem ti112_ok : TIOK Tryd.prog 112 ti112 := ⟨by kernel_rfl, by kernel_rfl, by kernel_rfl⟩
def ti113 : TI := ⟨.ptr 77, 1, 8, [(.pointer none)]⟩
theorem ti113_ok : TIOK Tryd.prog 113 ti113 := ⟨by kernel_rfl, by kernel_rfl, by kernel_rfl⟩
def ti115 : TI := ⟨.other, 1, 8, [.nilFunc]⟩
theorem ti115_ok : TIOK Tryd.prog 115 ti115 := ⟨by kernel_rfl, by kernel_rfl, by kernel_rfl⟩
def ti116 : TI := ⟨.other, 1, 8, [.nilFunc]⟩
theorem ti116_ok : TIOK Tryd.prog 116 ti116 := ⟨by kernel_rfl, by kernel_rfl, by kernel_rfl⟩
def ti117 : TI := ⟨.other, 1, 8, [.nilFunc]⟩
theorem ti117_ok : TIOK Tryd.prog 117 ti117 := ⟨by kernel_rfl, by kernel_rfl, by kernel_rfl⟩
def ti118 : TI := ⟨.ptr 92, 1, 8, [(.pointer none)]⟩
theorem ti118_ok : TIOK Tryd.prog 118 ti118 := ⟨by kernel_rfl, by kernel_rfl, by kernel_rfl⟩
def ti119 : TI := ⟨.array 64 90, 64, 256, [(.int .u32 0), (.int .u32 0), (.int .u32 0), (.int .u32 0), (.int .u32 0), (.int .u32 0), (.int .u32 0), (.int .u32 0), (.int .u32 0), (.int .u32 0), (.int .u32 0), (.int .u32 0), (.int .u32 0), (.int .u32 0), (.int .u32 0), (.int .u32 0), (.int .u32 0), (.int .u32 0), (.int .u32 0), (.int .u32 0), (.int .u32 0), (.int .u32 0), (.int .u32 0), (.int .u32 0), (.int .u32 0), (.int .u32 0), (.int .u32 0), (.int .u32 0), (.int .u32 0), (.int .u32 0), (.int .u32 0), (.int .u32 0), (.int .u32 0), (.int .u32 0), (.int .u32 0), (.int .u32 0), (.int .u32 0), (.int .u32 0), (.int .u32 0), (.int .u32 0), (.int .u32 0), (.int .u32 0), (.int .u32 0), (.int .u32 0), (.int .u32 0), (.int .u32 0), (.int .u32 0), (.int .u32 0), (.int .u32 0), (.int .u32 0), (.int .u32 0), (.int .u32 0), (.int .u32 0), (.int .u32 0), (.int .u32 0), (.int .u32 0), (.int .u32 0), (.int .u32 0), (.int .u32 0), (.int .u32 0), (.int .u32 0), (.int .u32 0), (.int .u32 0), (.int .u32 0)]⟩
theorem ti119_ok : TIOK Tryd.prog 119 ti119 := ⟨by kernel_rfl, by kernel_rfl, by kernel_rfl⟩
def ti120 : TI := ⟨.other, 1, 8, [.nilFunc]⟩
theorem ti120_ok : TIOK Tryd.prog 120 ti120 := ⟨by kernel_rfl, by kernel_rfl, by kernel_rfl⟩
def ti121 : TI := ⟨.other, 1, 8, [.nilFunc]⟩
theorem ti121_ok : TIOK Tryd.prog 121 ti121 := ⟨by kernel_rfl, by kernel_rfl, by kernel_rfl⟩
def ti123 : TI := ⟨.other, 1, 8, [.nilFunc]⟩
theorem ti123_ok : TIOK Tryd.prog 123 ti123 := ⟨by kernel_rfl, by kernel_rfl, by kernel_rfl⟩
def ti125 : TI := ⟨.other, 1, 8, [.nilFunc]⟩
theorem ti125_ok : TIOK Tryd.prog 125 ti125 := ⟨by kernel_rfl, by kernel_rfl, by kernel_rfl⟩
def ti126 : TI := ⟨.other, 1, 8, [.nilFunc]⟩
theorem ti126_ok : TIOK Tryd.prog 126 ti126 := ⟨by kernel_rfl, by kernel_rfl, by kernel_rfl⟩
def ti127 : TI := ⟨.other, 1, 8, [.nilFunc]⟩
theorem ti127_ok : TIOK Tryd.prog 127 ti127 := ⟨by kernel_rfl, by kernel_rfl, by kernel_rfl⟩
def ti128 : TI := ⟨.other, 1, 8, [.nilFunc]⟩
theorem ti128_ok : TIOK Tryd.prog 128 ti128 := ⟨by kernel_rfl, by kernel_rfl, by kernel_rfl⟩
def ti134 : TI := ⟨.other, 1, 8, [.nilFunc]⟩
theorem ti134_ok : TIOK Tryd.prog 134 ti134 := ⟨by kernel_rfl, by kernel_rfl, by kernel_rfl⟩
def ti137 : TI := ⟨.other, 1, 8, [.nilFunc]⟩
theorem ti137_ok : TIOK Tryd.prog 137 ti137 := ⟨by kernel_rfl, by kernel_rfl, by kernel_rfl⟩
def ti138 : TI := ⟨.ptr 5, 1, 8, [(.pointer none)]⟩
theorem ti138_ok : TIOK Tryd.prog 138 ti138 := ⟨by kernel_rfl, by kernel_rfl, by kernel_rfl⟩
def ti141 : TI := ⟨.struct [(0, 12), (1, 12), (2, 90), (3, 135), (4, 5), (5, 5), (6, 136), (7, 137), (8, 138), (9, 139), (10, 140)], 11, 48, [(.int .u64 0), (.int .u64 0), (.int .u32 0), (.int .u8 0), (.int .u8 0), (.int .u8 0), (.int .u8 0), .nilFunc, (.pointer none), (.int .i32 0), (.int .i32 0)]⟩
theorem ti141_ok : TIOK Tryd.prog 141 ti141 := ⟨by kernel_rfl, by kernel_rfl, by kernel_rfl⟩
/-- cleromancy/digest.constants -/
def glob0 : List UInt32 := [1116352408, 1899447441, 3049323471, 3921009573, 961987163, 1508970993, 2453635748, 2870763221, 3624381080, 310598401, 607225278, 1426881987, 1925078388, 2162078206, 2614888103, 3248222580, 3835390401, 4022224774, 264347078, 604807628, 770255983, 1249150122, 1555081692, 1996064986, 2554220882, 2821834349, 2952996808, 3210313671, 3336571891, 3584528711, 113926993, 338241895, 666307205, 773529912, 1294757372, 1396182291, 1695183700, 1986661051, 2177026350, 2456956037, 2730485921, 2820302411, 3259730800, 3345764771, 3516065817, 3600352804, 4094571909, 275423344, 430227734, 506948616, 659060556, 883997877, 958139571, 1322822218, 1537002063, 1747873779, 1955562222, 2024104815, 2227730452, 2361852424, 2428436474, 2756734187, 3204031479, 3329325298]
instance : GLob := ⟨fun n => match n with | 1 => some (.halfs glob0) | _ => none⟩
def tt : TT := [(1, ti1), (2, ti2), (3, ti3), (4, ti4), (5, ti5), (9, ti9), (12, ti12), (21, ti21), (22, ti22), (23, ti23), (24, ti24), (25, ti25), (26, ti26), (27, ti27), (28, ti28), (29, ti29), (30, ti30), (31, ti31), (33, ti33), (34, ti34), (35, ti35), (36, ti36), (37, ti37), (38, ti38), (39, ti39), (40, ti40), (41, ti41), (42, ti42), (43, ti43), (44, ti44), (45, ti45), (46, ti46), (48, ti48), (49, ti49), (50, ti50), (51, ti51), (53, ti53), (54, ti54), (55, ti55), (56, ti56), (57, ti57), (58, ti58), (59, ti59), (60, ti60), (61, ti61), (62, ti62), (63, ti63), (64, ti64), (65, ti65), (66, ti66), (67, ti67), (68, ti68), (69, ti69), (70, ti70), (71, ti71), (73, ti73), (74, ti74), (75, ti75), (76, ti76), (77, ti77), (78, ti78), (79, ti79), (80, ti80), (81, ti81), (82, ti82), (83, ti83), (84, ti84), (85, ti85), (86, ti86), (87, ti87), (88, ti88), (89, ti89), (90, ti90), (91, ti91), (92, ti92), (93, ti93), (94, ti94), (95, ti95), (96, ti96), (97, ti97), (98, ti98), (99, ti99), (100, ti100), (101, ti101), (102, ti102), (103, ti103), (104, ti104), (105, ti105), (106, ti106), (107, ti107), (109, ti109), (111, ti111), (112, ti112), (113, ti113), (115, ti115), (116, ti116), (117, ti117), (118, ti118), (119, ti119), (120, ti120), (121, ti121), (123, ti123), (125, ti125), (126, ti126), (127, ti127), (128, ti128), (134, ti134), (137, ti137), (138, ti138), (141, ti141)]
theorem tt_ok : TTOK Tryd.prog tt := .cons ti1_ok <| .cons ti2_ok <| .cons ti3_ok <| .cons ti4_ok <| .cons ti5_ok <| .cons ti9_ok <| .cons ti12_ok <| .cons ti21_ok <| .cons ti22_ok <| .cons ti23_ok <| .cons ti24_ok <| .cons ti25_ok <| .cons ti26_ok <| .cons ti27_ok <| .cons ti28_ok <| .cons ti29_ok <| .cons ti30_ok <| .cons ti31_ok <| .cons ti33_ok <| .cons ti34_ok <| .cons ti35_ok <| .cons ti36_ok <| .cons ti37_ok <| .cons ti38_ok <| .cons ti39_ok <| .cons ti40_ok <| .cons ti41_ok <| .cons ti42_ok <| .cons ti43_ok <| .cons ti44_ok <| .cons ti45_ok <| .cons ti46_ok <| .cons ti48_ok <| .cons ti49_ok <| .cons ti50_ok <| .cons ti51_ok <| .cons ti53_ok <| .cons ti54_ok <| .cons ti55_ok <| .cons ti56_ok <| .cons ti57_ok <| .cons ti58_ok <| .cons ti59_ok <| .cons ti60_ok <| .cons ti61_ok <| .cons ti62_ok <| .cons ti63_ok <| .cons ti64_ok <| .cons ti65_ok <| .cons ti66_ok <| .cons ti67_ok <| .cons ti68_ok <| .cons ti69_ok <| .cons ti70_ok <| .cons ti71_ok <| .cons ti73_ok <| .cons ti74_ok <| .cons ti75_ok <| .cons ti76_ok <| .cons ti77_ok <| .cons ti78_ok <| .cons ti79_ok <| .cons ti80_ok <| .cons ti81_ok <| .cons ti82_ok <| .cons ti83_ok <| .cons ti84_ok <| .cons ti85_ok <| .cons ti86_ok <| .cons ti87_ok <| .cons ti88_ok <| .cons ti89_ok <| .cons ti90_ok <| .cons ti91_ok <| .cons ti92_ok <| .cons ti93_ok <| .cons ti94_ok <| .cons ti95_ok <| .cons ti96_ok <| .cons ti97_ok <| .cons ti98_ok <| .cons ti99_ok <| .cons ti100_ok <| .cons ti101_ok <| .cons ti102_ok <| .cons ti103_ok <| .cons ti104_ok <| .cons ti105_ok <| .cons ti106_ok <| .cons ti107_ok <| .cons ti109_ok <| .cons ti111_ok <| .cons ti112_ok <| .cons ti113_ok <| .cons ti115_ok <| .cons ti116_ok <| .cons ti117_ok <| .cons ti118_ok <| .cons ti119_ok <| .cons ti120_ok <| .cons ti121_ok <| .cons ti123_ok <| .cons ti125_ok <| .cons ti126_ok <| .cons ti127_ok <| .cons ti128_ok <| .cons ti134_ok <| .cons ti137_ok <| .cons ti138_ok <| .cons ti141_ok <| .nil _
theorem mixed : Tryd.prog.follows .mixedOrders = true := by kernel_rfl

end Go.Proofs.YtomoihkepkmgdaaDoor
