/- A symbolic machine for Go functions, and what the functions that the law reaches come to: SymP, TT. -/
import Derived.Test.YtbdoieajjhhbpaaDoorQ2
import Derived.Test.YtbdoieajjhhbpaaDoorProg
/- Functions whose results are nobody's but the caller's. -/
namespace Go.Sym
open Go.RowKit

def melt1 (M : List (Option Blk)) : SV → Option SV
  | .sl b lo len => match M[b]? with
    | some (some [.own l]) => some (.lst (l.cut lo (lo + len)))
    | _ => none
  | .ptr b 0 => match M[b]? with
    | some (some cs) => if noNameL cs = true then some (.ro cs 0) else none
    | _ => none
  | s => if s.flat = true then some s else none
def melt (M : List (Option Blk)) : SV → Option SV
  | .tup (x :: xs) => match melt1 M x with
    | some y => if flatL xs = true then some (.tup (y :: xs)) else none
    | none => none
  | s => melt1 M s
def finF (tt : TT) (fr : List ResultVar) (Q : SV → Prop) : KT := fun e st =>
  match e with
  | .normal | .ret => match resAll tt st fr with
    | some vs => match melt st.M (retSV vs) with
      | some r => Q r
      | none => False
    | none => False
  | _ => False

theorem take_drop_cut {α : Type} (xs : List α) (base n lo len : Nat) (h : lo + len ≤ n) : (xs.drop (base + lo)).take len = (((xs.drop base).take n).take (lo + len)).drop lo := by
  apply List.ext_getElem?
  intro i
  simp only [List.getElem?_take, List.getElem?_drop]
  by_cases hi : i < len
  · rw [if_pos hi, if_pos (by omega), if_pos (by omega)]; congr 1; omega
  · rw [if_neg hi, if_neg (by omega)]
section
variable [GLob] {at_ at' : At} {w : World} {M : List (Option Blk)} {N : Nat}
theorem FRel1.of_flat {r : SV} {v : Value} (hfl : r.flat = true) (h : Rel at' w r v) : FRel1 at_ N w r v := by
  have _ := ‹GLob›
  unfold FRel1
  split
  · simp [SV.flat, SV.flat1] at hfl
  · simp [SV.flat, SV.flat1] at hfl
  · exact Rel.flat _ _ hfl h
theorem melt1_ok (hM : MemOK at' M w) (hnew : ∀ n g, at' n = some g → N ≤ g) (hgnew : ∀ n g b c k, at'.gn n = .live g b c k → N ≤ g) (hfix : ∀ g, Fix at' g → Fix at_ g) {s r : SV} {v : Value} (h : melt1 M s = some r) (hr : Rel at' w s v) : FRel1 at_ N w r v := by
  unfold melt1 at h
  split at h
  · rename_i b lo len
    split at h
    · rename_i l hl
      simp only [Option.some.injEq] at h; subst h
      simp only [Rel] at hr
      obtain ⟨r1, r2, r3, _⟩ := hr
      simp only [FRel1]
      rcases hM.glk b l hl with ⟨k1, k2⟩ | ⟨g, base, c, k1, arr, ty, k2, k3, k4, k5, k6⟩
      · obtain ⟨rfl, rfl, rfl⟩ := r2 k1
        exact .inl ⟨by rw [LV.len_cut _ _ _ (by omega)], rfl⟩
      · obtain ⟨h1, _, ad, h2, h3⟩ := r3 _ _ _ _ (by rw [k1]; rfl)
        have hcl : (l.cut lo (lo + len)).len = len := by rw [LV.len_cut _ _ _ h1]; omega
        refine .inr ⟨g, base + lo, c - lo, ad, hgnew _ _ _ _ _ k1, ⟨arr, ty, k2, by omega, by rw [hcl]; omega, by omega, ?_⟩, by rw [hcl]; exact h2, fun hc => h3 (by omega)⟩
        rw [hcl, LV.vals_cut, ← k6, take_drop_cut _ _ l.len _ _ h1]
    · cases h
  · rename_i b
    split at h
    · rename_i cs hc
      split at h
      · rename_i hn
        simp only [Option.some.injEq] at h; subst h
        simp only [Rel] at hr
        obtain ⟨g, h1, h2⟩ := hr
        obtain ⟨ty, vs, h4, h5⟩ := hM.blk _ _ _ h1 hc
        simp only [FRel1]
        refine ⟨g, ty, vs, hnew _ _ h1, h2, h4, RelL.noName (fun k hk => ?_) _ _ hn h5⟩
        have hk' := hfix k hk
        exact ⟨hk'.1, fun e => by
          rcases e with e | e
          · exact hk'.2.1 e
          · subst e; exact hk.1 b h1, hk'.2.2⟩
      · cases h
    · cases h
  · split at h
    · rename_i hfl
      simp only [Option.some.injEq] at h; subst h
      exact FRel1.of_flat hfl hr
    · cases h
theorem melt_ok (hM : MemOK at' M w) (hnew : ∀ n g, at' n = some g → N ≤ g) (hgnew : ∀ n g b c k, at'.gn n = .live g b c k → N ≤ g) (hfix : ∀ g, Fix at' g → Fix at_ g) {s r : SV} {v : Value} (h : melt M s = some r) (hr : Rel at' w s v) : FRel at_ N w r v := by
  unfold melt at h
  split at h
  · split at h
    · rename_i hy
      split at h
      · rename_i hfl
        simp only [Option.some.injEq] at h; subst h
        simp only [Rel, RelL] at hr
        obtain ⟨vs, rfl, u, us, rfl, h1, h2⟩ := hr
        simp only [FRel]
        exact ⟨u, us, rfl, melt1_ok hM hnew hgnew hfix hy h1, RelL.flat _ _ hfl h2⟩
      · cases h
    · cases h
  · rename_i e1
    have hx := melt1_ok hM hnew hgnew hfix h hr
    unfold FRel
    split
    · rename_i x xs _
      exfalso
      unfold melt1 at h
      split at h
      · split at h <;> cases h
      · split at h
        · split at h <;> cases h
        · cases h
      · split at h
        · simp only [Option.some.injEq] at h; exact e1 _ _ h
        · cases h
    · exact hx

variable {P : Program}
theorem calls_of_awpF {tt : TT} (hT : TTOK P tt) {f : FuncId} {fn : Func} {c : Code} (hf : P.funcs[f]? = some fn) (hb : fn.body = some c) {svs : List SV} {Q : SV → Prop}
    (hvc : ∀ B : Base, B.dfs = [] → B.obs = [] → Clean 0 B.at0 → AWp none P B c (init svs fn.ntmps) (finF tt fn.results.toList Q)) (hn : noNameL svs = true) {vs : List Value} {w : World} (hat : ∀ n g, at_ n = some g → g < w.heap.size) (hout : ∀ g, (at_.out g ∨ ∃ n b c k, at_.gn n = .live g b c k) → g < w.heap.size) (hgl : GLOK at_ w) (hr : RelL at_ w svs vs) :
    Calls P f (List.toArray vs) w fun e w' => ∃ v, e = .returned v ∧ ∃ r, Q r ∧ FRel at_ w.heap.size w' r v ∧ Below w.heap.size w w' := by
  refine calls_of_wp hf hb ?_
  let at0 : At := ⟨fun _ => none, fun g => (∃ n, at_ n = some g) ∨ at_.out g ∨ ∃ n b c k, at_.gn n = .live g b c k, fun _ => .unborn⟩
  have fixA : ∀ g, Fix at_ g → Fix at0 g := fun g h => ⟨fun n e => by simp [at0] at e, fun e => by
    rcases e with ⟨n, e⟩ | e | ⟨n, b, c, k, e⟩
    · exact h.1 n e
    · exact h.2.1 e
    · exact h.2.2 n b c k e, fun _ _ _ _ e => by simp [at0] at e⟩
  have fixB : ∀ g, ¬ at0.out g → Fix at_ g := fun g h => ⟨fun n e => h (.inl ⟨n, e⟩), fun e => h (.inr (.inl e)), fun n b c k e => h (.inr (.inr ⟨n, b, c, k, e⟩))⟩
  have hlen := hr.length
  have hstart : Reps ⟨at0, w, [], []⟩ (init svs fn.ntmps) { tmps := List.toArray vs ++ Array.replicate (fn.ntmps - (List.toArray vs).size) Go.undef, defers := [] } w := by
    refine ⟨at0, Later.refl _ _, ⟨fun n g cs e1 e => by simp [init] at e, fun n m g e => by simp [at0] at e, fun n g e => by simp [at0] at e, fun g h => ?_, fun n l e => by simp [init] at e, fun n m g b c k b' c' k' e => by simp [at0] at e, fun n m g b c k e => by simp [at0] at e, fun n e => by simp [at0] at e, fun n g b c k e => by simp [at0] at e, fun n g b c k e => by simp [at0] at e, fun n g e => by simp [at0] at e, hgl.fixed fixA⟩, ?_, rfl, ObsOK.nil _ _⟩
    · rcases h with ⟨n, h⟩ | h
      · exact hat n g h
      · exact hout g h
    · simp only [init, Array.toList_append, Array.toList_replicate, List.size_toArray, hlen]
      exact RelL.append (RelL.noName fixA _ _ hn hr) (RelL.replicate _ (by simp only [Rel]))
  refine Code.wp_mono ?_ (wpIn_wide.1 (hvc ⟨at0, w, [], []⟩ rfl rfl (fun _ _ => ⟨rfl, rfl⟩) _ _ hstart))
  rintro e a' w' ⟨st', ⟨at', hl, hM, hT', hd, _⟩, hk⟩
  have fin : finF tt fn.results.toList Q .ret st' →
      a'.defers = [] ∧ ∃ v, (results fn a'.tmps).run P w' = .ok v w' ∧ ∃ u, Ending.returned v = .returned u ∧ ∃ r, Q r ∧ FRel at_ w.heap.size w' r u ∧ Below w.heap.size w w' := by
    intro hk
    refine ⟨hd, ?_⟩
    simp only [finF] at hk
    split at hk
    · rename_i svs' hres
      split at hk
      · rename_i r hfr
        obtain ⟨us, h1, h2⟩ := resAll_ok hT hM hT' _ _ hres
        have hrun := results_run h1
        refine ⟨_, hrun, _, rfl, r, hk, ?_, ?_⟩
        · have hrel : Rel at' w' (retSV svs') (retV us) := by
            rcases svs' with _ | ⟨s, _ | ⟨s', ss⟩⟩
            · simp only [RelL] at h2; subst h2; simp only [retSV, Rel]; exact ⟨[], rfl, RelL.nil⟩
            · simp only [RelL] at h2
              obtain ⟨v, vs', rfl, h3, rfl⟩ := h2
              exact h3
            · have h2' := h2
              simp only [RelL] at h2
              obtain ⟨v, vs', rfl, h3, v', vs'', rfl, h4, h5⟩ := h2
              simp only [retSV, Rel]
              exact ⟨_, rfl, h2'⟩
          refine melt_ok hM (fun n g e => ?_) (fun n g b c k e => ?_) (fun g hg => fixB g (fun ho => hg.2.1 (by rw [hl.out]; exact ho))) hfr hrel
          · rcases hl.new n g e with e' | e'
            · simp [at0] at e'
            · exact e'
          · rcases hl.gnew n g b c k e with ⟨m, b', c', k', e'⟩ | e'
            · simp [at0] at e'
            · exact e'
        · refine ⟨hl.os, hl.tape, hl.output, hl.size, fun k hk' => ?_⟩
          exact (hl.keep k (fun n e => by simp [at0] at e) (fun n b c k e => by simp [at0] at e) hk').2.2
      · exact hk.elim
    · exact hk.elim
  cases e with
  | normal => exact fin hk
  | ret => exact fin hk
  | exit id => exact hk.elim
  | goto l => exact hk.elim
  | panic ch => exact hk.elim
  | outgrown => exact hk.elim

variable {α β : Type} [Args α] [RetL β]
def LfRaw (tt : TT) (sp : Specs) (fuel : Nat) (D : Dec) (L : Plan) (fn : Func) (Q : SV → Prop) (a : α) : Prop := vcl tt sp fuel D L 0 (fn.body.getD .skip) 0 (init (Args.encL a) fn.ntmps) (finF tt fn.results.toList Q)
structure LfVD (tt : TT) (sp : Specs) (fuel : Nat) (D : Dec) (L : Plan) (fn : Func) (Q : SV → Prop) (a : α) : Prop where
  out : LfRaw tt sp fuel D L fn Q a
theorem LfVD.of {tt : TT} {sp : Specs} {fuel : Nat} {D : Dec} {L : Plan} {fn : Func} {Q : SV → Prop} {a : α} {E : Prop} (hE : LfRaw tt sp fuel D L fn Q a = E) (k : E) : LfVD tt sp fuel D L fn Q a := ⟨by rw [hE]; exact k⟩
/-- A function whose result is the caller's own, out of its body's proposition. -/
theorem fn_okF {tt : TT} (hm : P.follows .mixedOrders = true) (hT : TTOK P tt) {sp : Specs} (hS : SpecsOK P sp) (fuel : Nat) {f : FuncId} {fn : Func} (hf : P.funcs[f]? = some fn) (hname : (fn.name == "runtime.NumGoroutine") = false) (hb : fn.body.isSome = true) {pre : α → Option Prop} {g : α → β}
    (H : ∀ a, Ok (pre a) → ∃ D L, ∃ Q : SV → Prop, LfVD tt sp fuel D L fn Q a ∧ ∀ x, Q x → ∀ (at_ : At) (n : Nat) (w : World) (v : Value), FRel at_ n w x v → FRel at_ n w (retSV (RetL.retL (g a))) v) : FSpecOK P f (fspec pre g) := by
  obtain ⟨c, hc⟩ := Option.isSome_iff_exists.1 hb
  intro at_ w svs vs pr r hat hout hgl hs hp hr
  unfold fspec at hs
  split at hs
  · rename_i a ha
    simp only [Option.some.injEq, Prod.mk.injEq] at hs
    obtain ⟨rfl, rfl⟩ := hs
    have hrun : (callFunc f (List.toArray vs)).run P w = .ok (.enter f (List.toArray vs)) w := by
      have h1 : fn.name ≠ "runtime.NumGoroutine" := by simpa using hname
      simp [callFunc, hf, h1, hc]
    rw [hrun]
    obtain ⟨D, L, Q, ⟨h⟩, hQ⟩ := H a hp
    unfold LfRaw at h
    rw [hc] at h
    refine (calls_of_awpF hT hf hc (fun B _ _ hcl => vcl_ok hm hT hS hcl c 0 _ _ h) (Args.nn a) hat hout hgl (Args.ok ha hr)).mono ?_
    rintro e w' ⟨v, h1, r', h2, h3, h4⟩
    exact ⟨v, h1, hQ _ h2 _ _ _ _ h3, h4⟩
  · cases hs

/-- What is the caller's own reads as what nobody writes. -/
theorem FRel1.rel {r : SV} {v : Value} (hat : ∀ n g, at_ n = some g → g < N) (hout : ∀ g, (at_.out g ∨ ∃ n b c k, at_.gn n = .live g b c k) → g < N) (hn : r.noName = true) (h : FRel1 at_ N w r v) : Rel at_ w r v := by
  have _ := ‹GLob›
  have fix : ∀ g, N ≤ g → Fix at_ g := fun g hg => ⟨fun n e => by have := hat n g e; omega, fun e => by have := hout g (.inl e); omega, fun n b c k e => by have := hout g (.inr ⟨n, b, c, k, e⟩); omega⟩
  unfold FRel1 at h
  split at h
  · rcases h with ⟨hl, rfl⟩ | ⟨g, base, cap, ad, hge, ⟨arr, ty, k2, k3, k4, k5, k6⟩, rfl, had⟩
    · exact nil_lst hl ⟨0, rfl⟩ (by simp only [Rel])
    · simp only [Rel]
      refine ⟨ad, cap, rfl, k4, fun j u hj => ?_⟩
      have hlt := (List.getElem?_eq_some_iff.1 hj).1
      rw [LV.len_vals] at hlt
      refine ⟨_, had (by omega), fix g hge, ?_⟩
      rw [addr_add, cell_of_row w g _ _ ty (0, 0) k2, ← Array.getElem?_toList]
      rw [← k6, List.getElem?_take, if_pos hlt, List.getElem?_drop] at hj
      exact hj
  · obtain ⟨g, ty, vs, h1, h2, h3, h4⟩ := h
    simp only [Rel]
    exact ⟨g, ty, (0, 0), vs, h2, fix g h1, h3, RelL.noName (fun k hk => (Fix.of_hide hk).1) _ _ (by simpa only [SV.noName] using hn) h4⟩
  · exact h
theorem FRel.rel {r : SV} {v : Value} (hat : ∀ n g, at_ n = some g → g < N) (hout : ∀ g, (at_.out g ∨ ∃ n b c k, at_.gn n = .live g b c k) → g < N) (hn : r.noName = true) (h : FRel at_ N w r v) : Rel at_ w r v := by
  unfold FRel at h
  split at h
  · obtain ⟨u, us, rfl, h1, h2⟩ := h
    simp only [SV.noName, noNameL, Bool.and_eq_true] at hn
    simp only [Rel]
    exact ⟨_, rfl, RelL.cons (FRel1.rel hat hout hn.1 h1) h2⟩
  · exact FRel1.rel hat hout hn h
theorem FSpecOK.pure {f : FuncId} {s : SpecF} (h : FSpecOK P f s) (hs : ∀ svs pre r, s svs = some (pre, r) → r.noName = true) : SpecOK P f s := fun at_ w svs vs pre r hat hout hgl e hp hr =>
  Outcome.mono (fun _ _ ⟨h1, h2⟩ => ⟨FRel.rel (fun n g e => hat n g e) hout (hs _ _ _ e) h1, h2⟩) (h at_ w svs vs pre r hat hout hgl e hp hr)
end
end Go.Sym
/- The types of the seat's program, as the symbolic machine wants them. Written by a program of this claim's author. -/
namespace Go.Proofs.YtbdoieajjhhbpaaDoor
open Go.Sym

def ti1 : TI := ⟨.other, 1, 8, [.nilFunc]⟩
theorem ti1_ok : TIOK Tryd.prog 1 ti1 := ⟨by kernel_rfl, by kernel_rfl, by kernel_rfl⟩
def ti2 : TI := ⟨.int .i64, 1, 8, [(.int .i64 0)]⟩
theorem ti2_ok : TIOK Tryd.prog 2 ti2 := ⟨by kernel_rfl, by kernel_rfl, by kernel_rfl⟩
def ti3 : TI := ⟨.int .i64, 1, 8, [(.int .i64 0)]⟩
theorem ti3_ok : TIOK Tryd.prog 3 ti3 := ⟨by kernel_rfl, by kernel_rfl, by kernel_rfl⟩
def ti4 : TI := ⟨.bool, 1, 1, [(.bool false)]⟩
theorem ti4_ok : TIOK Tryd.prog 4 ti4 := ⟨by kernel_rfl, by kernel_rfl, by kernel_rfl⟩
def ti5 : TI := ⟨.int .u8, 1, 1, [(.int .u8 0)]⟩
theorem ti5_ok : TIOK Tryd.prog 5 ti5 := ⟨by kernel_rfl, by kernel_rfl, by kernel_rfl⟩
def ti9 : TI := ⟨.str, 1, 16, [(.string ⟨#[]⟩)]⟩
theorem ti9_ok : TIOK Tryd.prog 9 ti9 := ⟨by kernel_rfl, by kernel_rfl, by kernel_rfl⟩
def ti12 : TI := ⟨.int .u64, 1, 8, [(.int .u64 0)]⟩
theorem ti12_ok : TIOK Tryd.prog 12 ti12 := ⟨by kernel_rfl, by kernel_rfl, by kernel_rfl⟩
def ti21 : TI := ⟨.int .i32, 1, 4, [(.int .i32 0)]⟩
theorem ti21_ok : TIOK Tryd.prog 21 ti21 := ⟨by kernel_rfl, by kernel_rfl, by kernel_rfl⟩
def ti22 : TI := ⟨.slice 5, 1, 24, [(.slice none 0 0)]⟩
theorem ti22_ok : TIOK Tryd.prog 22 ti22 := ⟨by kernel_rfl, by kernel_rfl, by kernel_rfl⟩
def ti23 : TI := ⟨.other, 1, 8, [.nilFunc]⟩
theorem ti23_ok : TIOK Tryd.prog 23 ti23 := ⟨by kernel_rfl, by kernel_rfl, by kernel_rfl⟩
def ti24 : TI := ⟨.other, 1, 8, [.nilFunc]⟩
theorem ti24_ok : TIOK Tryd.prog 24 ti24 := ⟨by kernel_rfl, by kernel_rfl, by kernel_rfl⟩
def ti25 : TI := ⟨.other, 1, 8, [.nilFunc]⟩
theorem ti25_ok : TIOK Tryd.prog 25 ti25 := ⟨by kernel_rfl, by kernel_rfl, by kernel_rfl⟩
def ti26 : TI := ⟨.other, 1, 8, [.nilFunc]⟩
theorem ti26_ok : TIOK Tryd.prog 26 ti26 := ⟨by kernel_rfl, by kernel_rfl, by kernel_rfl⟩
def ti27 : TI := ⟨.slice 30, 1, 24, [(.slice none 0 0)]⟩
theorem ti27_ok : TIOK Tryd.prog 27 ti27 := ⟨by kernel_rfl, by kernel_rfl, by kernel_rfl⟩
def ti28 : TI := ⟨.other, 1, 8, [.nilFunc]⟩
theorem ti28_ok : TIOK Tryd.prog 28 ti28 := ⟨by kernel_rfl, by kernel_rfl, by kernel_rfl⟩
def ti29 : TI := ⟨.other, 1, 8, [.nilFunc]⟩
theorem ti29_ok : TIOK Tryd.prog 29 ti29 := ⟨by kernel_rfl, by kernel_rfl, by kernel_rfl⟩
def ti30 : TI := ⟨.int .u32, 1, 4, [(.int .u32 0)]⟩
theorem ti30_ok : TIOK Tryd.prog 30 ti30 := ⟨by kernel_rfl, by kernel_rfl, by kernel_rfl⟩
def ti31 : TI := ⟨.other, 1, 8, [.nilFunc]⟩
theorem ti31_ok : TIOK Tryd.prog 31 ti31 := ⟨by kernel_rfl, by kernel_rfl, by kernel_rfl⟩
def ti32 : TI := ⟨.slice 34, 1, 24, [(.slice none 0 0)]⟩
theorem ti32_ok : TIOK Tryd.prog 32 ti32 := ⟨by kernel_rfl, by kernel_rfl, by kernel_rfl⟩
def ti33 : TI := ⟨.other, 1, 8, [.nilFunc]⟩
theorem ti33_ok : TIOK Tryd.prog 33 ti33 := ⟨by kernel_rfl, by kernel_rfl, by kernel_rfl⟩
def ti34 : TI := ⟨.int .u64, 1, 8, [(.int .u64 0)]⟩
theorem ti34_ok : TIOK Tryd.prog 34 ti34 := ⟨by kernel_rfl, by kernel_rfl, by kernel_rfl⟩
def ti35 : TI := ⟨.other, 1, 8, [.nilFunc]⟩
theorem ti35_ok : TIOK Tryd.prog 35 ti35 := ⟨by kernel_rfl, by kernel_rfl, by kernel_rfl⟩
def ti36 : TI := ⟨.slice 22, 1, 24, [(.slice none 0 0)]⟩
theorem ti36_ok : TIOK Tryd.prog 36 ti36 := ⟨by kernel_rfl, by kernel_rfl, by kernel_rfl⟩
def ti37 : TI := ⟨.ptr 59, 1, 8, [(.pointer none)]⟩
theorem ti37_ok : TIOK Tryd.prog 37 ti37 := ⟨by kernel_rfl, by kernel_rfl, by kernel_rfl⟩
def ti38 : TI := ⟨.other, 1, 8, [.nilFunc]⟩
theorem ti38_ok : TIOK Tryd.prog 38 ti38 := ⟨by kernel_rfl, by kernel_rfl, by kernel_rfl⟩
def ti39 : TI := ⟨.other, 1, 8, [.nilFunc]⟩
theorem ti39_ok : TIOK Tryd.prog 39 ti39 := ⟨by kernel_rfl, by kernel_rfl, by kernel_rfl⟩
def ti40 : TI := ⟨.other, 1, 8, [.nilFunc]⟩
theorem ti40_ok : TIOK Tryd.prog 40 ti40 := ⟨by kernel_rfl, by kernel_rfl, by kernel_rfl⟩
def ti41 : TI := ⟨.other, 1, 8, [.nilFunc]⟩
theorem ti41_ok : TIOK Tryd.prog 41 ti41 := ⟨by kernel_rfl, by kernel_rfl, by kernel_rfl⟩
def ti42 : TI := ⟨.other, 1, 8, [.nilFunc]⟩
theorem ti42_ok : TIOK Tryd.prog 42 ti42 := ⟨by kernel_rfl, by kernel_rfl, by kernel_rfl⟩
def ti43 : TI := ⟨.ptr 65, 1, 8, [(.pointer none)]⟩
theorem ti43_ok : TIOK Tryd.prog 43 ti43 := ⟨by kernel_rfl, by kernel_rfl, by kernel_rfl⟩
def ti44 : TI := ⟨.other, 1, 8, [.nilFunc]⟩
theorem ti44_ok : TIOK Tryd.prog 44 ti44 := ⟨by kernel_rfl, by kernel_rfl, by kernel_rfl⟩
def ti45 : TI := ⟨.other, 1, 8, [.nilFunc]⟩
theorem ti45_ok : TIOK Tryd.prog 45 ti45 := ⟨by kernel_rfl, by kernel_rfl, by kernel_rfl⟩
def ti46 : TI := ⟨.slice 3, 1, 24, [(.slice none 0 0)]⟩
theorem ti46_ok : TIOK Tryd.prog 46 ti46 := ⟨by kernel_rfl, by kernel_rfl, by kernel_rfl⟩
def ti47 : TI := ⟨.other, 1, 8, [.nilFunc]⟩
theorem ti47_ok : TIOK Tryd.prog 47 ti47 := ⟨by kernel_rfl, by kernel_rfl, by kernel_rfl⟩
def ti48 : TI := ⟨.other, 1, 8, [.nilFunc]⟩
theorem ti48_ok : TIOK Tryd.prog 48 ti48 := ⟨by kernel_rfl, by kernel_rfl, by kernel_rfl⟩
def ti49 : TI := ⟨.other, 1, 8, [.nilFunc]⟩
theorem ti49_ok : TIOK Tryd.prog 49 ti49 := ⟨by kernel_rfl, by kernel_rfl, by kernel_rfl⟩
def ti50 : TI := ⟨.other, 1, 8, [.nilFunc]⟩
theorem ti50_ok : TIOK Tryd.prog 50 ti50 := ⟨by kernel_rfl, by kernel_rfl, by kernel_rfl⟩
def ti51 : TI := ⟨.other, 1, 8, [.nilFunc]⟩
theorem ti51_ok : TIOK Tryd.prog 51 ti51 := ⟨by kernel_rfl, by kernel_rfl, by kernel_rfl⟩
def ti52 : TI := ⟨.other, 1, 8, [.nilFunc]⟩
theorem ti52_ok : TIOK Tryd.prog 52 ti52 := ⟨by kernel_rfl, by kernel_rfl, by kernel_rfl⟩
def ti53 : TI := ⟨.other, 1, 8, [.nilFunc]⟩
theorem ti53_ok : TIOK Tryd.prog 53 ti53 := ⟨by kernel_rfl, by kernel_rfl, by kernel_rfl⟩
def ti54 : TI := ⟨.other, 1, 8, [.nilFunc]⟩
theorem ti54_ok : TIOK Tryd.prog 54 ti54 := ⟨by kernel_rfl, by kernel_rfl, by kernel_rfl⟩
def ti55 : TI := ⟨.array 8 30, 8, 32, [(.int .u32 0), (.int .u32 0), (.int .u32 0), (.int .u32 0), (.int .u32 0), (.int .u32 0), (.int .u32 0), (.int .u32 0)]⟩
theorem ti55_ok : TIOK Tryd.prog 55 ti55 := ⟨by kernel_rfl, by kernel_rfl, by kernel_rfl⟩
def ti56 : TI := ⟨.array 8 30, 8, 32, [(.int .u32 0), (.int .u32 0), (.int .u32 0), (.int .u32 0), (.int .u32 0), (.int .u32 0), (.int .u32 0), (.int .u32 0)]⟩
theorem ti56_ok : TIOK Tryd.prog 56 ti56 := ⟨by kernel_rfl, by kernel_rfl, by kernel_rfl⟩
def ti57 : TI := ⟨.other, 1, 8, [.nilFunc]⟩
theorem ti57_ok : TIOK Tryd.prog 57 ti57 := ⟨by kernel_rfl, by kernel_rfl, by kernel_rfl⟩
def ti58 : TI := ⟨.struct [(0, 56), (8, 22), (9, 34), (10, 4)], 11, 72, [(.int .u32 0), (.int .u32 0), (.int .u32 0), (.int .u32 0), (.int .u32 0), (.int .u32 0), (.int .u32 0), (.int .u32 0), (.slice none 0 0), (.int .u64 0), (.bool false)]⟩
theorem ti58_ok : TIOK Tryd.prog 58 ti58 := ⟨by kernel_rfl, by kernel_rfl, by kernel_rfl⟩
def ti59 : TI := ⟨.struct [(0, 56), (8, 22), (9, 34), (10, 4)], 11, 72, [(.int .u32 0), (.int .u32 0), (.int .u32 0), (.int .u32 0), (.int .u32 0), (.int .u32 0), (.int .u32 0), (.int .u32 0), (.slice none 0 0), (.int .u64 0), (.bool false)]⟩
theorem ti59_ok : TIOK Tryd.prog 59 ti59 := ⟨by kernel_rfl, by kernel_rfl, by kernel_rfl⟩
def ti60 : TI := ⟨.int .u64, 1, 8, [(.int .u64 0)]⟩
theorem ti60_ok : TIOK Tryd.prog 60 ti60 := ⟨by kernel_rfl, by kernel_rfl, by kernel_rfl⟩
def ti61 : TI := ⟨.array 8 34, 8, 64, [(.int .u64 0), (.int .u64 0), (.int .u64 0), (.int .u64 0), (.int .u64 0), (.int .u64 0), (.int .u64 0), (.int .u64 0)]⟩
theorem ti61_ok : TIOK Tryd.prog 61 ti61 := ⟨by kernel_rfl, by kernel_rfl, by kernel_rfl⟩
def ti62 : TI := ⟨.array 8 34, 8, 64, [(.int .u64 0), (.int .u64 0), (.int .u64 0), (.int .u64 0), (.int .u64 0), (.int .u64 0), (.int .u64 0), (.int .u64 0)]⟩
theorem ti62_ok : TIOK Tryd.prog 62 ti62 := ⟨by kernel_rfl, by kernel_rfl, by kernel_rfl⟩
def ti63 : TI := ⟨.other, 1, 8, [.nilFunc]⟩
theorem ti63_ok : TIOK Tryd.prog 63 ti63 := ⟨by kernel_rfl, by kernel_rfl, by kernel_rfl⟩
def ti64 : TI := ⟨.struct [(0, 62), (8, 22), (9, 34), (10, 4)], 11, 104, [(.int .u64 0), (.int .u64 0), (.int .u64 0), (.int .u64 0), (.int .u64 0), (.int .u64 0), (.int .u64 0), (.int .u64 0), (.slice none 0 0), (.int .u64 0), (.bool false)]⟩
theorem ti64_ok : TIOK Tryd.prog 64 ti64 := ⟨by kernel_rfl, by kernel_rfl, by kernel_rfl⟩
def ti65 : TI := ⟨.struct [(0, 62), (8, 22), (9, 34), (10, 4)], 11, 104, [(.int .u64 0), (.int .u64 0), (.int .u64 0), (.int .u64 0), (.int .u64 0), (.int .u64 0), (.int .u64 0), (.int .u64 0), (.slice none 0 0), (.int .u64 0), (.bool false)]⟩
theorem ti65_ok : TIOK Tryd.prog 65 ti65 := ⟨by kernel_rfl, by kernel_rfl, by kernel_rfl⟩
def ti66 : TI := ⟨.other, 1, 8, [.nilFunc]⟩
theorem ti66_ok : TIOK Tryd.prog 66 ti66 := ⟨by kernel_rfl, by kernel_rfl, by kernel_rfl⟩
def ti67 : TI := ⟨.other, 1, 8, [.nilFunc]⟩
theorem ti67_ok : TIOK Tryd.prog 67 ti67 := ⟨by kernel_rfl, by kernel_rfl, by kernel_rfl⟩
def ti68 : TI := ⟨.other, 1, 8, [.nilFunc]⟩
theorem ti68_ok : TIOK Tryd.prog 68 ti68 := ⟨by kernel_rfl, by kernel_rfl, by kernel_rfl⟩
def ti69 : TI := ⟨.ptr 56, 1, 8, [(.pointer none)]⟩
theorem ti69_ok : TIOK Tryd.prog 69 ti69 := ⟨by kernel_rfl, by kernel_rfl, by kernel_rfl⟩
def ti70 : TI := ⟨.array 64 30, 64, 256, [(.int .u32 0), (.int .u32 0), (.int .u32 0), (.int .u32 0), (.int .u32 0), (.int .u32 0), (.int .u32 0), (.int .u32 0), (.int .u32 0), (.int .u32 0), (.int .u32 0), (.int .u32 0), (.int .u32 0), (.int .u32 0), (.int .u32 0), (.int .u32 0), (.int .u32 0), (.int .u32 0), (.int .u32 0), (.int .u32 0), (.int .u32 0), (.int .u32 0), (.int .u32 0), (.int .u32 0), (.int .u32 0), (.int .u32 0), (.int .u32 0), (.int .u32 0), (.int .u32 0), (.int .u32 0), (.int .u32 0), (.int .u32 0), (.int .u32 0), (.int .u32 0), (.int .u32 0), (.int .u32 0), (.int .u32 0), (.int .u32 0), (.int .u32 0), (.int .u32 0), (.int .u32 0), (.int .u32 0), (.int .u32 0), (.int .u32 0), (.int .u32 0), (.int .u32 0), (.int .u32 0), (.int .u32 0), (.int .u32 0), (.int .u32 0), (.int .u32 0), (.int .u32 0), (.int .u32 0), (.int .u32 0), (.int .u32 0), (.int .u32 0), (.int .u32 0), (.int .u32 0), (.int .u32 0), (.int .u32 0), (.int .u32 0), (.int .u32 0), (.int .u32 0), (.int .u32 0)]⟩
theorem ti70_ok : TIOK Tryd.prog 70 ti70 := ⟨by kernel_rfl, by kernel_rfl, by kernel_rfl⟩
def ti71 : TI := ⟨.ptr 62, 1, 8, [(.pointer none)]⟩
theorem ti71_ok : TIOK Tryd.prog 71 ti71 := ⟨by kernel_rfl, by kernel_rfl, by kernel_rfl⟩
def ti72 : TI := ⟨.array 80 34, 80, 640, [(.int .u64 0), (.int .u64 0), (.int .u64 0), (.int .u64 0), (.int .u64 0), (.int .u64 0), (.int .u64 0), (.int .u64 0), (.int .u64 0), (.int .u64 0), (.int .u64 0), (.int .u64 0), (.int .u64 0), (.int .u64 0), (.int .u64 0), (.int .u64 0), (.int .u64 0), (.int .u64 0), (.int .u64 0), (.int .u64 0), (.int .u64 0), (.int .u64 0), (.int .u64 0), (.int .u64 0), (.int .u64 0), (.int .u64 0), (.int .u64 0), (.int .u64 0), (.int .u64 0), (.int .u64 0), (.int .u64 0), (.int .u64 0), (.int .u64 0), (.int .u64 0), (.int .u64 0), (.int .u64 0), (.int .u64 0), (.int .u64 0), (.int .u64 0), (.int .u64 0), (.int .u64 0), (.int .u64 0), (.int .u64 0), (.int .u64 0), (.int .u64 0), (.int .u64 0), (.int .u64 0), (.int .u64 0), (.int .u64 0), (.int .u64 0), (.int .u64 0), (.int .u64 0), (.int .u64 0), (.int .u64 0), (.int .u64 0), (.int .u64 0), (.int .u64 0), (.int .u64 0), (.int .u64 0), (.int .u64 0), (.int .u64 0), (.int .u64 0), (.int .u64 0), (.int .u64 0), (.int .u64 0), (.int .u64 0), (.int .u64 0), (.int .u64 0), (.int .u64 0), (.int .u64 0), (.int .u64 0), (.int .u64 0), (.int .u64 0), (.int .u64 0), (.int .u64 0), (.int .u64 0), (.int .u64 0), (.int .u64 0), (.int .u64 0), (.int .u64 0)]⟩
theorem ti72_ok : TIOK Tryd.prog 72 ti72 := ⟨by kernel_rfl, by kernel_rfl, by kernel_rfl⟩
def ti73 : TI := ⟨.other, 1, 8, [.nilFunc]⟩
theorem ti73_ok : TIOK Tryd.prog 73 ti73 := ⟨by kernel_rfl, by kernel_rfl, by kernel_rfl⟩
def ti81 : TI := ⟨.other, 1, 8, [.nilFunc]⟩
theorem ti81_ok : TIOK Tryd.prog 81 ti81 := ⟨by kernel_rfl, by kernel_rfl, by kernel_rfl⟩
def ti82 : TI := ⟨.ptr 5, 1, 8, [(.pointer none)]⟩
theorem ti82_ok : TIOK Tryd.prog 82 ti82 := ⟨by kernel_rfl, by kernel_rfl, by kernel_rfl⟩
def ti85 : TI := ⟨.struct [(0, 12), (1, 12), (2, 30), (3, 79), (4, 5), (5, 5), (6, 80), (7, 81), (8, 82), (9, 83), (10, 84)], 11, 48, [(.int .u64 0), (.int .u64 0), (.int .u32 0), (.int .u8 0), (.int .u8 0), (.int .u8 0), (.int .u8 0), .nilFunc, (.pointer none), (.int .i32 0), (.int .i32 0)]⟩
theorem ti85_ok : TIOK Tryd.prog 85 ti85 := ⟨by kernel_rfl, by kernel_rfl, by kernel_rfl⟩
/-- cleromancy/broad.constants -/
def glob1 : List UInt64 := [4794697086780616226, 8158064640168781261, 13096744586834688815, 16840607885511220156, 4131703408338449720, 6480981068601479193, 10538285296894168987, 12329834152419229976, 15566598209576043074, 1334009975649890238, 2608012711638119052, 6128411473006802146, 8268148722764581231, 9286055187155687089, 11230858885718282805, 13951009754708518548, 16472876342353939154, 17275323862435702243, 1135362057144423861, 2597628984639134821, 3308224258029322869, 5365058923640841347, 6679025012923562964, 8573033837759648693, 10970295158949994411, 12119686244451234320, 12683024718118986047, 13788192230050041572, 14330467153632333762, 15395433587784984357, 489312712824947311, 1452737877330783856, 2861767655752347644, 3322285676063803686, 5560940570517711597, 5996557281743188959, 7280758554555802590, 8532644243296465576, 9350256976987008742, 10552545826968843579, 11727347734174303076, 12113106623233404929, 14000437183269869457, 14369950271660146224, 15101387698204529176, 15463397548674623760, 17586052441742319658, 1182934255886127544, 1847814050463011016, 2177327727835720531, 2830643537854262169, 3796741975233480872, 4115178125766777443, 5681478168544905931, 6601373596472566643, 7507060721942968483, 8399075790359081724, 8693463985226723168, 9568029438360202098, 10144078919501101548, 10430055236837252648, 11840083180663258601, 13761210420658862357, 14299343276471374635, 14566680578165727644, 15097957966210449927, 16922976911328602910, 17689382322260857208, 500013540394364858, 748580250866718886, 1242879168328830382, 1977374033974150939, 2944078676154940804, 3659926193048069267, 4368137639120453308, 4836135668995329356, 5532061633213252278, 6448918945643986474, 6902733635092675308, 7801388544844847127]
instance : GLob := ⟨fun n => match n with | 1 => some (.words glob1) | _ => none⟩
def tt : TT := [(1, ti1), (2, ti2), (3, ti3), (4, ti4), (5, ti5), (9, ti9), (12, ti12), (21, ti21), (22, ti22), (23, ti23), (24, ti24), (25, ti25), (26, ti26), (27, ti27), (28, ti28), (29, ti29), (30, ti30), (31, ti31), (32, ti32), (33, ti33), (34, ti34), (35, ti35), (36, ti36), (37, ti37), (38, ti38), (39, ti39), (40, ti40), (41, ti41), (42, ti42), (43, ti43), (44, ti44), (45, ti45), (46, ti46), (47, ti47), (48, ti48), (49, ti49), (50, ti50), (51, ti51), (52, ti52), (53, ti53), (54, ti54), (55, ti55), (56, ti56), (57, ti57), (58, ti58), (59, ti59), (60, ti60), (61, ti61), (62, ti62), (63, ti63), (64, ti64), (65, ti65), (66, ti66), (67, ti67), (68, ti68), (69, ti69), (70, ti70), (71, ti71), (72, ti72), (73, ti73), (81, ti81), (82, ti82), (85, ti85)]
theorem tt_ok : TTOK Tryd.prog tt := .cons ti1_ok <| .cons ti2_ok <| .cons ti3_ok <| .cons ti4_ok <| .cons ti5_ok <| .cons ti9_ok <| .cons ti12_ok <| .cons ti21_ok <| .cons ti22_ok <| .cons ti23_ok <| .cons ti24_ok <| .cons ti25_ok <| .cons ti26_ok <| .cons ti27_ok <| .cons ti28_ok <| .cons ti29_ok <| .cons ti30_ok <| .cons ti31_ok <| .cons ti32_ok <| .cons ti33_ok <| .cons ti34_ok <| .cons ti35_ok <| .cons ti36_ok <| .cons ti37_ok <| .cons ti38_ok <| .cons ti39_ok <| .cons ti40_ok <| .cons ti41_ok <| .cons ti42_ok <| .cons ti43_ok <| .cons ti44_ok <| .cons ti45_ok <| .cons ti46_ok <| .cons ti47_ok <| .cons ti48_ok <| .cons ti49_ok <| .cons ti50_ok <| .cons ti51_ok <| .cons ti52_ok <| .cons ti53_ok <| .cons ti54_ok <| .cons ti55_ok <| .cons ti56_ok <| .cons ti57_ok <| .cons ti58_ok <| .cons ti59_ok <| .cons ti60_ok <| .cons ti61_ok <| .cons ti62_ok <| .cons ti63_ok <| .cons ti64_ok <| .cons ti65_ok <| .cons ti66_ok <| .cons ti67_ok <| .cons ti68_ok <| .cons ti69_ok <| .cons ti70_ok <| .cons ti71_ok <| .cons ti72_ok <| .cons ti73_ok <| .cons ti81_ok <| .cons ti82_ok <| .cons ti85_ok <| .nil _
theorem mixed : Tryd.prog.follows .mixedOrders = true := by kernel_rfl

end Go.Proofs.YtbdoieajjhhbpaaDoor
