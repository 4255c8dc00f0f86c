/- A symbolic machine for Go functions, and what the functions that the law reaches come to: SymP, SymR, SymT. -/
import Derived.Test.YtficbeeoafiiaaaGreatDoorQ3
import Derived.RangeFuncFrom
import Derived.RangeFuncLeaves
/- Functions whose results are nobody's but the caller's. -/
namespace Go.Sym
open Go.RowKit

def melt1 (M : List (Option Blk)) : SV → Option SV
  | .sl b lo len => match M[b]? with
    | some (some [.own l]) => some (.lst (l.cut lo (lo + len)))
    | _ => none
  | .ptr b 0 => match M[b]? with
    | some (some cs) => if noNameL cs = true then some (.ro cs 0) else none
    | _ => none
  | s => if s.flat = true then some s else none
def melt (M : List (Option Blk)) : SV → Option SV
  | .tup (x :: xs) => match melt1 M x with
    | some y => if flatL xs = true then some (.tup (y :: xs)) else none
    | none => none
  | s => melt1 M s
def finF (tt : TT) (fr : List ResultVar) (Q : SV → Prop) : KT := fun e st =>
  match e with
  | .normal | .ret => match resAll tt st fr with
    | some vs => match melt st.M (retSV vs) with
      | some r => Q r
      | none => False
    | none => False
  | _ => False

theorem take_drop_cut {α : Type} (xs : List α) (base n lo len : Nat) (h : lo + len ≤ n) : (xs.drop (base + lo)).take len = (((xs.drop base).take n).take (lo + len)).drop lo := by
  apply List.ext_getElem?
  intro i
  simp only [List.getElem?_take, List.getElem?_drop]
  by_cases hi : i < len
  · rw [if_pos hi, if_pos (by omega), if_pos (by omega)]; congr 1; omega
  · rw [if_neg hi, if_neg (by omega)]
section
variable [GLob] {at_ at' : At} {w : World} {M : List (Option Blk)} {N : Nat}
theorem FRel1.of_flat {r : SV} {v : Value} (hfl : r.flat = true) (h : Rel at' w r v) : FRel1 at_ N w r v := by
  have _ := ‹GLob›
  unfold FRel1
  split
  · simp [SV.flat, SV.flat1] at hfl
  · simp [SV.flat, SV.flat1] at hfl
  · exact Rel.flat _ _ hfl h
theorem melt1_ok (hM : MemOK at' M w) (hnew : ∀ n g, at' n = some g → N ≤ g) (hgnew : ∀ n g b c k, at'.gn n = .live g b c k → N ≤ g) (hfix : ∀ g, Fix at' g → Fix at_ g) {s r : SV} {v : Value} (h : melt1 M s = some r) (hr : Rel at' w s v) : FRel1 at_ N w r v := by
  unfold melt1 at h
  split at h
  · rename_i b lo len
    split at h
    · rename_i l hl
      simp only [Option.some.injEq] at h; subst h
      simp only [Rel] at hr
      obtain ⟨r1, r2, r3, _⟩ := hr
      simp only [FRel1]
      rcases hM.glk b l hl with ⟨k1, k2⟩ | ⟨g, base, c, k1, arr, ty, k2, k3, k4, k5, k6⟩
      · obtain ⟨rfl, rfl, rfl⟩ := r2 k1
        exact .inl ⟨by rw [LV.len_cut _ _ _ (by omega)], rfl⟩
      · obtain ⟨h1, _, ad, h2, h3⟩ := r3 _ _ _ _ (by rw [k1]; rfl)
        have hcl : (l.cut lo (lo + len)).len = len := by rw [LV.len_cut _ _ _ h1]; omega
        refine .inr ⟨g, base + lo, c - lo, ad, hgnew _ _ _ _ _ k1, ⟨arr, ty, k2, by omega, by rw [hcl]; omega, by omega, ?_⟩, by rw [hcl]; exact h2, fun hc => h3 (by omega)⟩
        rw [hcl, LV.vals_cut, ← k6, take_drop_cut _ _ l.len _ _ h1]
    · cases h
  · rename_i b
    split at h
    · rename_i cs hc
      split at h
      · rename_i hn
        simp only [Option.some.injEq] at h; subst h
        simp only [Rel] at hr
        obtain ⟨g, h1, h2⟩ := hr
        obtain ⟨ty, vs, h4, h5⟩ := hM.blk _ _ _ h1 hc
        simp only [FRel1]
        refine ⟨g, ty, vs, hnew _ _ h1, h2, h4, RelL.noName (fun k hk => ?_) _ _ hn h5⟩
        have hk' := hfix k hk
        exact ⟨hk'.1, fun e => by
          rcases e with e | e
          · exact hk'.2.1 e
          · subst e; exact hk.1 b h1, hk'.2.2⟩
      · cases h
    · cases h
  · split at h
    · rename_i hfl
      simp only [Option.some.injEq] at h; subst h
      exact FRel1.of_flat hfl hr
    · cases h
theorem melt_ok (hM : MemOK at' M w) (hnew : ∀ n g, at' n = some g → N ≤ g) (hgnew : ∀ n g b c k, at'.gn n = .live g b c k → N ≤ g) (hfix : ∀ g, Fix at' g → Fix at_ g) {s r : SV} {v : Value} (h : melt M s = some r) (hr : Rel at' w s v) : FRel at_ N w r v := by
  unfold melt at h
  split at h
  · split at h
    · rename_i hy
      split at h
      · rename_i hfl
        simp only [Option.some.injEq] at h; subst h
        simp only [Rel, RelL] at hr
        obtain ⟨vs, rfl, u, us, rfl, h1, h2⟩ := hr
        simp only [FRel]
        exact ⟨u, us, rfl, melt1_ok hM hnew hgnew hfix hy h1, RelL.flat _ _ hfl h2⟩
      · cases h
    · cases h
  · rename_i e1
    have hx := melt1_ok hM hnew hgnew hfix h hr
    unfold FRel
    split
    · rename_i x xs _
      exfalso
      unfold melt1 at h
      split at h
      · split at h <;> cases h
      · split at h
        · split at h <;> cases h
        · cases h
      · split at h
        · simp only [Option.some.injEq] at h; exact e1 _ _ h
        · cases h
    · exact hx

variable {P : Program}
theorem calls_of_awpF {tt : TT} (hT : TTOK P tt) {f : FuncId} {fn : Func} {c : Code} (hf : P.funcs[f]? = some fn) (hb : fn.body = some c) {svs : List SV} {Q : SV → Prop}
    (hvc : ∀ B : Base, B.dfs = [] → B.obs = [] → Clean 0 B.at0 → AWp none P B c (init svs fn.ntmps) (finF tt fn.results.toList Q)) (hn : noNameL svs = true) {vs : List Value} {w : World} (hat : ∀ n g, at_ n = some g → g < w.heap.size) (hout : ∀ g, (at_.out g ∨ ∃ n b c k, at_.gn n = .live g b c k) → g < w.heap.size) (hgl : GLOK at_ w) (hr : RelL at_ w svs vs) :
    Calls P f (List.toArray vs) w fun e w' => ∃ v, e = .returned v ∧ ∃ r, Q r ∧ FRel at_ w.heap.size w' r v ∧ Below w.heap.size w w' := by
  refine calls_of_wp hf hb ?_
  let at0 : At := ⟨fun _ => none, fun g => (∃ n, at_ n = some g) ∨ at_.out g ∨ ∃ n b c k, at_.gn n = .live g b c k, fun _ => .unborn⟩
  have fixA : ∀ g, Fix at_ g → Fix at0 g := fun g h => ⟨fun n e => by simp [at0] at e, fun e => by
    rcases e with ⟨n, e⟩ | e | ⟨n, b, c, k, e⟩
    · exact h.1 n e
    · exact h.2.1 e
    · exact h.2.2 n b c k e, fun _ _ _ _ e => by simp [at0] at e⟩
  have fixB : ∀ g, ¬ at0.out g → Fix at_ g := fun g h => ⟨fun n e => h (.inl ⟨n, e⟩), fun e => h (.inr (.inl e)), fun n b c k e => h (.inr (.inr ⟨n, b, c, k, e⟩))⟩
  have hlen := hr.length
  have hstart : Reps ⟨at0, w, [], []⟩ (init svs fn.ntmps) { tmps := List.toArray vs ++ Array.replicate (fn.ntmps - (List.toArray vs).size) Go.undef, defers := [] } w := by
    refine ⟨at0, Later.refl _ _, ⟨fun n g cs e1 e => by simp [init] at e, fun n m g e => by simp [at0] at e, fun n g e => by simp [at0] at e, fun g h => ?_, fun n l e => by simp [init] at e, fun n m g b c k b' c' k' e => by simp [at0] at e, fun n m g b c k e => by simp [at0] at e, fun n e => by simp [at0] at e, fun n g b c k e => by simp [at0] at e, fun n g b c k e => by simp [at0] at e, fun n g e => by simp [at0] at e, hgl.fixed fixA⟩, ?_, rfl, ObsOK.nil _ _⟩
    · rcases h with ⟨n, h⟩ | h
      · exact hat n g h
      · exact hout g h
    · simp only [init, Array.toList_append, Array.toList_replicate, List.size_toArray, hlen]
      exact RelL.append (RelL.noName fixA _ _ hn hr) (RelL.replicate _ (by simp only [Rel]))
  refine Code.wp_mono ?_ (wpIn_wide.1 (hvc ⟨at0, w, [], []⟩ rfl rfl (fun _ _ => ⟨rfl, rfl⟩) _ _ hstart))
  rintro e a' w' ⟨st', ⟨at', hl, hM, hT', hd, _⟩, hk⟩
  have fin : finF tt fn.results.toList Q .ret st' →
      a'.defers = [] ∧ ∃ v, (results fn a'.tmps).run P w' = .ok v w' ∧ ∃ u, Ending.returned v = .returned u ∧ ∃ r, Q r ∧ FRel at_ w.heap.size w' r u ∧ Below w.heap.size w w' := by
    intro hk
    refine ⟨hd, ?_⟩
    simp only [finF] at hk
    split at hk
    · rename_i svs' hres
      split at hk
      · rename_i r hfr
        obtain ⟨us, h1, h2⟩ := resAll_ok hT hM hT' _ _ hres
        have hrun := results_run h1
        refine ⟨_, hrun, _, rfl, r, hk, ?_, ?_⟩
        · have hrel : Rel at' w' (retSV svs') (retV us) := by
            rcases svs' with _ | ⟨s, _ | ⟨s', ss⟩⟩
            · simp only [RelL] at h2; subst h2; simp only [retSV, Rel]; exact ⟨[], rfl, RelL.nil⟩
            · simp only [RelL] at h2
              obtain ⟨v, vs', rfl, h3, rfl⟩ := h2
              exact h3
            · have h2' := h2
              simp only [RelL] at h2
              obtain ⟨v, vs', rfl, h3, v', vs'', rfl, h4, h5⟩ := h2
              simp only [retSV, Rel]
              exact ⟨_, rfl, h2'⟩
          refine melt_ok hM (fun n g e => ?_) (fun n g b c k e => ?_) (fun g hg => fixB g (fun ho => hg.2.1 (by rw [hl.out]; exact ho))) hfr hrel
          · rcases hl.new n g e with e' | e'
            · simp [at0] at e'
            · exact e'
          · rcases hl.gnew n g b c k e with ⟨m, b', c', k', e'⟩ | e'
            · simp [at0] at e'
            · exact e'
        · refine ⟨hl.os, hl.tape, hl.output, hl.size, fun k hk' => ?_⟩
          exact (hl.keep k (fun n e => by simp [at0] at e) (fun n b c k e => by simp [at0] at e) hk').2.2
      · exact hk.elim
    · exact hk.elim
  cases e with
  | normal => exact fin hk
  | ret => exact fin hk
  | exit id => exact hk.elim
  | goto l => exact hk.elim
  | panic ch => exact hk.elim
  | outgrown => exact hk.elim

variable {α β : Type} [Args α] [RetL β]
def LfRaw (tt : TT) (sp : Specs) (fuel : Nat) (D : Dec) (L : Plan) (fn : Func) (Q : SV → Prop) (a : α) : Prop := vcl tt sp fuel D L 0 (fn.body.getD .skip) 0 (init (Args.encL a) fn.ntmps) (finF tt fn.results.toList Q)
structure LfVD (tt : TT) (sp : Specs) (fuel : Nat) (D : Dec) (L : Plan) (fn : Func) (Q : SV → Prop) (a : α) : Prop where
  out : LfRaw tt sp fuel D L fn Q a
theorem LfVD.of {tt : TT} {sp : Specs} {fuel : Nat} {D : Dec} {L : Plan} {fn : Func} {Q : SV → Prop} {a : α} {E : Prop} (hE : LfRaw tt sp fuel D L fn Q a = E) (k : E) : LfVD tt sp fuel D L fn Q a := ⟨by rw [hE]; exact k⟩
/-- A function whose result is the caller's own, out of its body's proposition. -/
theorem fn_okF {tt : TT} (hm : P.follows .mixedOrders = true) (hT : TTOK P tt) {sp : Specs} (hS : SpecsOK P sp) (fuel : Nat) {f : FuncId} {fn : Func} (hf : P.funcs[f]? = some fn) (hname : (fn.name == "runtime.NumGoroutine") = false) (hb : fn.body.isSome = true) {pre : α → Option Prop} {g : α → β}
    (H : ∀ a, Ok (pre a) → ∃ D L, ∃ Q : SV → Prop, LfVD tt sp fuel D L fn Q a ∧ ∀ x, Q x → ∀ (at_ : At) (n : Nat) (w : World) (v : Value), FRel at_ n w x v → FRel at_ n w (retSV (RetL.retL (g a))) v) : FSpecOK P f (fspec pre g) := by
  obtain ⟨c, hc⟩ := Option.isSome_iff_exists.1 hb
  intro at_ w svs vs pr r hat hout hgl hs hp hr
  unfold fspec at hs
  split at hs
  · rename_i a ha
    simp only [Option.some.injEq, Prod.mk.injEq] at hs
    obtain ⟨rfl, rfl⟩ := hs
    have hrun : (callFunc f (List.toArray vs)).run P w = .ok (.enter f (List.toArray vs)) w := by
      have h1 : fn.name ≠ "runtime.NumGoroutine" := by simpa using hname
      simp [callFunc, hf, h1, hc]
    rw [hrun]
    obtain ⟨D, L, Q, ⟨h⟩, hQ⟩ := H a hp
    unfold LfRaw at h
    rw [hc] at h
    refine (calls_of_awpF hT hf hc (fun B _ _ hcl => vcl_ok hm hT hS hcl c 0 _ _ h) (Args.nn a) hat hout hgl (Args.ok ha hr)).mono ?_
    rintro e w' ⟨v, h1, r', h2, h3, h4⟩
    exact ⟨v, h1, hQ _ h2 _ _ _ _ h3, h4⟩
  · cases hs

/-- What is the caller's own reads as what nobody writes. -/
theorem FRel1.rel {r : SV} {v : Value} (hat : ∀ n g, at_ n = some g → g < N) (hout : ∀ g, (at_.out g ∨ ∃ n b c k, at_.gn n = .live g b c k) → g < N) (hn : r.noName = true) (h : FRel1 at_ N w r v) : Rel at_ w r v := by
  have _ := ‹GLob›
  have fix : ∀ g, N ≤ g → Fix at_ g := fun g hg => ⟨fun n e => by have := hat n g e; omega, fun e => by have := hout g (.inl e); omega, fun n b c k e => by have := hout g (.inr ⟨n, b, c, k, e⟩); omega⟩
  unfold FRel1 at h
  split at h
  · rcases h with ⟨hl, rfl⟩ | ⟨g, base, cap, ad, hge, ⟨arr, ty, k2, k3, k4, k5, k6⟩, rfl, had⟩
    · exact nil_lst hl ⟨0, rfl⟩ (by simp only [Rel])
    · simp only [Rel]
      refine ⟨ad, cap, rfl, k4, fun j u hj => ?_⟩
      have hlt := (List.getElem?_eq_some_iff.1 hj).1
      rw [LV.len_vals] at hlt
      refine ⟨_, had (by omega), fix g hge, ?_⟩
      rw [addr_add, cell_of_row w g _ _ ty (0, 0) k2, ← Array.getElem?_toList]
      rw [← k6, List.getElem?_take, if_pos hlt, List.getElem?_drop] at hj
      exact hj
  · obtain ⟨g, ty, vs, h1, h2, h3, h4⟩ := h
    simp only [Rel]
    exact ⟨g, ty, (0, 0), vs, h2, fix g h1, h3, RelL.noName (fun k hk => (Fix.of_hide hk).1) _ _ (by simpa only [SV.noName] using hn) h4⟩
  · exact h
theorem FRel.rel {r : SV} {v : Value} (hat : ∀ n g, at_ n = some g → g < N) (hout : ∀ g, (at_.out g ∨ ∃ n b c k, at_.gn n = .live g b c k) → g < N) (hn : r.noName = true) (h : FRel at_ N w r v) : Rel at_ w r v := by
  unfold FRel at h
  split at h
  · obtain ⟨u, us, rfl, h1, h2⟩ := h
    simp only [SV.noName, noNameL, Bool.and_eq_true] at hn
    simp only [Rel]
    exact ⟨_, rfl, RelL.cons (FRel1.rel hat hout hn.1 h1) h2⟩
  · exact FRel1.rel hat hout hn h
theorem FSpecOK.pure {f : FuncId} {s : SpecF} (h : FSpecOK P f s) (hs : ∀ svs pre r, s svs = some (pre, r) → r.noName = true) : SpecOK P f s := fun at_ w svs vs pre r hat hout hgl e hp hr =>
  Outcome.mono (fun _ _ ⟨h1, h2⟩ => ⟨FRel.rel (fun n g e => hat n g e) hout (hs _ _ _ e) h1, h2⟩) (h at_ w svs vs pre r hat hout hgl e hp hr)
end
end Go.Sym
/- The symbolic machine: ranges over functions. -/
namespace Go.Sym
open Go.RowKit

/-- Whatever cells lay, lie as they lay. -/
def CellsKept (w w' : World) : Prop := ∀ (g : Nat) (vs : Array Value) (ty : TypeId) (fz : Nat × Nat), w.heap[g]? = some (.cells vs ty fz) → w'.heap[g]? = some (.cells vs ty fz)
theorem CellsKept.cell {w w' : World} (h : CellsKept w w') {a : Addr} {u : Value} (hc : w.cell? a = some u) : w'.cell? a = some u := by
  obtain ⟨o, ho, hk⟩ := cells_of_cell hc
  cases o with
  | cells vs ty fz => rw [World.cell?_of_block ((h _ _ _ _ ho).trans ho.symm)]; exact hc
  | _ => simp [Obj.isCells] at hk
theorem CellsKept.putObj {w : World} {l : Nat} {o : Obj} (o' : Obj) (hl : w.heap[l]? = some o) (ho : o.isCells = false) : CellsKept w (w.putObj l o') := fun g vs ty fz hg => by
  refine (World.putObj_heap_other (fun e => ?_)).trans hg
  subst e
  rw [hl] at hg
  cases hg
  cases ho
theorem CellsKept.alloc (w : World) (o : Obj) : CellsKept w (w.alloc o) := fun g _ _ _ hg => (Below.heap_alloc w o g (lt_of_heap hg)).trans hg
theorem CellsKept.trans {u v w : World} (h : CellsKept u v) (k : CellsKept v w) : CellsKept u w := fun g vs ty fz hg => k g vs ty fz (h g vs ty fz hg)

section
variable {at_ : At} {w w' : World}
mutual
theorem Rel.kept (h : CellsKept w w') : ∀ (s : SV) (v : Value), Rel at_ w s v → Rel at_ w' s v
  | .i64 _, _, r => by simpa only [Rel] using r
  | .u64 _, _, r => by simpa only [Rel] using r
  | .u32 _, _, r => by simpa only [Rel] using r
  | .u8 _, _, r => by simpa only [Rel] using r
  | .bool _, _, r => by simpa only [Rel] using r
  | .val _, _, r => by simpa only [Rel] using r
  | .undef, _, r => by simpa only [Rel] using r
  | .any, _, _ => by simp only [Rel]
  | .any1, _, r => by simpa only [Rel] using r
  | .lol _, _, r => by
    simp only [Rel] at r ⊢
    obtain ⟨a, c, h1, h2, h3⟩ := r
    refine ⟨a, c, h1, h2, fun j l hj => ?_⟩
    obtain ⟨ad, u, e1, e2, e3, e4⟩ := h3 j l hj
    obtain ⟨b, d, k1, k2, k3⟩ := e4
    exact ⟨ad, u, e1, e2, h.cell e3, b, d, k1, k2, fun i x hx => by obtain ⟨q, q1, q2, q3⟩ := k3 i x hx; exact ⟨q, q1, q2, h.cell q3⟩⟩
  | .ptr _ _, _, r => by simpa only [Rel] using r
  | .slc _ _ _ _, _, r => by simpa only [Rel] using r
  | .sl _ _ _, _, r => by simpa only [Rel] using r
  | .lp _ _, _, r => by simpa only [Rel] using r
  | .ap _ _, _, r => by simpa only [Rel] using r
  | .own _, _, r => by simp only [Rel] at r
  | .lst _, _, r => by
    simp only [Rel] at r ⊢
    obtain ⟨a, c, h1, h2, h3⟩ := r
    refine ⟨a, c, h1, h2, fun j u hj => ?_⟩
    obtain ⟨ad, e1, e2, e3⟩ := h3 j u hj
    exact ⟨ad, e1, e2, h.cell e3⟩
  | .lel x, _, r => by
    simp only [Rel] at r ⊢
    obtain ⟨ad, u, h1, h2, h3, h4⟩ := r
    exact ⟨ad, u, h1, h2, h.cell h3, Rel.kept h x u h4⟩
  | .ro cs _, _, r => by
    simp only [Rel] at r ⊢
    obtain ⟨g, ty, fz, vs, h1, h2, h3, h4⟩ := r
    exact ⟨g, ty, fz, vs, h1, h2, h _ _ _ _ h3, RelL.kept h cs vs h4⟩
  | .roO b cs, _, r => by
    simp only [Rel] at r ⊢
    refine ⟨fun hb => ?_, r.2⟩
    obtain ⟨g, ty, fz, vs, h1, h2, h3, h4⟩ := r.1 hb
    exact ⟨g, ty, fz, vs, h1, h2, h _ _ _ _ h3, RelL.kept h cs vs h4⟩
  | .win cs, _, r => by
    simp only [Rel] at r ⊢
    obtain ⟨ad, vs, h1, h2, h3, h4, h5⟩ := r
    exact ⟨ad, vs, h1, h2, fun j u hj => h.cell (h3 j u hj), RelL.kept h cs vs h4, h5⟩
  | .wsl cs _ _, _, r => by
    simp only [Rel] at r ⊢
    obtain ⟨ad, c, vs, h1, h0, h2, h3, h4, h6, h5⟩ := r
    exact ⟨ad, c, vs, h1, h0, h2, fun j u hj => h.cell (h3 j u hj), RelL.kept h cs vs h4, h6, h5⟩
  | .rsl cs _ _, _, r => by
    simp only [Rel] at r ⊢
    obtain ⟨g, ty, fz, vs, cap, h1, h0, h2, h3, h4⟩ := r
    exact ⟨g, ty, fz, vs, cap, h1, h0, h2, h _ _ _ _ h3, RelL.kept h cs vs h4⟩
  | .agg cs, _, r => by
    simp only [Rel] at r ⊢
    obtain ⟨vs, h1, h2⟩ := r
    exact ⟨vs, h1, RelL.kept h cs vs h2⟩
  | .tup cs, _, r => by
    simp only [Rel] at r ⊢
    obtain ⟨vs, h1, h2⟩ := r
    exact ⟨vs, h1, RelL.kept h cs vs h2⟩
  | .fn _ cs, _, r => by
    simp only [Rel] at r ⊢
    obtain ⟨vs, h1, h2⟩ := r
    exact ⟨vs, h1, RelL.kept h cs vs h2⟩
theorem RelL.kept (h : CellsKept w w') : ∀ (s : List SV) (v : List Value), RelL at_ w s v → RelL at_ w' s v
  | [], _, r => by simpa only [RelL] using r
  | c :: cs, _, r => by
    simp only [RelL] at r ⊢
    obtain ⟨v, vs, h1, h2, h3⟩ := r
    exact ⟨v, vs, h1, Rel.kept h c v h2, RelL.kept h cs vs h3⟩
end
theorem MemOK.kept [GLob] {M : List (Option Blk)} (h : CellsKept w w') (hs : w.heap.size ≤ w'.heap.size) (hM : MemOK at_ M w) : MemOK at_ M w' := by
  refine ⟨fun n g cs e1 e => ?_, hM.inj, fun n g e => ?_, fun g e => Nat.lt_of_lt_of_le (hM.outlt g e) hs, fun n l e => ?_, hM.ginj, hM.gap, hM.gdom, fun n g b c k e => Nat.lt_of_lt_of_le (hM.gsz n g b c k e) hs, hM.gout, hM.nout, fun g l e => ?_⟩
  · obtain ⟨ty, vs, h1, h2⟩ := hM.blk n g cs e1 e
    exact ⟨ty, vs, h _ _ _ _ h1, RelL.kept h _ _ h2⟩
  · obtain ⟨h1, h2⟩ := hM.dom n g e
    exact ⟨Nat.lt_of_lt_of_le h1 hs, h2⟩
  · rcases hM.glk n l e with k | ⟨g, b, c, k1, arr, ty, k2, k3⟩
    · exact .inl k
    · exact .inr ⟨g, b, c, k1, arr, ty, h _ _ _ _ k2, k3⟩
  · obtain ⟨h1, ty, fz, h2⟩ := hM.glb g l e
    exact ⟨h1, ty, fz, h _ _ _ _ h2⟩
/-- From one world to a later one that differs in what is no cells. -/
structure Turned (n : Nat) (w w' : World) : Prop where
  os : w'.os = w.os
  tape : w'.tape = w.tape
  output : w'.output = w.output
  size : w.heap.size ≤ w'.heap.size
  cells : CellsKept w w'
  low : ∀ g, g < n → w'.heap[g]? = w.heap[g]?
theorem Turned.putObj {n l : Nat} {o : Obj} (o' : Obj) (hl : w.heap[l]? = some o) (ho : o.isCells = false) (hn : n ≤ l) : Turned n w (w.putObj l o') :=
  ⟨rfl, rfl, rfl, by simp, .putObj o' hl ho, fun g hg => World.putObj_heap_other (by omega)⟩
theorem Turned.alloc {n : Nat} (o : Obj) (hn : n ≤ w.heap.size) : Turned n w (w.alloc o) :=
  ⟨rfl, rfl, rfl, by simp, .alloc w o, fun g hg => Below.heap_alloc w o g (by omega)⟩
theorem Turned.trans {n : Nat} {u v w : World} (h : Turned n u v) (k : Turned n v w) : Turned n u w :=
  ⟨k.os.trans h.os, k.tape.trans h.tape, k.output.trans h.output, Nat.le_trans h.size k.size, h.cells.trans k.cells, fun g hg => (k.low g hg).trans (h.low g hg)⟩
theorem Later.turned {at0 : At} {w0 : World} (h : Later at0 w0 at_ w) (t : Turned w0.heap.size w w') : Later at0 w0 at_ w' :=
  ⟨t.os.trans h.os, t.tape.trans h.tape, t.output.trans h.output, Nat.le_trans h.size t.size, h.name, fun g h1 h2 h3 => by
    obtain ⟨k1, k2, k3⟩ := h.keep g h1 h2 h3
    exact ⟨k1, k2, (t.low g h3).trans k3⟩, h.out, h.new, h.gname, h.gnew⟩
theorem Rep.turned [GLob] {B : Base} {st : St} {a : Act} (r : Rep B st at_ a w) (t : Turned B.w0.heap.size w w') {obs : List (Nat × Obj)} (ho : ObsOK obs at_ w') : Rep ⟨B.at0, B.w0, B.dfs, obs⟩ st at_ a w' :=
  ⟨r.later.turned t, r.mem.kept t.cells t.size, RelL.kept t.cells _ _ r.tmp, r.defers, ho⟩
theorem MemOK.unn [GLob] {M : List (Option Blk)} (hM : MemOK at_ M w) {g : Nat} (hg : w.heap.size ≤ g) : Unn at_ g :=
  ⟨fun m e => by have := (hM.dom m g e).1; omega, fun m b c k e => by have := hM.gsz m g b c k e; omega⟩
end

/-! Code that calls yield. -/
def isYield (T : List SV) (ops : Array Oper) (o : Oper) : Option (Nat × Operand) :=
  match o.op with
  | .call c => match c.callee with
    | .value f => match TR T (o.looksAt ops) f with
      | .val (.func (.yield l) ⟨[]⟩ ⟨[]⟩) => match c.args.toList with
        | [x] => some (l, x)
        | _ => none
      | _ => none
    | _ => none
  | _ => none
/-- What a round comes to: out of what is told and the blocks, where it goes on, where it leaves. -/
abbrev YH := Nat → SV → List (Option Blk) → (List (Option Blk) → Prop) → (List (Option Blk) → Prop) → Prop
def exploreN [GLob] (tt : TT) (sp : Specs) (ops : Array Oper) (base : Nat) (K : St → Prop) : List Nat → St → Prop
  | [], st => K st
  | i :: l, st => match ops[i]? with
    | none => False
    | some o => match stepI tt sp [] ops base i o st with
      | none => False
      | some (r, st') => conj r.pre (exploreN tt sp ops base K l st')
def exploreY [GLob] (tt : TT) (sp : Specs) (ops : Array Oper) (base : Nat) (Y : YH) (K Kd : St → Prop) : List Nat → St → Prop
  | [], st => K st
  | i :: l, st => match ops[i]? with
    | none => False
    | some o => match isYield st.T ops o with
      | some x => bcase o.guard.isNone (Y x.1 (TR st.T (o.looksAt ops) x.2) st.M (fun M => exploreY tt sp ops base Y K Kd l ⟨putT st.T o.dst (.bool true), M⟩) (fun M => exploreN tt sp ops base Kd l ⟨putT st.T o.dst (.bool false), M⟩)) False
      | none => match stepI tt sp [] ops base i o st with
        | none => False
        | some (r, st') => conj r.pre (exploreY tt sp ops base Y K Kd l st')
def yielding (ops : Array Oper) : Bool := ops.toList.any fun o => match o.op with
  | .call c => match c.callee with
    | .value (.tmp _) => true
    | _ => false
  | _ => false
/-- A loop of code that is run from another's: its blocks lie behind the other's, which are told apart. -/
structure YLoop where
  {β σ α : Type}
  [eb : Args β]
  [ea : LEncL α]
  pk : σ → List (Option Blk)
  pd : List (Option Blk) → Option σ
  pok : ∀ {M : List (Option Blk)} {s : σ}, pd M = some s → M = pk s
  same : List Nat
  keep : List Nat
  ins : IK := []
  inv : β → σ × α → σ × α → Prop
  meas : β → α → Nat
/-- A state as a loop's head sees it, where cells of the other code's blocks may be lists of no cells. -/
def normX (x : IK) (k : Nat) (same : List Nat) (keep : List (Nat × LK)) (n : Nat) (st : St) : Option (List SV × List SV × List (Option Blk)) :=
  if st.T.length = n ∧ k ≤ st.M.length then normN k same keep st (x ++ iksOf st.T keep) (collect k (x ++ iksOf st.T keep) st.M st.T keep (collectA k (x ++ iksOf st.T keep) st.M (List.range k) [])) else none
def headYC (k n : Nat) (S : YLoop) (st : St) (Q : S.β → S.σ × S.α → Prop) : Prop :=
  if S.keep.length = S.ea.kinds.length then
    match normX S.ins k S.same (S.keep.zip S.ea.kinds) n (arrs k (S.keep.zip S.ea.kinds) (frzs (S.keep.zip S.ea.kinds) (frzAll S.same st))) with
    | none => False
    | some (ss, vals, M') => match S.eb.decL ss with
      | none => False
      | some b => match S.pd (M'.take k) with
        | none => False
        | some s => match S.ea.dec k vals (M'.drop k) with
          | none => False
          | some (p, a) => conj p (Q b (s, a))
  else False
def headY (k n : Nat) (S : YLoop) (b : S.β) (x : S.σ × S.α) : St := ⟨place n S.same (S.eb.encL b) S.keep (S.ea.enc k x.2).1, S.pk x.1 ++ (S.ea.enc k x.2).2.map some⟩
abbrev YPlan := List (Nat × YLoop)
def loopVCY (body : St → KT → KT → Prop) (K Kd : KT) : Nat → St → Prop
  | 0, _ => False
  | n + 1, st => body st (fun e st' => match e with
      | .normal => loopVCY body K Kd n st'
      | e => K e st') (fun e st' => match e with
      | .normal => False
      | e => Kd e st')
def vclY [GLob] (tt : TT) (sp : Specs) (fuel : Nat) (D : Dec) (L : YPlan) (k : Nat) (Y : YH) : Code → Nat → St → KT → KT → Prop
  | .skip, _, st, K, _ => K .normal st
  | .region id ops draw, _, st, K, Kd => bcase (yielding ops) (bcase draw False (exploreY tt sp ops st.M.length Y (K .normal) (Kd .normal) (List.range ops.size) ⟨st.T, extend sp ops st.M⟩)) (regionVC tt sp (D.of id) ops draw (K .normal) st)
  | .seq a b, i, st, K, Kd => vclY tt sp fuel D L k Y a i st (fun e st' => match e with
      | .normal => vclY tt sp fuel D L k Y b i st' K Kd
      | e => K e st') (fun e st' => match e with
      | .normal => vc tt sp fuel D b st' Kd
      | e => Kd e st')
  | .cond c x y, i, st, K, Kd => match TR st.T (condTs c) c with
    | .bool b => bcase b (vclY tt sp fuel D L k Y x i ⟨setC st.T c true, st.M⟩ K Kd) (vclY tt sp fuel D L k Y y i ⟨setC st.T c false, st.M⟩ K Kd)
    | _ => False
  | .block id c, _, st, K, Kd => vclY tt sp fuel D L k Y c id st (fun e st' => match e with
      | .exit id' => if id' = id then K .normal st' else K (.exit id') st'
      | e => K e st') (fun e st' => match e with
      | .exit id' => if id' = id then Kd .normal st' else Kd (.exit id') st'
      | e => Kd e st')
  | .loop c, i, st, K, Kd => match L.lookup i with
    | none => loopVCY (vclY tt sp fuel D L k Y c i) K Kd fuel st
    | some S => headYC k st.T.length S st fun b a0 => S.inv b a0 a0 ∧ ∀ s, S.ea.all fun a => S.inv b a0 (s, a) → vclY tt sp fuel D L k Y c i (headY k st.T.length S b (s, a)) (fun e st' => match e with
      | .normal => headYC k st.T.length S st' fun b' a' => b' = b ∧ S.inv b a0 a' ∧ S.meas b a'.2 < S.meas b a
      | e => K e st') (fun e st' => match e with
      | .normal => False
      | e => Kd e st')
  | .exit id, _, st, K, _ => K (.exit id) st
  | .label _, _, st, K, _ => K .normal st
  | .ret, _, st, K, _ => K .ret st
  | _, _, _, _, _ => False

section
variable [GLob] {P : Program} {tt : TT} {sp : Specs} {B Bd : Base}
/-- What is asked of a round. -/
def YOK (P : Program) (B Bd : Base) (Y : YH) : Prop :=
  ∀ (l : Nat) (x : SV) (T : List SV) (M : List (Option Blk)) (Kt Kf : List (Option Blk) → Prop), Y l x M Kt Kf → ∀ (a : Act) (w : World) (at_ : At) (v : Value), Rep B ⟨T, M⟩ at_ a w → Rel at_ w x v →
    YieldAt (Fr none) 0 P l #[v] w fun e w' => (e = .returned (.bool true) ∧ ∃ M', Reps B ⟨T, M'⟩ a w' ∧ Kt M') ∨ (e = .returned (.bool false) ∧ ∃ M', Reps Bd ⟨T, M'⟩ a w' ∧ Kf M')
theorem stepI_fx {ops : Array Oper} {base i : Nat} {o : Oper} {st st' : St} {r : Rec} (h : stepI tt sp [] ops base i o st = some (r, st')) : r.fx = none := by
  unfold stepI at h
  simp only at h
  split at h
  · cases h
  · simp only [Option.some.injEq, Prod.mk.injEq] at h; rw [← h.1]
  · split at h
    · cases h
    · split at h
      · simp only [fixed_nil, Option.some.injEq, Prod.mk.injEq] at h; rw [← h.1]
      · cases h
theorem step_in {ops : Array Oper} {base i : Nat} {o : Oper} {st st' : St} {r : Rec} (hT : TTOK P tt) (hS : SpecsOK P sp) (ho : ops[i]? = some o) (hs : stepI tt sp [] ops base i o st = some (r, st')) (hp : Ok r.pre) {a : Act} {w : World} (hr : Reps B st a w) {l : List Nat} {Q : Exit → Act → World → Prop}
    (hk : ∀ a' w', Reps B st' a' w' → wpOpsIn (Fr none) 0 P ops Q l a' w') : wpOpsIn (Fr none) 0 P ops Q (i :: l) a w := by
  rw [wpOpsIn_cons]
  unfold wpOpIn
  rw [ho]
  have := step_ok (P := P) hT hS hs ⟨hp, by rw [stepI_fx hs]; trivial⟩ hr (ρ := none) (K := wpOpsIn (Fr none) 0 P ops Q l) (Q := Q) hk
  simp only
  split
  · rename_i hw; rw [if_pos hw] at this; exact this
  · rename_i hw; rw [if_neg hw] at this; exact ⟨fun _ _ => trivial, this⟩
theorem exploreN_ok (hT : TTOK P tt) (hS : SpecsOK P sp) {ops : Array Oper} {base : Nat} {K : St → Prop} {Q : Exit → Act → World → Prop} (hQ : ∀ st' a' w', K st' → Reps B st' a' w' → Q .normal a' w') : ∀ (l : List Nat) (st : St), exploreN tt sp ops base K l st → ∀ a w, Reps B st a w → wpOpsIn (Fr none) 0 P ops Q l a w
  | [], st, h, a, w, hr => hQ st a w h hr
  | i :: l, st, h, a, w, hr => by
    simp only [exploreN] at h
    split at h
    · exact h.elim
    · rename_i o ho
      split at h
      · exact h.elim
      · rename_i r st' hs
        obtain ⟨hp, h⟩ := conj_ok h
        exact step_in hT hS ho hs hp hr (fun a' w' hr' => exploreN_ok hT hS hQ l st' h a' w' hr')
theorem run_yield_op {a : Act} {c : Call} {f x : Operand} {l : Nat} {w : World} (hc : c.callee = .value f) (hx : c.args.toList = [x]) (hf : a.eval f = .func (.yield l) #[] #[]) {dst type pos after guard} :
    (execOp a.eval ⟨dst, .call c, type, pos, after, guard⟩).run P w = (Instr.yield l #[a.eval x]).run P w := by
  have _ := ‹GLob›
  obtain ⟨callee, args, ts⟩ := c
  simp only at hc hx
  subst hc
  have e : args = #[x] := by rw [← Array.toList_inj]; simpa using hx
  subst e
  simp [execOp, resolve, hf, Deferred.ofValue, invoke]
theorem exploreY_ok (hT : TTOK P tt) (hS : SpecsOK P sp) {Y : YH} (hY : YOK P B Bd Y) {ops : Array Oper} {base : Nat} {K Kd : St → Prop} {Q : Exit → Act → World → Prop} (hQ : ∀ st' a' w', K st' → Reps B st' a' w' → Q .normal a' w') (hQd : ∀ st' a' w', Kd st' → Reps Bd st' a' w' → Q .normal a' w') :
    ∀ (l : List Nat) (st : St), exploreY tt sp ops base Y K Kd l st → ∀ a w, Reps B st a w → wpOpsIn (Fr none) 0 P ops Q l a w
  | [], st, h, a, w, hr => hQ st a w h hr
  | i :: l, st, h, a, w, hr => by
    simp only [exploreY] at h
    split at h
    · exact h.elim
    · rename_i o ho
      split at h
      · rename_i x hx
        obtain ⟨h1, h2⟩ := bcase_ok h
        cases hg : o.guard.isNone with
        | false => exact (h2 hg).elim
        | true =>
          have h := h1 hg
          obtain ⟨at_, hr⟩ := hr
          unfold isYield at hx
          split at hx
          · rename_i c hc
            split at hx
            · rename_i f hf
              split at hx
              · rename_i lx hl
                split at hx
                · rename_i y hy
                  simp only [Option.some.injEq] at hx; subst hx
                  have hrel := TR_ok (ts := o.looksAt ops) hr.tmp f
                  rw [hl] at hrel
                  simp only [Rel] at hrel
                  have hrx := TR_ok (ts := o.looksAt ops) hr.tmp y
                  have hgn : o.guard = none := by simpa using hg
                  obtain ⟨fn, tmps, assign, body, hy1, hy2⟩ := hY _ _ st.T st.M _ _ h a w at_ _ hr hrx
                  rw [wpOpsIn_cons]
                  unfold wpOpIn
                  rw [ho]
                  simp only
                  have hwd : Region.wanted o (yielded ops a.tmps) = true := by simp [Region.wanted, hgn]
                  rw [if_pos hwd]
                  refine ⟨fun _ _ => trivial, ?_⟩
                  obtain ⟨dst, op, type, pos, after, guard⟩ := o
                  simp only at hc hgn
                  subst hc
                  rw [Oper.semAt_eq _ _ _ (fun c' e => by cases e), run_yield_op hf hy hrel, hy1, Oper.uponIn_round]
                  refine ⟨fun h => by simp [Fr, Fence.wide] at h, hy2.mono fun e w' hp => ?_⟩
                  rcases hp with ⟨rfl, M', ⟨at', hr'⟩, hk⟩ | ⟨rfl, M', ⟨at', hr'⟩, hk⟩
                  · exact exploreY_ok hT hS hY hQ hQd l _ hk _ _ ⟨at', hr'.later, hr'.mem, put_ok hr'.tmp (by simp only [Rel]) _, by rw [put_defers]; exact hr'.defers, hr'.obs⟩
                  · exact exploreN_ok hT hS hQd l _ hk _ _ ⟨at', hr'.later, hr'.mem, put_ok hr'.tmp (by simp only [Rel]) _, by rw [put_defers]; exact hr'.defers, hr'.obs⟩
                · cases hx
              · cases hx
            · cases hx
          · cases hx
      · split at h
        · exact h.elim
        · rename_i r st' hs
          obtain ⟨hp, h⟩ := conj_ok h
          exact step_in hT hS ho hs hp hr (fun a' w' hr' => exploreY_ok hT hS hY hQ hQd l st' h a' w' hr')
/-- A code that calls yield, from any state that fits. -/
def AWpY (P : Program) (B Bd : Base) (c : Code) (st : St) (K Kd : KT) : Prop := ∀ a w, Reps B st a w → c.wpIn (Fr none) 0 P (fun e a' w' => (∃ st', Reps B st' a' w' ∧ K e st') ∨ ∃ st', Reps Bd st' a' w' ∧ Kd e st') a w
theorem AWpY.loop {c : Code} {st : St} {K Kd : KT} (I : Nat → St → Prop) (n : Nat) (h0 : I n st) (round : ∀ n st, I n st → AWpY P B Bd c st (fun e st' => match e with | .normal => ∃ m, m < n ∧ I m st' | e => K e st') (fun e st' => match e with | .normal => False | e => Kd e st')) : AWpY P B Bd (.loop c) st K Kd := by
  intro a w hr b k cs hro hb hrm
  have key : ∀ n st a w, I n st → Reps B st a w →
      ∃ e a' w', ((∃ st', Reps B st' a' w' ∧ K e st') ∨ ∃ st', Reps Bd st' a' w' ∧ Kd e st') ∧ ArrivesIn (Machine.fenced P (Fr none)) P (lone (b.atR a (.code c :: .inLoop c :: k)) cs w) b k cs e a' w' := by
    intro n
    induction n using Nat.strongRecOn with
    | _ n ih =>
      intro st a w hI hr
      obtain ⟨e, a1, w1, hor, harr⟩ := round n st hI a w hr b (.inLoop c :: k) cs hro hb hrm
      cases e with
      | normal =>
        rcases hor with ⟨st1, hr1, m, hlt, hI1⟩ | ⟨st1, hr1, hq⟩
        · obtain ⟨e2, a2, w2, hq2, harr2⟩ := ih m hlt st1 a1 w1 hI1 hr1
          exact ⟨e2, a2, w2, hq2, .of_steps (StepsIn.trans harr (.one (fenced_calm hb hrm rfl) stepR_inLoop)) harr2⟩
        · exact hq.elim
      | exit id => exact ⟨_, a1, w1, hor, .pass (x := .inLoop c) rfl (fun _ _ => .inl (by simp)) harr⟩
      | goto l => exact ⟨_, a1, w1, hor, .pass (x := .inLoop c) rfl (fun _ _ => .inl (by simp)) harr⟩
      | ret => exact ⟨_, a1, w1, hor, .pass (x := .inLoop c) rfl (fun _ _ => .inl (by simp)) harr⟩
      | panic ch => exact ⟨_, a1, w1, hor, .pass (x := .inLoop c) rfl (fun _ _ => .inl (by simp)) harr⟩
      | outgrown => exact ⟨_, a1, w1, hor, .pass (x := .inLoop c) rfl (fun _ _ => .inl (by simp)) harr⟩
  obtain ⟨e, a', w', hq, harr⟩ := key n st a w h0 hr
  exact ⟨e, a', w', hq, .of_steps (.one (fenced_calm hb hrm rfl) stepR_loop) harr⟩
theorem normX_ok {x : IK} {k n : Nat} {same keep : List Nat} {kinds : List LK} {st : St} {ss vals : List SV} {M' : List (Option Blk)} (hc : Clean k B.at0) (hl : keep.length ≤ kinds.length) (h : normX x k same (keep.zip kinds) n st = some (ss, vals, M')) {a : Act} {w : World} {at_ : At} (r : Rep B st at_ a w) :
    ∃ at', (∀ g, Unn at_ g → Unn at' g) ∧ n = a.tmps.size ∧ Later B.at0 B.w0 at' w ∧ MemOK at' M' w ∧ RelL at' w ss (same.map fun i => a.tmps.getD i Go.undef) ∧ RelL at' w vals (keep.map fun i => a.tmps.getD i Go.undef) := by
  unfold normX at h
  split at h
  · rename_i hn
    generalize collect k _ st.M st.T (keep.zip kinds) _ = names at h
    generalize x ++ iksOf st.T (keep.zip kinds) = iks at h
    unfold normN at h
    split at h
    · rename_i hok
      unfold namesOK at hok
      simp only [Bool.and_eq_true, List.all_eq_true] at hok
      split at h
      · rename_i vals' A B hv hA hB
        split at h
        · rename_i hs
          simp only [Option.some.injEq, Prod.mk.injEq] at h
          obtain ⟨rfl, rfl, rfl⟩ := h
          have hk : ∀ b, NM.old b ∈ names → k ≤ b := fun b hb => by
            have := hok.2 _ hb
            simpa [nmOK] using this
          refine ⟨atN k names at_, fun g hg => ⟨fun m e => by obtain ⟨q, _, e2⟩ := atN_nm e; exact hg.1 q e2, fun m b c q e => by obtain ⟨p, _, e2⟩ := atN_live e; exact hg.2 p b c q e2⟩, ?_, laterN hc hk r.later, memN r.mem hn.2 hok.1 hk hA hB, RelL.noName (fun g h => fixN g h) _ _ hs (sameL_ok r.tmp same), ?_⟩
          · have := r.tmp.length
            simp only [Array.length_toList] at this
            omega
          · have := canonL_ok (k := k) r.tmp hv
            rwa [List.map_fst_zip hl] at this
        · cases h
      · cases h
    · cases h
  · cases h
theorem headY_ok {k n : Nat} {S : YLoop} {st : St} {Q : S.β → S.σ × S.α → Prop} (hc : Clean k B.at0) (h : headYC k n S st Q) : ∃ b x, Q b x ∧ ∀ a w, Reps B st a w → Reps B (headY k n S b x) a w := by
  unfold headYC at h
  split at h
  · rename_i hl
    split at h
    · exact h.elim
    · rename_i ss vals M' hnorm
      split at h
      · exact h.elim
      · rename_i b hb
        split at h
        · exact h.elim
        · rename_i s hs
          split at h
          · exact h.elim
          · rename_i p x hx
            obtain ⟨hp, hq⟩ := conj_ok h
            refine ⟨b, (s, x), hq, fun a w ⟨at_, r⟩ => ?_⟩
            obtain ⟨at_, r⟩ := arrs_ok hc _ (frzs_ok _ (frzAll_ok _ ⟨at_, r⟩))
            obtain ⟨at', h0, h1, h2, h3, h4, h5⟩ := normX_ok hc (by omega) hnorm r
            obtain ⟨k1, k2⟩ := S.ea.ok hx hp
            have hM : M' = S.pk s ++ (S.ea.enc k x).2.map some := by rw [← S.pok hs, ← k1, List.take_append_drop]
            exact ⟨at', h2, by rw [hM] at h3; exact h3, place_ok h1 (S.eb.ok hb h4) (k2 h5), r.defers, r.obs.sub h0⟩
  · exact h.elim
theorem AWpY.mono {c : Code} {st : St} {K Kd K' Kd' : KT} (h : AWpY P B Bd c st K Kd) (hk : ∀ e st, K e st → K' e st) (hd : ∀ e st, Kd e st → Kd' e st) : AWpY P B Bd c st K' Kd' :=
  fun a w hr => wpR_mono (fun e _ _ hp => by
    rcases hp with ⟨st', h1, h2⟩ | ⟨st', h1, h2⟩
    · exact .inl ⟨st', h1, hk _ _ h2⟩
    · exact .inr ⟨st', h1, hd _ _ h2⟩) (h a w hr)
theorem AWpY.of_wp {c : Code} {st : St} {K Kd : KT} (h : AWp none P B c st K) : AWpY P B Bd c st K Kd :=
  fun a w hr => wpR_mono (fun _ _ _ hp => .inl hp) (h a w hr)
theorem AWpY.seq {x y : Code} {st : St} {K Kd : KT} (h : AWpY P B Bd x st (fun e st' => match e with | .normal => AWpY P B Bd y st' K Kd | e => K e st') (fun e st' => match e with | .normal => AWp none P Bd y st' Kd | e => Kd e st')) : AWpY P B Bd (.seq x y) st K Kd := by
  intro a w hr
  refine wpIn_seq (wpR_mono ?_ (h a w hr))
  rintro e a' w' (⟨st', h1, h2⟩ | ⟨st', h1, h2⟩)
  · cases e with
    | normal => exact h2 a' w' h1
    | _ => exact .inl ⟨st', h1, h2⟩
  · cases e with
    | normal => exact wpR_mono (fun _ _ _ hp => .inr hp) (h2 a' w' h1)
    | _ => exact .inr ⟨st', h1, h2⟩
theorem AWpY.block {id : Nat} {c : Code} {st : St} {K Kd : KT} (h : AWpY P B Bd c st (fun e st' => match e with | .exit id' => if id' = id then K .normal st' else K (.exit id') st' | e => K e st') (fun e st' => match e with | .exit id' => if id' = id then Kd .normal st' else Kd (.exit id') st' | e => Kd e st')) : AWpY P B Bd (.block id c) st K Kd := by
  intro a w hr
  refine wpIn_block (wpR_mono ?_ (h a w hr))
  rintro e a' w' (⟨st', h1, h2⟩ | ⟨st', h1, h2⟩)
  · cases e with
    | exit id' =>
      simp only [Exit.inBlock]
      split
      · rename_i he; simp only [he, if_true] at h2; exact .inl ⟨st', h1, h2⟩
      · rename_i he; simp only [he, if_false] at h2; exact .inl ⟨st', h1, h2⟩
    | _ => exact .inl ⟨st', h1, h2⟩
  · cases e with
    | exit id' =>
      simp only [Exit.inBlock]
      split
      · rename_i he; simp only [he, if_true] at h2; exact .inr ⟨st', h1, h2⟩
      · rename_i he; simp only [he, if_false] at h2; exact .inr ⟨st', h1, h2⟩
    | _ => exact .inr ⟨st', h1, h2⟩
theorem cond_rep {c : Operand} {st : St} {b : Bool} (hc : TR st.T (condTs c) c = .bool b) {a : Act} {w : World} (hr : Reps B st a w) : a.eval c = .bool b ∧ Reps B ⟨setC st.T c b, st.M⟩ a w := by
  obtain ⟨at_, h⟩ := hr
  have hrel := TR_ok (ts := condTs c) h.tmp c
  rw [hc] at hrel
  simp only [Rel] at hrel
  refine ⟨hrel, at_, h.later, h.mem, ?_, h.defers, h.obs⟩
  cases c with
  | tmp t =>
    simp only [setC]
    have hev : a.eval (.tmp t) = a.tmps.getD t Go.undef := rfl
    rw [hev] at hrel
    have hs := h.tmp.set t (.bool b) (.bool b) (by simp only [Rel])
    have : a.tmps.toList.set t (.bool b) = a.tmps.toList := by
      apply List.ext_getElem?
      intro i
      by_cases hi : t = i
      · subst hi
        by_cases hlt : t < a.tmps.toList.length
        · rw [List.getElem?_set_self hlt, List.getElem?_eq_getElem hlt]
          have hlt' : t < a.tmps.size := by simpa using hlt
          rw [Array.getD_eq_getD_getElem?, Array.getElem?_eq_getElem hlt'] at hrel
          simp only [Option.getD_some] at hrel
          rw [← hrel]; simp
        · rw [List.getElem?_eq_none (by simpa using hlt), List.getElem?_eq_none (by simpa using hlt)]
      · rw [List.getElem?_set_ne hi]
    rw [this] at hs; exact hs
  | _ => exact h.tmp
theorem AWpY.cond {c : Operand} {x y : Code} {st : St} {K Kd : KT} {b : Bool} (hc : TR st.T (condTs c) c = .bool b)
    (ht : b = true → AWpY P B Bd x ⟨setC st.T c true, st.M⟩ K Kd) (hf : b = false → AWpY P B Bd y ⟨setC st.T c false, st.M⟩ K Kd) : AWpY P B Bd (.cond c x y) st K Kd := by
  intro a w hr
  obtain ⟨hev, h1⟩ := cond_rep hc hr
  refine wpIn_cond hev ?_
  cases b with
  | true => exact ht rfl a w h1
  | false => exact hf rfl a w h1
theorem vclY_ok (hm : P.follows .mixedOrders = true) (hT : TTOK P tt) (hS : SpecsOK P sp) {fuel : Nat} {D : Dec} {L : YPlan} {k : Nat} (hc : Clean k B.at0) {Y : YH} (hY : YOK P B Bd Y) : ∀ (c : Code) (i : Nat) (st : St) (K Kd : KT), vclY tt sp fuel D L k Y c i st K Kd → AWpY P B Bd c st K Kd
  | .skip, _, st, K, _, h => fun a w hr => wpIn_skip (.inl ⟨st, hr, h⟩)
  | .label _, _, st, K, _, h => fun a w hr => wpIn_label (.inl ⟨st, hr, h⟩)
  | .exit id, _, st, K, _, h => fun a w hr => wpIn_exit (.inl ⟨st, hr, h⟩)
  | .ret, _, st, K, _, h => fun a w hr => wpIn_ret (.inl ⟨st, hr, h⟩)
  | .region id ops draw, _, st, K, Kd, h => by
    simp only [vclY] at h
    obtain ⟨h1, h2⟩ := bcase_ok h
    cases hy : yielding ops with
    | false => exact AWpY.of_wp fun a w hr => region_ok hm hT hS (h2 hy) hr (fun st' a' w' hK hr' => ⟨st', hr', hK⟩)
    | true =>
      obtain ⟨h3, h4⟩ := bcase_ok (h1 hy)
      cases draw with
      | true => exact (h3 rfl).elim
      | false => exact fun a w hr => wpIn_region (exploreY_ok hT hS hY (fun st' a' w' hK hr' => .inl ⟨st', hr', hK⟩) (fun st' a' w' hK hr' => .inr ⟨st', hr', hK⟩) _ _ (h4 rfl) a w hr.extend)
  | .seq x y, i, st, K, Kd, h => by
    refine AWpY.seq (AWpY.mono (vclY_ok hm hT hS hc hY x i st _ _ h) ?_ ?_)
    · intro e st' hk
      cases e with
      | normal => exact vclY_ok hm hT hS hc hY y i st' K Kd hk
      | _ => exact hk
    · intro e st' hk
      cases e with
      | normal => exact vc_ok hm hT hS y st' Kd hk
      | _ => exact hk
  | .cond c x y, i, st, K, Kd, h => by
    simp only [vclY] at h
    split at h
    · rename_i b hb
      obtain ⟨h1, h2⟩ := bcase_ok h
      exact AWpY.cond hb (fun e => vclY_ok hm hT hS hc hY x i _ K Kd (h1 e)) (fun e => vclY_ok hm hT hS hc hY y i _ K Kd (h2 e))
    · exact h.elim
  | .block id c, _, st, K, Kd, h => AWpY.block (vclY_ok hm hT hS hc hY c id st _ _ h)
  | .loop c, i, st, K, Kd, h => by
    simp only [vclY] at h
    split at h
    · refine AWpY.loop (fun n st => loopVCY (vclY tt sp fuel D L k Y c i) K Kd n st) fuel h (fun n st hI => ?_)
      cases n with
      | zero => exact hI.elim
      | succ n =>
        refine AWpY.mono (vclY_ok hm hT hS hc hY c i st _ _ hI) ?_ ?_
        · intro e st' hk
          cases e with
          | normal => exact ⟨n, Nat.lt_succ_self n, hk⟩
          | _ => exact hk
        · intro e st' hk
          cases e with
          | normal => exact hk
          | _ => exact hk
    · rename_i S _
      obtain ⟨b, a0, ⟨h0, hbody⟩, hhead⟩ := headY_ok (B := B) hc h
      have hbody := fun s => S.ea.all_ok (hbody s)
      refine AWpY.loop (fun m st' => ∃ x, S.inv b a0 x ∧ S.meas b x.2 = m ∧ ∀ a w, Reps B st' a w → Reps B (headY k st.T.length S b x) a w) (S.meas b a0.2) ⟨a0, h0, rfl, hhead⟩ (fun m st' hI => ?_)
      obtain ⟨x, hx, hm', hrep⟩ := hI
      have hround := vclY_ok hm hT hS hc hY c i _ _ _ (hbody x.1 x.2 hx)
      refine AWpY.mono (fun a w hr => hround a w (hrep a w hr)) ?_ ?_
      · intro e st2 hk
        cases e with
        | normal =>
          obtain ⟨b', x', ⟨hb, h1, h2⟩, h3⟩ := headY_ok (B := B) hc hk
          subst hb
          exact ⟨S.meas b' x'.2, by omega, x', h1, rfl, h3⟩
        | _ => exact hk
      · intro e st2 hk
        cases e with
        | normal => exact hk
        | _ => exact hk
  | .rangeFunc _ _ _ _, _, _, _, _, h => h.elim
  | .scope _, _, _, _, _, h => h.elim
  | .goto _, _, _, _, _, h => h.elim
  | .refuse _, _, _, _, _, h => h.elim
end
end Go.Sym
/- The symbolic machine: the statement that ranges over a function. -/
namespace Go.Sym
open Go.RowKit

/-- A closure that is ranged over: its function, its loops, its decisions; the jump that a round leaves by. -/
structure RFun where
  fn : Func
  loops : YPlan := []
  dec : Dec := []
  jump : Nat := 0
abbrev RTab := List (Nat × RFun)
def RTOK (P : Program) (RT : RTab) : Prop := ∀ f R, RT.lookup f = some R → P.funcs[f]? = some R.fn ∧ R.fn.results = #[] ∧ R.fn.body.isSome = true ∧ (R.fn.name == "runtime.NumGoroutine") = false
theorem RTOK.nil (P : Program) : RTOK P [] := fun _ _ h => by cases h
theorem RTOK.one {P : Program} {f : Nat} {R : RFun} (h1 : P.funcs[f]? = some R.fn) (h2 : R.fn.results = #[]) (h3 : R.fn.body.isSome = true) (h4 : (R.fn.name == "runtime.NumGoroutine") = false) : RTOK P [(f, R)] := fun f' R' h => by
  simp only [List.lookup] at h
  split at h
  · rename_i e
    simp only [beq_iff_eq] at e
    simp only [Option.some.injEq] at h
    subst e h
    exact ⟨h1, h2, h3, h4⟩
  · cases h
/-- One round of a loop's body. -/
def roundOf [GLob] (tt : TT) (sp : Specs) (fuel : Nat) (D : Dec) (L : Plan) (i jump : Nat) (T : List SV) (p : Tmp) (assign body : Code) (l : Nat) : YH := fun l' x M Kt Kf =>
  l' = l ∧ vcl tt sp fuel D L M.length assign i ⟨T.set p x, M⟩ fun e st1 => match e with
    | .normal => vcl tt sp fuel D L st1.M.length body i st1 fun e st2 => match e with
      | .normal => Kt st2.M
      | .exit id => id = jump ∧ Kf st2.M
      | _ => False
    | _ => False
def hasRange : Code → Bool
  | .seq a b | .cond _ a b => hasRange a || hasRange b
  | .block _ c | .loop c => hasRange c
  | .rangeFunc _ _ _ _ => true
  | _ => false
def vclR [GLob] (tt : TT) (sp : Specs) (fuel : Nat) (D : Dec) (L : Plan) (RT : RTab) : Code → Nat → St → KT → Prop
  | .seq a b, i, st, K => bcase (hasRange a || hasRange b) (vclR tt sp fuel D L RT a i st fun e st' => match e with
      | .normal => vclR tt sp fuel D L RT b i st' K
      | e => K e st') (vcl tt sp fuel D L 0 (.seq a b) i st K)
  | .cond c x y, i, st, K => bcase (hasRange x || hasRange y) (match TR st.T (condTs c) c with
    | .bool b => bcase b (vclR tt sp fuel D L RT x i ⟨setC st.T c true, st.M⟩ K) (vclR tt sp fuel D L RT y i ⟨setC st.T c false, st.M⟩ K)
    | _ => False) (vcl tt sp fuel D L 0 (.cond c x y) i st K)
  | .block id c, i, st, K => bcase (hasRange c) (vclR tt sp fuel D L RT c id st fun e st' => match e with
    | .exit id' => if id' = id then K .normal st' else K (.exit id') st'
    | e => K e st') (vcl tt sp fuel D L 0 (.block id c) i st K)
  | .rangeFunc g ps assign body, i, st, K => match TR st.T (condTs g) g, ps.toList with
    | .fn gf caps, [p] => match RT.lookup gf with
      | none => False
      | some R => ∀ l, vclY tt sp fuel R.dec R.loops st.M.length (roundOf tt sp fuel D L i R.jump st.T p assign body l) (R.fn.body.getD .skip) 0
          ⟨(.val (.func (.yield l) ⟨[]⟩ ⟨[]⟩) :: caps) ++ List.replicate (R.fn.ntmps - (caps.length + 1)) .any, st.M⟩
          (fun e st' => match e with
            | .normal | .ret => K .normal ⟨st.T, st'.M⟩
            | _ => False)
          (fun e st' => match e with
            | .normal | .ret => K (.exit R.jump) ⟨st.T, st'.M⟩
            | _ => False)
    | _, _ => False
  | c, i, st, K => vcl tt sp fuel D L 0 c i st K

/-! What is deferred: marks of loops that have ended. -/
def markD (D : Nat) : Deferred := { target := .collected D, args := #[] }
def markO (D : Nat) : Nat × Obj := (D, .deferred (some []))
def Base.marks (B : Base) (ms : List Nat) : Base := ⟨B.at0, B.w0, ms.map markD, ms.map markO⟩
def MOK (B : Base) (ms : List Nat) : Prop := ms.Nodup ∧ ∀ D ∈ ms, B.w0.heap.size ≤ D
section
variable [GLob] {P : Program} {tt : TT} {sp : Specs} {B : Base}
def AWpR (P : Program) (B : Base) (c : Code) (st : St) (K : KT) : Prop := ∀ ms, MOK B ms → ∀ a w, Reps (B.marks ms) st a w → c.wpIn (Fr none) 0 P (fun e a' w' => ∃ ms', MOK B ms' ∧ ∃ st', Reps (B.marks ms') st' a' w' ∧ K e st') a w
theorem AWpR.of_wp {c : Code} {st : St} {K : KT} (h : ∀ ms, AWp none P (B.marks ms) c st K) : AWpR P B c st K :=
  fun ms hms a w hr => wpR_mono (fun _ _ _ hp => ⟨ms, hms, hp⟩) (h ms a w hr)
theorem AWpR.mono {c : Code} {st : St} {K K' : KT} (h : AWpR P B c st K) (hk : ∀ e st, K e st → K' e st) : AWpR P B c st K' :=
  fun ms hms a w hr => wpR_mono (fun _ _ _ ⟨ms', h0, st', h1, h2⟩ => ⟨ms', h0, st', h1, hk _ _ h2⟩) (h ms hms a w hr)
theorem AWpR.seq {x y : Code} {st : St} {K : KT} (h : AWpR P B x st fun e st' => match e with | .normal => AWpR P B y st' K | e => K e st') : AWpR P B (.seq x y) st K := by
  intro ms hms a w hr
  refine wpIn_seq (wpR_mono ?_ (h ms hms a w hr))
  rintro e a' w' ⟨ms', h0, st', h1, h2⟩
  cases e with
  | normal => exact h2 ms' h0 a' w' h1
  | _ => exact ⟨ms', h0, st', h1, h2⟩
theorem AWpR.block {id : Nat} {c : Code} {st : St} {K : KT} (h : AWpR P B c st fun e st' => match e with | .exit id' => if id' = id then K .normal st' else K (.exit id') st' | e => K e st') : AWpR P B (.block id c) st K := by
  intro ms hms a w hr
  refine wpIn_block (wpR_mono ?_ (h ms hms a w hr))
  rintro e a' w' ⟨ms', h0, st', h1, h2⟩
  cases e with
  | exit id' =>
    simp only [Exit.inBlock]
    split
    · rename_i he; simp only [he, if_true] at h2; exact ⟨ms', h0, st', h1, h2⟩
    · rename_i he; simp only [he, if_false] at h2; exact ⟨ms', h0, st', h1, h2⟩
  | _ => exact ⟨ms', h0, st', h1, h2⟩
theorem AWpR.cond {c : Operand} {x y : Code} {st : St} {K : KT} {b : Bool} (hc : TR st.T (condTs c) c = .bool b)
    (ht : b = true → AWpR P B x ⟨setC st.T c true, st.M⟩ K) (hf : b = false → AWpR P B y ⟨setC st.T c false, st.M⟩ K) : AWpR P B (.cond c x y) st K := by
  intro ms hms a w hr
  obtain ⟨hev, h1⟩ := cond_rep hc hr
  refine wpIn_cond hev ?_
  cases b with
  | true => exact ht rfl ms hms a w h1
  | false => exact hf rfl ms hms a w h1
theorem MemOK.clean {at_ : At} {M : List (Option Blk)} {w : World} (hM : MemOK at_ M w) : Clean M.length at_ := fun n hn => by
  constructor
  · cases h : at_ n with
    | none => rfl
    | some g =>
      obtain ⟨_, cs, h2⟩ := hM.dom n g h
      have := (List.getElem?_eq_some_iff.1 h2).1
      omega
  · cases h : at_.gn n with
    | unborn => rfl
    | _ =>
      obtain ⟨cs, h2⟩ := hM.gdom n (by rw [h]; simp)
      have := (List.getElem?_eq_some_iff.1 h2).1
      omega
theorem ObsOK.put {obs : List (Nat × Obj)} {at_ : At} {w : World} (h : ObsOK obs at_ w) {l : Nat} (o : Obj) (hl : ∀ p ∈ obs, p.1 ≠ l) : ObsOK obs at_ (w.putObj l o) := fun p hp => have _ := ‹GLob›
  ⟨(World.putObj_heap_other (fun e => hl p hp e)).trans (h p hp).1, (h p hp).2⟩
theorem Fr_fn {ρ : Option Nat} (f : FuncId) : (Fr ρ).fn f := have _ := ‹GLob›; trivial
/-- A round, from its body's proposition. -/
theorem round_ok (hm : P.follows .mixedOrders = true) (hT : TTOK P tt) (hS : SpecsOK P sp) {fuel : Nat} {D : Dec} {L : Plan} {i jump l d : Nat} {T0 : List SV} {p : Tmp} {assign body : Code} {ps : Array Tmp} {fn : FuncId} (hps : ps = #[p]) {rec : LoopState → Option Code → Loop} {at_ : At} {w : World} {a : Act}
    (hrec : rec = fun st pe => { state := st, pending := pe, fn, tmps := a.tmps, params := ps, assign, body, defers := d }) (hl : w.heap.size ≤ l) (hd : d ≠ l) (hT0 : RelL at_ w T0 a.tmps.toList) :
    YOK P ⟨at_, w, [], [(l, .loop (rec .ready none)), markO d]⟩ ⟨at_, w, [], [(l, .loop (rec .done (some (.exit jump)))), markO d]⟩ (roundOf tt sp fuel D L i jump T0 p assign body l) := by
  rintro l' x T M Kt Kf ⟨rfl, h⟩ a3 w3 at3 v r3 hx
  have ho3 := (r3.obs _ (List.mem_cons_self ..)).1
  have hd3 := r3.obs _ (List.mem_cons_of_mem _ (List.mem_cons_self ..))
  have hu3 := (r3.obs _ (List.mem_cons_self ..)).2
  have hy := run_yield (P := P) (args := #[v]) ho3 (by rw [hrec]; simp [hps])
  have htm : (rec .ready none).params.zip #[v] = #[(p, v)] := by rw [hrec]; simp [hps]
  have ht0 : (rec .ready none).tmps = a.tmps := by rw [hrec]
  have hfn0 : (rec .ready none).assign = assign ∧ (rec .ready none).body = body := by rw [hrec]; exact ⟨rfl, rfl⟩
  rw [htm, ht0, hfn0.1, hfn0.2] at hy
  refine ⟨_, _, assign, body, hy, roundIn_of_wpIn (Fr_fn _) ?_⟩
  -- the assignments
  have hrA : Reps ⟨at3, w3, [], [(l', .loop (rec .ready none)), markO d]⟩ ⟨T0.set p x, M⟩ { tmps := #[(p, v)].foldl (fun t q => t.setIfInBounds q.1 q.2) a.tmps, defers := [] } w3 := by
    refine ⟨at3, Later.refl _ _, r3.mem, ?_, rfl, r3.obs⟩
    have e : ((#[(p, v)].foldl (fun t q => t.setIfInBounds q.1 q.2) a.tmps : Array Value)).toList = a.tmps.toList.set p v := by simp
    show RelL at3 w3 (T0.set p x) _
    rw [e]
    exact (RelL.later r3.later _ _ hT0).set p x v hx
  refine wpR_mono ?_ (vcl_ok (ρ := some l') hm hT hS (r3.mem.clean) assign i _ _ h _ _ hrA)
  rintro e a4 w4 ⟨st1, ⟨at4, r4⟩, h⟩
  cases e with
  | normal =>
    simp only at h
    have ho4 := (r4.obs _ (List.mem_cons_self ..)).1
    refine ⟨_, run_beginRound ho4 (by rw [hrec]), ?_⟩
    have hst0 : (rec .ready none).state = .ready := by rw [hrec]
    have l4 : Later at_ w at4 w4 := r3.later.trans r4.later
    have t5 : Turned w.heap.size w4 (w4.putObj l' (.loop { rec .ready none with state := .busy })) := .putObj _ ho4 rfl hl
    have ob5 : ObsOK [(l', .loop { rec .ready none with state := .busy }), markO d] at4 (w4.putObj l' (.loop { rec .ready none with state := .busy })) := by
      intro q hq
      simp only [List.mem_cons, List.not_mem_nil, or_false] at hq
      rcases hq with rfl | rfl
      · exact ⟨World.putObj_heap_same (lt_of_heap ho4), (r4.obs _ (List.mem_cons_self ..)).2⟩
      · have := r4.obs _ (List.mem_cons_of_mem _ (List.mem_cons_self ..))
        exact ⟨(World.putObj_heap_other hd).trans this.1, this.2⟩
    have m5 := r4.mem.kept t5.cells t5.size
    have hrB : Reps ⟨at4, w4.putObj l' (.loop { rec .ready none with state := .busy }), [], [(l', .loop { rec .ready none with state := .busy }), markO d]⟩ st1 a4 (w4.putObj l' (.loop { rec .ready none with state := .busy })) :=
      ⟨at4, Later.refl _ _, m5, RelL.kept t5.cells _ _ r4.tmp, r4.defers, ob5⟩
    refine wpR_mono ?_ (vcl_ok (ρ := some l') hm hT hS (m5.clean) body i _ _ h _ _ hrB)
    rintro e a6 w6 ⟨st2, ⟨at6, r6⟩, hk⟩
    have ho6 := (r6.obs _ (List.mem_cons_self ..)).1
    have l6 : Later at_ w at6 w6 := (l4.turned t5).trans r6.later
    -- what the record comes to
    have fin : ∀ (st : LoopState) (pe : Option Code), Rep ⟨at_, w, [], [(l', .loop (rec st pe)), markO d]⟩ ⟨T, st2.M⟩ at6 a3 (w6.putObj l' (.loop (rec st pe))) := by
      intro st pe
      have t7 : Turned w.heap.size w6 (w6.putObj l' (.loop (rec st pe))) := .putObj _ ho6 rfl hl
      refine ⟨l6.turned t7, r6.mem.kept t7.cells t7.size, RelL.kept t7.cells _ _ (RelL.later r6.later _ _ (RelL.kept t5.cells _ _ (RelL.later r4.later _ _ r3.tmp))), r3.defers, ?_⟩
      intro q hq
      simp only [List.mem_cons, List.not_mem_nil, or_false] at hq
      rcases hq with rfl | rfl
      · exact ⟨World.putObj_heap_same (lt_of_heap ho6), (r6.obs _ (List.mem_cons_self ..)).2⟩
      · have := r6.obs _ (List.mem_cons_of_mem _ (List.mem_cons_self ..))
        exact ⟨(World.putObj_heap_other hd).trans this.1, this.2⟩
    have her : ∀ jmp : Option Code, (Instr.endRound l' jmp).run P w6 = .ok (.bool jmp.isNone) (w6.putObj l' (.loop (rec (if jmp.isNone then .ready else .done) jmp))) := fun jmp => by
      have := run_endRound (P := P) jmp ho6
      rw [hrec] at this ⊢
      exact this
    cases e with
    | normal => exact ⟨_, _, her none, .inl ⟨rfl, st2.M, ⟨at6, fin .ready none⟩, hk⟩⟩
    | exit id =>
      obtain ⟨hid, hk⟩ := hk
      subst hid
      exact ⟨_, _, her (some (.exit id)), .inr ⟨rfl, st2.M, ⟨at6, fin .done (some (.exit id))⟩, hk⟩⟩
    | goto t => exact hk.elim
    | ret => exact hk.elim
    | panic ch => exact hk.elim
    | outgrown => exact hk.elim
  | exit id => exact h.elim
  | goto t => exact h.elim
  | ret => exact h.elim
  | panic ch => exact h.elim
  | outgrown => exact h.elim
theorem range_ok (hm : P.follows .mixedOrders = true) (hT : TTOK P tt) (hS : SpecsOK P sp) {fuel : Nat} {D : Dec} {L : Plan} {RT : RTab} (hRT : RTOK P RT) {g : Operand} {ps : Array Tmp} {assign body : Code} {i : Nat} {st : St} {K : KT} (h : vclR tt sp fuel D L RT (.rangeFunc g ps assign body) i st K) : AWpR P B (.rangeFunc g ps assign body) st K := by
  rintro ms hms a w ⟨at_, r⟩
  simp only [vclR] at h
  split at h
  · rename_i gf caps p hg hp
    split at h
    · exact h.elim
    · rename_i R hR
      obtain ⟨hf, hres, hb, hnm⟩ := hRT _ _ hR
      obtain ⟨c, hc⟩ := Option.isSome_iff_exists.1 hb
      have hps : ps = #[p] := by rw [← Array.toList_inj]; simpa using hp
      have hrel := TR_ok (ts := condTs g) r.tmp g
      rw [hg] at hrel
      simp only [Rel] at hrel
      obtain ⟨lb, hev, hcaps⟩ := hrel
      have hname : R.fn.name ≠ "runtime.NumGoroutine" := by simpa using hnm
      have eg : ∀ args w, (callFunc gf args).run P w = .ok (.enter gf args) w := fun args w => by simp [callFunc, hf, hname, hc]
      replace h := h (w.heap.size + 1)
      rw [hc] at h
      simp only [Option.getD_some] at h
      refine wpIn_rangeFunc ?_
      intro fn _
      obtain ⟨rec, hrec⟩ : ∃ rec : LoopState → Option Code → Loop, rec = fun s pe => { state := s, pending := pe, fn, tmps := a.tmps, params := ps, assign, body, defers := w.heap.size } := ⟨_, rfl⟩
      obtain ⟨W1, hW1⟩ : ∃ W1, (w.alloc (.deferred (some []))).alloc (.loop (rec .ready none)) = W1 := ⟨_, rfl⟩
      have hL1 : W1.heap[w.heap.size + 1]? = some (.loop (rec .ready none)) := by
        rw [← hW1]; have := World.alloc_heap_new (w.alloc (.deferred (some []))) (.loop (rec .ready none)); rwa [World.size_alloc] at this
      have hK1 : W1.heap[w.heap.size]? = some (.deferred (some [])) := by
        rw [← hW1]; exact (Below.heap_alloc _ _ _ (by simp)).trans (World.alloc_heap_new w _)
      refine ⟨w.heap.size + 1, [markD w.heap.size], W1, { target := .fn (.func gf) (List.toArray lb), args := #[.func (.yield (w.heap.size + 1)) #[] #[]] }, W1, gf, #[.func (.yield (w.heap.size + 1)) #[] #[]] ++ List.toArray lb, W1, ?_, ?_, fun _ _ => trivial, ?_, fun h => by simp [Fr, Fence.wide] at h, ?_⟩
      · rw [← hW1, hrec]; exact run_enterLoop_outer _ _ _ _ _
      · simp only [resolve, hev]
        simp [go_sem]
      · simp [invoke, go_sem, eg]
      · have t1 : Turned w.heap.size w W1 := by rw [← hW1]; exact (Turned.alloc _ (Nat.le_refl _)).trans (.alloc _ (by simp))
        have hdl : w.heap.size ≠ w.heap.size + 1 := by omega
        have ob1 : ObsOK [(w.heap.size + 1, .loop (rec .ready none)), markO w.heap.size] at_ W1 := by
          intro q hq
          simp only [List.mem_cons, List.not_mem_nil, or_false] at hq
          rcases hq with rfl | rfl
          · exact ⟨hL1, r.mem.unn (by simp)⟩
          · exact ⟨hK1, r.mem.unn (by simp [markO])⟩
        have hlen := hcaps.length
        have hstart : Reps ⟨at_, w, [], [(w.heap.size + 1, .loop (rec .ready none)), markO w.heap.size]⟩ ⟨(.val (.func (.yield (w.heap.size + 1)) ⟨[]⟩ ⟨[]⟩) :: caps) ++ List.replicate (R.fn.ntmps - (caps.length + 1)) .any, st.M⟩ { tmps := (#[.func (.yield (w.heap.size + 1)) #[] #[]] ++ List.toArray lb) ++ Array.replicate (R.fn.ntmps - (#[Value.func (.yield (w.heap.size + 1)) #[] #[]] ++ List.toArray lb).size) Go.undef, defers := [] } W1 := by
          refine ⟨at_, (Later.refl _ _).turned t1, r.mem.kept t1.cells t1.size, ?_, rfl, ob1⟩
          simp only [Array.toList_append, Array.toList_replicate, Array.size_append, List.size_toArray, List.length_cons, List.length_nil]
          rw [show R.fn.ntmps - (0 + 1 + lb.length) = R.fn.ntmps - (caps.length + 1) by omega]
          exact RelL.append (RelL.cons (by simp only [Rel]) (RelL.kept t1.cells _ _ hcaps)) (RelL.replicate _ (by simp only [Rel]))
        -- behind the function
        have back : ∀ (s : LoopState) (pe : Option Code) (st' : St) (at' : At) (a' : Act) (w' : World), s ≠ .busy → Rep ⟨at_, w, [], [(w.heap.size + 1, .loop (rec s pe)), markO w.heap.size]⟩ st' at' a' w' →
            ∃ w8, (Instr.endLoop (w.heap.size + 1)).run P w' = .ok pe w8 ∧ Reps (B.marks (w.heap.size :: ms)) ⟨st.T, st'.M⟩ { a with defers := [markD w.heap.size] ++ a.defers } w8 := by
          intro s pe st' at' a' w' hs r'
          have ho := (r'.obs _ (List.mem_cons_self ..)).1
          have hd := r'.obs _ (List.mem_cons_of_mem _ (List.mem_cons_self ..))
          have hend := run_endLoop (P := P) ho (by rw [hrec]; exact hs)
          have hpe : (rec s pe).pending = pe := by rw [hrec]
          simp only [hpe] at hend
          generalize Obj.loop _ = o8 at hend
          refine ⟨_, hend, at', ?_⟩
          have t8 : Turned w.heap.size w' (w'.putObj (w.heap.size + 1) o8) := .putObj _ ho rfl (Nat.le_succ _)
          have l8 := r'.later.turned t8
          have t8' : Turned B.w0.heap.size w' (w'.putObj (w.heap.size + 1) o8) := .putObj _ ho rfl (Nat.le_trans r.later.size (Nat.le_succ _))
          refine ⟨(r.later.trans r'.later).turned t8', r'.mem.kept t8.cells t8.size, RelL.later l8 _ _ r.tmp, ?_, ?_⟩
          · show [markD w.heap.size] ++ a.defers = (w.heap.size :: ms).map markD
            rw [r.defers]; rfl
          · intro q hq
            rw [show (B.marks (w.heap.size :: ms)).obs = markO w.heap.size :: ms.map markO from rfl] at hq
            rcases List.mem_cons.1 hq with rfl | hq
            · exact ⟨(World.putObj_heap_other hdl).trans hd.1, hd.2⟩
            · exact (r.obs.later l8) q hq
        have hmok : MOK B (w.heap.size :: ms) := by
          refine ⟨List.nodup_cons.2 ⟨fun hin => ?_, hms.1⟩, fun d hd => ?_⟩
          · have := (r.obs (markO w.heap.size) (List.mem_map_of_mem hin)).1
            have := lt_of_heap this
            simp [markO] at this
          · rcases List.mem_cons.1 hd with rfl | hd
            · exact r.later.size
            · exact hms.2 d hd
        have hresr : ∀ (a' : Act) (w' : World), (results R.fn a'.tmps).run P w' = .ok (retV []) w' := fun a' w' => results_run (us := []) (by rw [hres]; rfl)
        refine callsIn_of_wp hf hc trivial (wpR_mono ?_ (vclY_ok hm hT hS (r.mem.clean) (round_ok hm hT hS (jump := R.jump) hps hrec (Nat.le_succ _) hdl r.tmp) c 0 _ _ _ h _ _ hstart))
        rintro e a' w' (⟨st', ⟨at', r'⟩, hk⟩ | ⟨st', ⟨at', r'⟩, hk⟩)
        · obtain ⟨w8, h1, h2⟩ := back _ _ _ _ _ _ (by simp) r'
          have fin : K .normal ⟨st.T, st'.M⟩ → a'.defers = [] ∧ ∃ v, (results R.fn a'.tmps).run P w' = .ok v w' ∧ rangePost (Fr none) 0 P (w.heap.size + 1) (fun e a' w' => ∃ ms', MOK B ms' ∧ ∃ st', Reps (B.marks ms') st' a' w' ∧ K e st') { a with defers := [markD w.heap.size] ++ a.defers } (.returned v) w' :=
            fun hk => ⟨r'.defers, _, hresr a' w', none, w8, h1, ⟨_, hmok, _, h2, hk⟩⟩
          cases e with
          | normal => exact fin hk
          | ret => exact fin hk
          | exit id => exact hk.elim
          | goto l => exact hk.elim
          | panic ch => exact hk.elim
          | outgrown => exact hk.elim
        · obtain ⟨w8, h1, h2⟩ := back _ _ _ _ _ _ (by simp) r'
          have fin : K (.exit R.jump) ⟨st.T, st'.M⟩ → a'.defers = [] ∧ ∃ v, (results R.fn a'.tmps).run P w' = .ok v w' ∧ rangePost (Fr none) 0 P (w.heap.size + 1) (fun e a' w' => ∃ ms', MOK B ms' ∧ ∃ st', Reps (B.marks ms') st' a' w' ∧ K e st') { a with defers := [markD w.heap.size] ++ a.defers } (.returned v) w' :=
            fun hk => ⟨r'.defers, _, hresr a' w', some (.exit R.jump), w8, h1, wpIn_exit ⟨_, hmok, _, h2, hk⟩⟩
          cases e with
          | normal => exact fin hk
          | ret => exact fin hk
          | exit id => exact hk.elim
          | goto l => exact hk.elim
          | panic ch => exact hk.elim
          | outgrown => exact hk.elim
  · exact h.elim
theorem vclR_ok (hm : P.follows .mixedOrders = true) (hT : TTOK P tt) (hS : SpecsOK P sp) {fuel : Nat} {D : Dec} {L : Plan} {RT : RTab} (hRT : RTOK P RT) (hcl : Clean 0 B.at0) : ∀ (c : Code) (i : Nat) (st : St) (K : KT), vclR tt sp fuel D L RT c i st K → AWpR P B c st K := by
  have plain : ∀ (c : Code) (i : Nat) (st : St) (K : KT), vcl tt sp fuel D L 0 c i st K → AWpR P B c st K := fun c i st K h => AWpR.of_wp fun ms => vcl_ok (B := B.marks ms) hm hT hS hcl c i st K h
  intro c
  induction c with
  | seq x y ihx ihy =>
    intro i st K h
    simp only [vclR] at h
    obtain ⟨h1, h2⟩ := bcase_ok h
    cases hr : (hasRange x || hasRange y) with
    | false => exact plain _ _ _ _ (h2 hr)
    | true =>
      refine AWpR.seq (AWpR.mono (ihx i st _ (h1 hr)) ?_)
      intro e st' hk
      cases e with
      | normal => exact ihy i st' K hk
      | _ => exact hk
  | cond c x y ihx ihy =>
    intro i st K h
    simp only [vclR] at h
    obtain ⟨h1, h2⟩ := bcase_ok h
    cases hr : (hasRange x || hasRange y) with
    | false => exact plain _ _ _ _ (h2 hr)
    | true =>
      have h := h1 hr
      split at h
      · rename_i b hb
        obtain ⟨h1, h2⟩ := bcase_ok h
        exact AWpR.cond hb (fun e => ihx i _ K (h1 e)) (fun e => ihy i _ K (h2 e))
      · exact h.elim
  | block id c ih =>
    intro i st K h
    simp only [vclR] at h
    obtain ⟨h1, h2⟩ := bcase_ok h
    cases hr : hasRange c with
    | false => exact plain _ _ _ _ (h2 hr)
    | true => exact AWpR.block (ih id st _ (h1 hr))
  | rangeFunc g ps assign body _ _ => exact fun i st K h => range_ok hm hT hS hRT h
  | skip => exact fun i st K h => plain _ _ _ _ h
  | label _ => exact fun i st K h => plain _ _ _ _ h
  | exit _ => exact fun i st K h => plain _ _ _ _ h
  | ret => exact fun i st K h => plain _ _ _ _ h
  | region _ _ _ => exact fun i st K h => plain _ _ _ _ h
  | loop _ _ => exact fun i st K h => plain _ _ _ _ h
  | scope _ _ => exact fun i st K h => plain _ _ _ _ h
  | goto _ => exact fun i st K h => plain _ _ _ _ h
  | refuse _ => exact fun i st K h => plain _ _ _ _ h
theorem leaves_ok {fn : Func} {tmps : Array Value} {st : St} {R : Ending → World → Prop} (fin : ∀ (w' : World) (at' : At), Later B.at0 B.w0 at' w' → MemOK at' st.M w' → RelL at' w' st.T tmps.toList → ∃ v, (results fn tmps).run P w' = .ok v w' ∧ R (.returned v) w') :
    ∀ (ms : List Nat) (w : World) (at_ : At), MOK B ms → Later B.at0 B.w0 at_ w → MemOK at_ st.M w → RelL at_ w st.T tmps.toList → ObsOK (ms.map markO) at_ w → LeavesInM Fence.wide 0 P fn tmps R (ms.map markD) .returning w
  | [], w, at_, _, hl, hM, hT, _ => fin w at_ hl hM hT
  | D :: ms, w, at_, hms, hl, hM, hT, ho => by
    have hD := (ho (markO D) (List.mem_cons_self ..)).1
    have t : Turned B.w0.heap.size w (w.putObj D (.deferred none)) := .putObj _ hD rfl (hms.2 D (List.mem_cons_self ..))
    have hn := List.nodup_cons.1 hms.1
    refine ⟨by simp, .inl ⟨D, _, rfl, run_takeDeferred hD, leaves_ok fin ms _ at_ ⟨hn.2, fun d hd => hms.2 d (List.mem_cons_of_mem _ hd)⟩ (hl.turned t) (hM.kept t.cells t.size) (RelL.kept t.cells _ _ hT) ?_⟩⟩
    refine ObsOK.put (fun q hq => ho q (List.mem_cons_of_mem _ hq)) _ fun q hq e => ?_
    obtain ⟨d, hd, rfl⟩ := List.mem_map.1 hq
    exact hn.1 (by simpa [markO] using e ▸ hd)
/-- A function whose body ranges over functions, from what its body's proposition says. -/
theorem calls_of_awpR {at_ : At} (hT : TTOK P tt) {f : FuncId} {fn : Func} {c : Code} (hf : P.funcs[f]? = some fn) (hb : fn.body = some c) {svs : List SV} {Q : SV → Prop}
    (hvc : ∀ B : Base, B.dfs = [] → B.obs = [] → Clean 0 B.at0 → AWpR P B c (init svs fn.ntmps) (finK tt fn.results.toList Q)) (hn : noNameL svs = true) {vs : List Value} {w : World} (hat : ∀ n g, at_ n = some g → g < w.heap.size) (hout : ∀ g, (at_.out g ∨ ∃ n b c k, at_.gn n = .live g b c k) → g < w.heap.size) (hgl : GLOK at_ w) (hr : RelL at_ w svs vs) :
    Calls P f (List.toArray vs) w fun e w' => ∃ v, e = .returned v ∧ ∃ r, Q r ∧ Rel at_ w' r v ∧ Below w.heap.size w w' := by
  refine callsIn_wide.1 (callsIn_of_wp_marks (n := 0) hf hb trivial ?_)
  let at0 : At := ⟨fun _ => none, fun g => (∃ n, at_ n = some g) ∨ at_.out g ∨ ∃ n b c k, at_.gn n = .live g b c k, fun _ => .unborn⟩
  have fixA : ∀ g, Fix at_ g → Fix at0 g := fun g h => ⟨fun n e => by simp [at0] at e, fun e => by
    rcases e with ⟨n, e⟩ | e | ⟨n, b, c, k, e⟩
    · exact h.1 n e
    · exact h.2.1 e
    · exact h.2.2 n b c k e, fun _ _ _ _ e => by simp [at0] at e⟩
  have fixB : ∀ g, ¬ at0.out g → Fix at_ g := fun g h => ⟨fun n e => h (.inl ⟨n, e⟩), fun e => h (.inr (.inl e)), fun n b c k e => h (.inr (.inr ⟨n, b, c, k, e⟩))⟩
  have hlen := hr.length
  have hstart : Reps ⟨at0, w, [], []⟩ (init svs fn.ntmps) { tmps := List.toArray vs ++ Array.replicate (fn.ntmps - (List.toArray vs).size) Go.undef, defers := [] } w := by
    refine ⟨at0, Later.refl _ _, ⟨fun n g cs e1 e => by simp [init] at e, fun n m g e => by simp [at0] at e, fun n g e => by simp [at0] at e, fun g h => ?_, fun n l e => by simp [init] at e, fun n m g b c k b' c' k' e => by simp [at0] at e, fun n m g b c k e => by simp [at0] at e, fun n e => by simp [at0] at e, fun n g b c k e => by simp [at0] at e, fun n g b c k e => by simp [at0] at e, fun n g e => by simp [at0] at e, hgl.fixed fixA⟩, ?_, rfl, ObsOK.nil _ _⟩
    · rcases h with ⟨n, h⟩ | h
      · exact hat n g h
      · exact hout g h
    · simp only [init, Array.toList_append, Array.toList_replicate, List.size_toArray, hlen]
      exact RelL.append (RelL.noName fixA _ _ hn hr) (RelL.replicate _ (by simp only [Rel]))
  refine wpR_mono ?_ (hvc ⟨at0, w, [], []⟩ rfl rfl (fun _ _ => ⟨rfl, rfl⟩) [] ⟨List.nodup_nil, fun _ h => by simp at h⟩ _ _ hstart)
  rintro e a' w' ⟨ms', hmok, st', ⟨at', r'⟩, hk⟩
  have fin1 : finK tt fn.results.toList Q .ret st' → ∀ (w' : World) (at' : At), Later at0 w at' w' → MemOK at' st'.M w' → RelL at' w' st'.T a'.tmps.toList →
      ∃ v, (results fn a'.tmps).run P w' = .ok v w' ∧ ∃ u, Ending.returned v = .returned u ∧ ∃ r, Q r ∧ Rel at_ w' r u ∧ Below w.heap.size w w' := by
    intro hk w' at' hl hM hT'
    simp only [finK] at hk
    split at hk
    · rename_i svs' hres
      split at hk
      · rename_i r hfr
        obtain ⟨us, h1, h2⟩ := resAll_ok hT hM hT' _ _ hres
        have hrun := results_run h1
        refine ⟨_, hrun, _, rfl, r, hk, ?_, ?_⟩
        · have hrel : Rel at' w' (retSV svs') (retV us) := by
            rcases svs' with _ | ⟨s, _ | ⟨s', ss⟩⟩
            · simp only [RelL] at h2; subst h2; simp only [retSV, Rel]; exact ⟨[], rfl, RelL.nil⟩
            · simp only [RelL] at h2
              obtain ⟨v, vs', rfl, h3, rfl⟩ := h2
              exact h3
            · have h2' := h2
              simp only [RelL] at h2
              obtain ⟨v, vs', rfl, h3, v', vs'', rfl, h4, h5⟩ := h2
              simp only [retSV, Rel]
              exact ⟨_, rfl, h2'⟩
          refine freeze_ok hM (fun g hg => fixB g (fun ho => hg.2.1 (by rw [hl.out]; exact ho))) (fun n g e => ?_) (fun n g b c k e => ?_) _ _ _ hfr hrel
          · rcases hl.new n g e with e' | e'
            · simp [at0] at e'
            · replace e' : w.heap.size ≤ g := e'
              exact ⟨fun m h => by have := hat m g h; omega, fun h => by have := hout g (.inl h); omega, fun n b c k h => by have := hout g (.inr ⟨n, b, c, k, h⟩); omega⟩
          · rcases hl.gnew n g b c k e with ⟨m, b', c', k', e'⟩ | e'
            · simp [at0] at e'
            · replace e' : w.heap.size ≤ g := e'
              exact ⟨fun m h => by have := hat m g h; omega, fun h => by have := hout g (.inl h); omega, fun n b c k h => by have := hout g (.inr ⟨n, b, c, k, h⟩); omega⟩
        · refine ⟨hl.os, hl.tape, hl.output, hl.size, fun k hk' => ?_⟩
          exact (hl.keep k (fun n e => by simp [at0] at e) (fun n b c k e => by simp [at0] at e) hk').2.2
      · exact hk.elim
    · exact hk.elim
  have fin : finK tt fn.results.toList Q .ret st' → LeavesInM Fence.wide 0 P fn a'.tmps (fun e w' => ∃ v, e = .returned v ∧ ∃ r, Q r ∧ Rel at_ w' r v ∧ Below w.heap.size w w') a'.defers .returning w' := fun hk => by
    rw [r'.defers]
    exact leaves_ok (B := ⟨at0, w, [], []⟩) (fin1 hk) ms' _ at' hmok r'.later r'.mem r'.tmp r'.obs
  cases e with
  | normal => exact fin hk
  | ret => exact fin hk
  | exit id => exact hk.elim
  | goto l => exact hk.elim
  | panic ch => exact hk.elim
  | outgrown => exact hk.elim
variable {α β : Type} [Args α] [RetL β]
/-- The body's proposition. -/
def RnRaw (tt : TT) (sp : Specs) (fuel : Nat) (D : Dec) (L : Plan) (RT : RTab) (fn : Func) (Q : SV → Prop) (a : α) : Prop := vclR tt sp fuel D L RT (fn.body.getD .skip) 0 (init (Args.encL a) fn.ntmps) (finK tt fn.results.toList Q)
structure RnVD (tt : TT) (sp : Specs) (fuel : Nat) (D : Dec) (L : Plan) (RT : RTab) (fn : Func) (Q : SV → Prop) (a : α) : Prop where
  out : RnRaw tt sp fuel D L RT fn Q a
theorem RnVD.of {tt : TT} {sp : Specs} {fuel : Nat} {D : Dec} {L : Plan} {RT : RTab} {fn : Func} {Q : SV → Prop} {a : α} {E : Prop} (hE : RnRaw tt sp fuel D L RT fn Q a = E) (k : E) : RnVD tt sp fuel D L RT fn Q a := ⟨by rw [hE]; exact k⟩
theorem fn_okR {tt : TT} (hm : P.follows .mixedOrders = true) (hT : TTOK P tt) {sp : Specs} (hS : SpecsOK P sp) (fuel : Nat) {f : FuncId} {fn : Func} (hf : P.funcs[f]? = some fn) (hname : (fn.name == "runtime.NumGoroutine") = false) (hb : fn.body.isSome = true) {pre : α → Option Prop} {g : α → β}
    (H : ∀ a, Ok (pre a) → ∃ D L RT, ∃ Q : SV → Prop, RTOK P RT ∧ RnVD tt sp fuel D L RT fn Q a ∧ ∀ x, Q x → ∀ (at_ : At) (w : World) (v : Value), Rel at_ w x v → Rel at_ w (retSV (RetL.retL (g a))) v) : SpecOK P f (fspec pre g) := by
  obtain ⟨c, hc⟩ := Option.isSome_iff_exists.1 hb
  intro at_ w svs vs pr r hat hout hgl hs hp hr
  unfold fspec at hs
  split at hs
  · rename_i a ha
    simp only [Option.some.injEq, Prod.mk.injEq] at hs
    obtain ⟨rfl, rfl⟩ := hs
    have hrun : (callFunc f (List.toArray vs)).run P w = .ok (.enter f (List.toArray vs)) w := by
      have h1 : fn.name ≠ "runtime.NumGoroutine" := by simpa using hname
      simp [callFunc, hf, h1, hc]
    rw [hrun]
    obtain ⟨D, L, RT, Q, hRT, ⟨h⟩, hQ⟩ := H a hp
    unfold RnRaw at h
    rw [hc] at h
    refine (calls_of_awpR hT hf hc (fun B _ _ hcl => vclR_ok hm hT hS hRT hcl c 0 _ _ h) (Args.nn a) hat hout hgl (Args.ok ha hr)).mono ?_
    rintro e w' ⟨v, h1, r', h2, h3, h4⟩
    exact ⟨v, h1, hQ _ h2 _ _ _ h3, h4⟩
  · cases hs
end
end Go.Sym
