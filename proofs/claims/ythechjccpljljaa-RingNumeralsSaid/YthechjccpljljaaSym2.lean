/- The symbolic machine's operations are right: memory. -/
import Derived.Test.YthechjccpljljaaSym1
namespace Go.Sym
open Go.RowKit

/-- A list lies in a block's cells, and has room behind. -/
def GOK (w : World) (g base cap : Nat) (l : LV) : Prop := ∃ arr ty, w.heap[g]? = some (.cells arr ty (0, 0)) ∧ arr.size = base + cap ∧ l.len ≤ cap ∧ cap ≤ maxLen ∧ (arr.toList.drop base).take l.len = l.vals
structure MemOK (at_ : At) (M : List (Option Blk)) (w : World) : Prop where
  blk : ∀ n g cs, at_ n = some g → M[n]? = some (some cs) → ∃ ty vs, w.heap[g]? = some (.cells (List.toArray vs) ty (0, 0)) ∧ RelL at_ w cs vs
  inj : ∀ n m g, at_ n = some g → at_ m = some g → n = m
  dom : ∀ n g, at_ n = some g → g < w.heap.size ∧ ∃ cs, M[n]? = some (some cs)
  outlt : ∀ g, at_.out g → g < w.heap.size
  glk : ∀ n l, M[n]? = some (some [.own l]) → (at_.gn n = .nil ∧ l.len = 0) ∨ ∃ g b c, at_.gn n = .live g b c l.len ∧ GOK w g b c l
  ginj : ∀ n m g b c k b' c' k', at_.gn n = .live g b c k → at_.gn m = .live g b' c' k' → n = m
  gap : ∀ n m g b c k, at_ n = some g → at_.gn m ≠ .live g b c k
  gdom : ∀ n, at_.gn n ≠ .unborn → ∃ cs, M[n]? = some (some cs)
  gsz : ∀ n g b c k, at_.gn n = .live g b c k → g < w.heap.size
  gout : ∀ n g b c k, at_.gn n = .live g b c k → ¬ at_.out g

def applyWs (M : List (Option Blk)) (ws : List (Nat × Blk)) : List (Option Blk) := ws.foldl (fun M p => M.set p.1 (some p.2)) M

/-- What holds behind a step. -/
def Post (at_ : At) (w : World) (M : List (Option Blk)) (ws : List (Nat × Blk)) (sv : SV) (v : Value) (w' : World) : Prop :=
  ∃ at', Later at_ w at' w' ∧ MemOK at' (applyWs M ws) w' ∧ Rel at' w' sv v

def Outcome (P : Program) (r : Result Next) (K : Value → World → Prop) : Prop :=
  match r with
  | .ok (.value v) w' => K v w'
  | .ok .skip w' => K Go.undef w'
  | .ok (.enter f args) w' => Calls P f args w' fun e w'' => ∃ v, e = .returned v ∧ K v w''
  | _ => False

def SpecOK (P : Program) (f : FuncId) (s : SpecF) : Prop :=
  ∀ (at_ : At) (w : World) (svs : List SV) (vs : List Value) (pre : Option Prop) (r : SV), (∀ n g, at_ n = some g → g < w.heap.size) → (∀ g, (at_.out g ∨ ∃ n b c k, at_.gn n = .live g b c k) → g < w.heap.size) → s svs = some (pre, r) → Ok pre → RelL at_ w svs vs →
    Outcome P ((callFunc f (List.toArray vs)).run P w) fun v w' => Rel at_ w' r v ∧ Below w.heap.size w w'
def MSpecOK (P : Program) (f : FuncId) (s : MSpecF) : Prop :=
  ∀ (at_ : At) (M : List (Option Blk)) (w : World) (look : Nat → Option Blk) (svs : List SV) (vs : List Value) (out : Out), MemOK at_ M w → (∀ n cs, look n = some cs → M[n]? = some (some cs)) → s look svs = some out → Ok out.pre → RelL at_ w svs vs →
    Outcome P ((callFunc f (List.toArray vs)).run P w) (Post at_ w M out.ws out.sv)
def SpecEOK (P : Program) (f : FuncId) : SpecE → Prop
  | .pure s => SpecOK P f s
  | .mem s => MSpecOK P f s
def SpecsOK (P : Program) (sp : Specs) : Prop := ∀ f s, sp.lookup f = some s → SpecEOK P f s
theorem SpecsOK.nil (P : Program) : SpecsOK P [] := fun _ _ h => by simp at h
theorem SpecsOK.consE {P : Program} {f : FuncId} {s : SpecE} {sp : Specs} (h : SpecEOK P f s) (k : SpecsOK P sp) : SpecsOK P ((f, s) :: sp) := by
  intro f' s' h'
  simp only [List.lookup_cons] at h'
  split at h'
  · rename_i e; have e' := eq_of_beq e; simp at h'; subst e'; subst h'; exact h
  · exact k f' s' h'
theorem SpecsOK.cons {P : Program} {f : FuncId} {s : SpecF} {sp : Specs} (h : SpecOK P f s) (k : SpecsOK P sp) : SpecsOK P ((f, .pure s) :: sp) := .consE (s := .pure s) h k
theorem SpecsOK.consM {P : Program} {f : FuncId} {s : MSpecF} {sp : Specs} (h : MSpecOK P f s) (k : SpecsOK P sp) : SpecsOK P ((f, .mem s) :: sp) := .consE (s := .mem s) h k

section
variable {P : Program} {at_ : At} {M : List (Option Blk)} {w : World}

theorem Post.same {sv : SV} {v : Value} (hM : MemOK at_ M w) (h : Rel at_ w sv v) : Post at_ w M [] sv v w := ⟨at_, Later.refl _ _, hM, h⟩

theorem GOK.mono {w w' : World} {g b c : Nat} {l : LV} (h : w'.heap[g]? = w.heap[g]?) (k : GOK w g b c l) : GOK w' g b c l := by
  obtain ⟨arr, ty, h1, h2⟩ := k
  exact ⟨arr, ty, h.trans h1, h2⟩
theorem MemOK.later_free {w' : World} (hM : MemOK at_ M w) (h : ∀ g, g < w.heap.size → w'.heap[g]? = w.heap[g]?) (hs : w.heap.size ≤ w'.heap.size) (hl : Later at_ w at_ w') : MemOK at_ M w' :=
  ⟨fun n g cs e1 e => by
    obtain ⟨ty, vs, h2, h3⟩ := hM.blk n g cs e1 e
    exact ⟨ty, vs, (h g (lt_of_heap h2)).trans h2, RelL.later hl cs vs h3⟩, hM.inj,
   fun n g e => ⟨Nat.lt_of_lt_of_le (hM.dom n g e).1 hs, (hM.dom n g e).2⟩, fun g h => Nat.lt_of_lt_of_le (hM.outlt g h) hs,
   fun n l e => by
    rcases hM.glk n l e with k | ⟨g, b, c, k1, k2⟩
    · exact .inl k
    · exact .inr ⟨g, b, c, k1, k2.mono (h g (hM.gsz _ _ _ _ _ k1))⟩,
   hM.ginj, hM.gap, hM.gdom, fun n g b c k e => Nat.lt_of_lt_of_le (hM.gsz n g b c k e) hs, hM.gout⟩
theorem Later.of_below {w' : World} (hb : Below w.heap.size w w') : Later at_ w at_ w' := ⟨hb.os, hb.tape, hb.output, hb.size, fun _ _ h => h, fun g hf hf' hl => ⟨hf, hf', hb.block g hl⟩, rfl, fun _ _ h => .inl h, fun _ => .inr (.inl rfl), fun n _ b c k h => .inl ⟨n, b, c, k, h⟩⟩
theorem Post.below {w' : World} {sv : SV} {v : Value} (hM : MemOK at_ M w) (hb : Below w.heap.size w w') (h : Rel at_ w' sv v) : Post at_ w M [] sv v w' :=
  ⟨at_, Later.of_below hb, hM.later_free hb.block hb.size (Later.of_below hb), h⟩
theorem own_false {cs : List SV} {vs : List Value} {l : LV} (h : RelL at_ w cs vs) (e : cs = [.own l]) : False := by
  subst e
  simp only [RelL, Rel] at h
  obtain ⟨_, _, _, h, _⟩ := h
  exact h
theorem MemOK.outlt' (hM : MemOK at_ M w) (g : Nat) (h : at_.out g ∨ ∃ n b c k, at_.gn n = .live g b c k) : g < w.heap.size := by
  rcases h with h | ⟨n, b, c, k, h⟩
  · exact hM.outlt g h
  · exact hM.gsz n g b c k h
theorem MemOK.fresh_none (hM : MemOK at_ M w) {fresh : Nat} (hf : M[fresh]? = some none) : at_ fresh = none ∧ at_.gn fresh = .unborn := by
  constructor
  · cases h : at_ fresh with
    | none => rfl
    | some g => obtain ⟨_, cs', h'⟩ := hM.dom _ _ h; rw [hf] at h'; cases h'
  · cases h : at_.gn fresh with
    | unborn => rfl
    | _ => obtain ⟨cs', h'⟩ := hM.gdom fresh (by rw [h]; simp); rw [hf] at h'; cases h'

/-- A new block. -/
theorem Post.new {fresh : Nat} {cs : List SV} {vs : List Value} (ty : TypeId) {sv : SV} {v : Value} (hM : MemOK at_ M w) (hf : M[fresh]? = some none) (hr : RelL at_ w cs vs)
    (hv : ∀ at' : At, at' fresh = some w.heap.size → Rel at' (w.alloc (.cells (List.toArray vs) ty)) sv v) : Post at_ w M [(fresh, cs)] sv v (w.alloc (.cells (List.toArray vs) ty)) := by
  obtain ⟨hnone, hgn⟩ := hM.fresh_none hf
  have hlt : fresh < M.length := (List.getElem?_eq_some_iff.1 hf).1
  let at' : At := ⟨fun n => if n = fresh then some w.heap.size else at_ n, at_.out, at_.gn⟩
  have hl : Later at_ w at' (w.alloc (.cells (List.toArray vs) ty)) := by
    refine ⟨rfl, rfl, rfl, by simp, fun n g e => ?_, fun g hg hg' hlt' => ⟨fun n e => ?_, hg', heap_alloc_old _ _ _ hlt'⟩, rfl, fun n g e => ?_, fun _ => .inr (.inl rfl), fun n _ b c k h => .inl ⟨n, b, c, k, h⟩⟩
    · by_cases hn : n = fresh
      · subst hn; rw [hnone] at e; cases e
      · simp [at', hn, e]
    · by_cases hn : n = fresh
      · simp [at', hn] at e; omega
      · simp [at', hn] at e; exact hg n e
    · by_cases hn : n = fresh
      · simp [at', hn] at e; exact .inr (by omega)
      · simp [at', hn] at e; exact .inl e
  refine ⟨at', hl, ⟨fun n g c e1 e => ?_, fun n m g e e' => ?_, fun n g e => ?_, fun g h => Nat.lt_of_lt_of_le (hM.outlt g h) (by simp), fun n l e => ?_, hM.ginj, fun n m g b c k e e' => ?_, fun n e => ?_, fun n g b c k e => Nat.lt_of_lt_of_le (hM.gsz n g b c k e) (by simp), hM.gout⟩, hv at' (by simp [at'])⟩
  · simp only [applyWs, List.foldl_cons, List.foldl_nil] at e
    by_cases hn : n = fresh
    · subst hn
      rw [List.getElem?_set_self hlt] at e
      simp at e; subst e
      simp [at'] at e1; subst e1
      exact ⟨ty, vs, heap_alloc_new _ _, RelL.later hl _ _ hr⟩
    · rw [List.getElem?_set_ne (fun h => hn h.symm)] at e
      simp [at', hn] at e1
      obtain ⟨ty', vs', h2, h3⟩ := hM.blk n g c e1 e
      exact ⟨ty', vs', (heap_alloc_old _ _ _ (lt_of_heap h2)).trans h2, RelL.later hl _ _ h3⟩
  · by_cases hn : n = fresh <;> by_cases hm : m = fresh
    · rw [hn, hm]
    · simp [at', hn, hm] at e e'
      have := (hM.dom _ _ e').1; omega
    · simp [at', hn, hm] at e e'
      have := (hM.dom _ _ e).1; omega
    · simp [at', hn, hm] at e e'
      exact hM.inj n m g e e'
  · simp only [applyWs, List.foldl_cons, List.foldl_nil]
    by_cases hn : n = fresh
    · subst hn
      simp [at'] at e; subst e
      exact ⟨by simp, cs, List.getElem?_set_self hlt⟩
    · simp [at', hn] at e
      obtain ⟨h1, c, h2⟩ := hM.dom n g e
      exact ⟨by simp; omega, c, by rw [List.getElem?_set_ne (fun h => hn h.symm)]; exact h2⟩
  · simp only [applyWs, List.foldl_cons, List.foldl_nil] at e
    by_cases hn : n = fresh
    · subst hn
      rw [List.getElem?_set_self hlt] at e
      simp only [Option.some.injEq] at e
      exact (own_false hr e).elim
    · rw [List.getElem?_set_ne (fun h => hn h.symm)] at e
      rcases hM.glk n l e with k | ⟨g, b, c, k1, k2⟩
      · exact .inl k
      · exact .inr ⟨g, b, c, k1, k2.mono (heap_alloc_old _ _ _ (hM.gsz _ _ _ _ _ k1))⟩
  · by_cases hn : n = fresh
    · simp [at', hn] at e
      have := hM.gsz m g b c k e'; omega
    · simp [at', hn] at e
      exact hM.gap n m g b c k e e'
  · obtain ⟨c, h2⟩ := hM.gdom n e
    simp only [applyWs, List.foldl_cons, List.foldl_nil]
    by_cases hn : n = fresh
    · subst hn; exact ⟨cs, List.getElem?_set_self hlt⟩
    · exact ⟨c, by rw [List.getElem?_set_ne (fun h => hn h.symm)]; exact h2⟩

/-- A block of the machine's own is written. -/
theorem Post.set {b g : Nat} {cs0 cs : List SV} {vs : List Value} {ty : TypeId} {old : Array Value} {sv : SV} {v : Value} (hM : MemOK at_ M w) (hb : M[b]? = some (some cs0)) (hg : at_ b = some g)
    (hh : w.heap[g]? = some (.cells old ty (0, 0))) (hr : RelL at_ w cs vs) (hv : Rel at_ (w.setRow g (List.toArray vs)) sv v) : Post at_ w M [(b, cs)] sv v (w.setRow g (List.toArray vs)) := by
  have hlt : b < M.length := (List.getElem?_eq_some_iff.1 hb).1
  have hl : Later at_ w at_ (w.setRow g (List.toArray vs)) := by
    refine ⟨rfl, rfl, rfl, by simp, fun _ _ h => h, fun k hk hk' _ => ⟨hk, hk', setRow_other _ _ _ _ (fun e => hk b (e ▸ hg))⟩, rfl, fun _ _ h => .inl h, fun _ => .inr (.inl rfl), fun n _ b c k h => .inl ⟨n, b, c, k, h⟩⟩
  refine ⟨at_, hl, ⟨fun n k c h1 e => ?_, hM.inj, fun n k e => ?_, fun g h => by have := hM.outlt g h; simpa using this, fun n l e => ?_, hM.ginj, hM.gap, fun n e => ?_, fun n g' b' c k e => by have := hM.gsz n g' b' c k e; simpa using this, hM.gout⟩, hv⟩
  · simp only [applyWs, List.foldl_cons, List.foldl_nil] at e
    by_cases hn : n = b
    · subst hn
      rw [List.getElem?_set_self hlt] at e
      simp at e; subst e
      rw [hg] at h1; cases h1
      exact ⟨ty, vs, setRow_heap _ _ _ _ _ _ hh, RelL.later hl _ _ hr⟩
    · rw [List.getElem?_set_ne (fun h => hn h.symm)] at e
      obtain ⟨ty', vs', h2, h3⟩ := hM.blk n k c h1 e
      exact ⟨ty', vs', (setRow_other _ _ _ _ (fun e' => hn (hM.inj n b k h1 (by rw [hg, e'])))).trans h2, RelL.later hl _ _ h3⟩
  · simp only [applyWs, List.foldl_cons, List.foldl_nil]
    obtain ⟨h1, c, h2⟩ := hM.dom n k e
    refine ⟨by simpa using h1, ?_⟩
    by_cases hn : n = b
    · subst hn; exact ⟨cs, List.getElem?_set_self hlt⟩
    · exact ⟨c, by rw [List.getElem?_set_ne (fun h => hn h.symm)]; exact h2⟩
  · simp only [applyWs, List.foldl_cons, List.foldl_nil] at e
    by_cases hn : n = b
    · subst hn
      rw [List.getElem?_set_self hlt] at e
      simp only [Option.some.injEq] at e
      exact (own_false hr e).elim
    · rw [List.getElem?_set_ne (fun h => hn h.symm)] at e
      rcases hM.glk n l e with k | ⟨g', b', c, k1, k2⟩
      · exact .inl k
      · exact .inr ⟨g', b', c, k1, k2.mono (setRow_other _ _ _ _ (fun e' => hM.gap b n g' b' c l.len (e' ▸ hg) k1))⟩
  · simp only [applyWs, List.foldl_cons, List.foldl_nil]
    obtain ⟨c, h2⟩ := hM.gdom n e
    by_cases hn : n = b
    · subst hn; exact ⟨cs, List.getElem?_set_self hlt⟩
    · exact ⟨c, by rw [List.getElem?_set_ne (fun h => hn h.symm)]; exact h2⟩
end

/-! Types. -/
section
variable {P : Program} {t : TypeId} {i : TI}
theorem TIOK.desc (h : TIOK P t i) : ∃ d, P.underlying t = some d ∧ TD.of d = i.d := by
  have := h.und
  cases hd : P.underlying t with
  | none => simp [hd] at this
  | some d => simp [hd] at this; exact ⟨d, rfl, this⟩
theorem TIOK.ti (h : TIOK P t i) : ∃ x z, P.info? t = some x ∧ x.zero = some z ∧ z.cells.toList = i.zero ∧ x.size = i.size ∧ x.bytes = i.bytes := by
  have := h.info
  cases hd : P.info? t with
  | none => simp [hd] at this
  | some x =>
    simp [hd] at this
    obtain ⟨⟨z, h1, h2⟩, h3, h4⟩ := this
    exact ⟨x, z, rfl, h1, h2, h3, h4⟩
theorem TIOK.isAgg (h : TIOK P t i) (w : World) : (isAgg t).run P w = .ok i.d.agg w := by
  obtain ⟨d, h1, h2⟩ := h.desc
  rw [← h2]
  cases d <;> simp [Go.isAgg, run_underlying h1, TD.of, TD.agg]
theorem TIOK.sizeOf (h : TIOK P t i) (w : World) : (sizeOf t).run P w = .ok i.size w := by
  obtain ⟨x, z, h1, h2, h3, h4, h5⟩ := h.ti
  simp [Go.sizeOf, typeInfo, h1, h4]
theorem TIOK.und' (h : TIOK P t i) {Q : TypeDesc → Prop} (hq : ∀ d, TD.of d = i.d → Q d) : ∃ d, P.underlying t = some d ∧ Q d := by
  obtain ⟨d, h1, h2⟩ := h.desc
  exact ⟨d, h1, hq d h2⟩
theorem TIOK.slice {e : TypeId} (h : TIOK P t i) (hd : i.d = .slice e) : P.underlying t = some (.slice e) := by
  obtain ⟨d, h1, h2⟩ := h.desc
  rw [hd] at h2
  cases d <;> simp [TD.of] at h2
  subst h2; exact h1
theorem TIOK.array {n : Nat} {e : TypeId} (h : TIOK P t i) (hd : i.d = .array n e) : P.underlying t = some (.array n e) := by
  obtain ⟨d, h1, h2⟩ := h.desc
  rw [hd] at h2
  cases d <;> simp [TD.of] at h2
  obtain ⟨rfl, rfl⟩ := h2; exact h1
theorem TIOK.ptr {e : TypeId} (h : TIOK P t i) (hd : i.d = .ptr e) : P.underlying t = some (.pointer e) := by
  obtain ⟨d, h1, h2⟩ := h.desc
  rw [hd] at h2
  cases d <;> simp [TD.of] at h2
  subst h2; exact h1
theorem TIOK.int {k : IntKind} (h : TIOK P t i) (hd : i.d = .int k) : P.underlying t = some (.int k) := by
  obtain ⟨d, h1, h2⟩ := h.desc
  rw [hd] at h2
  cases d <;> simp [TD.of] at h2
  subst h2; exact h1
theorem TIOK.bool (h : TIOK P t i) (hd : i.d = .bool) : P.underlying t = some .bool := by
  obtain ⟨d, h1, h2⟩ := h.desc
  rw [hd] at h2
  cases d <;> simp [TD.of] at h2
  exact h1
theorem TIOK.struct {fs : List (Nat × TypeId)} (h : TIOK P t i) (hd : i.d = .struct fs) : ∃ F : Array Field, P.underlying t = some (.struct F) ∧ F.toList.map (fun f => (f.offset, f.type)) = fs := by
  obtain ⟨d, h1, h2⟩ := h.desc
  rw [hd] at h2
  cases d <;> simp [TD.of] at h2
  exact ⟨_, h1, h2⟩
end

/-! Loads and stores. -/
section
variable {P : Program} {at_ : At} {w : World} {t : TypeId} {i : TI}
theorem addr_add (g o j : Nat) : (⟨g, o, none⟩ : Addr).add j = ⟨g, o + j, none⟩ := by
  unfold Addr.add
  split
  · rename_i h; subst h; rfl
  · rfl
theorem run_loadVar_cells (h : TIOK P t i) {g off : Nat} {vs : List Value} {ty : TypeId} {fz : Nat × Nat} (hg : w.heap[g]? = some (.cells (List.toArray vs) ty fz)) (ha : i.d.agg = true) (hl : off + i.size ≤ vs.length) :
    (loadVar t ⟨g, off, none⟩).run P w = .ok (.agg (List.toArray ((vs.drop off).take i.size))) w := by
  have hc := run_loadCells_list (P := P) w ⟨g, off, none⟩ ((vs.drop off).take i.size) (fun j v hv => by
    rw [addr_add, cell_of_row w g _ _ ty fz hg]
    rw [List.getElem?_take] at hv
    split at hv
    · simpa using hv
    · cases hv)
  have hlen : ((vs.drop off).take i.size).length = i.size := by simp; omega
  rw [hlen] at hc
  simp [loadVar, h.isAgg, ha, h.sizeOf, hc]
theorem run_loadVar_one (h : TIOK P t i) {a : Addr} {v : Value} (hc : w.cell? a = some v) (ha : i.d.agg = false) : (loadVar t a).run P w = .ok v w := by
  simp [loadVar, h.isAgg, ha, hc]
theorem run_storeVar_cells (h : TIOK P t i) {g off : Nat} {old : List Value} {ty : TypeId} (hg : w.heap[g]? = some (.cells (List.toArray old) ty (0, 0))) {v : Value} {vs : List Value} (hv : v.cells.toList = vs) (hl : vs.length = i.size)
    (hb : off + vs.length ≤ old.length) (h1 : ∀ u ∈ vs, u.oneCell' = true) :
    (storeVar t ⟨g, off, none⟩ v).run P w = .ok () (w.setRow g (List.toArray (old.take off ++ vs ++ old.drop (off + vs.length)))) := by
  have hs : v.cells.size = i.size := by rw [← hl, ← hv]; simp
  have := run_storeCells_at (P := P) g off ty vs 0 (List.toArray old) w hg (by simpa using hb) h1
  simp only [Nat.add_zero, ] at this
  simp [storeVar, h.sizeOf, hs, hv, this]
end

section
variable {at_ : At} {w : World}
theorem Rel.one {s : SV} {v : Value} (h : s.one = true) (r : Rel at_ w s v) : v.oneCell' = true := by
  cases s <;> simp only [SV.one] at h <;> simp only [Rel] at r
  all_goals first
    | (subst r; first | rfl | exact h)
    | exact r.2.2.2
    | (obtain ⟨_, _, rfl⟩ := r; rfl)
    | (obtain ⟨_, _, rfl, _⟩ := r; rfl)
    | (obtain ⟨_, _, _, _, rfl, _⟩ := r; rfl)
    | (obtain ⟨_, rfl, _⟩ := r; rfl)
    | cases h
theorem RelL.one : ∀ {s : List SV} {v : List Value}, s.all SV.one = true → RelL at_ w s v → ∀ u ∈ v, u.oneCell' = true
  | [], _, _, r => by simp only [RelL] at r; subst r; simp
  | c :: cs, _, h, r => by
    simp only [RelL] at r
    obtain ⟨v, vs, rfl, h2, h3⟩ := r
    simp only [List.all_cons, Bool.and_eq_true] at h
    intro u hu
    cases hu with
    | head => exact Rel.one h.1 h2
    | tail _ hu => exact RelL.one h.2 h3 u hu
theorem Rel.cells {s : SV} {v : Value} {cs : List SV} (h : s.cells? = some cs) (r : Rel at_ w s v) : RelL at_ w cs v.cells.toList ∧ ∀ u ∈ v.cells.toList, u.oneCell' = true := by
  have key : s.one = true → cs = [s] → RelL at_ w cs v.cells.toList ∧ ∀ u ∈ v.cells.toList, u.oneCell' = true := fun h1 h2 => by
    have h3 := Rel.one h1 r
    have : v.cells.toList = [v] := by cases v <;> first | rfl | simp [Value.oneCell'] at h3
    rw [this, h2]
    exact ⟨RelL.cons r RelL.nil, fun u hu => by simp at hu; subst hu; exact h3⟩
  by_cases ha : ∃ ds, s = .agg ds
  · obtain ⟨ds, rfl⟩ := ha
    simp only [SV.cells?] at h
    split at h
    · simp at h; subst h
      simp only [Rel] at r
      obtain ⟨vs, rfl, h2⟩ := r
      rename_i h1
      simp only [Value.cells]
      exact ⟨h2, RelL.one h1 h2⟩
    · cases h
  · have : s.cells? = if s.one = true then some [s] else none := by
      cases s <;> first | rfl | exact absurd ⟨_, rfl⟩ ha
    rw [this] at h
    split at h
    · simp at h; exact key (by assumption) h.symm
    · cases h
end
end Go.Sym
