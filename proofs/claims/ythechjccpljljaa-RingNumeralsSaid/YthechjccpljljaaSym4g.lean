/- The symbolic machine's own lists: one is made, or takes another's place. -/
import Derived.Test.YthechjccpljljaaSym4
namespace Go.Sym
open Go.RowKit

section
variable {P : Program} {at_ : At} {w w' : World} {M : List (Option Blk)}

def bornAt (at_ : At) (K : List Nat) (f : Nat) (x : GN) : At := ⟨at_.nm, at_.out, fun n => if n = f then x else if n ∈ K then (at_.gn n).kill else at_.gn n⟩
/-- Where the new list lies: nowhere; in a block that was a killed list's; in a new block. -/
def BornOK (at_ : At) (w w' : World) (K : List Nat) (x : GN) (l : LV) : Prop :=
  (x = .nil ∧ l.len = 0) ∨ ∃ g base cap, x = .live g base cap l.len ∧ GOK w' g base cap l ∧ g < w'.heap.size ∧ ((∃ b b' c k, b ∈ K ∧ at_.gn b = .live g b' c k) ∨ w.heap.size ≤ g)
structure Kept (w w' : World) (x : GN) : Prop where
  os : w'.os = w.os
  tape : w'.tape = w.tape
  output : w'.output = w.output
  size : w.heap.size ≤ w'.heap.size
  block : ∀ k, k < w.heap.size → (∀ base cap n, x ≠ .live k base cap n) → w'.heap[k]? = w.heap[k]?

theorem born_live {K : List Nat} {f : Nat} {x : GN} {n g b c k : Nat} (h : (bornAt at_ K f x).gn n = .live g b c k) : (n = f ∧ x = .live g b c k) ∨ (n ≠ f ∧ n ∉ K ∧ at_.gn n = .live g b c k) := by
  simp only [bornAt] at h
  split at h
  · exact .inl ⟨by assumption, h⟩
  · split at h
    · exact (GN.kill_live h).elim
    · exact .inr ⟨by assumption, by assumption, h⟩
/-- The new list's block is nobody's. -/
theorem BornOK.far (hM : MemOK at_ M w) {K : List Nat} {x : GN} {l : LV} (h : BornOK at_ w w' K x l) {g base cap n : Nat} (hx : x = .live g base cap n) :
    (∀ m, at_ m ≠ some g) ∧ (∀ m b c k, m ∉ K → at_.gn m ≠ .live g b c k) ∧ ¬ at_.out g := by
  rcases h with ⟨h, _⟩ | ⟨g', base', cap', h, _, _, h'⟩
  · rw [hx] at h; cases h
  · rw [hx] at h; cases h
    rcases h' with ⟨b, b', c, k, hb, hl⟩ | hs
    · refine ⟨fun m e => hM.gap m b g b' c k e hl, fun m b2 c2 k2 hm e => ?_, hM.gout b g b' c k hl⟩
      have := hM.ginj m b g _ _ _ _ _ _ e hl
      subst this; exact hm hb
    · refine ⟨fun m e => ?_, fun m b2 c2 k2 _ e => ?_, fun e => ?_⟩
      · have := (hM.dom m g e).1; omega
      · have := hM.gsz m g _ _ _ e; omega
      · have := hM.outlt g e; omega
theorem Later.born (hM : MemOK at_ M w) {K : List Nat} {f : Nat} {x : GN} {l : LV} (hf : M[f]? = some none) (hx : BornOK at_ w w' K x l) (hk : Kept w w' x) : Later at_ w (bornAt at_ K f x) w' := by
  obtain ⟨_, hun⟩ := hM.fresh_none hf
  refine ⟨hk.os, hk.tape, hk.output, hk.size, fun _ _ h => h, fun g hg hg' hlt => ⟨hg, fun n b c k e => ?_, hk.block g hlt fun base cap n e => ?_⟩, rfl, fun _ _ h => .inl h, fun n => ?_, fun n g b c k e => ?_⟩
  · rcases born_live e with ⟨_, e⟩ | ⟨_, _, e⟩
    · rcases hx with ⟨hx, _⟩ | ⟨g', base', cap', hx, _, _, h'⟩
      · rw [e] at hx; cases hx
      · rw [e] at hx; cases hx
        rcases h' with ⟨b, b', c, k, _, hl⟩ | hs
        · exact hg' _ _ _ _ hl
        · omega
    · exact hg' _ _ _ _ e
  · rcases hx with ⟨hx, _⟩ | ⟨g', base', cap', hx, _, _, h'⟩
    · rw [e] at hx; cases hx
    · rw [e] at hx; cases hx
      rcases h' with ⟨b, b', c, k, _, hl⟩ | hs
      · exact hg' _ _ _ _ hl
      · omega
  · by_cases hn : n = f
    · subst hn; exact .inl hun
    · by_cases hK : n ∈ K
      · exact .inr (.inr (by simp only [bornAt, hn, hK, if_false, if_true]))
      · exact .inr (.inl (by simp only [bornAt, hn, hK, if_false]))
  · rcases born_live e with ⟨_, e⟩ | ⟨_, _, e⟩
    · rcases hx with ⟨hx, _⟩ | ⟨g', base', cap', hx, _, _, h'⟩
      · rw [e] at hx; cases hx
      · rw [e] at hx; cases hx
        rcases h' with ⟨b, b', c, k, _, hl⟩ | hs
        · exact .inl ⟨b, b', c, k, hl⟩
        · exact .inr hs
    · exact .inl ⟨n, b, c, k, e⟩
/-- The memory behind it. -/
theorem MemOK.born (hM : MemOK at_ M w) {K : List Nat} {f : Nat} {x : GN} {l : LV} (hK : ∀ k ∈ K, ∃ l, M[k]? = some (some [.own l])) (hf : M[f]? = some none) (hx : BornOK at_ w w' K x l) (hk : Kept w w' x) :
    MemOK (bornAt at_ K f x) (applyWs M ((K.map fun k => (k, [])) ++ [(f, [.own l])])) w' := by
  have hl := Later.born hM hf hx hk
  obtain ⟨hnm, hun⟩ := hM.fresh_none hf
  have hlt : ∀ k ∈ K, k < M.length := fun k hk => by obtain ⟨l, h⟩ := hK k hk; exact (List.getElem?_eq_some_iff.1 h).1
  have hfK : f ∉ K := fun h => by obtain ⟨l, h'⟩ := hK f h; rw [hf] at h'; cases h'
  have hlen : ∀ ws (M : List (Option Blk)), (applyWs M ws).length = M.length := by
    intro ws
    induction ws with
    | nil => intro M; rfl
    | cons p ws ih => intro M; show (applyWs (M.set p.1 (some p.2)) ws).length = _; rw [ih, List.length_set]
  have get : ∀ n, (applyWs M ((K.map fun k => (k, [])) ++ [(f, [.own l])]))[n]? = if n = f then some (some [.own l]) else if n ∈ K then some (some []) else M[n]? := fun n => by
    have e : applyWs M ((K.map fun k => (k, [])) ++ [(f, [.own l])]) = (applyWs M (K.map fun k => (k, []))).set f (some [.own l]) := by
      simp only [applyWs, List.foldl_append, List.foldl_cons, List.foldl_nil]
    rw [e]
    by_cases hn : n = f
    · subst hn
      rw [List.getElem?_set_self (by rw [hlen]; exact (List.getElem?_eq_some_iff.1 hf).1), if_pos rfl]
    · rw [List.getElem?_set_ne (fun h => hn h.symm), applyWs_kill K M n hlt, if_neg hn]
  have old : ∀ n cs, M[n]? = some (some cs) → n ∉ K → (applyWs M ((K.map fun k => (k, [])) ++ [(f, [.own l])]))[n]? = some (some cs) := fun n cs h hn => by
    rw [get, if_neg (fun e => by subst e; rw [hf] at h; cases h), if_neg hn]; exact h
  refine ⟨fun n g cs e1 e => ?_, hM.inj, fun n g e => ⟨Nat.lt_of_lt_of_le (hM.dom n g e).1 hk.size, ?_⟩, fun g h => Nat.lt_of_lt_of_le (hM.outlt g h) hk.size, fun n l' e => ?_, fun n m g b c k b' c' k' e e' => ?_, fun n m g b c k e e' => ?_, fun n e => ?_, fun n g b c k e => ?_, fun n g b c k e => ?_⟩
  · have e1' : at_ n = some g := e1
    rw [get] at e
    split at e
    · rename_i hn; subst hn; rw [hnm] at e1'; cases e1'
    · split at e
      · rename_i hn
        obtain ⟨l2, h2⟩ := hK n hn
        obtain ⟨ty, vs, _, h3⟩ := hM.blk n g _ e1' h2
        exact (own_false h3 rfl).elim
      · obtain ⟨ty, vs, h1, h2⟩ := hM.blk n g cs e1' e
        exact ⟨ty, vs, (hk.block g (lt_of_heap h1) fun base cap m ex => (hx.far hM ex).1 n e1').trans h1, RelL.later hl _ _ h2⟩
  · obtain ⟨cs, h⟩ := (hM.dom n g e).2
    rw [get]
    split
    · exact ⟨_, rfl⟩
    · split
      · exact ⟨_, rfl⟩
      · exact ⟨cs, h⟩
  · rw [get] at e
    split at e
    · rename_i hn
      simp only [Option.some.injEq, List.cons.injEq, SV.own.injEq, and_true] at e
      subst e
      have hg : (bornAt at_ K f x).gn n = x := by simp only [bornAt, hn, if_true]
      rw [hg]
      rcases hx with h | ⟨g, base, cap, h1, h2, _⟩
      · exact .inl h
      · exact .inr ⟨g, base, cap, h1, h2⟩
    · split at e
      · cases e
      · rename_i hn hnK
        have hg : (bornAt at_ K f x).gn n = at_.gn n := by simp only [bornAt, hn, hnK, if_false]
        rw [hg]
        rcases hM.glk n l' e with k | ⟨g, b, c, k1, k2⟩
        · exact .inl k
        · exact .inr ⟨g, b, c, k1, k2.mono (hk.block g (hM.gsz _ _ _ _ _ k1) fun base cap m ex => (hx.far hM ex).2.1 n _ _ _ hnK k1)⟩
  · rcases born_live e with ⟨h1, h2⟩ | ⟨h1, h2, h3⟩ <;> rcases born_live e' with ⟨g1, g2⟩ | ⟨g1, g2, g3⟩
    · rw [h1, g1]
    · exact ((hx.far hM h2).2.1 m _ _ _ g2 g3).elim
    · exact ((hx.far hM g2).2.1 n _ _ _ h2 h3).elim
    · exact hM.ginj _ _ _ _ _ _ _ _ _ h3 g3
  · have e1' : at_ n = some g := e
    rcases born_live e' with ⟨_, h2⟩ | ⟨_, _, h3⟩
    · exact (hx.far hM h2).1 n e1'
    · exact hM.gap n m g b c k e1' h3
  · by_cases hn : n = f
    · exact ⟨[.own l], by rw [get, if_pos hn]⟩
    · rw [get, if_neg hn]
      by_cases hnK : n ∈ K
      · rw [if_pos hnK]; exact ⟨_, rfl⟩
      · rw [if_neg hnK]
        have hg : (bornAt at_ K f x).gn n = at_.gn n := by simp only [bornAt, hn, hnK, if_false]
        rw [hg] at e; exact hM.gdom n e
  · rcases born_live e with ⟨_, h2⟩ | ⟨_, _, h3⟩
    · rcases hx with ⟨hx, _⟩ | ⟨g', base', cap', hx, _, hs, _⟩
      · rw [h2] at hx; cases hx
      · rw [h2] at hx; cases hx; exact hs
    · exact Nat.lt_of_lt_of_le (hM.gsz n g b c k h3) hk.size
  · rcases born_live e with ⟨_, h2⟩ | ⟨_, _, h3⟩
    · exact (hx.far hM h2).2.2
    · exact hM.gout n g b c k h3

theorem fill_len (place : Nat → Option (Nat × Nat)) : ∀ (parts : List (Nat × SV)) (cells cs : List SV), fillL place cells parts = some cs → cs.length = cells.length
  | [], cells, cs, h => by simp only [fillL, Option.some.injEq] at h; rw [h]
  | (i, v) :: rest, cells, cs, h => by
    simp only [fillL] at h
    split at h
    · cases h
    · split at h
      · split at h
        · rename_i hc
          rw [fill_len place rest _ _ h]
          simp; omega
        · cases h
      · cases h
theorem seg_set {α : Type} (xs : List α) (base n j : Nat) (v : α) (hj : j < n) (hn : base + n ≤ xs.length) : ((xs.take (base + j) ++ [v] ++ xs.drop (base + j + 1)).drop base).take n = ((xs.drop base).take n).set j v := by
  have e : xs.take (base + j) ++ [v] ++ xs.drop (base + j + 1) = xs.set (base + j) v := by
    rw [List.set_eq_take_append_cons_drop, if_pos (by omega)]; simp
  rw [e]
  apply List.ext_getElem?
  intro q
  simp only [List.getElem?_take, List.getElem?_drop, List.getElem?_set, List.length_take, List.length_drop]
  by_cases hq : q < n
  · by_cases hjq : j = q
    · subst hjq
      rw [if_pos hq, if_pos rfl, if_pos (by omega), if_pos rfl, if_pos (by omega)]
    · rw [if_pos hq, if_neg (by omega), if_neg hjq, if_pos hq]
  · rw [if_neg hq, if_neg (by omega), if_neg hq]
/-- What a view is, whether its list is there or not. -/
theorem sl_any {b lo len : Nat} {v : Value} (r : Rel at_ w (.sl b lo len) v) :
    (lo = 0 ∧ len = 0 ∧ v = .slice none 0 0 ∧ at_.gn b = .nil) ∨ ∃ g base cap n ad, (at_.gn b).shape = some (g, base, cap, n) ∧ lo + len ≤ n ∧ n ≤ cap ∧ v = .slice ad len (cap - lo) ∧ (lo < cap → ad = some ⟨g, base + lo, none⟩) := by
  simp only [Rel] at r
  obtain ⟨r1, r2, r3, _⟩ := r
  cases hg : at_.gn b with
  | unborn => exact absurd hg r1
  | nil => obtain ⟨e1, e2, e3⟩ := r2 hg; exact .inl ⟨e1, e2, e3, rfl⟩
  | live g b c n => obtain ⟨h1, h0, ad, h2, h3⟩ := r3 g b c n (by rw [hg]; rfl); exact .inr ⟨g, b, c, n, ad, rfl, h1, h0, h2, h3⟩
  | dead g b c n => obtain ⟨h1, h0, ad, h2, h3⟩ := r3 g b c n (by rw [hg]; rfl); exact .inr ⟨g, b, c, n, ad, rfl, h1, h0, h2, h3⟩
/-- What a view of a list that is there is. -/
theorem sl_shape (hM : MemOK at_ M w) {b lo len : Nat} {l : LV} {v : Value} (hl : M[b]? = some (some [.own l])) (r : Rel at_ w (.sl b lo len) v) :
    (lo = 0 ∧ len = 0 ∧ l.len = 0 ∧ v = .slice none 0 0 ∧ at_.gn b = .nil) ∨ ∃ g base cap ad, at_.gn b = .live g base cap l.len ∧ GOK w g base cap l ∧ lo + len ≤ l.len ∧ l.len ≤ cap ∧ v = .slice ad len (cap - lo) ∧ (lo < cap → ad = some ⟨g, base + lo, none⟩) := by
  simp only [Rel] at r
  obtain ⟨_, r2, r3, _⟩ := r
  rcases hM.glk b l hl with ⟨k1, k2⟩ | ⟨g, base, c, k1, hG⟩
  · obtain ⟨e1, e2, e3⟩ := r2 k1
    exact .inl ⟨e1, e2, k2, e3, k1⟩
  · obtain ⟨h1, _, ad, h2, h3⟩ := r3 _ _ _ _ (by rw [k1]; rfl)
    obtain ⟨_, _, _, _, h4, _⟩ := id hG
    exact .inr ⟨g, base, c, ad, k1, hG, h1, h4, h2, h3⟩
/-! One of its cells. -/
theorem lp_ok (hM : MemOK at_ M w) {b j : Nat} {l : LV} {v : Value} (hl : M[b]? = some (some [.own l])) (r : Rel at_ w (.lp b j) v) :
    ∃ g base cap arr ty, at_.gn b = .live g base cap l.len ∧ j < l.len ∧ v = .pointer (some ⟨g, base + j, none⟩) ∧ w.heap[g]? = some (.cells arr ty (0, 0)) ∧ arr.size = base + cap ∧ l.len ≤ cap ∧ cap ≤ maxLen ∧ (arr.toList.drop base).take l.len = l.vals ∧ w.cell? ⟨g, base + j, none⟩ = l.vals[j]? := by
  simp only [Rel] at r
  obtain ⟨_, r2, r3, _⟩ := r
  rcases hM.glk b l hl with ⟨k1, _⟩ | ⟨g, base, c, k1, arr, ty, k2, k3, k4, k5, k6⟩
  · exact absurd k1 r2
  · obtain ⟨h1, h2⟩ := r3 _ _ _ _ (by rw [k1]; rfl)
    refine ⟨g, base, c, arr, ty, k1, h1, h2, k2, k3, k4, k5, k6, ?_⟩
    rw [cell_of_row w g _ _ ty (0, 0) k2, ← Array.getElem?_toList, ← k6, List.getElem?_take, if_pos h1, List.getElem?_drop]
theorem setAt_ok {l l' : LV} {j : Nat} {s : SV} {v : Value} (h : l.setAt j s = some l') (r : Rel at_ w s v) : l'.len = l.len ∧ l'.vals = l.vals.set j v ∧ v.cells.toList = [v] ∧ v.oneCell' = true := by
  unfold LV.setAt at h
  split at h <;> first
    | (cases h; done)
    | (simp only [Option.some.injEq] at h; subst h; simp only [Rel] at r; subst r
       refine ⟨by simp [LV.len], by simp [LV.vals, List.map_set], rfl, rfl⟩)
theorem Post.setOwn {b g base cap : Nat} {l l' : LV} {arr : Array Value} {sv : SV} {v : Value} (hM : MemOK at_ M w) (hb : M[b]? = some (some [.own l])) (hg : at_.gn b = .live g base cap l.len) (hlen : l'.len = l.len)
    (hG : GOK (w.setRow g arr) g base cap l') (hv : Rel at_ (w.setRow g arr) sv v) : Post at_ w M [(b, [.own l'])] sv v (w.setRow g arr) := by
  have hlt : b < M.length := (List.getElem?_eq_some_iff.1 hb).1
  have hl : Later at_ w at_ (w.setRow g arr) :=
    ⟨rfl, rfl, rfl, by simp, fun _ _ h => h, fun k hk hk' _ => ⟨hk, hk', setRow_other _ _ _ _ (fun e => hk' b base cap l.len (e ▸ hg))⟩, rfl, fun _ _ h => .inl h, fun _ => .inr (.inl rfl), fun n _ b c k h => .inl ⟨n, b, c, k, h⟩⟩
  have get : ∀ n, (applyWs M [(b, [.own l'])])[n]? = if n = b then some (some [.own l']) else M[n]? := fun n => by
    simp only [applyWs, List.foldl_cons, List.foldl_nil]
    by_cases hn : n = b
    · subst hn; rw [List.getElem?_set_self hlt, if_pos rfl]
    · rw [List.getElem?_set_ne (fun h => hn h.symm), if_neg hn]
  refine ⟨at_, hl, ⟨fun n k c h1 e => ?_, hM.inj, fun n k e => ?_, fun g h => by have := hM.outlt g h; simpa using this, fun n l2 e => ?_, hM.ginj, hM.gap, fun n e => ?_, fun n g' b' c k e => by have := hM.gsz n g' b' c k e; simpa using this, hM.gout⟩, hv⟩
  · rw [get] at e
    split at e
    · rename_i hn; subst hn
      obtain ⟨_, _, _, h3⟩ := hM.blk n k _ h1 hb
      exact (own_false h3 rfl).elim
    · obtain ⟨ty', vs', h2, h3⟩ := hM.blk n k c h1 e
      exact ⟨ty', vs', (setRow_other _ _ _ _ (fun e' => hM.gap n b g _ _ _ (by rw [h1, e']) hg)).trans h2, RelL.later hl _ _ h3⟩
  · obtain ⟨h1, c, h2⟩ := hM.dom n k e
    refine ⟨by simpa using h1, ?_⟩
    rw [get]; split
    · exact ⟨_, rfl⟩
    · exact ⟨c, h2⟩
  · rw [get] at e
    split at e
    · rename_i hn; subst hn
      simp only [Option.some.injEq, List.cons.injEq, SV.own.injEq, and_true] at e
      subst e
      exact .inr ⟨g, base, cap, by rw [hlen]; exact hg, hG⟩
    · rename_i hn
      rcases hM.glk n l2 e with k | ⟨g', b', c, k1, k2⟩
      · exact .inl k
      · exact .inr ⟨g', b', c, k1, k2.mono (setRow_other _ _ _ _ (fun e' => hn (hM.ginj n b g _ _ _ _ _ _ (by rw [k1, e']) hg)))⟩
  · obtain ⟨c, h2⟩ := hM.gdom n e
    rw [get]; split
    · exact ⟨_, rfl⟩
    · exact ⟨c, h2⟩
/-- A list in a new block. -/
theorem Post.ownNew {fresh c : Nat} {arr : Array Value} {l : LV} (ty : TypeId) (hM : MemOK at_ M w) (hf : M[fresh]? = some none) (hs : arr.size = c) (hle : l.len ≤ c) (hc : c ≤ maxLen) (hv : arr.toList.take l.len = l.vals) :
    Post at_ w M [(fresh, [.own l])] (.sl fresh 0 l.len) (.slice (some ⟨w.heap.size, 0, none⟩) l.len c) (w.alloc (.cells arr ty)) := by
  have hx : BornOK at_ w (w.alloc (.cells arr ty)) [] (.live w.heap.size 0 c l.len) l := .inr ⟨_, _, _, rfl, ⟨arr, ty, heap_alloc_new _ _, by omega, hle, hc, by simpa using hv⟩, by simp, .inr (Nat.le_refl _)⟩
  have hk : Kept w (w.alloc (.cells arr ty)) (.live w.heap.size 0 c l.len) := ⟨rfl, rfl, rfl, by simp, fun k hk _ => heap_alloc_old _ _ _ hk⟩
  refine ⟨bornAt at_ [] fresh (.live w.heap.size 0 c l.len), Later.born hM hf hx hk, hM.born (by simp) hf hx hk, ?_⟩
  have hg : (bornAt at_ [] fresh (.live w.heap.size 0 c l.len)).gn fresh = .live w.heap.size 0 c l.len := by simp only [bornAt, if_true]
  simp only [Rel, hg]
  refine ⟨by simp, by simp, fun g base cap n e => ?_, rfl⟩
  simp only [GN.shape, Option.some.injEq, Prod.mk.injEq] at e
  obtain ⟨rfl, rfl, rfl, rfl⟩ := e
  exact ⟨by omega, by omega, _, by rw [Nat.sub_zero], fun _ => by simp⟩
end
end Go.Sym
