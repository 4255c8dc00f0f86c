/- The symbolic machine's operations are right: each of the model's operations. -/
import Derived.Test.YthechjccpljljaaSym3b
namespace Go.Sym
open Go.RowKit

section
variable {P : Program} {at_ : At} {w : World}
mutual
theorem Rel.noName {at' : At} (h : ∀ g, Fix at_ g → Fix at' g) : ∀ (s : SV) (v : Value), s.noName = true → Rel at_ w s v → Rel at' w s v
  | .i64 _, _, _, r => by simpa only [Rel] using r
  | .u64 _, _, _, r => by simpa only [Rel] using r
  | .u32 _, _, _, r => by simpa only [Rel] using r
  | .u8 _, _, _, r => by simpa only [Rel] using r
  | .bool _, _, _, r => by simpa only [Rel] using r
  | .val _, _, _, r => by simpa only [Rel] using r
  | .undef, _, _, r => by simpa only [Rel] using r
  | .any, _, _, _ => by simp only [Rel]
  | .ptr _ _, _, n, _ => by simp [SV.noName] at n
  | .slc _ _ _ _, _, n, _ => by simp [SV.noName] at n
  | .sl _ _ _, _, n, _ => by simp [SV.noName] at n
  | .lp _ _, _, n, _ => by simp [SV.noName] at n
  | .own _, _, _, r => by simp only [Rel] at r
  | .lst _, _, _, r => by
    simp only [Rel] at r ⊢
    obtain ⟨a, c, h1, h2, h3⟩ := r
    refine ⟨a, c, h1, h2, fun j u hj => ?_⟩
    obtain ⟨ad, e1, e2, e3⟩ := h3 j u hj
    exact ⟨ad, e1, h _ e2, e3⟩
  | .lel x, _, n, r => by
    simp only [Rel] at r ⊢
    simp only [SV.noName] at n
    obtain ⟨ad, u, h1, h2, h3, h4⟩ := r
    exact ⟨ad, u, h1, h _ h2, h3, Rel.noName h x u n h4⟩
  | .ro cs _, _, n, r => by
    simp only [Rel] at r ⊢
    simp only [SV.noName] at n
    obtain ⟨g, ty, fz, vs, h1, h2, h3, h4⟩ := r
    exact ⟨g, ty, fz, vs, h1, h _ h2, h3, RelL.noName h cs vs n h4⟩
  | .agg cs, _, n, r => by
    simp only [Rel] at r ⊢
    simp only [SV.noName] at n
    obtain ⟨vs, h1, h2⟩ := r
    exact ⟨vs, h1, RelL.noName h cs vs n h2⟩
  | .tup cs, _, n, r => by
    simp only [Rel] at r ⊢
    simp only [SV.noName] at n
    obtain ⟨vs, h1, h2⟩ := r
    exact ⟨vs, h1, RelL.noName h cs vs n h2⟩
  | .fn _ cs, _, n, r => by
    simp only [Rel] at r ⊢
    simp only [SV.noName] at n
    obtain ⟨vs, h1, h2⟩ := r
    exact ⟨vs, h1, RelL.noName h cs vs n h2⟩
theorem RelL.noName {at' : At} (h : ∀ g, Fix at_ g → Fix at' g) : ∀ (s : List SV) (v : List Value), noNameL s = true → RelL at_ w s v → RelL at' w s v
  | [], _, _, r => by simpa only [RelL] using r
  | c :: cs, _, n, r => by
    simp only [RelL] at r ⊢
    simp only [noNameL, Bool.and_eq_true] at n
    obtain ⟨v, vs, h1, h2, h3⟩ := r
    exact ⟨v, vs, h1, Rel.noName h c v n.1 h2, RelL.noName h cs vs n.2 h3⟩
end
theorem Rel.flat1 {at' : At} {w' : World} {s : SV} {v : Value} (h : s.flat1 = true) (r : Rel at_ w s v) : Rel at' w' s v := by
  cases s <;> simp only [SV.flat1] at h <;> first | (cases h; done) | simpa only [Rel] using r
mutual
theorem Rel.flat {at' : At} {w' : World} : ∀ (s : SV) (v : Value), s.flat = true → Rel at_ w s v → Rel at' w' s v
  | .i64 _, _, _, r => by simpa only [Rel] using r
  | .u64 _, _, _, r => by simpa only [Rel] using r
  | .u32 _, _, _, r => by simpa only [Rel] using r
  | .u8 _, _, _, r => by simpa only [Rel] using r
  | .bool _, _, _, r => by simpa only [Rel] using r
  | .val _, _, _, r => by simpa only [Rel] using r
  | .undef, _, n, _ => by simp [SV.flat, SV.flat1] at n
  | .any, _, n, _ => by simp [SV.flat, SV.flat1] at n
  | .ptr _ _, _, n, _ => by simp [SV.flat, SV.flat1] at n
  | .slc _ _ _ _, _, n, _ => by simp [SV.flat, SV.flat1] at n
  | .sl _ _ _, _, n, _ => by simp [SV.flat, SV.flat1] at n
  | .lp _ _, _, n, _ => by simp [SV.flat, SV.flat1] at n
  | .own _, _, n, _ => by simp [SV.flat, SV.flat1] at n
  | .lst _, _, n, _ => by simp [SV.flat, SV.flat1] at n
  | .lel _, _, n, _ => by simp [SV.flat, SV.flat1] at n
  | .ro _ _, _, n, _ => by simp [SV.flat, SV.flat1] at n
  | .fn _ _, _, n, _ => by simp [SV.flat, SV.flat1] at n
  | .agg cs, _, n, r => by
    simp only [Rel] at r ⊢
    simp only [SV.flat] at n
    obtain ⟨vs, h1, h2⟩ := r
    exact ⟨vs, h1, RelL.flat cs vs n h2⟩
  | .tup cs, _, n, r => by
    simp only [Rel] at r ⊢
    simp only [SV.flat] at n
    obtain ⟨vs, h1, h2⟩ := r
    exact ⟨vs, h1, RelL.flat cs vs n h2⟩
theorem RelL.flat {at' : At} {w' : World} : ∀ (s : List SV) (v : List Value), flatL s = true → RelL at_ w s v → RelL at' w' s v
  | [], _, _, r => by simpa only [RelL] using r
  | c :: cs, _, n, r => by
    simp only [RelL] at r ⊢
    simp only [flatL, Bool.and_eq_true] at n
    obtain ⟨v, vs, h1, h2, h3⟩ := r
    exact ⟨v, vs, h1, Rel.flat c v n.1 h2, RelL.flat cs vs n.2 h3⟩
end

/-! Numbers in cells, as a list. -/
theorem asI64s_ok : ∀ {cs : List SV} {xs : List Int} {vs : List Value}, asI64s cs = some xs → RelL at_ w cs vs → vs = (LV.ints xs).vals
  | [], xs, vs, h, r => by
    simp only [asI64s, Option.some.injEq] at h; simp only [RelL] at r; subst h; subst r; rfl
  | c :: cs, xs, vs, h, r => by
    simp only [RelL] at r
    obtain ⟨v, vs', rfl, h2, h3⟩ := r
    cases c <;> simp only [asI64s] at h <;> try (cases h; done)
    cases hx : asI64s cs with
    | none => rw [hx] at h; cases h
    | some ys =>
      rw [hx] at h
      simp only [Option.map_some, Option.some.injEq] at h
      subst h
      simp only [Rel] at h2
      simp [h2, asI64s_ok hx h3, LV.vals]
theorem asU64s_ok : ∀ {cs : List SV} {xs : List UInt64} {vs : List Value}, asU64s cs = some xs → RelL at_ w cs vs → vs = (LV.words xs).vals
  | [], xs, vs, h, r => by
    simp only [asU64s, Option.some.injEq] at h; simp only [RelL] at r; subst h; subst r; rfl
  | c :: cs, xs, vs, h, r => by
    simp only [RelL] at r
    obtain ⟨v, vs', rfl, h2, h3⟩ := r
    cases c <;> simp only [asU64s] at h <;> try (cases h; done)
    cases hx : asU64s cs with
    | none => rw [hx] at h; cases h
    | some ys =>
      rw [hx] at h
      simp only [Option.map_some, Option.some.injEq] at h
      subst h
      simp only [Rel] at h2
      simp [h2, asU64s_ok hx h3, LV.vals]
theorem asU32s_ok : ∀ {cs : List SV} {xs : List UInt32} {vs : List Value}, asU32s cs = some xs → RelL at_ w cs vs → vs = (LV.halfs xs).vals
  | [], xs, vs, h, r => by
    simp only [asU32s, Option.some.injEq] at h; simp only [RelL] at r; subst h; subst r; rfl
  | c :: cs, xs, vs, h, r => by
    simp only [RelL] at r
    obtain ⟨v, vs', rfl, h2, h3⟩ := r
    cases c <;> simp only [asU32s] at h <;> try (cases h; done)
    cases hx : asU32s cs with
    | none => rw [hx] at h; cases h
    | some ys =>
      rw [hx] at h
      simp only [Option.map_some, Option.some.injEq] at h
      subst h
      simp only [Rel] at h2
      simp [h2, asU32s_ok hx h3, LV.vals]
theorem asU8s_ok : ∀ {cs : List SV} {xs : List UInt8} {vs : List Value}, asU8s cs = some xs → RelL at_ w cs vs → vs = (LV.bytes xs).vals
  | [], xs, vs, h, r => by
    simp only [asU8s, Option.some.injEq] at h; simp only [RelL] at r; subst h; subst r; rfl
  | c :: cs, xs, vs, h, r => by
    simp only [RelL] at r
    obtain ⟨v, vs', rfl, h2, h3⟩ := r
    cases c <;> simp only [asU8s] at h <;> try (cases h; done)
    cases hx : asU8s cs with
    | none => rw [hx] at h; cases h
    | some ys =>
      rw [hx] at h
      simp only [Option.map_some, Option.some.injEq] at h
      subst h
      simp only [Rel] at h2
      simp [h2, asU8s_ok hx h3, LV.vals]
theorem asLV_ok {cs : List SV} {l : LV} {vs : List Value} (h : asLV cs = some l) (r : RelL at_ w cs vs) : vs = l.vals := by
  unfold asLV at h
  split at h
  · obtain ⟨xs, hx, e⟩ := Option.map_eq_some_iff.1 h; subst e; exact asI64s_ok hx r
  · obtain ⟨xs, hx, e⟩ := Option.map_eq_some_iff.1 h; subst e; exact asU64s_ok hx r
  · obtain ⟨xs, hx, e⟩ := Option.map_eq_some_iff.1 h; subst e; exact asU32s_ok hx r
  · obtain ⟨xs, hx, e⟩ := Option.map_eq_some_iff.1 h; subst e; exact asU8s_ok hx r
  · cases h

/-- Nobody has a name. -/
def noAt : At := ⟨fun _ => none, fun _ => False, fun _ => .unborn⟩
theorem Fix.noAt (g : Nat) : Fix noAt g := ⟨fun n h => by simp [Sym.noAt] at h, fun h => h, fun _ _ _ _ h => by simp [Sym.noAt] at h⟩

theorem LV.len_cut (l : LV) (lo hi : Nat) (h : hi ≤ l.len) : (l.cut lo hi).len = hi - lo := by
  cases l <;> simp [LV.cut, LV.len] at * <;> omega
theorem LV.vals_cut (l : LV) (lo hi : Nat) : (l.cut lo hi).vals = (l.vals.take hi).drop lo := by
  cases l <;> simp [LV.cut, LV.vals]

/-- Own lists given up. -/
def killAt (at_ : At) (K : List Nat) : At := ⟨at_.nm, at_.out, fun n => if n ∈ K then (at_.gn n).kill else at_.gn n⟩
theorem killAt_live {at_ : At} {K : List Nat} {n g b c k : Nat} (h : (killAt at_ K).gn n = .live g b c k) : n ∉ K ∧ at_.gn n = .live g b c k := by
  simp only [killAt] at h
  split at h
  · exact (GN.kill_live h).elim
  · rename_i hn; exact ⟨hn, h⟩
theorem Later.kill (at_ : At) (w : World) (K : List Nat) : Later at_ w (killAt at_ K) w :=
  ⟨rfl, rfl, rfl, Nat.le_refl _, fun _ _ h => h, fun g h h' _ => ⟨h, fun n b c k e => h' n b c k (killAt_live e).2, rfl⟩, rfl, fun _ _ h => .inl h,
   fun n => by
    by_cases hn : n ∈ K
    · exact .inr (.inr (by simp only [killAt, hn, if_true]))
    · exact .inr (.inl (by simp only [killAt, hn, if_false])),
   fun n g b c k e => .inl ⟨n, b, c, k, (killAt_live e).2⟩⟩
theorem applyWs_kill : ∀ (K : List Nat) (M : List (Option Blk)) (n : Nat), (∀ k ∈ K, k < M.length) → (applyWs M (K.map fun k => (k, [])))[n]? = if n ∈ K then some (some []) else M[n]?
  | [], M, n, _ => by simp [applyWs]
  | k :: K, M, n, h => by
    have ih := applyWs_kill K (M.set k (some [])) n (fun x hx => by rw [List.length_set]; exact h x (by simp [hx]))
    have e : applyWs M ((k :: K).map fun k => (k, [])) = applyWs (M.set k (some [])) (K.map fun k => (k, [])) := rfl
    rw [e, ih]
    by_cases hn : n ∈ K
    · simp [hn]
    · by_cases hk : n = k
      · subst hk; simp [hn, h n (by simp)]
      · simp [hn, hk, List.getElem?_set_ne (fun e => hk e.symm)]
theorem MemOK.kill {M : List (Option Blk)} (hM : MemOK at_ M w) {K : List Nat} (hK : ∀ k ∈ K, ∃ l, M[k]? = some (some [.own l])) : MemOK (killAt at_ K) (applyWs M (K.map fun k => (k, []))) w := by
  have hlt : ∀ k ∈ K, k < M.length := fun k hk => by obtain ⟨l, h⟩ := hK k hk; exact (List.getElem?_eq_some_iff.1 h).1
  have hl := Later.kill at_ w K
  refine ⟨fun n g cs e1 e => ?_, hM.inj, fun n g e => ⟨(hM.dom n g e).1, ?_⟩, hM.outlt, fun n l e => ?_, fun n m g b c k b' c' k' e e' => hM.ginj n m g b c k b' c' k' (killAt_live e).2 (killAt_live e').2, fun n m g b c k e e' => hM.gap n m g b c k e (killAt_live e').2,
    fun n e => ?_, fun n g b c k e => hM.gsz n g b c k (killAt_live e).2, fun n g b c k e => hM.gout n g b c k (killAt_live e).2⟩
  · rw [applyWs_kill K M n hlt] at e
    split at e
    · rename_i hn
      obtain ⟨l, hl'⟩ := hK n hn
      obtain ⟨ty, vs, _, h2⟩ := hM.blk n g _ e1 hl'
      exact (own_false h2 rfl).elim
    · obtain ⟨ty, vs, h1, h2⟩ := hM.blk n g cs e1 e
      exact ⟨ty, vs, h1, RelL.later hl _ _ h2⟩
  · rw [applyWs_kill K M n hlt]
    split
    · exact ⟨_, rfl⟩
    · exact (hM.dom n g e).2
  · rw [applyWs_kill K M n hlt] at e
    split at e
    · cases e
    · rename_i hn
      have : (killAt at_ K).gn n = at_.gn n := by simp only [killAt, hn, if_false]
      rw [this]; exact hM.glk n l e
  · rw [applyWs_kill K M n hlt]
    split
    · exact ⟨_, rfl⟩
    · rename_i hn
      have : (killAt at_ K).gn n = at_.gn n := by simp only [killAt, hn, if_false]
      rw [this] at e; exact hM.gdom n e
/-- What an own list's view reads as, once the list is nobody's to write. -/
theorem sl_lst {at' : At} {M : List (Option Blk)} (hM : MemOK at_ M w) {b lo len : Nat} {l : LV} {v : Value} (hl : M[b]? = some (some [.own l])) (r : Rel at_ w (.sl b lo len) v)
    (hfix : ∀ g b' c k, at_.gn b = .live g b' c k → Fix at' g) : Rel at' w (.lst (l.cut lo (lo + len))) v ∧ lo + len ≤ l.len := by
  simp only [Rel] at r ⊢
  obtain ⟨r1, r2, r3, _⟩ := r
  rcases hM.glk b l hl with ⟨k1, k2⟩ | ⟨g, base, c, k1, arr, ty, k2, k3, k4, k5, k6⟩
  · obtain ⟨rfl, rfl, rfl⟩ := r2 k1
    have hz : (l.cut 0 (0 + 0)).len = 0 := by rw [LV.len_cut _ _ _ (by omega)]
    refine ⟨⟨none, 0, by rw [hz], by omega, fun j u hj => ?_⟩, by omega⟩
    have := List.eq_nil_of_length_eq_zero (show (l.cut 0 (0 + 0)).vals.length = 0 by rw [LV.len_vals, hz])
    rw [this] at hj; simp at hj
  · obtain ⟨h1, _, ad, h2, h3⟩ := r3 _ _ _ _ (by rw [k1]; rfl)
    have hcl : (l.cut lo (lo + len)).len = len := by rw [LV.len_cut _ _ _ h1]; omega
    refine ⟨⟨ad, c - lo, by rw [hcl]; exact h2, by omega, fun j u hj => ?_⟩, h1⟩
    rw [LV.vals_cut, List.getElem?_drop, List.getElem?_take] at hj
    split at hj
    · rename_i hlt
      refine ⟨_, h3 (by omega), hfix _ _ _ _ k1, ?_⟩
      rw [addr_add, cell_of_row w g _ _ ty (0, 0) k2, ← Array.getElem?_toList]
      rw [← k6, List.getElem?_take, List.getElem?_drop] at hj
      split at hj
      · rw [← hj]; congr 1; omega
      · cases hj
    · cases hj

variable {M : List (Option Blk)} {look : Nat → Option Blk}
/-- An argument, lent. -/
theorem lend_ok (hM : MemOK at_ M w) (hlook : ∀ n cs, look n = some cs → M[n]? = some (some cs)) {s s' : SV} {v : Value} {ks : List Nat} {fx : Bool} (h : lend look s = some (s', ks, fx)) (r : Rel at_ w s v) :
    (∀ k ∈ ks, ∃ l, M[k]? = some (some [.own l])) ∧ (s'.noName = true → Rel noAt w s' v) ∧ (fx = false → ∀ K, (∀ k ∈ ks, k ∈ K) → Rel (killAt at_ K) w s' v) := by
  have triv : s' = s → ks = [] → (∀ k ∈ ks, ∃ l, M[k]? = some (some [.own l])) ∧ (s'.noName = true → Rel noAt w s' v) ∧ (fx = false → ∀ K, (∀ k ∈ ks, k ∈ K) → Rel (killAt at_ K) w s' v) := fun e e2 => by
    subst e; subst e2; exact ⟨by simp, fun hn => Rel.noName (fun g _ => Fix.noAt g) _ _ hn r, fun _ K _ => Rel.later (Later.kill _ _ _) _ _ r⟩
  unfold lend at h
  split at h
  · rename_i b' off
    obtain ⟨cs, hc, e⟩ := Option.map_eq_some_iff.1 h
    simp only [Prod.mk.injEq] at e
    obtain ⟨rfl, rfl, rfl⟩ := e
    refine ⟨by simp, fun hn => ?_, fun hb => by cases hb⟩
    simp only [SV.noName] at hn
    simp only [Rel] at r ⊢
    obtain ⟨g, h1, h2⟩ := r
    obtain ⟨ty, vs, h4, h5⟩ := hM.blk _ _ _ h1 (hlook _ _ hc)
    exact ⟨g, ty, (0, 0), vs, h2, Fix.noAt g, h4, RelL.noName (fun g _ => Fix.noAt g) _ _ hn h5⟩
  · rename_i b' off len cap
    obtain ⟨cs, hc, h⟩ := Option.bind_eq_some_iff.1 h
    split at h
    · rename_i hcond
      obtain ⟨c1, c2, c3⟩ := hcond
      obtain ⟨l, hl, e⟩ := Option.map_eq_some_iff.1 h
      simp only [Prod.mk.injEq] at e
      obtain ⟨rfl, rfl, rfl⟩ := e
      refine ⟨by simp, fun _ => ?_, fun hb => by cases hb⟩
      simp only [Rel] at r ⊢
      obtain ⟨g, h1, h2⟩ := r
      obtain ⟨ty, vs, h4, h5⟩ := hM.blk _ _ _ h1 (hlook _ _ hc)
      have h6 := asLV_ok hl ((h5.drop off).take len)
      have hlen := h5.length
      have hll : l.len = len := by rw [← LV.len_vals, ← h6]; simp; omega
      refine ⟨_, _, by rw [hll]; exact h2, by omega, fun j u hj => ⟨_, rfl, Fix.noAt _, ?_⟩⟩
      rw [addr_add, cell_of_row w g _ _ ty (0, 0) h4]
      rw [← h6, List.getElem?_take] at hj
      split at hj
      · simpa using hj
      · cases hj
    · cases h
  · rename_i b' lo len
    split at h
    · rename_i l hl
      simp only [Option.some.injEq, Prod.mk.injEq] at h
      obtain ⟨rfl, rfl, rfl⟩ := h
      have hl' := hlook _ _ hl
      refine ⟨by simp [hl'], fun _ => (sl_lst hM hl' r (fun g _ _ _ _ => Fix.noAt g)).1, fun _ K hK => ?_⟩
      refine (sl_lst hM hl' r (fun g b2 c k e => ?_)).1
      refine ⟨fun n e' => hM.gap n _ g _ _ _ e' e, hM.gout _ _ _ _ _ e, fun n b3 c3 k3 e' => ?_⟩
      obtain ⟨e1, e2⟩ := killAt_live e'
      have := hM.ginj _ _ _ _ _ _ _ _ _ e2 e
      subst this
      exact e1 (hK _ (by simp))
    · cases h
  · cases h
  · cases h
  · cases h
  · cases h
  · simp only [Option.some.injEq, Prod.mk.injEq] at h; exact triv h.1.symm h.2.1.symm
theorem lendL_ok (hM : MemOK at_ M w) (hlook : ∀ n cs, look n = some cs → M[n]? = some (some cs)) : ∀ {s s' : List SV} {v : List Value} {ks : List Nat} {fx : Bool}, lendL look s = some (s', ks, fx) → RelL at_ w s v →
    (∀ k ∈ ks, ∃ l, M[k]? = some (some [.own l])) ∧ (noNameL s' = true → RelL noAt w s' v) ∧ (fx = false → ∀ K, (∀ k ∈ ks, k ∈ K) → RelL (killAt at_ K) w s' v)
  | [], s', v, ks, fx, h, r => by
    simp only [lendL, Option.some.injEq, Prod.mk.injEq] at h
    obtain ⟨rfl, rfl, rfl⟩ := h
    exact ⟨by simp, fun _ => by simpa only [RelL] using r, fun _ _ _ => by simpa only [RelL] using r⟩
  | c :: cs, s', v, ks, fx, h, r => by
    simp only [RelL] at r
    obtain ⟨u, us, rfl, h2, h3⟩ := r
    simp only [lendL] at h
    cases h4 : lend look c with
    | none => simp only [h4] at h; cases h
    | some p =>
      obtain ⟨c', k1, b1⟩ := p
      cases h5 : lendL look cs with
      | none => simp only [h4, h5] at h; cases h
      | some q =>
        obtain ⟨cs', k2, b2⟩ := q
        simp only [h4, h5, Option.some.injEq, Prod.mk.injEq] at h
        obtain ⟨rfl, rfl, rfl⟩ := h
        obtain ⟨l1, l2, l3⟩ := lend_ok hM hlook h4 h2
        obtain ⟨m1, m2, m3⟩ := lendL_ok hM hlook h5 h3
        refine ⟨fun k hk => ?_, fun hn => ?_, fun hf K hK => ?_⟩
        · rcases List.mem_append.1 hk with hk | hk
          · exact l1 k hk
          · exact m1 k hk
        · simp only [noNameL, Bool.and_eq_true] at hn; exact RelL.cons (l2 hn.1) (m2 hn.2)
        · simp only [Bool.or_eq_false_iff] at hf
          exact RelL.cons (l3 hf.1 K (fun k hk => hK k (by simp [hk]))) (m3 hf.2 K (fun k hk => hK k (by simp [hk])))
end
end Go.Sym
