/- The symbolic machine's operations are right: each of the model's operations. -/
import Derived.Test.YthechjccpljljaaSym3b
namespace Go.Sym
open Go.RowKit

section
variable {P : Program} {at_ : At} {w : World}
mutual
theorem Rel.noName {at' : At} (h : ∀ g, Fix at_ g → Fix at' g) : ∀ (s : SV) (v : Value), s.noName = true → Rel at_ w s v → Rel at' w s v
  | .i64 _, _, _, r => by simpa only [Rel] using r
  | .u64 _, _, _, r => by simpa only [Rel] using r
  | .u32 _, _, _, r => by simpa only [Rel] using r
  | .u8 _, _, _, r => by simpa only [Rel] using r
  | .bool _, _, _, r => by simpa only [Rel] using r
  | .val _, _, _, r => by simpa only [Rel] using r
  | .undef, _, _, r => by simpa only [Rel] using r
  | .any, _, _, _ => by simp only [Rel]
  | .ptr _ _, _, n, _ => by simp [SV.noName] at n
  | .slc _ _ _ _, _, n, _ => by simp [SV.noName] at n
  | .lst _, _, _, r => by
    simp only [Rel] at r ⊢
    obtain ⟨a, c, h1, h2, h3⟩ := r
    refine ⟨a, c, h1, h2, fun j u hj => ?_⟩
    obtain ⟨ad, e1, e2, e3⟩ := h3 j u hj
    exact ⟨ad, e1, h _ e2, e3⟩
  | .lel x, _, n, r => by
    simp only [Rel] at r ⊢
    simp only [SV.noName] at n
    obtain ⟨ad, u, h1, h2, h3, h4⟩ := r
    exact ⟨ad, u, h1, h _ h2, h3, Rel.noName h x u n h4⟩
  | .ro cs _, _, n, r => by
    simp only [Rel] at r ⊢
    simp only [SV.noName] at n
    obtain ⟨g, ty, fz, vs, h1, h2, h3, h4⟩ := r
    exact ⟨g, ty, fz, vs, h1, h _ h2, h3, RelL.noName h cs vs n h4⟩
  | .agg cs, _, n, r => by
    simp only [Rel] at r ⊢
    simp only [SV.noName] at n
    obtain ⟨vs, h1, h2⟩ := r
    exact ⟨vs, h1, RelL.noName h cs vs n h2⟩
  | .tup cs, _, n, r => by
    simp only [Rel] at r ⊢
    simp only [SV.noName] at n
    obtain ⟨vs, h1, h2⟩ := r
    exact ⟨vs, h1, RelL.noName h cs vs n h2⟩
  | .fn _ cs, _, n, r => by
    simp only [Rel] at r ⊢
    simp only [SV.noName] at n
    obtain ⟨vs, h1, h2⟩ := r
    exact ⟨vs, h1, RelL.noName h cs vs n h2⟩
theorem RelL.noName {at' : At} (h : ∀ g, Fix at_ g → Fix at' g) : ∀ (s : List SV) (v : List Value), noNameL s = true → RelL at_ w s v → RelL at' w s v
  | [], _, _, r => by simpa only [RelL] using r
  | c :: cs, _, n, r => by
    simp only [RelL] at r ⊢
    simp only [noNameL, Bool.and_eq_true] at n
    obtain ⟨v, vs, h1, h2, h3⟩ := r
    exact ⟨v, vs, h1, Rel.noName h c v n.1 h2, RelL.noName h cs vs n.2 h3⟩
end
theorem Rel.flat1 {at' : At} {w' : World} {s : SV} {v : Value} (h : s.flat1 = true) (r : Rel at_ w s v) : Rel at' w' s v := by
  cases s <;> simp only [SV.flat1] at h <;> first | (cases h; done) | simpa only [Rel] using r
mutual
theorem Rel.flat {at' : At} {w' : World} : ∀ (s : SV) (v : Value), s.flat = true → Rel at_ w s v → Rel at' w' s v
  | .i64 _, _, _, r => by simpa only [Rel] using r
  | .u64 _, _, _, r => by simpa only [Rel] using r
  | .u32 _, _, _, r => by simpa only [Rel] using r
  | .u8 _, _, _, r => by simpa only [Rel] using r
  | .bool _, _, _, r => by simpa only [Rel] using r
  | .val _, _, _, r => by simpa only [Rel] using r
  | .undef, _, n, _ => by simp [SV.flat, SV.flat1] at n
  | .any, _, n, _ => by simp [SV.flat, SV.flat1] at n
  | .ptr _ _, _, n, _ => by simp [SV.flat, SV.flat1] at n
  | .slc _ _ _ _, _, n, _ => by simp [SV.flat, SV.flat1] at n
  | .lst _, _, n, _ => by simp [SV.flat, SV.flat1] at n
  | .lel _, _, n, _ => by simp [SV.flat, SV.flat1] at n
  | .ro _ _, _, n, _ => by simp [SV.flat, SV.flat1] at n
  | .fn _ _, _, n, _ => by simp [SV.flat, SV.flat1] at n
  | .agg cs, _, n, r => by
    simp only [Rel] at r ⊢
    simp only [SV.flat] at n
    obtain ⟨vs, h1, h2⟩ := r
    exact ⟨vs, h1, RelL.flat cs vs n h2⟩
  | .tup cs, _, n, r => by
    simp only [Rel] at r ⊢
    simp only [SV.flat] at n
    obtain ⟨vs, h1, h2⟩ := r
    exact ⟨vs, h1, RelL.flat cs vs n h2⟩
theorem RelL.flat {at' : At} {w' : World} : ∀ (s : List SV) (v : List Value), flatL s = true → RelL at_ w s v → RelL at' w' s v
  | [], _, _, r => by simpa only [RelL] using r
  | c :: cs, _, n, r => by
    simp only [RelL] at r ⊢
    simp only [flatL, Bool.and_eq_true] at n
    obtain ⟨v, vs, h1, h2, h3⟩ := r
    exact ⟨v, vs, h1, Rel.flat c v n.1 h2, RelL.flat cs vs n.2 h3⟩
end

/-! Numbers in cells, as a list. -/
theorem asI64s_ok : ∀ {cs : List SV} {xs : List Int} {vs : List Value}, asI64s cs = some xs → RelL at_ w cs vs → vs = (LV.ints xs).vals
  | [], xs, vs, h, r => by
    simp only [asI64s, Option.some.injEq] at h; simp only [RelL] at r; subst h; subst r; rfl
  | c :: cs, xs, vs, h, r => by
    simp only [RelL] at r
    obtain ⟨v, vs', rfl, h2, h3⟩ := r
    cases c <;> simp only [asI64s] at h <;> try (cases h; done)
    cases hx : asI64s cs with
    | none => rw [hx] at h; cases h
    | some ys =>
      rw [hx] at h
      simp only [Option.map_some, Option.some.injEq] at h
      subst h
      simp only [Rel] at h2
      simp [h2, asI64s_ok hx h3, LV.vals]
theorem asU64s_ok : ∀ {cs : List SV} {xs : List UInt64} {vs : List Value}, asU64s cs = some xs → RelL at_ w cs vs → vs = (LV.words xs).vals
  | [], xs, vs, h, r => by
    simp only [asU64s, Option.some.injEq] at h; simp only [RelL] at r; subst h; subst r; rfl
  | c :: cs, xs, vs, h, r => by
    simp only [RelL] at r
    obtain ⟨v, vs', rfl, h2, h3⟩ := r
    cases c <;> simp only [asU64s] at h <;> try (cases h; done)
    cases hx : asU64s cs with
    | none => rw [hx] at h; cases h
    | some ys =>
      rw [hx] at h
      simp only [Option.map_some, Option.some.injEq] at h
      subst h
      simp only [Rel] at h2
      simp [h2, asU64s_ok hx h3, LV.vals]
theorem asU32s_ok : ∀ {cs : List SV} {xs : List UInt32} {vs : List Value}, asU32s cs = some xs → RelL at_ w cs vs → vs = (LV.halfs xs).vals
  | [], xs, vs, h, r => by
    simp only [asU32s, Option.some.injEq] at h; simp only [RelL] at r; subst h; subst r; rfl
  | c :: cs, xs, vs, h, r => by
    simp only [RelL] at r
    obtain ⟨v, vs', rfl, h2, h3⟩ := r
    cases c <;> simp only [asU32s] at h <;> try (cases h; done)
    cases hx : asU32s cs with
    | none => rw [hx] at h; cases h
    | some ys =>
      rw [hx] at h
      simp only [Option.map_some, Option.some.injEq] at h
      subst h
      simp only [Rel] at h2
      simp [h2, asU32s_ok hx h3, LV.vals]
theorem asU8s_ok : ∀ {cs : List SV} {xs : List UInt8} {vs : List Value}, asU8s cs = some xs → RelL at_ w cs vs → vs = (LV.bytes xs).vals
  | [], xs, vs, h, r => by
    simp only [asU8s, Option.some.injEq] at h; simp only [RelL] at r; subst h; subst r; rfl
  | c :: cs, xs, vs, h, r => by
    simp only [RelL] at r
    obtain ⟨v, vs', rfl, h2, h3⟩ := r
    cases c <;> simp only [asU8s] at h <;> try (cases h; done)
    cases hx : asU8s cs with
    | none => rw [hx] at h; cases h
    | some ys =>
      rw [hx] at h
      simp only [Option.map_some, Option.some.injEq] at h
      subst h
      simp only [Rel] at h2
      simp [h2, asU8s_ok hx h3, LV.vals]
theorem asLV_ok {cs : List SV} {l : LV} {vs : List Value} (h : asLV cs = some l) (r : RelL at_ w cs vs) : vs = l.vals := by
  unfold asLV at h
  split at h
  · obtain ⟨xs, hx, e⟩ := Option.map_eq_some_iff.1 h; subst e; exact asI64s_ok hx r
  · obtain ⟨xs, hx, e⟩ := Option.map_eq_some_iff.1 h; subst e; exact asU64s_ok hx r
  · obtain ⟨xs, hx, e⟩ := Option.map_eq_some_iff.1 h; subst e; exact asU32s_ok hx r
  · obtain ⟨xs, hx, e⟩ := Option.map_eq_some_iff.1 h; subst e; exact asU8s_ok hx r
  · cases h

/-- Nobody has a name. -/
def noAt : At := ⟨fun _ => none, fun _ => False⟩
theorem Fix.noAt (g : Nat) : Fix noAt g := ⟨fun n h => by simp [Sym.noAt] at h, fun h => h⟩

variable {M : List (Option Blk)} {look : Nat → Option Blk}
/-- An argument, lent. -/
theorem lend_ok (hM : MemOK at_ M w) (hlook : ∀ n cs, look n = some cs → M[n]? = some (some cs)) {s s' : SV} {v : Value} {b : Bool} (h : lend look s = some (s', b)) (r : Rel at_ w s v) :
    (b = true → s' = s) ∧ (s'.noName = true → Rel noAt w s' v) := by
  have triv : s' = s → (b = true → s' = s) ∧ (s'.noName = true → Rel noAt w s' v) := fun e => by
    subst e; exact ⟨fun _ => rfl, fun hn => Rel.noName (fun g _ => Fix.noAt g) _ _ hn r⟩
  unfold lend at h
  split at h
  · rename_i b' off
    obtain ⟨cs, hc, e⟩ := Option.map_eq_some_iff.1 h
    simp only [Prod.mk.injEq] at e
    obtain ⟨rfl, rfl⟩ := e
    refine ⟨fun hb => by (cases hb), fun hn => ?_⟩
    simp only [SV.noName] at hn
    simp only [Rel] at r ⊢
    obtain ⟨g, h1, h2⟩ := r
    obtain ⟨g', ty, vs, h3, h4, h5⟩ := hM.blk _ _ (hlook _ _ hc)
    rw [h1] at h3; cases h3
    exact ⟨g, ty, (0, 0), vs, h2, Fix.noAt g, h4, RelL.noName (fun g _ => Fix.noAt g) _ _ hn h5⟩
  · rename_i b' off len cap
    obtain ⟨cs, hc, h⟩ := Option.bind_eq_some_iff.1 h
    split at h
    · rename_i hcond
      obtain ⟨c1, c2, c3⟩ := hcond
      obtain ⟨l, hl, e⟩ := Option.map_eq_some_iff.1 h
      simp only [Prod.mk.injEq] at e
      obtain ⟨rfl, rfl⟩ := e
      refine ⟨fun hb => by (cases hb), fun _ => ?_⟩
      simp only [Rel] at r ⊢
      obtain ⟨g, h1, h2⟩ := r
      obtain ⟨g', ty, vs, h3, h4, h5⟩ := hM.blk _ _ (hlook _ _ hc)
      rw [h1] at h3; cases h3
      have h6 := asLV_ok hl ((h5.drop off).take len)
      have hlen := h5.length
      have hll : l.len = len := by rw [← LV.len_vals, ← h6]; simp; omega
      refine ⟨_, _, by rw [hll]; exact h2, by omega, fun j u hj => ⟨_, rfl, Fix.noAt _, ?_⟩⟩
      rw [addr_add, cell_of_row w g _ _ ty (0, 0) h4]
      rw [← h6, List.getElem?_take] at hj
      split at hj
      · simpa using hj
      · cases hj
    · cases h
  · cases h
  · cases h
  · simp only [Option.some.injEq, Prod.mk.injEq] at h; exact triv h.1.symm
theorem lendL_ok (hM : MemOK at_ M w) (hlook : ∀ n cs, look n = some cs → M[n]? = some (some cs)) : ∀ {s s' : List SV} {v : List Value} {b : Bool}, lendL look s = some (s', b) → RelL at_ w s v →
    (b = true → s' = s) ∧ (noNameL s' = true → RelL noAt w s' v)
  | [], s', v, b, h, r => by
    simp only [lendL, Option.some.injEq, Prod.mk.injEq] at h
    obtain ⟨rfl, rfl⟩ := h
    exact ⟨fun _ => rfl, fun _ => by simpa only [RelL] using r⟩
  | c :: cs, s', v, b, h, r => by
    simp only [RelL] at r
    obtain ⟨u, us, rfl, h2, h3⟩ := r
    simp only [lendL] at h
    cases h4 : lend look c with
    | none => simp only [h4] at h; cases h
    | some p =>
      obtain ⟨c', b1⟩ := p
      cases h5 : lendL look cs with
      | none => simp only [h4, h5] at h; cases h
      | some q =>
        obtain ⟨cs', b2⟩ := q
        simp only [h4, h5, Option.some.injEq, Prod.mk.injEq] at h
        obtain ⟨rfl, rfl⟩ := h
        obtain ⟨k1, k2⟩ := lend_ok hM hlook h4 h2
        obtain ⟨k3, k4⟩ := lendL_ok hM hlook h5 h3
        refine ⟨fun hb => ?_, fun hn => ?_⟩
        · simp only [Bool.and_eq_true] at hb; rw [k1 hb.1, k3 hb.2]
        · simp only [noNameL, Bool.and_eq_true] at hn; exact RelL.cons (k2 hn.1) (k4 hn.2)
end
end Go.Sym
