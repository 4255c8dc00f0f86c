/- The symbolic machine: append. -/
import Derived.Test.YthechjccpljljaaSym7
import Derived.Laws.AppendOwn
namespace Go.Sym
open Go.RowKit

section
variable {P : Program} {w : World}
/-- With room, from any place of a block. -/
theorem append_room_off (t ty e : TypeId) (i : TypeInfo) (ht : P.underlying t = some (.slice e)) (hi : P.info? e = some i)
    (g off sLen sCap : Nat) (cur : Array Value) (ty' : TypeId) (hg : w.heap[g]? = some (.cells cur ty' (0, 0)))
    (a : Addr) (m c : Nat) (news : List Value) (hl : news.length = m * i.size) (hnews : ∀ j u, news[j]? = some u → w.cell? (a.add j) = some u) (h1 : ∀ u ∈ news, u.oneCell' = true)
    (hroom : sLen + m ≤ sCap) (hfit : off + sLen * i.size + news.length ≤ cur.size) :
    (Builtin.append_ #[t, t] ty #[.slice (some ⟨g, off, none⟩) sLen sCap, .slice (some a) m c]).run P w =
      .ok (.slice (some ⟨g, off, none⟩) (sLen + m) sCap) (w.setRow g (cur.toList.take (off + sLen * i.size) ++ news ++ cur.toList.drop (off + sLen * i.size + news.length)).toArray) := by
  have hf := run_firstCells_some (P := P) w i.size m a m c news hl hnews
  have hst := run_storeCells_at P g (off + sLen * i.size) ty' news 0 cur w hg (by simpa using hfit) h1
  simp only [Nat.add_zero] at hst
  simp [Builtin.append_, run_underlying ht, sizeOf, typeInfo, hi, Builtin.lenOf, hroom, hf, addr_add, hst]
/-- Nothing is appended. -/
theorem append_nothing (t ty e : TypeId) (i : TypeInfo) (ht : P.underlying t = some (.slice e)) (hi : P.info? e = some i) (ad ad' : Option Addr) (n cap c : Nat) (hn : n ≤ cap) :
    (Builtin.append_ #[t, t] ty #[.slice ad n cap, .slice ad' 0 c]).run P w = .ok (.slice ad n cap) w := by
  cases ad <;> cases ad' <;> simp [Builtin.append_, run_underlying ht, sizeOf, typeInfo, hi, Builtin.lenOf, hn, Builtin.firstCells, loadCells, loadCellsFrom, storeCells]

variable {at_ : At} {M : List (Option Blk)} {look : Nat → Option Blk} {tt : TT}
theorem vals_one (l : LV) : ∀ u ∈ l.vals, u.oneCell' = true := by
  intro u hu
  cases l <;> (simp only [LV.vals, List.mem_map] at hu; obtain ⟨_, _, rfl⟩ := hu; rfl)
theorem app_ok {a b c : LV} (h : a.app b = some c) : c.vals = a.vals ++ b.vals ∧ c.len = a.len + b.len := by
  unfold LV.app at h
  split at h <;> first
    | (cases h; done)
    | (simp only [Option.some.injEq] at h; subst h; exact ⟨by simp [LV.vals], by simp [LV.len]⟩)
theorem rep_zero {k : IntKind} {l : LV} (h : LV.rep k 0 = some l) : l.vals = [] ∧ l.len = 0 := by
  unfold LV.rep at h
  split at h <;> first
    | (cases h; done)
    | (simp only [Option.some.injEq] at h; subst h; exact ⟨rfl, rfl⟩)
theorem rowOf_ok (hM : MemOK at_ M w) (hlook : ∀ n cs, look n = some cs → M[n]? = some (some cs)) {k : IntKind} {s : SV} {l : LV} {v : Value} (h : rowOf look k s = some l) (r : Rel at_ w s v) :
    ∃ ad c, v = .slice ad l.len c ∧ ∀ (j : Nat) u, l.vals[j]? = some u → ∃ a, ad = some a ∧ w.cell? (a.add j) = some u := by
  unfold rowOf at h
  split at h
  · simp only [Rel] at r
    obtain ⟨h1, h2⟩ := rep_zero h
    exact ⟨none, 0, by rw [h2]; exact r, fun j u hj => by rw [h1] at hj; simp at hj⟩
  · split at h
    · rename_i l' ks fx hl
      simp only [Option.some.injEq] at h; subst h
      have := (lend_ok hM hlook hl r).2.1 rfl
      simp only [Rel] at this
      obtain ⟨ad, c, h1, _, h3⟩ := this
      exact ⟨ad, c, h1, fun j u hj => by obtain ⟨a, e1, _, e3⟩ := h3 j u hj; exact ⟨a, e1, e3⟩⟩
    · cases h
/-- In a new block. -/
theorem Post.grown {K : List Nat} {fresh c : Nat} {arr : Array Value} {l : LV} (ty : TypeId) (hM : MemOK at_ M w) (hK : ∀ k ∈ K, ∃ l, M[k]? = some (some [.own l])) (hf : M[fresh]? = some none) (hs : arr.size = c) (hle : l.len ≤ c) (hc : c ≤ maxLen) (hv : arr.toList.take l.len = l.vals) :
    Post at_ w M ((K.map fun k => (k, [])) ++ [(fresh, [.own l])]) (.sl fresh 0 l.len) (.slice (some ⟨w.heap.size, 0, none⟩) l.len c) (w.drew.alloc (.cells arr ty)) := by
  have hx : BornOK at_ w (w.drew.alloc (.cells arr ty)) K (.live w.heap.size 0 c l.len) l := .inr ⟨_, _, _, rfl, ⟨arr, ty, heap_alloc_new w.drew _, by omega, hle, hc, by simpa using hv⟩, by simp, .inr (Nat.le_refl _)⟩
  have hk : Kept w (w.drew.alloc (.cells arr ty)) (.live w.heap.size 0 c l.len) := ⟨rfl, rfl, rfl, by simp, fun k hk _ => heap_alloc_old w.drew _ k hk⟩
  refine ⟨bornAt at_ K fresh (.live w.heap.size 0 c l.len), Later.born hM hf hx hk, hM.born hK hf hx hk, ?_⟩
  have hg : (bornAt at_ K fresh (.live w.heap.size 0 c l.len)).gn fresh = .live w.heap.size 0 c l.len := by simp only [bornAt, if_true]
  simp only [Rel, hg]
  refine ⟨by simp, by simp, fun g base cap n e => ?_, rfl⟩
  simp only [GN.shape, Option.some.injEq, Prod.mk.injEq] at e
  obtain ⟨rfl, rfl, rfl, rfl⟩ := e
  exact ⟨by omega, by omega, _, by rw [Nat.sub_zero], fun _ => by simp⟩
/-- Of no cells. -/
theorem Post.bare {K : List Nat} {fresh : Nat} {l : LV} (hM : MemOK at_ M w) (hK : ∀ k ∈ K, ∃ l, M[k]? = some (some [.own l])) (hf : M[fresh]? = some none) (hl : l.len = 0) :
    Post at_ w M ((K.map fun k => (k, [])) ++ [(fresh, [.own l])]) (.sl fresh 0 l.len) (.slice none 0 0) w := by
  have hx : BornOK at_ w w K .nil l := .inl ⟨rfl, hl⟩
  have hk : Kept w w .nil := ⟨rfl, rfl, rfl, Nat.le_refl _, fun _ _ _ => rfl⟩
  refine ⟨bornAt at_ K fresh .nil, Later.born hM hf hx hk, hM.born hK hf hx hk, ?_⟩
  have hg : (bornAt at_ K fresh .nil).gn fresh = .nil := by simp only [bornAt, if_true]
  simp only [Rel, hg, hl]
  exact ⟨by simp, by simp, by simp [GN.shape], rfl⟩
/-- In the block where it was. -/
theorem Post.stay {b fresh g base cap n base' cap' : Nat} {l : LV} {ad : Option Addr} {w' : World} (hM : MemOK at_ M w) {l0 : LV} (hb : M[b]? = some (some [.own l0])) (hgn : at_.gn b = .live g base cap n) (hf : M[fresh]? = some none)
    (hG : GOK w' g base' cap' l) (hgs : g < w'.heap.size) (hk : Kept w w' (.live g base' cap' l.len)) (had : 0 < cap' → ad = some ⟨g, base', none⟩) :
    Post at_ w M [(b, []), (fresh, [.own l])] (.sl fresh 0 l.len) (.slice ad l.len cap') w' := by
  have hx : BornOK at_ w w' [b] (.live g base' cap' l.len) l := .inr ⟨_, _, _, rfl, hG, hgs, .inl ⟨b, _, _, _, by simp, hgn⟩⟩
  refine ⟨bornAt at_ [b] fresh (.live g base' cap' l.len), Later.born hM hf hx hk, hM.born (by simp [hb]) hf hx hk, ?_⟩
  have hg : (bornAt at_ [b] fresh (.live g base' cap' l.len)).gn fresh = .live g base' cap' l.len := by simp only [bornAt, if_true]
  simp only [Rel, hg]
  refine ⟨by simp, by simp, fun g2 base2 cap2 n2 e => ?_, rfl⟩
  simp only [GN.shape, Option.some.injEq, Prod.mk.injEq] at e
  obtain ⟨rfl, rfl, rfl, rfl⟩ := e
  obtain ⟨_, _, _, _, hle, _⟩ := hG
  exact ⟨by omega, hle, ad, by rw [Nat.sub_zero], fun h => by rw [had h, Nat.add_zero]⟩

theorem drop_take_set {α : Type} (xs news : List α) (k m : Nat) (hk : k + news.length ≤ xs.length) (base n : Nat) (hb : base + n = k) (hm : m = n + news.length) :
    ((xs.take k ++ news ++ xs.drop (k + news.length)).drop base).take m = (xs.drop base).take n ++ news := by
  subst hm; subst hb
  apply List.ext_getElem?
  intro q
  simp only [List.getElem?_take, List.getElem?_drop, List.getElem?_append, List.length_append, List.length_take, List.length_drop]
  by_cases h1 : q < n
  · rw [if_pos (by omega), if_pos (by omega), if_pos (by omega), if_pos (by omega), if_pos (by omega), if_pos h1]
  · by_cases h2 : q < n + news.length
    · rw [if_pos h2, if_pos (by omega), if_neg (by omega), if_neg (by omega)]
      congr 1; omega
    · rw [if_neg h2, if_neg (by omega), List.getElem?_eq_none (by omega)]

theorem ok_append (hT : TTOK P tt) (hM : MemOK at_ M w) (hlook : ∀ n cs, look n = some cs → M[n]? = some (some cs)) {fresh : Nat} (hf : M[fresh]? = some none) {x y : SV} {t : TypeId} {out : Out} (h : coreAppend tt look fresh x y t = some out) (hp : out.ok)
    {vx vy : Value} (rx : Rel at_ w x vx) (ry : Rel at_ w y vy) (ty : TypeId) : ∃ v w', (Builtin.append_ #[t, t] ty #[vx, vy]).run P w = .ok v w' ∧ Post at_ w M out.ws out.sv v w' := by
  unfold coreAppend at h
  split at h
  · rename_i e _ _ _ heq
    split at h
    · rename_i k by_ z heq'
      split at h
      · rename_i hby
        split at h
        · rename_i ny hny
          have hu := (hT _ _ heq).slice rfl
          obtain ⟨xi, zv, i1, i2, i3, i4, i5⟩ := (hT _ _ heq').ti
          simp only at i4 i5
          have hzs : zv.cells.size = 1 := by have := congrArg List.length i3; simpa using this
          obtain ⟨ad2, c2, rfl, hcells⟩ := rowOf_ok hM hlook hny ry
          -- onto nothing
          have onNil : ∀ (K : List Nat) (l' : LV), (∀ k ∈ K, ∃ l, M[k]? = some (some [.own l])) → l'.vals = ny.vals → l'.len = ny.len → l'.len ≤ appLim →
              ∃ v w', (Builtin.append_ #[t, t] ty #[.slice none 0 0, .slice ad2 ny.len c2]).run P w = .ok v w' ∧ Post at_ w M ((K.map fun k => (k, [])) ++ [(fresh, [.own l'])]) (.sl fresh 0 l'.len) v w' := by
            intro K l' hK e1 e2 e3
            by_cases hm : ny.len = 0
            · rw [hm]
              exact ⟨_, _, append_nothing t ty e xi hu i1 none ad2 0 0 c2 (Nat.le_refl _), Post.bare hM hK hf (by omega)⟩
            · have hl := ny.len_vals
              obtain ⟨u, hu0⟩ : ∃ u, ny.vals[0]? = some u := ⟨_, List.getElem?_eq_getElem (by omega)⟩
              obtain ⟨a, rfl, _⟩ := hcells 0 u hu0
              have hcell : ∀ (j : Nat) u, ny.vals[j]? = some u → w.cell? (a.add j) = some u := fun j u hj => by obtain ⟨a', ea, h'⟩ := hcells j u hj; cases ea; exact h'
              have hlim : ny.len ≤ 17592186044416 := by rw [← e2]; exact e3
              have hr := run_append_nil (P := P) w t ty e xi zv hu i1 i2 a ny.len c2 ny.vals (by rw [i4, Nat.mul_one]; exact hl) hcell (by omega) (by omega) (by rw [i5]; have := Nat.mul_le_mul hlim hby; omega)
              have hge := grownCap_ge w ny.len 0 e
              have hcm := grownCap_le_maxLen w ny.len 0 e (by unfold maxLen; omega)
              refine ⟨_, _, hr, ?_⟩
              have := Post.grown (fresh := fresh) (l := l') (c := grownCap w ny.len 0 e) (arr := ny.vals.toArray ++ Builtin.zeroCells zv.cells (grownCap w ny.len 0 e - ny.len)) e hM hK hf
                (by simp only [Array.size_append, List.size_toArray, size_zeroCells, hzs, hl]; omega) (by omega) hcm (by rw [e1, e2]; simp only [Array.toList_append]; rw [← hl]; exact List.take_left)
              rw [e2] at this ⊢
              exact this
          split at h
          · split at h
            · rename_i l0 hl0
              split at h
              · rename_i l' hl'
                simp only [Option.some.injEq] at h; subst h
                simp only [Rel] at rx
                obtain ⟨z1, z2⟩ := rep_zero hl0
                obtain ⟨a1, a2⟩ := app_ok hl'
                subst rx
                exact onNil [] l' (by simp) (by rw [a1, z1]; rfl) (by omega) hp
              · cases h
            · cases h
          · rename_i b lo len
            split at h
            · rename_i l hl
              split at h
              · rename_i l' hl'
                simp only [Option.some.injEq] at h; subst h
                have hb := hlook _ _ hl
                obtain ⟨p1, p2⟩ := hp
                obtain ⟨a1, a2⟩ := app_ok hl'
                rw [LV.vals_cut] at a1
                rw [LV.len_cut _ _ _ (Nat.le_refl _)] at a2
                have hlv := l.len_vals
                rcases sl_shape hM hb rx with ⟨e1, e2, e3, e4, e5⟩ | ⟨g, base, cap, ad, k1, ⟨arr, ty', g1, g2, g3, g4, g5⟩, k2, k3, k4, k5⟩
                · rw [e4]
                  have hv0 : l.vals = [] := List.eq_nil_of_length_eq_zero (by omega)
                  have := onNil [b] l' (by simp [hb]) (by rw [a1, hv0]; simp) (by omega) p2
                  exact this
                · rw [k4]
                  have hlen' : l'.len = len + ny.len := by omega
                  have hlim : l'.len ≤ 17592186044416 := p2
                  have hgs : g < w.heap.size := lt_of_heap g1
                  have hold : (arr.toList.drop (base + lo)).take len = l.vals.drop lo := by
                    rw [← g5, List.drop_take, List.drop_drop]
                    congr 1; omega
                  have hvals' : l'.vals = l.vals.drop lo ++ ny.vals := by rw [a1, List.take_of_length_le (by omega)]
                  by_cases hm : ny.len = 0
                  · rw [hm]
                    refine ⟨_, _, append_nothing t ty e xi hu i1 ad ad2 len (cap - lo) c2 (by omega), ?_⟩
                    have hnv : ny.vals = [] := List.eq_nil_of_length_eq_zero (by rw [ny.len_vals]; exact hm)
                    have := Post.stay (b := b) (fresh := fresh) (g := g) (base' := base + lo) (cap' := cap - lo) (l := l') (ad := ad) (w' := w) hM hb k1 hf ⟨arr, ty', g1, by omega, by omega, by omega, by rw [hlen', hm, Nat.add_zero, hold, hvals', hnv, List.append_nil]⟩ hgs ⟨rfl, rfl, rfl, Nat.le_refl _, fun _ _ _ => rfl⟩ (fun h => k5 (by omega))
                    rw [hlen', hm, Nat.add_zero] at this
                    rw [hlen', hm, Nat.add_zero]
                    exact this
                  · have hnl := ny.len_vals
                    obtain ⟨u, hu0⟩ : ∃ u, ny.vals[0]? = some u := ⟨_, List.getElem?_eq_getElem (by omega)⟩
                    obtain ⟨a, rfl, _⟩ := hcells 0 u hu0
                    have hcell : ∀ (j : Nat) u, ny.vals[j]? = some u → w.cell? (a.add j) = some u := fun j u hj => by obtain ⟨a', ea, h'⟩ := hcells j u hj; cases ea; exact h'
                    have hal : arr.toList.length = base + cap := by simp [g2]
                    by_cases hroom : len + ny.len ≤ cap - lo
                    · rw [k5 (by omega)]
                      have hr := append_room_off (P := P) (w := w) t ty e xi hu i1 g (base + lo) len (cap - lo) arr ty' g1 a ny.len c2 ny.vals (by rw [i4, Nat.mul_one]; exact hnl) hcell (vals_one ny) hroom (by rw [i4, Nat.mul_one, hnl]; omega)
                      refine ⟨_, _, hr, ?_⟩
                      rw [i4, Nat.mul_one]
                      have := Post.stay (b := b) (fresh := fresh) (g := g) (base' := base + lo) (cap' := cap - lo) (l := l') (ad := some ⟨g, base + lo, none⟩) (w' := w.setRow g (arr.toList.take (base + lo + len) ++ ny.vals ++ arr.toList.drop (base + lo + len + ny.vals.length)).toArray) hM hb k1 hf
                        ⟨_, ty', setRow_heap _ _ _ _ _ _ g1, by simp [hnl]; omega, by omega, by omega, by
                          rw [hvals', ← hold]
                          exact drop_take_set arr.toList ny.vals (base + lo + len) l'.len (by omega) (base + lo) len rfl (by omega)⟩ (by simpa using hgs)
                        ⟨rfl, rfl, rfl, by simp, fun q _ hq => setRow_other _ _ _ _ (fun e => by subst e; exact hq _ _ _ rfl)⟩ (fun _ => rfl)
                      rw [hlen'] at this ⊢
                      exact this
                    · have hge := grownCap_ge w (len + ny.len) (cap - lo) e
                      have hcm := grownCap_le_maxLen w (len + ny.len) (cap - lo) e (by unfold maxLen; omega)
                      have fin : Post at_ w M [(b, []), (fresh, [.own l'])] (.sl fresh 0 l'.len) (.slice (some ⟨w.heap.size, 0, none⟩) (len + ny.len) (grownCap w (len + ny.len) (cap - lo) e))
                          (w.drew.alloc (.cells ((l.vals.drop lo).toArray ++ ny.vals.toArray ++ Builtin.zeroCells zv.cells (grownCap w (len + ny.len) (cap - lo) e - (len + ny.len))) e)) := by
                        have hdl : (l.vals.drop lo).length = len := by rw [List.length_drop]; omega
                        have := Post.grown (K := [b]) (fresh := fresh) (l := l') (c := grownCap w (len + ny.len) (cap - lo) e) (arr := (l.vals.drop lo).toArray ++ ny.vals.toArray ++ Builtin.zeroCells zv.cells (grownCap w (len + ny.len) (cap - lo) e - (len + ny.len))) e hM (by simp [hb]) hf
                          (by simp only [Array.size_append, List.size_toArray, size_zeroCells, hzs, hnl, hdl]; omega) (by omega) hcm (by
                            rw [hvals']; simp only [Array.toList_append]
                            have : l'.len = (l.vals.drop lo ++ ny.vals).length := by rw [List.length_append, hdl, hnl, hlen']
                            rw [this]; exact List.take_left)
                        rw [hlen'] at this ⊢
                        exact this
                      have hdl : (l.vals.drop lo).length = len := by rw [List.length_drop]; omega
                      have hb8 : (len + ny.len) * xi.bytes ≤ 140737488355328 := by rw [i5]; have := Nat.mul_le_mul (show len + ny.len ≤ 17592186044416 by omega) hby; omega
                      have grow : ∀ a0 : Addr, (∀ (j : Nat) v, (l.vals.drop lo)[j]? = some v → w.cell? (a0.add j) = some v) →
                          ∃ v w', (Builtin.append_ #[t, t] ty #[.slice (some a0) len (cap - lo), .slice (some a) ny.len c2]).run P w = .ok v w' ∧ Post at_ w M [(b, []), (fresh, [.own l'])] (.sl fresh 0 l'.len) v w' := fun a0 h0 =>
                        ⟨_, _, run_append_grow (P := P) w t ty e xi zv hu i1 i2 a0 len (cap - lo) (l.vals.drop lo) (by rw [i4, Nat.mul_one]; exact hdl) h0 a ny.len c2 ny.vals (by rw [i4, Nat.mul_one]; exact hnl) hcell (by omega) (by omega) (growslice_fits (by omega) hb8), fin⟩
                      by_cases hlo : lo < cap
                      · rw [k5 hlo]
                        refine grow _ fun j v hj => ?_
                        rw [addr_add, cell_of_row w g _ _ ty' (0, 0) g1, ← Array.getElem?_toList]
                        rw [← hold, List.getElem?_take, List.getElem?_drop] at hj
                        split at hj
                        · exact hj
                        · cases hj
                      · have hl0 : len = 0 := by omega
                        have hc0 : cap - lo = 0 := by omega
                        have hv0 : l.vals.drop lo = [] := List.eq_nil_of_length_eq_zero (by omega)
                        cases ad with
                        | some a0 => exact grow a0 (fun j v hj => by rw [hv0] at hj; simp at hj)
                        | none =>
                          rw [hl0, hc0] at fin ⊢
                          rw [hv0] at fin
                          have hr := run_append_nil (P := P) w t ty e xi zv hu i1 i2 a ny.len c2 ny.vals (by rw [i4, Nat.mul_one]; exact hnl) hcell (by omega) (by omega) (by rw [hl0, Nat.zero_add] at hb8; omega)
                          refine ⟨_, _, hr, ?_⟩
                          simpa using fin
              · cases h
            · cases h
          · cases h
        · cases h
      · cases h
    · cases h
  · cases h
end
end Go.Sym
