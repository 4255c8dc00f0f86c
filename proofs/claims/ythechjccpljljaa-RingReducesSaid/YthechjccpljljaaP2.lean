/- The symbolic machine: operations, regions, code. -/
import Derived.Test.YthechjccpljljaaP1
import Derived.Laws.AppendOwn
import Derived.Laws.MakeOwn
/- The symbolic machine's operations are right: all of them. -/
namespace Go.Sym
open Go.RowKit

section
variable {P : Program} {at_ : At} {w : World} {M : List (Option Blk)} {look : Nat → Option Blk} {tt : TT} {sp : Specs} {fresh : Nat} {ρ : Operand → SV} {ev : Operand → Value}

theorem target_ok (hM : MemOK at_ M w) (hlook : ∀ n cs, look n = some cs → M[n]? = some (some cs)) {s : SV} {v : Value} {cs : Blk} {off : Nat} (h : target look s = some (cs, off)) (r : Rel at_ w s v) :
    ∃ g ty fz vs, v = .pointer (some ⟨g, off, none⟩) ∧ w.heap[g]? = some (.cells (List.toArray vs) ty fz) ∧ RelL at_ w cs vs := by
  unfold target at h
  split at h
  · obtain ⟨cs', hc, e⟩ := Option.map_eq_some_iff.1 h
    simp only [Prod.mk.injEq] at e
    obtain ⟨rfl, rfl⟩ := e
    simp only [Rel] at r
    obtain ⟨g, h1, h2⟩ := r
    obtain ⟨ty, vs, h4, h5⟩ := hM.blk _ _ _ h1 (hlook _ _ hc)
    exact ⟨g, ty, _, vs, h2, h4, h5⟩
  · simp only [Option.some.injEq, Prod.mk.injEq] at h
    obtain ⟨rfl, rfl⟩ := h
    simp only [Rel] at r
    obtain ⟨g, ty, fz, vs, h1, _, h3, h4⟩ := r
    exact ⟨g, ty, fz, vs, h1, h3, h4⟩
  · cases h

theorem loadVar_ok {t : TypeId} {i : TI} (hi : TIOK P t i) {cs : Blk} {off g : Nat} {ty : TypeId} {fz : Nat × Nat} {vs : List Value} {out : Out} (hg : w.heap[g]? = some (.cells (List.toArray vs) ty fz)) (hr : RelL at_ w cs vs)
    (h : ldAt i.d.agg i.size (some (cs, off)) = some out) : ∃ v, (loadVar t ⟨g, off, none⟩).run P w = .ok v w ∧ Rel at_ w out.sv v ∧ out.ws = [] := by
  unfold ldAt at h
  simp only at h
  split at h
  · rename_i ha
    split at h
    · simp only [mk, Option.some.injEq] at h; subst h
      have hl := hr.length
      exact ⟨_, run_loadVar_cells hi hg ha (by omega), by simp only [Rel]; exact ⟨_, rfl, (hr.drop off).take _⟩, rfl⟩
    · cases h
  · rename_i ha
    cases hc : cs[off]? with
    | none => rw [hc] at h; cases h
    | some c =>
      rw [hc] at h
      simp only [mk?, Option.some.injEq] at h; subst h
      obtain ⟨u, h1, h2⟩ := hr.get off c hc
      refine ⟨u, run_loadVar_one hi ?_ (by simpa using ha), h2, rfl⟩
      rw [cell_of_row w g off _ ty fz hg]; simpa using h1

theorem part_ok {t : TypeId} {i : TI} (hi : TIOK P t i) {cs : List SV} {off : Nat} {vs : List Value} {out : Out} (hr : RelL at_ w cs vs)
    (h : ldAt i.d.agg i.size (some (cs, off)) = some out) : ∃ v, (part t (List.toArray vs) off).run P w = .ok v w ∧ Rel at_ w out.sv v ∧ out.ws = [] := by
  unfold ldAt at h
  simp only at h
  split at h
  · rename_i ha
    split at h
    · simp only [mk, Option.some.injEq] at h; subst h
      exact ⟨_, run_part_agg hi ha, by simp only [Rel]; exact ⟨_, rfl, (hr.drop off).take _⟩, rfl⟩
    · cases h
  · rename_i ha
    cases hc : cs[off]? with
    | none => rw [hc] at h; cases h
    | some c =>
      rw [hc] at h
      simp only [mk?, Option.some.injEq] at h; subst h
      obtain ⟨u, h1, h2⟩ := hr.get off c hc
      exact ⟨u, run_part_one hi (by simpa using ha) (by simpa using h1), h2, rfl⟩

/-- A value is come to, and nothing is written. -/
theorem Outcome.value {r : Sem Next} {v : Value} {sv : SV} (hM : MemOK at_ M w) (h : r.run P w = .ok (.value v) w) (hr : Rel at_ w sv v) : Outcome P (r.run P w) (Post at_ w M [] sv) := by
  rw [h]; exact Post.same hM hr
theorem Outcome.valueS {r : Sem Value} {v : Value} {sv : SV} (hM : MemOK at_ M w) (h : r.run P w = .ok v w) (hr : Rel at_ w sv v) : Outcome P ((do pure (Next.value (← r)) : Sem Next).run P w) (Post at_ w M [] sv) := by
  refine Outcome.value (v := v) hM ?_ hr
  simp only [Sem.run_bind, h, Result.andThen_ok, Sem.run_pure]

theorem toI_ok {s : SV} {v : Value} {n : Int} (h : s.toI = some n) (r : Rel at_ w s v) : ∃ k, v = .int k n := by
  cases s <;> simp only [SV.toI] at h <;> simp only [Rel] at r <;> first | (cases h; done) | (simp only [Option.some.injEq] at h; subst h; exact ⟨_, r⟩)

theorem LV.get_at (l : LV) (i : Nat) (h : i < l.len) : ∃ u, l.vals[i]? = some u ∧ ∀ (at_ : At) (w : World), Rel at_ w (l.at_ i) u := by
  cases l <;> simp only [LV.len] at h <;> simp only [LV.vals, LV.at_, Rel, List.getElem?_map, List.getElem?_eq_getElem h, Option.map_some, Option.some.injEq, List.getD_eq_getElem?_getD, Option.getD_some, exists_eq_left', implies_true]

theorem parts_rel (parts : Array (Nat × Operand)) (hρ : ∀ x, Rel at_ w (ρ x) (ev x)) : ((parts.map fun (i, x) => (i, ev x)).toList.map (·.1)) = ((parts.toList.map fun p => (p.1, ρ p.2)).map (·.1)) ∧
    ∀ (i : Nat) (p : Nat × SV) (q : Nat × Value), (parts.toList.map fun p => (p.1, ρ p.2))[i]? = some p → (parts.map fun (i, x) => (i, ev x)).toList[i]? = some q → Rel at_ w p.2 q.2 := by
  refine ⟨by simp [Function.comp_def], fun i p q h1 h2 => ?_⟩
  simp only [Array.toList_map, List.getElem?_map, Option.map_eq_some_iff] at h1 h2
  obtain ⟨a, ha, rfl⟩ := h1
  obtain ⟨b, hb, rfl⟩ := h2
  rw [ha] at hb; cases hb
  exact hρ _

end

theorem places_ok {P : Program} {tt : TT} (hT : TTOK P tt) (w : World) : ∀ {F : List Field} {pl : List (Nat × Nat)}, placesT tt (F.map fun f => (f.offset, f.type)) = some pl →
    (F.mapM (m := Sem) fun f => do pure (f.offset, ← sizeOf f.type)).run P w = .ok pl w
  | [], pl, h => by simp only [List.map_nil, placesT, Option.some.injEq] at h; subst h; simp
  | f :: F, pl, h => by
    simp only [List.map_cons, placesT] at h
    cases h1 : sizeT tt f.type with
    | none => rw [h1] at h; cases h
    | some s =>
      rw [h1] at h
      cases h2 : placesT tt (F.map fun f => (f.offset, f.type)) with
      | none => rw [h2] at h; cases h
      | some r =>
        rw [h2] at h
        simp only [Option.some.injEq] at h
        subst h
        unfold sizeT at h1
        obtain ⟨j, hj, rfl⟩ := Option.map_eq_some_iff.1 h1
        simp only [List.mapM_cons, Sem.run_bind, (hT _ _ hj).sizeOf, Result.andThen_ok, Sem.run_pure, places_ok hT w h2]

section
variable {P : Program} {at_ : At} {w : World} {M : List (Option Blk)} {look : Nat → Option Blk} {tt : TT} {sp : Specs} {fresh : Nat} {ρ : Operand → SV} {ev : Operand → Value}
variable (hT : TTOK P tt) (hS : SpecsOK P sp) (hM : MemOK at_ M w) (hlook : ∀ n cs, look n = some cs → M[n]? = some (some cs)) (hf : M[fresh]? = some none) (hρ : ∀ x, Rel at_ w (ρ x) (ev x))
include hT hM hρ

theorem ok_build {t : TypeId} {parts : Array (Nat × Operand)} {out : Out} (h : core tt sp look fresh ρ (.build t parts) = some out) :
    Outcome P ((do pure (Next.value (← Instr.build t (parts.map fun (i, x) => (i, ev x)))) : Sem Next).run P w) (Post at_ w M out.ws out.sv) := by
  obtain ⟨hp1, hp2⟩ := parts_rel (at_ := at_) (w := w) (ρ := ρ) (ev := ev) parts hρ
  simp only [core] at h
  split at h
  · rename_i fs size bytes zero heq
    have hi := hT _ _ heq
    obtain ⟨F, hF, hFs⟩ := hi.struct rfl
    obtain ⟨x, z, h1, h2, h3, h4, h5⟩ := hi.ti
    split at h
    · rename_i pl hpl
      split at h
      · rename_i cs hfill
        simp only [mk, Option.some.injEq] at h; subst h
        obtain ⟨vout, g1, g2⟩ := fill_ok _ _ _ _ _ hfill (RelL.ofV at_ w zero) hp1 hp2
        refine Outcome.valueS (v := .agg (List.toArray vout)) hM ?_ (by simp only [Rel]; exact ⟨_, rfl, g2⟩)
        have hz : z.cells = List.toArray zero := by have := congrArg List.toArray h3; simpa using this
        rw [← hFs] at hpl
        have hplaces := places_ok hT w hpl
        simp only [Instr.build, zeroValue, Sem.run_bind, typeInfo, run_program, h1, Result.andThen_ok, Sem.run_pure, h2, run_underlying hF, hz, Array.mapM_eq_mapM_toList, Sem.run_map, hplaces]
        simp only [List.getElem?_toArray, g1, Sem.run_pure]
      · cases h
    · cases h
  · rename_i n e size bytes zero heq
    have hi := hT _ _ heq
    obtain ⟨x, z, h1, h2, h3, h4, h5⟩ := hi.ti
    split at h
    · rename_i s hs
      split at h
      · rename_i cs hfill
        simp only [mk, Option.some.injEq] at h; subst h
        unfold sizeT at hs
        obtain ⟨j, hj, rfl⟩ := Option.map_eq_some_iff.1 hs
        have hj' := hT _ _ hj
        obtain ⟨vout, g1, g2⟩ := fill_ok _ _ _ _ _ hfill (RelL.ofV at_ w zero) hp1 hp2
        refine Outcome.valueS (v := .agg (List.toArray vout)) hM ?_ (by simp only [Rel]; exact ⟨_, rfl, g2⟩)
        have hz : z.cells = List.toArray zero := by have := congrArg List.toArray h3; simpa using this
        simp only [Instr.build, zeroValue, Sem.run_bind, typeInfo, run_program, h1, Result.andThen_ok, Sem.run_pure, h2, run_underlying (hi.array rfl), hj'.sizeOf, hz]
        simp only [g1, Sem.run_pure]
      · cases h
    · cases h
  · cases h
end
end Go.Sym
/- The symbolic machine's operations are right: all of them, in one theorem. -/
namespace Go.Sym
open Go.RowKit

section
variable {P : Program} {at_ : At} {w : World} {M : List (Option Blk)} {look : Nat → Option Blk} {tt : TT} {sp : Specs} {fresh : Nat} {ρ : Operand → SV} {ev : Operand → Value}
variable (hT : TTOK P tt) (hS : SpecsOK P sp) (hM : MemOK at_ M w) (hlook : ∀ n cs, look n = some cs → M[n]? = some (some cs)) (hf : M[fresh]? = some none) (hρ : ∀ x, Rel at_ w (ρ x) (ev x))
include hM hρ

theorem ok_pick {c a b : Operand} {out : Out} (h : core tt sp look fresh ρ (.pick c a b) = some out) :
    Outcome P ((do pure (Next.value (if ← asBool (ev c) then ev a else ev b)) : Sem Next).run P w) (Post at_ w M out.ws out.sv) := by
  have hc := hρ c
  have ha := hρ a
  have hb := hρ b
  simp only [core] at h
  split at h
  · rename_i c' x y hc' hx hy
    simp only [mk, Option.some.injEq] at h; subst h
    rw [hc'] at hc; rw [hx] at ha; rw [hy] at hb
    simp only [Rel] at hc ha hb
    refine Outcome.value (v := .bool (cond c' x y)) hM ?_ (by simp only [Rel])
    simp only [hc, ha, hb, asBool, Sem.run_bind, Sem.run_pure, Result.andThen_ok]
    cases c' <;> rfl
  · rename_i hc' _
    simp only [mk, Option.some.injEq] at h; subst h
    rw [hc'] at hc
    simp only [Rel] at hc
    refine Outcome.value (v := ev a) hM ?_ ha
    simp only [hc, asBool, Sem.run_bind, Sem.run_pure, Result.andThen_ok, if_true]
  · rename_i hc' _
    simp only [mk, Option.some.injEq] at h; subst h
    rw [hc'] at hc
    simp only [Rel] at hc
    refine Outcome.value (v := ev b) hM ?_ hb
    simp only [hc, asBool, Sem.run_bind, Sem.run_pure, Result.andThen_ok, Bool.false_eq_true, if_false]
  · cases h

include hT hf in
omit hρ in
theorem ok_alloc {t : TypeId} {out : Out} (h : core tt sp look fresh ρ (.alloc t) = some out) :
    Outcome P ((do pure (Next.value (← Instr.alloc t true (.tuple #[]))) : Sem Next).run P w) (Post at_ w M out.ws out.sv) := by
  simp only [core] at h
  split at h
  · rename_i i heq
    simp only [Option.some.injEq] at h; subst h
    have hi := hT _ _ heq
    obtain ⟨x, z, h1, h2, h3, h4, h5⟩ := hi.ti
    have hz : z.cells = List.toArray i.zero := by have := congrArg List.toArray h3; simpa using this
    simp only [Instr.alloc, zeroValue, newVar, newRow, Sem.run_bind, typeInfo, run_program, h1, h2, Result.andThen_ok, Sem.run_pure, run_newObj, hz, Outcome, World.alloc_eq]
    exact Post.new t hM hf (RelL.ofV at_ w i.zero) (fun at' ha => by simp only [Rel]; exact ⟨_, ha, rfl⟩)
  · cases h

include hf in
theorem ok_box {t : TypeId} {x : Operand} {out : Out} (h : core tt sp look fresh ρ (.box t x) = some out) :
    Outcome P ((do pure (Next.value (← Instr.box t (ev x))) : Sem Next).run P w) (Post at_ w M out.ws out.sv) := by
  simp only [core] at h
  split at h
  · rename_i cs heq
    simp only [Option.some.injEq] at h; subst h
    obtain ⟨h1, _⟩ := Rel.cells heq (hρ x)
    have e : (ev x).cells = List.toArray (ev x).cells.toList := by simp
    simp only [Instr.box, newVar, newRow, Sem.run_bind, Result.andThen_ok, Sem.run_pure, run_newObj, Outcome, World.alloc_eq]
    rw [e]
    exact Post.new t hM hf h1 (fun at' ha => by simp only [Rel]; exact ⟨_, ha, rfl⟩)
  · cases h

include hT hf in
theorem ok_buildSlice {t : TypeId} {len : Nat} {parts : Array (Nat × Operand)} {out : Out} (h : core tt sp look fresh ρ (.buildSlice t len parts) = some out) :
    Outcome P ((do pure (Next.value (← Instr.buildSlice t len (parts.map fun (i, x) => (i, ev x)))) : Sem Next).run P w) (Post at_ w M out.ws out.sv) := by
  obtain ⟨hp1, hp2⟩ := parts_rel (at_ := at_) (w := w) (ρ := ρ) (ev := ev) parts hρ
  simp only [core] at h
  split at h
  · rename_i e size bytes zero heq
    split at h
    · rename_i d bytes' z heq'
      split at h
      · rename_i hlen
        split at h
        · rename_i cs hfill
          have hi := hT _ _ heq
          have hj := hT _ _ heq'
          obtain ⟨x, zv, h1, h2, h3, h4, h5⟩ := hj.ti
          obtain ⟨vout, g1, g2⟩ := fill_ok _ _ _ (List.replicate len z) _ hfill (RelL.replicate len (Rel.ofV at_ w z)) hp1 hp2
          have hz : zv.cells = #[z] := by have := congrArg List.toArray h3; simpa using this
          have hrow : ((Array.range (len * 1)).map (zv.cells[· % zv.cells.size]!)) = List.toArray (List.replicate len z) := by
            rw [hz]
            apply Array.ext
            · simp
            · intro i hi1 hi2
              simp [Nat.mod_one]
          have hne : ¬ (len * 1 > 2 ^ 24) := by omega
          have hne0 : ¬ (len * 1 = 0) := by omega
          simp only [Instr.buildSlice, Sem.run_bind, run_underlying (hi.slice rfl), Result.andThen_ok, hj.sizeOf, hne, if_false, hne0, zeroValue, typeInfo, run_program, h1, h2, Sem.run_pure, hrow, Sem.run_ite]
          simp only [g1, newRow, Sem.run_bind, run_newObj, Result.andThen_ok, Sem.run_pure, Outcome, World.alloc_eq]
          have hcl := g2.length
          split at h
          · rename_i l hl
            simp only [Option.some.injEq] at h; subst h
            have hv := asLV_ok hl g2
            have hll : l.len = len := by
              rw [← LV.len_vals, ← hv, hcl, fill_len _ _ _ _ hfill]; simp
            have := Post.ownNew (fresh := fresh) (l := l) (c := len) (arr := List.toArray vout) e hM hf (by rw [List.size_toArray, hcl, fill_len _ _ _ _ hfill]; simp) (by omega) (by unfold maxLen; omega) (by rw [← hv]; simp only; rw [hll, List.take_of_length_le]; rw [hcl, fill_len _ _ _ _ hfill]; simp)
            rw [hll] at this
            exact this
          · simp only [Option.some.injEq] at h; subst h
            exact Post.new e hM hf g2 (fun at' ha => by simp only [Rel]; exact ⟨_, ha, rfl⟩)
        · cases h
      · cases h
    · cases h
  · cases h

include hT hlook in
theorem ok_load {t : TypeId} {x : Operand} {out : Out} (h : core tt sp look fresh ρ (.load t x) = some out) :
    Outcome P ((do pure (Next.value (← Instr.loadAt t (ev x))) : Sem Next).run P w) (Post at_ w M out.ws out.sv) := by
  have hx := hρ x
  simp only [core] at h
  split at h
  · rename_i i heq
    have hi := hT _ _ heq
    split at h
    · rename_i v hv
      split at h
      · cases h
      · rename_i ha
        simp only [mk, Option.some.injEq] at h; subst h
        rw [hv] at hx
        simp only [Rel] at hx
        obtain ⟨ad, u, h1, _, h3, h4⟩ := hx
        refine Outcome.valueS (v := u) hM ?_ h4
        simp only [Instr.loadAt, h1, Instr.sureAddr, Sem.run_bind, Sem.run_pure, Result.andThen_ok]
        exact run_loadVar_one hi h3 (by simpa using ha)
    · rename_i b j hv
      split at h
      · rename_i l hl
        split at h
        · cases h
        · rename_i ha
          simp only [mk, Option.some.injEq] at h; subst h
          rw [hv] at hx
          obtain ⟨g, base, cap, arr, ty, k1, k2, k3, k4, k5, k6, k7, k8, k9⟩ := lp_ok hM (hlook _ _ hl) hx
          obtain ⟨u, h4, h5⟩ := LV.get_at l j k2
          refine Outcome.valueS (v := u) hM ?_ (h5 _ _)
          simp only [Instr.loadAt, k3, Instr.sureAddr, Sem.run_bind, Sem.run_pure, Result.andThen_ok]
          exact run_loadVar_one hi (k9.trans h4) (by simpa using ha)
      · cases h
    · cases ht : target look (ρ x) with
      | none => rw [ht] at h; cases h
      | some p =>
        obtain ⟨cs, off⟩ := p
        rw [ht] at h
        obtain ⟨g, ty, fz, vs, h1, h2, h3⟩ := target_ok hM hlook ht hx
        obtain ⟨v, h4, h5, h6⟩ := loadVar_ok hi h2 h3 h
        rw [h6]
        refine Outcome.valueS (v := v) hM ?_ h5
        simp only [Instr.loadAt, h1, Instr.sureAddr, Sem.run_bind, Sem.run_pure, Result.andThen_ok, h4]
  · cases h

include hT hlook in
theorem ok_store {t : TypeId} {x y : Operand} {out : Out} (h : core tt sp look fresh ρ (.store t x y) = some out) :
    Outcome P ((do Instr.storeAt t (ev x) (ev y); pure Next.skip : Sem Next).run P w) (Post at_ w M out.ws out.sv) := by
  have hx := hρ x
  have hy := hρ y
  simp only [core] at h
  split at h
  · rename_i i b j heq hb
    have hi := hT _ _ heq
    split at h
    · rename_i l hl
      split at h
      · rename_i l' hs
        split at h
        · rename_i hsz
          simp only [Option.some.injEq] at h; subst h
          rw [hb] at hx
          obtain ⟨g, base, cap, arr, ty, k1, k2, k3, k4, k5, k6, k7, k8, k9⟩ := lp_ok hM (hlook _ _ hl) hx
          obtain ⟨s1, s2, s3, s4⟩ := setAt_ok hs hy
          have hst := run_storeVar_cells (t := t) hi (off := base + j) (old := arr.toList) (g := g) (w := w) (P := P) (ty := ty) (by simpa using k4) (v := ev y) s3 (by rw [hsz]; rfl) (by simp; omega) (by intro u hu; simp at hu; subst hu; exact s4)
          simp only [Instr.storeAt, k3, Instr.sureAddr, Sem.run_bind, Sem.run_pure, Result.andThen_ok, hst, Outcome]
          refine Post.setOwn hM (hlook _ _ hl) k1 s1 ⟨_, ty, setRow_heap _ _ _ _ _ _ k4, ?_, by omega, k7, ?_⟩ (by simp only [Rel])
          · simp; omega
          · rw [s2, s1, ← k8]
            have hll : l.vals.length = l.len := l.len_vals
            have := seg_set arr.toList base l.len j (ev y) k2 (by simp; omega)
            simpa using this
        · cases h
      · cases h
    · cases h
  · rename_i i b off heq hb
    have hi := hT _ _ heq
    split at h
    · rename_i cs vs hl hc
      split at h
      · rename_i hcond
        obtain ⟨c1, c2⟩ := hcond
        simp only [Option.some.injEq] at h; subst h
        rw [hb] at hx
        simp only [Rel] at hx
        obtain ⟨g, h1, h2⟩ := hx
        obtain ⟨ty, us, h4, h5⟩ := hM.blk _ _ _ h1 (hlook _ _ hl)
        obtain ⟨h6, h7⟩ := Rel.cells hc hy
        have hl1 := h5.length
        have hl2 := h6.length
        have hst := run_storeVar_cells (t := t) hi (off := off) h4 (v := ev y) rfl (by omega) (by omega) h7
        simp only [Instr.storeAt, h2, Instr.sureAddr, Sem.run_bind, Sem.run_pure, Result.andThen_ok, hst, Outcome]
        refine Post.set hM (hlook _ _ hl) h1 h4 (RelL.append (RelL.append (h5.take off) h6) ?_) (by simp only [Rel])
        rw [hl2]; exact h5.drop _
      · cases h
    · cases h
  · cases h

theorem ok_nilCheck {o : Oper} {x : Operand} {out : Out} (ho : o.op = .nilCheck x) (h : core tt sp look fresh ρ (.nilCheck x) = some out) :
    Outcome P ((execOp ev o).run P w) (Post at_ w M out.ws out.sv) := by
  have hx := hρ x
  simp only [core] at h
  split at h
  all_goals first
    | (cases h; done)
    | skip
  all_goals
    rename_i heq
    simp only [mk, Option.some.injEq] at h; subst h
    rw [heq] at hx
    refine Outcome.value (v := ev x) hM ?_ hx
    simp only [Rel] at hx
    simp only [execOp, ho]
  · obtain ⟨g, _, h2⟩ := hx; simp only [h2, Sem.run_pure]
  · obtain ⟨g, ty, fz, vs, h2, _⟩ := hx; simp only [h2, Sem.run_pure]
  · obtain ⟨ad, u, h2, _⟩ := hx; simp only [h2, Sem.run_pure]
  · obtain ⟨vs, h2, _⟩ := hx; simp only [h2, Sem.run_pure]
end
end Go.Sym
/- The symbolic machine's operations are right: the second half, and the one theorem. -/
namespace Go.Sym
open Go.RowKit

section
variable {P : Program} {at_ : At} {w : World} {M : List (Option Blk)} {look : Nat → Option Blk} {tt : TT} {sp : Specs} {fresh : Nat} {ρ : Operand → SV} {ev : Operand → Value}
variable (hT : TTOK P tt) (hS : SpecsOK P sp) (hM : MemOK at_ M w) (hlook : ∀ n cs, look n = some cs → M[n]? = some (some cs)) (hf : M[fresh]? = some none) (hρ : ∀ x, Rel at_ w (ρ x) (ev x))

include hT hM hρ in
theorem ok_binOp {op : BinOp} {t t' : TypeId} {x y : Operand} {out : Out} (h : core tt sp look fresh ρ (.binOp op t x y t') = some out) (hp : out.ok) :
    Outcome P ((do pure (Next.value (← (do eqGuard op t x y (ev x) (ev y); binOp op t (ev x) (ev y)))) : Sem Next).run P w) (Post at_ w M out.ws out.sv) := by
  have hx := hρ x
  have hy := hρ y
  have fin : ∀ {v : Value} {sv : SV}, ((∀ cs, ev x ≠ .agg cs) ∧ ev x ≠ .nilIface) → (binOp op t (ev x) (ev y)).run P w = .ok v w → Rel at_ w sv v →
      Outcome P ((do pure (Next.value (← (do eqGuard op t x y (ev x) (ev y); binOp op t (ev x) (ev y)))) : Sem Next).run P w) (Post at_ w M [] sv) := by
    intro v sv ⟨h1, h2⟩ h3 h4
    refine Outcome.valueS (v := v) hM ?_ h4
    simp only [Sem.run_bind, run_guard (P := P) (w := w) op t x y (ev x) (ev y) h1 h2, Result.andThen_ok, h3]
  have eqs : ∀ {z : BinOp} {xs ys : List SV} {n : Nat} {e : TypeId} {i j : TI} {b : Bool} {sv : SV}, op = z → (z = .eql ∧ sv = .bool b ∨ z = .neq ∧ sv = .bool (!b)) → ρ x = .agg xs → ρ y = .agg ys → tt.lookup t = some i → i.d = .array n e → tt.lookup e = some j → j.d = .int .u64 → j.size = 1 →
      xs.length = n → eqCells xs ys = some b →
      Outcome P ((do pure (Next.value (← (do eqGuard op t x y (ev x) (ev y); binOp op t (ev x) (ev y)))) : Sem Next).run P w) (Post at_ w M [] sv) := by
    intro z xs ys n e i j b sv hz hzz h1 h2 h3 h4 h5 h6 h7 h8 h9
    rw [h1] at hx; rw [h2] at hy
    simp only [Rel] at hx hy
    obtain ⟨us, hx1, hx2⟩ := hx
    obtain ⟨vs, hy1, hy2⟩ := hy
    have hi := hT _ _ h3
    have hj := hT _ _ h5
    have heq := run_equal_cells hi hj h4 h6 h7 h9 hx2 hy2 h8
    have hg : (eqGuard op t x y (ev x) (ev y)).run P w = .ok () w := by
      rw [hx1, hy1]; exact run_eqGuard_agg w op t x y _ _ hi.guard
    subst hz
    rcases hzz with ⟨e1, e2⟩ | ⟨e1, e2⟩ <;> subst e1 <;> subst e2
    · refine Outcome.valueS (v := .bool b) hM ?_ (by simp only [Rel])
      simp only [Sem.run_bind, hg, Result.andThen_ok]
      rw [hx1, hy1]
      simp only [binOp, Sem.run_bind, heq, Result.andThen_ok, Sem.run_pure]
    · refine Outcome.valueS (v := .bool (!b)) hM ?_ (by simp only [Rel])
      simp only [Sem.run_bind, hg, Result.andThen_ok]
      rw [hx1, hy1]
      simp only [binOp, Sem.run_bind, heq, Result.andThen_ok, Sem.run_pure]
  simp only [core] at h
  split at h
  · rename_i xs ys hxs hys
    split at h
    · rename_i n e s b z heq
      split at h
      · rename_i s' z' heq'
        split at h
        · rename_i hl
          split at h
          · rename_i b' hb
            simp only [mk, Option.some.injEq] at h; subst h
            exact eqs rfl (.inl ⟨rfl, rfl⟩) hxs hys heq rfl heq' rfl rfl hl.1 hb
          · cases h
        · cases h
      · cases h
    · cases h
  · rename_i xs ys hxs hys
    split at h
    · rename_i n e s b z heq
      split at h
      · rename_i s' z' heq'
        split at h
        · rename_i hl
          split at h
          · rename_i b' hb
            simp only [mk, Option.some.injEq] at h; subst h
            exact eqs rfl (.inr ⟨rfl, rfl⟩) hxs hys heq rfl heq' rfl rfl hl.1 hb
          · cases h
        · cases h
      · cases h
    · cases h
  · split at h
    · rename_i o hs
      simp only [Option.some.injEq] at h; subst h
      unfold symDiv at hs
      split at hs
      · split at hs
        · rename_i m n hm hn _ _
          rw [hm] at hx; rw [hn] at hy
          simp only [Option.some.injEq] at hs; subst hs
          simp only [Rel] at hx hy
          rw [hx, hy] at fin ⊢
          exact fin ⟨fun _ e => (by cases e), fun e => (by cases e)⟩ (r_quo t _ m n hp) (by simp only [Rel])
        · rename_i m n hm hn _ _
          rw [hm] at hx; rw [hn] at hy
          simp only [Option.some.injEq] at hs; subst hs
          simp only [Rel] at hx hy
          rw [hx, hy] at fin ⊢
          exact fin ⟨fun _ e => (by cases e), fun e => (by cases e)⟩ (r_rem t _ m n hp) (by simp only [Rel])
        · cases hs
      · cases hs
    · split at h
      · rename_i r hr
        simp only [mk, Option.some.injEq] at h; subst h
        obtain ⟨v, h1, h2⟩ := binN_ok (P := P) t hx hy hr
        exact fin (binN_num hx hr) h1 h2
      · split at h
        · rename_i heq
          unfold mk? at h
          split at h
          · rename_i r hb
            simp only [Option.some.injEq] at h; subst h
            obtain ⟨h0, v, h1, h2⟩ := binB_ok ((hT _ _ heq).bool rfl) hx hy hb
            exact fin h0 h1 h2
          · cases h
        · rename_i e _ _ _ heq
          unfold mk? at h
          split at h
          · rename_i r hb
            simp only [Option.some.injEq] at h; subst h
            obtain ⟨h0, v, h1, h2⟩ := binP_ok ((hT _ _ heq).ptr rfl) hx hy hb
            exact fin h0 h1 h2
          · cases h
        · cases h

include hM hρ in
theorem ok_unOp {op : UnOp} {t : TypeId} {x : Operand} {out : Out} (h : core tt sp look fresh ρ (.unOp op t x) = some out) :
    Outcome P ((do pure (Next.value (← Op.unary op (ev x))) : Sem Next).run P w) (Post at_ w M out.ws out.sv) := by
  simp only [core] at h
  cases hb : una op (ρ x) with
  | none => rw [hb] at h; cases h
  | some r =>
    rw [hb] at h
    simp only [mk?, Option.some.injEq] at h; subst h
    obtain ⟨v, h1, h2⟩ := una_ok (P := P) (hρ x) hb
    exact Outcome.valueS hM h1 h2

include hT hM hρ in
theorem ok_convert {src dst : TypeId} {x : Operand} {out : Out} (h : core tt sp look fresh ρ (.convert src dst x) = some out) :
    Outcome P ((do pure (Next.value (← convert src dst (ev x))) : Sem Next).run P w) (Post at_ w M out.ws out.sv) := by
  simp only [core] at h
  split at h
  · rename_i k _ _ _ s hd hs
    cases hb : conv k (ρ x) with
    | none => rw [hb] at h; cases h
    | some r =>
      rw [hb] at h
      simp only [mk?, Option.some.injEq] at h; subst h
      obtain ⟨d, hd', _⟩ := (hT _ _ hs).desc
      obtain ⟨v, h1, h2⟩ := conv_ok ⟨d, hd'⟩ ((hT _ _ hd).int rfl) (hρ x) hb
      exact Outcome.valueS hM h1 h2
  · cases h

include hM hρ in
theorem ok_extract {x : Operand} {i : Nat} {out : Out} (h : core tt sp look fresh ρ (.extract x i) = some out) :
    Outcome P ((do pure (Next.value (← Instr.extract (ev x) i)) : Sem Next).run P w) (Post at_ w M out.ws out.sv) := by
  have hx := hρ x
  simp only [core] at h
  split at h
  · rename_i cs hc
    rw [hc] at hx
    simp only [Rel] at hx
    obtain ⟨vs, h1, h2⟩ := hx
    cases hb : cs[i]? with
    | none => rw [hb] at h; cases h
    | some c =>
      rw [hb] at h
      simp only [mk?, Option.some.injEq] at h; subst h
      obtain ⟨u, h3, h4⟩ := h2.get i c hb
      refine Outcome.valueS (v := u) hM ?_ h4
      rw [h1]
      simp only [Instr.extract, List.getElem?_toArray, h3, Sem.run_pure]
  · cases h

include hT hM hρ in
theorem ok_fieldAddr {t : TypeId} {x : Operand} {f : Nat} {out : Out} (h : core tt sp look fresh ρ (.fieldAddr t x f) = some out) :
    Outcome P ((do pure (Next.value (← Instr.fieldAt t (ev x) f)) : Sem Next).run P w) (Post at_ w M out.ws out.sv) := by
  have hx := hρ x
  simp only [core] at h
  split at h
  · rename_i fs _ _ _ heq
    split at h
    · rename_i o ft hft
      split at h
      · rename_i n hn
        have hi := hT _ _ heq
        obtain ⟨F, hF, hFs⟩ := hi.struct rfl
        unfold sizeT at hn
        obtain ⟨j, hj, hjs⟩ := Option.map_eq_some_iff.1 hn
        have hj' := hT _ _ hj
        obtain ⟨fld, hfld, hoff, hty⟩ : ∃ fld, F[f]? = some fld ∧ fld.offset = o ∧ fld.type = ft := by
          rw [← hFs, List.getElem?_map] at hft
          obtain ⟨fld, h1, h2⟩ := Option.map_eq_some_iff.1 hft
          simp only [Prod.mk.injEq] at h2
          exact ⟨fld, by simpa using h1, h2.1, h2.2⟩
        have hne : ¬ (j.size = 0) := by omega
        have run : ∀ a, (Instr.fieldAt t (.pointer (some a)) f).run P w = .ok (.pointer (some (a.add o))) w := by
          intro a
          simp only [Instr.fieldAt, Sem.run_bind, run_underlying hF, Result.andThen_ok, hfld, Instr.sureAddr, Sem.run_pure, fieldPlace, hty, hj'.sizeOf, hne, if_false, hoff]
        split at h
        · rename_i b off hb
          simp only [mk, Option.some.injEq] at h; subst h
          rw [hb] at hx
          simp only [Rel] at hx
          obtain ⟨g, h1, h2⟩ := hx
          rw [h2]
          exact Outcome.valueS hM (run _) (by simp only [Rel]; exact ⟨g, h1, by rw [addr_add]⟩)
        · rename_i cs off hb
          simp only [mk, Option.some.injEq] at h; subst h
          rw [hb] at hx
          simp only [Rel] at hx
          obtain ⟨g, ty, fz, vs, h1, h2, h3, h4⟩ := hx
          rw [h1]
          exact Outcome.valueS hM (run _) (by simp only [Rel]; exact ⟨g, ty, fz, vs, by rw [addr_add], h2, h3, h4⟩)
        · cases h
      · cases h
    · cases h
  · cases h

include hT hM hρ in
theorem ok_field {t : TypeId} {x : Operand} {f : Nat} {out : Out} (h : core tt sp look fresh ρ (.field t x f) = some out) :
    Outcome P ((do pure (Next.value (← Instr.field t (ev x) f)) : Sem Next).run P w) (Post at_ w M out.ws out.sv) := by
  have hx := hρ x
  simp only [core] at h
  split at h
  · rename_i fs _ _ _ cs heq hc
    split at h
    · rename_i o ft hft
      split at h
      · rename_i i hi
        have hti := hT _ _ heq
        obtain ⟨F, hF, hFs⟩ := hti.struct rfl
        obtain ⟨fld, hfld, hoff, hty⟩ : ∃ fld, F[f]? = some fld ∧ fld.offset = o ∧ fld.type = ft := by
          rw [← hFs, List.getElem?_map] at hft
          obtain ⟨fld, h1, h2⟩ := Option.map_eq_some_iff.1 hft
          simp only [Prod.mk.injEq] at h2
          exact ⟨fld, by simpa using h1, h2.1, h2.2⟩
        rw [hc] at hx
        simp only [Rel] at hx
        obtain ⟨vs, h1, h2⟩ := hx
        obtain ⟨v, h3, h4, h5⟩ := part_ok (hT _ _ hi) h2 h
        rw [h5, h1]
        refine Outcome.valueS (v := v) hM ?_ h4
        simp only [Instr.field, Sem.run_bind, run_underlying hF, Result.andThen_ok, hfld, asAgg, Sem.run_pure, hty, hoff, h3]
      · cases h
    · cases h
  · cases h

include hT hM hρ in
theorem ok_index {t : TypeId} {x ix : Operand} {out : Out} (h : core tt sp look fresh ρ (.index t x ix) = some out) :
    Outcome P ((do pure (Next.value (← Instr.index t (ev x) (ev ix))) : Sem Next).run P w) (Post at_ w M out.ws out.sv) := by
  have hx := hρ x
  have hix := hρ ix
  simp only [core] at h
  split at h
  · rename_i n e _ _ _ cs i heq hc hi
    split at h
    · rename_i j hj
      split at h
      · rename_i hcond
        rw [hc] at hx
        simp only [Rel] at hx
        obtain ⟨vs, h1, h2⟩ := hx
        obtain ⟨k, hk⟩ := toI_ok hi hix
        have hj' := hT _ _ hj
        obtain ⟨v, h3, h4, h5⟩ := part_ok hj' h2 h
        rw [h5, h1, hk]
        refine Outcome.valueS (v := v) hM ?_ h4
        simp only [Instr.index, asIntOf, Sem.run_bind, Sem.run_pure, run_underlying ((hT _ _ heq).array rfl), Result.andThen_ok, hj'.sizeOf, hcond, and_self, if_true, h3]
      · cases h
    · cases h
  · cases h
end
end Go.Sym
/- The symbolic machine: append. -/
namespace Go.Sym
open Go.RowKit

section
variable {P : Program} {w : World}
/-- With room, from any place of a block. -/
theorem append_room_off (t ty e : TypeId) (i : TypeInfo) (ht : P.underlying t = some (.slice e)) (hi : P.info? e = some i)
    (g off sLen sCap : Nat) (cur : Array Value) (ty' : TypeId) (hg : w.heap[g]? = some (.cells cur ty' (0, 0)))
    (a : Addr) (m c : Nat) (news : List Value) (hl : news.length = m * i.size) (hnews : ∀ j u, news[j]? = some u → w.cell? (a.add j) = some u) (h1 : ∀ u ∈ news, u.oneCell' = true)
    (hroom : sLen + m ≤ sCap) (hfit : off + sLen * i.size + news.length ≤ cur.size) :
    (Builtin.append_ #[t, t] ty #[.slice (some ⟨g, off, none⟩) sLen sCap, .slice (some a) m c]).run P w =
      .ok (.slice (some ⟨g, off, none⟩) (sLen + m) sCap) (w.setRow g (cur.toList.take (off + sLen * i.size) ++ news ++ cur.toList.drop (off + sLen * i.size + news.length)).toArray) := by
  have hf := run_firstCells_some (P := P) w i.size m a m c news hl hnews
  have hst := run_storeCells_at P g (off + sLen * i.size) ty' news 0 cur w hg (by simpa using hfit) h1
  simp only [Nat.add_zero] at hst
  simp [Builtin.append_, run_underlying ht, sizeOf, typeInfo, hi, Builtin.lenOf, hroom, hf, addr_add, hst]
/-- Nothing is appended. -/
theorem append_nothing (t ty e : TypeId) (i : TypeInfo) (ht : P.underlying t = some (.slice e)) (hi : P.info? e = some i) (ad ad' : Option Addr) (n cap c : Nat) (hn : n ≤ cap) :
    (Builtin.append_ #[t, t] ty #[.slice ad n cap, .slice ad' 0 c]).run P w = .ok (.slice ad n cap) w := by
  cases ad <;> cases ad' <;> simp [Builtin.append_, run_underlying ht, sizeOf, typeInfo, hi, Builtin.lenOf, hn, Builtin.firstCells, loadCells, loadCellsFrom, storeCells]

variable {at_ : At} {M : List (Option Blk)} {look : Nat → Option Blk} {tt : TT}
theorem vals_one (l : LV) : ∀ u ∈ l.vals, u.oneCell' = true := by
  intro u hu
  cases l <;> (simp only [LV.vals, List.mem_map] at hu; obtain ⟨_, _, rfl⟩ := hu; rfl)
theorem app_ok {a b c : LV} (h : a.app b = some c) : c.vals = a.vals ++ b.vals ∧ c.len = a.len + b.len := by
  unfold LV.app at h
  split at h <;> first
    | (cases h; done)
    | (simp only [Option.some.injEq] at h; subst h; exact ⟨by simp [LV.vals], by simp [LV.len]⟩)
theorem rep_zero {k : IntKind} {l : LV} (h : LV.rep k 0 = some l) : l.vals = [] ∧ l.len = 0 := by
  unfold LV.rep at h
  split at h <;> first
    | (cases h; done)
    | (simp only [Option.some.injEq] at h; subst h; exact ⟨rfl, rfl⟩)
theorem rowOf_ok (hM : MemOK at_ M w) (hlook : ∀ n cs, look n = some cs → M[n]? = some (some cs)) {k : IntKind} {s : SV} {l : LV} {v : Value} (h : rowOf look k s = some l) (r : Rel at_ w s v) :
    ∃ ad c, v = .slice ad l.len c ∧ ∀ (j : Nat) u, l.vals[j]? = some u → ∃ a, ad = some a ∧ w.cell? (a.add j) = some u := by
  unfold rowOf at h
  split at h
  · simp only [Rel] at r
    obtain ⟨h1, h2⟩ := rep_zero h
    exact ⟨none, 0, by rw [h2]; exact r, fun j u hj => by rw [h1] at hj; simp at hj⟩
  · split at h
    · rename_i l' ks fx hl
      simp only [Option.some.injEq] at h; subst h
      have := (lend_ok hM hlook hl r).2.1 rfl
      simp only [Rel] at this
      obtain ⟨ad, c, h1, _, h3⟩ := this
      exact ⟨ad, c, h1, fun j u hj => by obtain ⟨a, e1, _, e3⟩ := h3 j u hj; exact ⟨a, e1, e3⟩⟩
    · cases h
/-- In a new block. -/
theorem Post.grown {K : List Nat} {fresh c : Nat} {arr : Array Value} {l : LV} (ty : TypeId) (hM : MemOK at_ M w) (hK : ∀ k ∈ K, ∃ l, M[k]? = some (some [.own l])) (hf : M[fresh]? = some none) (hs : arr.size = c) (hle : l.len ≤ c) (hc : c ≤ maxLen) (hv : arr.toList.take l.len = l.vals) :
    Post at_ w M ((K.map fun k => (k, [])) ++ [(fresh, [.own l])]) (.sl fresh 0 l.len) (.slice (some ⟨w.heap.size, 0, none⟩) l.len c) (w.drew.alloc (.cells arr ty)) := by
  have hx : BornOK at_ w (w.drew.alloc (.cells arr ty)) K (.live w.heap.size 0 c l.len) l := .inr ⟨_, _, _, rfl, ⟨arr, ty, heap_alloc_new w.drew _, by omega, hle, hc, by simpa using hv⟩, by simp, .inr (Nat.le_refl _)⟩
  have hk : Kept w (w.drew.alloc (.cells arr ty)) (.live w.heap.size 0 c l.len) := ⟨rfl, rfl, rfl, by simp, fun k hk _ => heap_alloc_old w.drew _ k hk⟩
  refine ⟨bornAt at_ K fresh (.live w.heap.size 0 c l.len), Later.born hM hf hx hk, hM.born hK hf hx hk, ?_⟩
  have hg : (bornAt at_ K fresh (.live w.heap.size 0 c l.len)).gn fresh = .live w.heap.size 0 c l.len := by simp only [bornAt, if_true]
  simp only [Rel, hg]
  refine ⟨by simp, by simp, fun g base cap n e => ?_, rfl⟩
  simp only [GN.shape, Option.some.injEq, Prod.mk.injEq] at e
  obtain ⟨rfl, rfl, rfl, rfl⟩ := e
  exact ⟨by omega, by omega, _, by rw [Nat.sub_zero], fun _ => by simp⟩
/-- Of no cells. -/
theorem Post.bare {K : List Nat} {fresh : Nat} {l : LV} (hM : MemOK at_ M w) (hK : ∀ k ∈ K, ∃ l, M[k]? = some (some [.own l])) (hf : M[fresh]? = some none) (hl : l.len = 0) :
    Post at_ w M ((K.map fun k => (k, [])) ++ [(fresh, [.own l])]) (.sl fresh 0 l.len) (.slice none 0 0) w := by
  have hx : BornOK at_ w w K .nil l := .inl ⟨rfl, hl⟩
  have hk : Kept w w .nil := ⟨rfl, rfl, rfl, Nat.le_refl _, fun _ _ _ => rfl⟩
  refine ⟨bornAt at_ K fresh .nil, Later.born hM hf hx hk, hM.born hK hf hx hk, ?_⟩
  have hg : (bornAt at_ K fresh .nil).gn fresh = .nil := by simp only [bornAt, if_true]
  simp only [Rel, hg, hl]
  exact ⟨by simp, by simp, by simp [GN.shape], rfl⟩
/-- In the block where it was. -/
theorem Post.stay {b fresh g base cap n base' cap' : Nat} {l : LV} {ad : Option Addr} {w' : World} (hM : MemOK at_ M w) {l0 : LV} (hb : M[b]? = some (some [.own l0])) (hgn : at_.gn b = .live g base cap n) (hf : M[fresh]? = some none)
    (hG : GOK w' g base' cap' l) (hgs : g < w'.heap.size) (hk : Kept w w' (.live g base' cap' l.len)) (had : 0 < cap' → ad = some ⟨g, base', none⟩) :
    Post at_ w M [(b, []), (fresh, [.own l])] (.sl fresh 0 l.len) (.slice ad l.len cap') w' := by
  have hx : BornOK at_ w w' [b] (.live g base' cap' l.len) l := .inr ⟨_, _, _, rfl, hG, hgs, .inl ⟨b, _, _, _, by simp, hgn⟩⟩
  refine ⟨bornAt at_ [b] fresh (.live g base' cap' l.len), Later.born hM hf hx hk, hM.born (by simp [hb]) hf hx hk, ?_⟩
  have hg : (bornAt at_ [b] fresh (.live g base' cap' l.len)).gn fresh = .live g base' cap' l.len := by simp only [bornAt, if_true]
  simp only [Rel, hg]
  refine ⟨by simp, by simp, fun g2 base2 cap2 n2 e => ?_, rfl⟩
  simp only [GN.shape, Option.some.injEq, Prod.mk.injEq] at e
  obtain ⟨rfl, rfl, rfl, rfl⟩ := e
  obtain ⟨_, _, _, _, hle, _⟩ := hG
  exact ⟨by omega, hle, ad, by rw [Nat.sub_zero], fun h => by rw [had h, Nat.add_zero]⟩

theorem drop_take_set {α : Type} (xs news : List α) (k m : Nat) (hk : k + news.length ≤ xs.length) (base n : Nat) (hb : base + n = k) (hm : m = n + news.length) :
    ((xs.take k ++ news ++ xs.drop (k + news.length)).drop base).take m = (xs.drop base).take n ++ news := by
  subst hm; subst hb
  apply List.ext_getElem?
  intro q
  simp only [List.getElem?_take, List.getElem?_drop, List.getElem?_append, List.length_append, List.length_take, List.length_drop]
  by_cases h1 : q < n
  · rw [if_pos (by omega), if_pos (by omega), if_pos (by omega), if_pos (by omega), if_pos (by omega), if_pos h1]
  · by_cases h2 : q < n + news.length
    · rw [if_pos h2, if_pos (by omega), if_neg (by omega), if_neg (by omega)]
      congr 1; omega
    · rw [if_neg h2, if_neg (by omega), List.getElem?_eq_none (by omega)]

theorem ok_append (hT : TTOK P tt) (hM : MemOK at_ M w) (hlook : ∀ n cs, look n = some cs → M[n]? = some (some cs)) {fresh : Nat} (hf : M[fresh]? = some none) {x y : SV} {t : TypeId} {out : Out} (h : coreAppend tt look fresh x y t = some out) (hp : out.ok)
    {vx vy : Value} (rx : Rel at_ w x vx) (ry : Rel at_ w y vy) (ty : TypeId) : ∃ v w', (Builtin.append_ #[t, t] ty #[vx, vy]).run P w = .ok v w' ∧ Post at_ w M out.ws out.sv v w' := by
  unfold coreAppend at h
  split at h
  · rename_i e _ _ _ heq
    split at h
    · rename_i k by_ z heq'
      split at h
      · rename_i hby
        split at h
        · rename_i ny hny
          have hu := (hT _ _ heq).slice rfl
          obtain ⟨xi, zv, i1, i2, i3, i4, i5⟩ := (hT _ _ heq').ti
          simp only at i4 i5
          have hzs : zv.cells.size = 1 := by have := congrArg List.length i3; simpa using this
          obtain ⟨ad2, c2, rfl, hcells⟩ := rowOf_ok hM hlook hny ry
          -- onto nothing
          have onNil : ∀ (K : List Nat) (l' : LV), (∀ k ∈ K, ∃ l, M[k]? = some (some [.own l])) → l'.vals = ny.vals → l'.len = ny.len → l'.len ≤ appLim →
              ∃ v w', (Builtin.append_ #[t, t] ty #[.slice none 0 0, .slice ad2 ny.len c2]).run P w = .ok v w' ∧ Post at_ w M ((K.map fun k => (k, [])) ++ [(fresh, [.own l'])]) (.sl fresh 0 l'.len) v w' := by
            intro K l' hK e1 e2 e3
            by_cases hm : ny.len = 0
            · rw [hm]
              exact ⟨_, _, append_nothing t ty e xi hu i1 none ad2 0 0 c2 (Nat.le_refl _), Post.bare hM hK hf (by omega)⟩
            · have hl := ny.len_vals
              obtain ⟨u, hu0⟩ : ∃ u, ny.vals[0]? = some u := ⟨_, List.getElem?_eq_getElem (by omega)⟩
              obtain ⟨a, rfl, _⟩ := hcells 0 u hu0
              have hcell : ∀ (j : Nat) u, ny.vals[j]? = some u → w.cell? (a.add j) = some u := fun j u hj => by obtain ⟨a', ea, h'⟩ := hcells j u hj; cases ea; exact h'
              have hlim : ny.len ≤ 17592186044416 := by rw [← e2]; exact e3
              have hr := run_append_nil (P := P) w t ty e xi zv hu i1 i2 a ny.len c2 ny.vals (by rw [i4, Nat.mul_one]; exact hl) hcell (by omega) (by omega) (by rw [i5]; have := Nat.mul_le_mul hlim hby; omega)
              have hge := grownCap_ge w ny.len 0 e
              have hcm := grownCap_le_maxLen w ny.len 0 e (by unfold maxLen; omega)
              refine ⟨_, _, hr, ?_⟩
              have := Post.grown (fresh := fresh) (l := l') (c := grownCap w ny.len 0 e) (arr := ny.vals.toArray ++ Builtin.zeroCells zv.cells (grownCap w ny.len 0 e - ny.len)) e hM hK hf
                (by simp only [Array.size_append, List.size_toArray, size_zeroCells, hzs, hl]; omega) (by omega) hcm (by rw [e1, e2]; simp only [Array.toList_append]; rw [← hl]; exact List.take_left)
              rw [e2] at this ⊢
              exact this
          split at h
          · split at h
            · rename_i l0 hl0
              split at h
              · rename_i l' hl'
                simp only [Option.some.injEq] at h; subst h
                simp only [Rel] at rx
                obtain ⟨z1, z2⟩ := rep_zero hl0
                obtain ⟨a1, a2⟩ := app_ok hl'
                subst rx
                exact onNil [] l' (by simp) (by rw [a1, z1]; rfl) (by omega) hp
              · cases h
            · cases h
          · rename_i b lo len
            split at h
            · rename_i l hl
              split at h
              · rename_i l' hl'
                simp only [Option.some.injEq] at h; subst h
                have hb := hlook _ _ hl
                obtain ⟨p1, p2⟩ := hp
                obtain ⟨a1, a2⟩ := app_ok hl'
                rw [LV.vals_cut] at a1
                rw [LV.len_cut _ _ _ (Nat.le_refl _)] at a2
                have hlv := l.len_vals
                rcases sl_shape hM hb rx with ⟨e1, e2, e3, e4, e5⟩ | ⟨g, base, cap, ad, k1, ⟨arr, ty', g1, g2, g3, g4, g5⟩, k2, k3, k4, k5⟩
                · rw [e4]
                  have hv0 : l.vals = [] := List.eq_nil_of_length_eq_zero (by omega)
                  have := onNil [b] l' (by simp [hb]) (by rw [a1, hv0]; simp) (by omega) p2
                  exact this
                · rw [k4]
                  have hlen' : l'.len = len + ny.len := by omega
                  have hlim : l'.len ≤ 17592186044416 := p2
                  have hgs : g < w.heap.size := lt_of_heap g1
                  have hold : (arr.toList.drop (base + lo)).take len = l.vals.drop lo := by
                    rw [← g5, List.drop_take, List.drop_drop]
                    congr 1; omega
                  have hvals' : l'.vals = l.vals.drop lo ++ ny.vals := by rw [a1, List.take_of_length_le (by omega)]
                  by_cases hm : ny.len = 0
                  · rw [hm]
                    refine ⟨_, _, append_nothing t ty e xi hu i1 ad ad2 len (cap - lo) c2 (by omega), ?_⟩
                    have hnv : ny.vals = [] := List.eq_nil_of_length_eq_zero (by rw [ny.len_vals]; exact hm)
                    have := Post.stay (b := b) (fresh := fresh) (g := g) (base' := base + lo) (cap' := cap - lo) (l := l') (ad := ad) (w' := w) hM hb k1 hf ⟨arr, ty', g1, by omega, by omega, by omega, by rw [hlen', hm, Nat.add_zero, hold, hvals', hnv, List.append_nil]⟩ hgs ⟨rfl, rfl, rfl, Nat.le_refl _, fun _ _ _ => rfl⟩ (fun h => k5 (by omega))
                    rw [hlen', hm, Nat.add_zero] at this
                    rw [hlen', hm, Nat.add_zero]
                    exact this
                  · have hnl := ny.len_vals
                    obtain ⟨u, hu0⟩ : ∃ u, ny.vals[0]? = some u := ⟨_, List.getElem?_eq_getElem (by omega)⟩
                    obtain ⟨a, rfl, _⟩ := hcells 0 u hu0
                    have hcell : ∀ (j : Nat) u, ny.vals[j]? = some u → w.cell? (a.add j) = some u := fun j u hj => by obtain ⟨a', ea, h'⟩ := hcells j u hj; cases ea; exact h'
                    have hal : arr.toList.length = base + cap := by simp [g2]
                    by_cases hroom : len + ny.len ≤ cap - lo
                    · rw [k5 (by omega)]
                      have hr := append_room_off (P := P) (w := w) t ty e xi hu i1 g (base + lo) len (cap - lo) arr ty' g1 a ny.len c2 ny.vals (by rw [i4, Nat.mul_one]; exact hnl) hcell (vals_one ny) hroom (by rw [i4, Nat.mul_one, hnl]; omega)
                      refine ⟨_, _, hr, ?_⟩
                      rw [i4, Nat.mul_one]
                      have := Post.stay (b := b) (fresh := fresh) (g := g) (base' := base + lo) (cap' := cap - lo) (l := l') (ad := some ⟨g, base + lo, none⟩) (w' := w.setRow g (arr.toList.take (base + lo + len) ++ ny.vals ++ arr.toList.drop (base + lo + len + ny.vals.length)).toArray) hM hb k1 hf
                        ⟨_, ty', setRow_heap _ _ _ _ _ _ g1, by simp [hnl]; omega, by omega, by omega, by
                          rw [hvals', ← hold]
                          exact drop_take_set arr.toList ny.vals (base + lo + len) l'.len (by omega) (base + lo) len rfl (by omega)⟩ (by simpa using hgs)
                        ⟨rfl, rfl, rfl, by simp, fun q _ hq => setRow_other _ _ _ _ (fun e => by subst e; exact hq _ _ _ rfl)⟩ (fun _ => rfl)
                      rw [hlen'] at this ⊢
                      exact this
                    · have hge := grownCap_ge w (len + ny.len) (cap - lo) e
                      have hcm := grownCap_le_maxLen w (len + ny.len) (cap - lo) e (by unfold maxLen; omega)
                      have fin : Post at_ w M [(b, []), (fresh, [.own l'])] (.sl fresh 0 l'.len) (.slice (some ⟨w.heap.size, 0, none⟩) (len + ny.len) (grownCap w (len + ny.len) (cap - lo) e))
                          (w.drew.alloc (.cells ((l.vals.drop lo).toArray ++ ny.vals.toArray ++ Builtin.zeroCells zv.cells (grownCap w (len + ny.len) (cap - lo) e - (len + ny.len))) e)) := by
                        have hdl : (l.vals.drop lo).length = len := by rw [List.length_drop]; omega
                        have := Post.grown (K := [b]) (fresh := fresh) (l := l') (c := grownCap w (len + ny.len) (cap - lo) e) (arr := (l.vals.drop lo).toArray ++ ny.vals.toArray ++ Builtin.zeroCells zv.cells (grownCap w (len + ny.len) (cap - lo) e - (len + ny.len))) e hM (by simp [hb]) hf
                          (by simp only [Array.size_append, List.size_toArray, size_zeroCells, hzs, hnl, hdl]; omega) (by omega) hcm (by
                            rw [hvals']; simp only [Array.toList_append]
                            have : l'.len = (l.vals.drop lo ++ ny.vals).length := by rw [List.length_append, hdl, hnl, hlen']
                            rw [this]; exact List.take_left)
                        rw [hlen'] at this ⊢
                        exact this
                      have hdl : (l.vals.drop lo).length = len := by rw [List.length_drop]; omega
                      have hb8 : (len + ny.len) * xi.bytes ≤ 140737488355328 := by rw [i5]; have := Nat.mul_le_mul (show len + ny.len ≤ 17592186044416 by omega) hby; omega
                      have grow : ∀ a0 : Addr, (∀ (j : Nat) v, (l.vals.drop lo)[j]? = some v → w.cell? (a0.add j) = some v) →
                          ∃ v w', (Builtin.append_ #[t, t] ty #[.slice (some a0) len (cap - lo), .slice (some a) ny.len c2]).run P w = .ok v w' ∧ Post at_ w M [(b, []), (fresh, [.own l'])] (.sl fresh 0 l'.len) v w' := fun a0 h0 =>
                        ⟨_, _, run_append_grow (P := P) w t ty e xi zv hu i1 i2 a0 len (cap - lo) (l.vals.drop lo) (by rw [i4, Nat.mul_one]; exact hdl) h0 a ny.len c2 ny.vals (by rw [i4, Nat.mul_one]; exact hnl) hcell (by omega) (by omega) (growslice_fits (by omega) hb8), fin⟩
                      by_cases hlo : lo < cap
                      · rw [k5 hlo]
                        refine grow _ fun j v hj => ?_
                        rw [addr_add, cell_of_row w g _ _ ty' (0, 0) g1, ← Array.getElem?_toList]
                        rw [← hold, List.getElem?_take, List.getElem?_drop] at hj
                        split at hj
                        · exact hj
                        · cases hj
                      · have hl0 : len = 0 := by omega
                        have hc0 : cap - lo = 0 := by omega
                        have hv0 : l.vals.drop lo = [] := List.eq_nil_of_length_eq_zero (by omega)
                        cases ad with
                        | some a0 => exact grow a0 (fun j v hj => by rw [hv0] at hj; simp at hj)
                        | none =>
                          rw [hl0, hc0] at fin ⊢
                          rw [hv0] at fin
                          have hr := run_append_nil (P := P) w t ty e xi zv hu i1 i2 a ny.len c2 ny.vals (by rw [i4, Nat.mul_one]; exact hnl) hcell (by omega) (by omega) (by rw [hl0, Nat.zero_add] at hb8; omega)
                          refine ⟨_, _, hr, ?_⟩
                          simpa using fin
              · cases h
            · cases h
          · cases h
        · cases h
      · cases h
    · cases h
  · cases h
end
end Go.Sym
/- The symbolic machine's operations are right: addresses in rows, cuts, calls; and the one theorem. -/
namespace Go.Sym
open Go.RowKit

section
variable {P : Program} {at_ : At} {w : World} {M : List (Option Blk)} {look : Nat → Option Blk} {tt : TT} {sp : Specs} {fresh : Nat} {ρ : Operand → SV} {ev : Operand → Value}
variable (hT : TTOK P tt) (hS : SpecsOK P sp) (hM : MemOK at_ M w) (hlook : ∀ n cs, look n = some cs → M[n]? = some (some cs)) (hf : M[fresh]? = some none) (hρ : ∀ x, Rel at_ w (ρ x) (ev x))

include hT hM hρ in
theorem ok_indexAddr {t : TypeId} {x ix : Operand} {out : Out} (h : core tt sp look fresh ρ (.indexAddr t x ix) = some out) (hp : out.ok) :
    Outcome P ((do pure (Next.value (← Instr.indexAt t (ev x) (ev ix))) : Sem Next).run P w) (Post at_ w M out.ws out.sv) := by
  have hx := hρ x
  have hix := hρ ix
  simp only [core] at h
  split at h
  · rename_i n e _ _ _ i heq hi
    split at h
    · rename_i s hs
      split at h
      · rename_i hcond
        unfold sizeT at hs
        obtain ⟨j, hj, rfl⟩ := Option.map_eq_some_iff.1 hs
        have hj' := hT _ _ hj
        obtain ⟨k, hk⟩ := toI_ok hi hix
        have run : ∀ a, (Instr.indexAt t (.pointer (some a)) (.int k i)).run P w = .ok (.pointer (some (a.add (i.toNat * j.size)))) w := by
          intro a
          simp only [Instr.indexAt, asIntOf, Sem.run_bind, Sem.run_pure, run_underlying ((hT _ _ heq).array rfl), Result.andThen_ok, Instr.sureAddr, hj'.sizeOf, hcond, and_self, if_true]
        rw [hk]
        split at h
        · rename_i b off hb
          simp only [mk, Option.some.injEq] at h; subst h
          rw [hb] at hx
          simp only [Rel] at hx
          obtain ⟨g, h1, h2⟩ := hx
          rw [h2]
          exact Outcome.valueS hM (run _) (by simp only [Rel]; exact ⟨g, h1, by rw [addr_add]⟩)
        · rename_i cs off hb
          simp only [mk, Option.some.injEq] at h; subst h
          rw [hb] at hx
          simp only [Rel] at hx
          obtain ⟨g, ty, fz, vs, h1, h2, h3, h4⟩ := hx
          rw [h1]
          exact Outcome.valueS hM (run _) (by simp only [Rel]; exact ⟨g, ty, fz, vs, by rw [addr_add], h2, h3, h4⟩)
        · cases h
      · cases h
    · cases h
  · rename_i e _ _ _ i heq hi
    split at h
    · rename_i hs
      unfold sizeT at hs
      obtain ⟨j, hj, hjs⟩ := Option.map_eq_some_iff.1 hs
      have hj' := hT _ _ hj
      obtain ⟨k, hk⟩ := toI_ok hi hix
      have run : ∀ a len cap, 0 ≤ i → i < (len : Nat) → (Instr.indexAt t (.slice (some a) len cap) (.int k i)).run P w = .ok (.pointer (some (a.add i.toNat))) w := by
        intro a len cap h1 h2
        simp only [Instr.indexAt, asIntOf, Sem.run_bind, Sem.run_pure, run_underlying ((hT _ _ heq).slice rfl), Result.andThen_ok, hj'.sizeOf, hjs, h1, h2, and_self, if_true, Nat.mul_one]
      rw [hk]
      split at h
      · rename_i b off len cap hb
        split at h
        · rename_i hcond
          simp only [mk, Option.some.injEq] at h; subst h
          rw [hb] at hx
          simp only [Rel] at hx
          obtain ⟨g, h1, h2⟩ := hx
          rw [h2]
          exact Outcome.valueS hM (run _ _ _ hcond.1 hcond.2) (by simp only [Rel]; exact ⟨g, h1, by rw [addr_add]⟩)
        · cases h
      · rename_i b lo len hb
        simp only [Option.some.injEq] at h; subst h
        simp only [Out.ok, Ok] at hp
        obtain ⟨p1, p2⟩ := hp
        rw [hb] at hx
        have hx0 := hx
        simp only [Rel] at hx0
        rcases sl_any hx with ⟨_, e2, _, _⟩ | ⟨g, base, cap, n, ad, k1, k2, k3, k4, k5⟩
        · omega
        · rw [k4, k5 (by omega)]
          refine Outcome.valueS hM (run _ _ _ p1 p2) ?_
          simp only [Rel]
          refine ⟨hx0.1, fun e => by rw [e] at k1; simp [GN.shape] at k1, fun g' base' cap' n' e => ?_, rfl⟩
          rw [k1] at e
          simp only [Option.some.injEq, Prod.mk.injEq] at e
          obtain ⟨rfl, rfl, rfl, rfl⟩ := e
          exact ⟨by omega, by rw [addr_add, Nat.add_assoc]⟩
      · rename_i l hb
        simp only [Option.some.injEq] at h; subst h
        simp only [Out.ok, Ok] at hp
        obtain ⟨p1, p2⟩ := hp
        rw [hb] at hx
        simp only [Rel] at hx
        obtain ⟨a, c, h1, h2, h3⟩ := hx
        obtain ⟨u, h4, h5⟩ := LV.get_at l i.toNat (by omega)
        obtain ⟨ad, h6, h7, h8⟩ := h3 _ _ h4
        rw [h1, h6]
        exact Outcome.valueS hM (run _ _ _ p1 p2) (by simp only [Rel]; exact ⟨_, u, rfl, by rw [block_add]; exact h7, h8, h5 _ _⟩)
      · cases h
    · cases h
  · cases h

include hT hM hρ in
theorem ok_slice {t : TypeId} {x : Operand} {lo hi mx : Option Operand} {out : Out} (h : core tt sp look fresh ρ (.slice t x lo hi mx) = some out) (hp : out.ok) :
    Outcome P ((do pure (Next.value (← Instr.sliceAt t (ev x) (lo.map ev) (hi.map ev) (mx.map ev))) : Sem Next).run P w) (Post at_ w M out.ws out.sv) := by
  have hx := hρ x
  simp only [core] at h
  split at h
  · rename_i e _ _ _ heq
    split at h
    · rename_i hs
      unfold sizeT at hs
      obtain ⟨j, hj, hjs⟩ := Option.map_eq_some_iff.1 hs
      have hj' := hT _ _ hj
      have hu := (hT _ _ heq).slice rfl
      have run : ∀ (a : Option Addr) (len cap : Nat) (l m : Int), boundI ρ lo 0 = some l → boundI ρ hi len = some m → 0 ≤ l → l ≤ m → m ≤ cap →
          (Instr.sliceAt t (.slice a len cap) (lo.map ev) (hi.map ev) none).run P w = .ok (.slice (if cap = l.toNat then a else a.map (·.add l.toNat)) (m.toNat - l.toNat) (cap - l.toNat)) w := by
        intro a len cap l m h1 h2 h3 h4 h5
        have bnd : ∀ (v : Operand) (y : Nat) (n : Int) (code : BoundsCode), (ρ v).toI = some n → 0 ≤ n → n ≤ y → (Instr.sliceBound (ev v) y code).run P w = .ok n.toNat w := by
          intro v y n code g1 g2 g3
          obtain ⟨k, hk⟩ := toI_ok g1 (hρ v)
          simp only [Instr.sliceBound, hk, asIntOf, Sem.run_bind, Sem.run_pure, Result.andThen_ok, g2, g3, and_self, if_true]
        rcases lo with _ | lo <;> rcases hi with _ | hi <;> simp only [boundI, Option.some.injEq] at h1 h2 <;>
          simp only [Instr.sliceAt, Sem.run_bind, run_underlying hu, Result.andThen_ok, Instr.slice, Instr.sliceBounds, Sem.run_pure, Option.map_none, Option.map_some, Option.isSome_none, Bool.false_eq_true, if_false, if_true]
        · subst h1; subst h2
          simp [hj'.sizeOf, hjs]
        · subst h1
          simp [bnd _ _ m _ h2 (by omega) h5, hj'.sizeOf, hjs]
        · subst h2
          simp [bnd _ _ l _ h1 h3 h4, hj'.sizeOf, hjs]
        · simp [bnd _ _ m _ h2 (by omega) h5, bnd _ _ l _ h1 h3 (show l ≤ (m.toNat : Int) by omega), hj'.sizeOf, hjs]
      split at h
      · rename_i b off len cap l hb hl
        split at h
        · rename_i m hm
          split at h
          · rename_i hcond
            obtain ⟨c1, c2, c3, c4⟩ := hcond
            simp only [mk, Option.some.injEq] at h; subst h
            rw [hb] at hx
            simp only [Rel] at hx
            obtain ⟨g, h1, h2⟩ := hx
            rw [h2]
            refine Outcome.valueS hM (run _ _ _ l m hl hm c1 c2 c3) ?_
            simp only [Rel]
            refine ⟨g, h1, ?_⟩
            rw [if_neg (by omega)]
            simp [addr_add]
          · cases h
        · cases h
      · rename_i b lo len l hb hl
        split at h
        · rename_i m hm
          simp only [Option.some.injEq] at h; subst h
          simp only [Out.ok, Ok] at hp
          obtain ⟨c1, c2, c3⟩ := hp
          rw [hb] at hx
          have hx0 := hx
          simp only [Rel] at hx0
          rcases sl_any hx with ⟨e1, e2, e4, e5⟩ | ⟨g, base, cap, n, ad, k1, k2, k3, k4, k5⟩
          · rw [e4]
            have := run none 0 0 l m hl (by rw [← hm, e2]) c1 c2 (by omega)
            refine Outcome.valueS hM this ?_
            have e6 : l.toNat = 0 := by omega
            have e7 : m.toNat = 0 := by omega
            simp only [Rel, e5, e6, e7, e1]
            simp [Value.oneCell', GN.shape]
          · rw [k4]
            refine Outcome.valueS hM (run _ _ _ l m hl hm c1 c2 (by omega)) ?_
            simp only [Rel]
            refine ⟨hx0.1, fun e => by rw [e] at k1; simp [GN.shape] at k1, fun g' base' cap' n' e => ?_, rfl⟩
            rw [k1] at e
            simp only [Option.some.injEq, Prod.mk.injEq] at e
            obtain ⟨rfl, rfl, rfl, rfl⟩ := e
            refine ⟨by omega, k3, _, by rw [Nat.sub_sub], fun hlt => ?_⟩
            rw [if_neg (by omega), k5 (by omega)]
            simp [addr_add, Nat.add_assoc]
        · cases h
      · rename_i v l hb hl
        split at h
        · rename_i m hm
          simp only [Option.some.injEq] at h; subst h
          simp only [Out.ok, Ok] at hp
          obtain ⟨c1, c2, c3⟩ := hp
          rw [hb] at hx
          simp only [Rel] at hx
          obtain ⟨a, c, h1, h2, h3⟩ := hx
          rw [h1]
          refine Outcome.valueS hM (run _ _ _ l m hl hm c1 c2 (by omega)) ?_
          simp only [Rel]
          rw [LV.len_cut _ _ _ (by omega)]
          refine ⟨_, _, rfl, by omega, fun q u hq => ?_⟩
          rw [LV.vals_cut, List.getElem?_drop, List.getElem?_take] at hq
          split at hq
          · rename_i hlt
            obtain ⟨ad, e1, e2, e3⟩ := h3 _ _ hq
            have : ¬ c = l.toNat := by omega
            refine ⟨ad.add l.toNat, by rw [if_neg this, e1]; rfl, by rw [block_add]; exact e2, ?_⟩
            rw [← e3]
            congr 1
            unfold Addr.add
            by_cases g1 : l.toNat = 0 <;> by_cases g2 : q = 0 <;> simp [g1, g2, Nat.add_assoc]
          · cases hq
        · cases h
      · cases h
    · cases h
  · cases h

theorem rep_ok {k : IntKind} {n : Nat} {l : LV} (h : LV.rep k n = some l) : l.len = n ∧ l.vals = List.replicate n (.int k 0) := by
  unfold LV.rep at h
  split at h <;> first
    | (cases h; done)
    | (simp only [Option.some.injEq] at h; subst h; simp [LV.len, LV.vals])
include hT hM hρ hf in
theorem ok_makeSlice {t : TypeId} {l c : Operand} {out : Out} (h : core tt sp look fresh ρ (.makeSlice t l c) = some out) (hp : out.ok) :
    Outcome P ((do pure (Next.value (← Instr.makeSlice t (ev l) (ev c))) : Sem Next).run P w) (Post at_ w M out.ws out.sv) := by
  have hl := hρ l
  have hc := hρ c
  simp only [core] at h
  split at h
  · rename_i e _ _ _ n m heq hn hm
    split at h
    · rename_i k by_ k' heq'
      split at h
      · rename_i l hl0
        split at h
        · rename_i hcond
          obtain ⟨rfl, hby⟩ := hcond
          simp only [Option.some.injEq] at h; subst h
          simp only [Out.ok, Ok] at hp
          obtain ⟨c1, c2, c3⟩ := hp
          subst c2
          rw [hn] at hl; rw [hm] at hc
          simp only [Rel] at hl hc
          have hi := hT _ _ heq
          have hj := hT _ _ heq'
          obtain ⟨x, zv, h1, h2, h3, h4, h5⟩ := hj.ti
          have hz : zv.cells = #[.int k 0] := by have := congrArg List.toArray h3; simpa using this
          have hrow : madeCells zv.cells (m.toNat * x.size) = List.toArray (List.replicate m.toNat (.int k 0)) := by
            rw [hz, h4]
            apply Array.ext
            · simp [madeCells]
            · intro i hi1 hi2
              simp [madeCells, Nat.mod_one]
          have hb : (x.bytes : Int) * m ≤ 281474976710656 := by
            have : (x.bytes : Int) ≤ 8 := by rw [h5]; exact Int.ofNat_le.2 hby
            have := Int.mul_le_mul this c3 (by omega) (by omega)
            omega
          rw [hl, hc]
          have run := run_make (P := P) w t e x zv (hi.slice rfl) h1 h2 .i64 .i64 m m c1 (Int.le_refl _) hb (by omega)
          rw [hrow] at run
          simp only [Sem.run_bind, run, Result.andThen_ok, Sem.run_pure, Outcome]
          obtain ⟨r1, r2⟩ := rep_ok hl0
          have := Post.ownNew (fresh := fresh) (l := l) (c := m.toNat) (arr := List.toArray (List.replicate m.toNat (Value.int k 0))) e hM hf (by simp) (by omega) (by unfold maxLen; omega) (by rw [r2, r1]; simp)
          rw [r1] at this
          exact this
        · cases h
      · cases h
    · rename_i d by_ z hne heq'
      split at h
      · rename_i hcond
        obtain ⟨c1, c2, c3, c4⟩ := hcond
        simp only [Option.some.injEq] at h; subst h
        subst c3
        rw [hn] at hl; rw [hm] at hc
        simp only [Rel] at hl hc
        have hi := hT _ _ heq
        have hj := hT _ _ heq'
        obtain ⟨x, zv, h1, h2, h3, h4, h5⟩ := hj.ti
        have hz : zv.cells = #[z] := by have := congrArg List.toArray h3; simpa using this
        have hrow : madeCells zv.cells (m.toNat * x.size) = List.toArray (List.replicate m.toNat z) := by
          rw [hz, h4]
          apply Array.ext
          · simp [madeCells]
          · intro i hi1 hi2
            simp [madeCells, Nat.mod_one]
        have hb : (x.bytes : Int) * m ≤ 281474976710656 := by
          have : (x.bytes : Int) ≤ 1024 := by rw [h5]; exact Int.ofNat_le.2 c4
          have := Int.mul_le_mul this c2 (by omega) (by omega)
          omega
        rw [hl, hc]
        have run := run_make (P := P) w t e x zv (hi.slice rfl) h1 h2 .i64 .i64 m m (by omega) (Int.le_refl _) hb (by omega)
        rw [hrow] at run
        simp only [Sem.run_bind, run, Result.andThen_ok, Sem.run_pure, Outcome]
        exact Post.new e hM hf (RelL.replicate _ (Rel.ofV at_ w z)) (fun at' ha => by simp only [Rel]; exact ⟨_, ha, rfl⟩)
      · cases h
    · cases h
  · cases h


theorem args_rel (hρ : ∀ x, Rel at_ w (ρ x) (ev x)) : ∀ l : List Operand, RelL at_ w (l.map ρ) (l.map ev)
  | [] => RelL.nil
  | x :: l => RelL.cons (hρ x) (args_rel hρ l)

theorem Outcome.mono {P : Program} {K K' : Value → World → Prop} {r : Result Next} (hk : ∀ v w', K v w' → K' v w') (ho : Outcome P r K) : Outcome P r K' := by
  unfold Outcome at *
  split at ho
  · exact hk _ _ ho
  · exact hk _ _ ho
  · exact Calls.mono ho fun e w'' ⟨v, h1, h2⟩ => ⟨v, h1, hk _ _ h2⟩
  · exact ho

include hS hM hlook in
theorem ok_call {f : FuncId} {cap args : List SV} {vcap vargs : List Value} {out : Out} (h : coreCall sp look (.fn f cap) args = some out) (hp : out.ok) (hc : RelL at_ w cap vcap) (ha : RelL at_ w args vargs) :
    Outcome P ((callFunc f (List.toArray (vargs ++ vcap))).run P w) (Post at_ w M out.ws out.sv) := by
  simp only [coreCall] at h
  split at h
  · rename_i s hs
    split at h
    rotate_left
    · cases h
    rename_i as ks fx hl
    split at h
    · rename_i pre r hr
      have hall := RelL.append ha hc
      obtain ⟨k0, k1, k2⟩ := lendL_ok hM hlook hl hall
      split at h
      · rename_i hcond
        simp only [Bool.and_eq_true] at hcond
        simp only [Option.some.injEq] at h; subst h
        exact Outcome.mono (fun v w' ⟨h1, h2⟩ => Post.below hM h2 (Rel.flat _ _ hcond.2 h1)) (hS _ (.pure s) hs noAt w _ _ _ _ (fun n g e => by simp [noAt] at e) (fun g h => by simp [noAt] at h) hr hp (k1 hcond.1))
      · split at h
        · rename_i hfx
          simp only [Option.some.injEq] at h; subst h
          have hk := hM.kill k0
          have hlk := Later.kill at_ w ks
          refine Outcome.mono (fun v w' ⟨h1, h2⟩ => ?_) (hS _ (.pure s) hs (killAt at_ ks) w _ _ _ _ (fun n g e => (hM.dom n g e).1) hk.outlt' hr hp (k2 rfl ks (fun _ h => h)))
          exact ⟨killAt at_ ks, hlk.trans (Later.of_below h2), hk.later_free h2.block h2.size (Later.of_below h2), h1⟩
        · cases h
    · cases h
  · rename_i s hs
    exact hS _ (.mem s) hs at_ M w look _ _ out hM hlook h hp (RelL.append ha hc)
  · cases h

include hT hM hlook in
theorem ok_builtin {b : Builtin} {args : List SV} {ts : List TypeId} {vargs : List Value} {out : Out} (h : coreBuiltin tt look fresh b args ts = some out) (hp : out.ok) (hfa : b = .append → M[fresh]? = some none) (ha : RelL at_ w args vargs) (ty : TypeId) (cs : Array Bool) :
    Outcome P ((builtin b (List.toArray ts) ty cs (List.toArray vargs)).run P w) (Post at_ w M out.ws out.sv) := by
  unfold coreBuiltin at h
  split at h
  · rename_i x t
    simp only [RelL] at ha
    obtain ⟨v, vs, rfl, h1, h2⟩ := ha
    subst h2
    split at h
    · rename_i heq
      have hu := (hT _ _ heq).slice rfl
      split at h
      · simp only [mk, Option.some.injEq] at h; subst h
        simp only [Rel] at h1
        obtain ⟨g, _, rfl⟩ := h1
        refine Outcome.valueS (v := .int .i64 _) hM ?_ (by simp only [Rel]; rfl)
        simp only [Builtin.len_, List.getElem?_toArray, List.getElem?_cons_zero, Sem.run_bind, Sem.run_pure, run_underlying hu, Result.andThen_ok]; rfl
      · rename_i b lo len
        simp only [mk, Option.some.injEq] at h; subst h
        have hv : ∃ ad cap, v = .slice ad len cap := by
          rcases sl_any h1 with ⟨_, e2, e4, _⟩ | ⟨g, base, cap, n, ad, _, _, _, k4, _⟩
          · exact ⟨none, 0, by rw [e4, e2]⟩
          · exact ⟨_, _, k4⟩
        obtain ⟨ad, cap, rfl⟩ := hv
        refine Outcome.valueS (v := .int .i64 _) hM ?_ (by simp only [Rel]; rfl)
        simp only [Builtin.len_, List.getElem?_toArray, List.getElem?_cons_zero, Sem.run_bind, Sem.run_pure, run_underlying hu, Result.andThen_ok]; rfl
      · simp only [mk, Option.some.injEq] at h; subst h
        simp only [Rel] at h1
        obtain ⟨a, c, rfl, _⟩ := h1
        refine Outcome.valueS (v := .int .i64 _) hM ?_ (by simp only [Rel]; rfl)
        simp only [Builtin.len_, List.getElem?_toArray, List.getElem?_cons_zero, Sem.run_bind, Sem.run_pure, run_underlying hu, Result.andThen_ok]; rfl
      · simp only [mk, Option.some.injEq] at h; subst h
        simp only [Rel] at h1
        subst h1
        refine Outcome.valueS (v := .int .i64 _) hM ?_ (by simp only [Rel]; rfl)
        simp only [Builtin.len_, List.getElem?_toArray, List.getElem?_cons_zero, Sem.run_bind, Sem.run_pure, run_underlying hu, Result.andThen_ok]; rfl
      · cases h
    · rename_i heq
      have hu := (hT _ _ heq).array rfl
      simp only [mk, Option.some.injEq] at h; subst h
      refine Outcome.valueS (v := .int .i64 _) hM ?_ (by simp only [Rel]; rfl)
      simp only [Builtin.len_, List.getElem?_toArray, List.getElem?_cons_zero, Sem.run_bind, Sem.run_pure, run_underlying hu, Result.andThen_ok]; rfl
    · cases h
  · rename_i x y t t'
    split at h
    · rename_i htt
      subst htt
      simp only [RelL] at ha
      obtain ⟨v, vs, rfl, h1, v', vs', rfl, h2, rfl⟩ := ha
      obtain ⟨r, w', hr, hpost⟩ := ok_append hT hM hlook (hfa rfl) h hp h1 h2 ty
      simp only [builtin, Sem.run_bind, hr, Result.andThen_ok, Sem.run_pure, Outcome]
      exact hpost
    · cases h
  · rename_i a b
    simp only [RelL, Rel] at ha
    obtain ⟨v, vs, rfl, rfl, v', vs', rfl, rfl, rfl⟩ := ha
    simp only [mk, Option.some.injEq] at h; subst h
    exact Outcome.valueS hM (run_min_int2 w _ _ _ _ _ _) (by simp only [Rel])
  · rename_i a b
    simp only [RelL, Rel] at ha
    obtain ⟨v, vs, rfl, rfl, v', vs', rfl, rfl, rfl⟩ := ha
    simp only [mk, Option.some.injEq] at h; subst h
    exact Outcome.valueS hM (run_max_int2 w _ _ _ _ _ _) (by simp only [Rel])
  · cases h

include hT hS hM hlook hρ in
omit hf in
theorem core_ok (o : Oper) (hf : makes o.op = true → M[fresh]? = some none) {out : Out} (h : core tt sp look fresh ρ o.op = some out) (hp : out.ok) : Outcome P ((execOp ev o).run P w) (Post at_ w M out.ws out.sv) := by
  obtain ⟨dst, op, type, pos, after, guard⟩ := o
  cases op
  case move x =>
    simp only [core, mk, Option.some.injEq] at h; subst h
    exact Outcome.value (v := ev x) hM rfl (hρ x)
  case assign x =>
    simp only [core, mk, Option.some.injEq] at h; subst h
    exact Outcome.value (v := ev x) hM rfl (hρ x)
  case pick c a b => exact ok_pick hM hρ h
  case alloc t => exact ok_alloc hT hM (hf rfl) h
  case box t x => exact ok_box hM (hf rfl) hρ h
  case build t parts => exact ok_build hT hM hρ h
  case buildSlice t len parts => exact ok_buildSlice hT hM (hf rfl) hρ h
  case load t x => exact ok_load hT hM hlook hρ h
  case store t x y => exact ok_store hT hM hlook hρ h
  case nilCheck x => exact ok_nilCheck hM hρ rfl h
  case binOp op t x y t' => exact ok_binOp hT hM hρ h hp
  case unOp op t x => exact ok_unOp hM hρ h
  case convert src dst x => exact ok_convert hT hM hρ h
  case makeSlice t l c => exact ok_makeSlice hT hM (hf rfl) hρ h hp
  case slice t x lo hi mx => exact ok_slice hT hM hρ h hp
  case fieldAddr t x f => exact ok_fieldAddr hT hM hρ h
  case field t x f => exact ok_field hT hM hρ h
  case indexAddr t x ix => exact ok_indexAddr hT hM hρ h hp
  case index t x ix => exact ok_index hT hM hρ h
  case extract x i => exact ok_extract hM hρ h
  case makeFunc fn first captured =>
    simp only [core] at h
    split at h
    · rename_i f hfirst
      simp only [mk, Option.some.injEq] at h; subst h
      have e : first = #[] := by simpa using hfirst
      subst e
      refine Outcome.value (v := .func (.func f) #[] (captured.map ev)) hM ?_ ?_
      · simp only [execOp, Instr.makeFunc, Sem.run_bind, Sem.run_pure, Result.andThen_ok, Array.map_empty]
      · simp only [Rel]
        refine ⟨captured.toList.map ev, ?_, args_rel hρ _⟩
        congr 1
        apply Array.ext' ; simp
    · cases h
  case call c =>
    simp only [core] at h
    obtain ⟨callee, args, ts⟩ := c
    simp only at h
    split at h
    · rename_i f
      have hfr := hρ f
      cases hfv : ρ f <;> rw [hfv] at h <;> try (simp only [coreCall] at h; cases h; done)
      rename_i fid cap
      rw [hfv] at hfr
      simp only [Rel] at hfr
      obtain ⟨vcap, h1, h2⟩ := hfr
      have := ok_call hS hM hlook h hp h2 (args_rel hρ args.toList)
      have e : List.toArray (args.toList.map ev ++ vcap) = #[] ++ args.map ev ++ List.toArray vcap := by apply Array.ext'; simp
      rw [e] at this
      simpa only [execOp, resolve, h1, Deferred.ofValue, Sem.run_bind, Sem.run_pure, Result.andThen_ok, invoke] using this
    · rename_i b
      have := fun cs => ok_builtin (P := P) hT hM hlook h hp (fun e => hf (by simp only [makes, e])) (args_rel hρ args.toList) type cs
      have e1 : List.toArray ts.toList = ts := by simp
      have e2 : List.toArray (args.toList.map ev) = args.map ev := by apply Array.ext'; simp
      rw [e1, e2] at this
      simp only [execOp, resolve, Sem.run_bind, Sem.run_pure, Result.andThen_ok, invoke]
      exact this _
    · cases h
  all_goals (simp only [core] at h; cases h)
end
end Go.Sym
/- Regions of the symbolic machine: one operation after the other; and, where two operations that do not wait for each other do not meet, in any order. -/
namespace Go.Sym
open Go.RowKit

structure St where
  T : List SV
  M : List (Option Blk)

/-- What an operation sees of the frame. -/
def TR (T : List SV) (ts : List Tmp) : Operand → SV
  | .tmp t => if ts.contains t then T.getD t .any else .any
  | .const v => SV.ofV v
  | .global g => .val (.pointer (some ⟨g, 0, none⟩))
  | .func f => .fn f []
def putT (T : List SV) (dst : Option Tmp) (v : SV) : List SV :=
  match dst with
  | some d => T.set d v
  | none => T

mutual
def names : SV → List Nat
  | .ptr b _ | .slc b _ _ _ | .sl b _ _ | .lp b _ => [b]
  | .lel x => names x
  | .ro cs _ | .agg cs | .tup cs | .fn _ cs => namesL cs
  | _ => []
def namesL : List SV → List Nat
  | [] => []
  | c :: cs => names c ++ namesL cs
end
def slNames : List SV → List Nat
  | [] => []
  | .sl b _ _ :: l => b :: slNames l
  | _ :: l => slNames l
/-- The blocks that an operation reads, and those that it writes. -/
def reads (ρ : Operand → SV) : Op → List Nat
  | .load _ x => names (ρ x)
  | .store _ x _ => names (ρ x)
  | .call c => namesL (c.operands.toList.map ρ)
  | _ => []
def callW (sp : Specs) (ρ : Operand → SV) (fresh : Nat) (c : Call) : List Nat :=
  match c.callee with
  | .value f => match ρ f with
    | .fn f _ => match sp.lookup f with
      | some (.mem _) => namesL (c.operands.toList.map ρ)
      | some (.pure _) => slNames (c.operands.toList.map ρ)
      | none => []
    | _ => []
  | .builtin .append => fresh :: slNames (c.operands.toList.map ρ)
  | _ => []
def writes (sp : Specs) (ρ : Operand → SV) (fresh : Nat) : Op → List Nat
  | .store _ x _ => names (ρ x)
  | .call c => callW sp ρ fresh c
  | .alloc _ | .box _ _ | .buildSlice _ _ _ | .makeSlice _ _ _ => [fresh]
  | _ => []

/-- What was decided of an operation's value. -/
inductive DV where
  | b (x : Bool)
  | i (x : Int)
def DV.fix : DV → SV → Option (Prop × SV)
  | .b x, .bool y => some (y = x, .bool x)
  | .i x, .i64 y => some (y = x, .i64 x)
  | _, _ => none
theorem DV.fix_ok {d : DV} {s s' : SV} {p : Prop} (h : d.fix s = some (p, s')) (hp : p) : s = s' := by
  unfold DV.fix at h
  split at h
  · simp only [Option.some.injEq, Prod.mk.injEq] at h; obtain ⟨rfl, rfl⟩ := h; rw [hp]
  · simp only [Option.some.injEq, Prod.mk.injEq] at h; obtain ⟨rfl, rfl⟩ := h; rw [hp]
  · cases h
abbrev Gam := List (Nat × DV)
def wants (ops : Array Oper) (o : Oper) (ρ : Operand → SV) : Option Bool :=
  match o.guard with
  | none => some true
  | some (j, want) => match (ops[j]?).bind (·.dst) with
    | some d => match ρ (.tmp d) with
      | .bool b => some (b == want)
      | .undef => some false
      | _ => none
    | none => none
def fixed (γ : Gam) (i : Nat) (sv : SV) : Option (Option Prop × SV) :=
  match γ.lookup i with
  | none => some (none, sv)
  | some d => match d.fix sv with
    | some q => some (some q.1, q.2)
    | none => none

structure Rec where
  i : Nat
  pre : Option Prop
  fx : Option Prop
  R : List Nat
  W : List Nat
def Rec.ok (r : Rec) : Prop := Ok r.pre ∧ Ok r.fx

def okW (ws : List (Nat × Blk)) (W : List Nat) (op : Op) (M : List (Option Blk)) (n : Nat) : Bool :=
  (ws.all fun p => W.contains p.1) && (!makes op || (match M[n]? with | some none => true | _ => false))
theorem okW_ok {ws : List (Nat × Blk)} {W : List Nat} {op : Op} {M : List (Option Blk)} {n : Nat} (h : okW ws W op M n = true) : (∀ p ∈ ws, p.1 ∈ W) ∧ (makes op = true → M[n]? = some none) := by
  unfold okW at h
  simp only [Bool.and_eq_true] at h
  refine ⟨fun p hp => by have := List.all_eq_true.1 h.1 p hp; simpa using this, fun hm => ?_⟩
  have := h.2
  rw [hm] at this
  simp only [Bool.not_true, Bool.false_or] at this
  split at this
  · assumption
  · cases this
theorem okW_congr {ws : List (Nat × Blk)} {W : List Nat} {op : Op} {M M' : List (Option Blk)} {n : Nat} (h : makes op = true → M'[n]? = M[n]?) : okW ws W op M' n = okW ws W op M n := by
  unfold okW
  cases hm : makes op
  · simp
  · rw [h hm]

def stepI (tt : TT) (sp : Specs) (γ : Gam) (ops : Array Oper) (base i : Nat) (o : Oper) (st : St) : Option (Rec × St) :=
  let ρ := TR st.T (o.looksAt ops)
  match wants ops o ρ with
  | none => none
  | some false => some (⟨i, none, none, [], []⟩, ⟨putT st.T o.dst .undef, st.M⟩)
  | some true =>
    let R := reads ρ o.op
    let W := writes sp ρ (base + i) o.op
    match core tt sp (fun n => if R.contains n then st.M.getD n none else none) (base + i) ρ o.op with
    | none => none
    | some out =>
      if okW out.ws W o.op st.M (base + i) = true then
        match fixed γ i out.sv with
        | none => none
        | some (p, sv) => some (⟨i, out.pre, p, R, W⟩, ⟨putT st.T o.dst sv, applyWs st.M out.ws⟩)
      else none

def lexrun (tt : TT) (sp : Specs) (γ : Gam) (ops : Array Oper) (base : Nat) : List Nat → St → Option (List Rec × St)
  | [], st => some ([], st)
  | i :: l, st => match ops[i]? with
    | none => none
    | some o => match stepI tt sp γ ops base i o st with
      | none => none
      | some (r, st') => match lexrun tt sp γ ops base l st' with
        | none => none
        | some (rs, stf) => some (r :: rs, stf)

structure Rep (at0 : At) (w0 : World) (st : St) (at_ : At) (a : Act) (w : World) : Prop where
  later : Later at0 w0 at_ w
  mem : MemOK at_ st.M w
  tmp : RelL at_ w st.T a.tmps.toList
  defers : a.defers = []
def Reps (at0 : At) (w0 : World) (st : St) (a : Act) (w : World) : Prop := ∃ at_, Rep at0 w0 st at_ a w

section
variable {at_ : At} {w : World} {a : Act} {T : List SV} {ts : List Tmp}
theorem TR_ok (h : RelL at_ w T a.tmps.toList) (x : Operand) : Rel at_ w (TR T ts x) (a.eval x) := by
  cases x with
  | tmp t =>
    simp only [TR, Act.eval]
    split
    · cases hc : T[t]? with
      | none => rw [List.getD_eq_getElem?_getD, hc]; simp only [Option.getD_none, Rel]
      | some c =>
        obtain ⟨u, h1, h2⟩ := h.get t c hc
        rw [List.getD_eq_getElem?_getD, hc]
        have : a.tmps.getD t Go.undef = u := by
          rw [Array.getElem?_toList] at h1
          rw [Array.getD_eq_getD_getElem?, h1]; rfl
        rw [this]; exact h2
    · simp only [Rel]
  | const v => exact Rel.ofV at_ w v
  | global g => simp only [TR, Act.eval, Rel]
  | func f => simp only [TR, Act.eval, Rel]; exact ⟨[], rfl, RelL.nil⟩
theorem put_ok (h : RelL at_ w T a.tmps.toList) {sv : SV} {v : Value} (hv : Rel at_ w sv v) (dst : Option Tmp) : RelL at_ w (putT T dst sv) (a.put dst v).tmps.toList := by
  cases dst with
  | none => exact h
  | some d => simp only [putT, Act.put, Array.toList_setIfInBounds]; exact h.set d sv v hv
theorem put_defers (dst : Option Tmp) (v : Value) : (a.put dst v).defers = a.defers := by cases dst <;> rfl

theorem wp_of_outcome {P : Program} {o : Oper} {K : Act → World → Prop} {Q : Exit → Act → World → Prop} (h : Outcome P ((execOp a.eval o).run P w) fun v w' => K (a.put o.dst v) w') : o.wp P a w K Q := by
  unfold Oper.wp
  generalize (execOp a.eval o).run P w = r at h
  unfold Outcome at h
  split at h
  · exact h
  · exact h
  · rw [Oper.upon_enter]
    exact h.mono fun e w'' ⟨v, h1, h2⟩ => by subst h1; exact h2
  · exact h.elim
end

section
variable {P : Program} {tt : TT} {sp : Specs} {γ : Gam} {ops : Array Oper} {base : Nat} {at0 : At} {w0 : World}

/-- One operation. -/
theorem step_ok (hT : TTOK P tt) (hS : SpecsOK P sp) {i : Nat} {o : Oper} {st st' : St} {r : Rec} (h : stepI tt sp γ ops base i o st = some (r, st')) (hp : r.ok) {a : Act} {w : World} (hr : Reps at0 w0 st a w)
    {K : Act → World → Prop} {Q : Exit → Act → World → Prop} (hK : ∀ a' w', Reps at0 w0 st' a' w' → K a' w') :
    if Region.wanted o (yielded ops a.tmps) then o.wp P a w K Q else K (a.put o.dst Go.undef) w := by
  obtain ⟨at_, hr⟩ := hr
  have hρ := fun x => TR_ok (ts := o.looksAt ops) hr.tmp x
  unfold stepI at h
  simp only at h
  have hwants : ∀ b, wants ops o (TR st.T (o.looksAt ops)) = some b → Region.wanted o (yielded ops a.tmps) = b := by
    intro b hb
    unfold wants at hb
    unfold Region.wanted
    cases hg : o.guard with
    | none => rw [hg] at hb; simpa using hb
    | some jw =>
      obtain ⟨j, want⟩ := jw
      rw [hg] at hb
      simp only at hb ⊢
      cases hd : (ops[j]?).bind (·.dst) with
      | none => rw [hd] at hb; cases hb
      | some d =>
        rw [hd] at hb
        simp only at hb
        have hrel := hρ (.tmp d)
        have hev : a.eval (.tmp d) = a.tmps.getD d Go.undef := rfl
        unfold yielded
        rw [hd]
        simp only [Option.bind_some]
        split at hb
        · rename_i c hc
          rw [hc, hev] at hrel
          simp only [Rel] at hrel
          have : a.tmps[d]? = some (.bool c) := by
            rw [Array.getD_eq_getD_getElem?] at hrel
            cases hx : a.tmps[d]? with
            | none => rw [hx] at hrel; simp [Go.undef] at hrel
            | some u => rw [hx] at hrel; simpa using hrel
          rw [this]
          simpa using hb
        · rename_i hc
          rw [hc, hev] at hrel
          simp only [Rel] at hrel
          have : ∀ c, a.tmps[d]? ≠ some (.bool c) := by
            intro c hx
            rw [Array.getD_eq_getD_getElem?, hx] at hrel
            simp [Go.undef] at hrel
          simp only [Option.some.injEq] at hb
          subst hb
          split
          · rename_i c hx; exact absurd hx (this c)
          · rfl
        · cases hb
  split at h
  · cases h
  · rename_i hw
    rw [hwants _ hw]
    simp only [Option.some.injEq, Prod.mk.injEq] at h
    obtain ⟨rfl, rfl⟩ := h
    exact hK _ _ ⟨at_, hr.later, hr.mem, put_ok hr.tmp (by simp only [Rel]) _, by rw [put_defers]; exact hr.defers⟩
  · rename_i hw
    rw [hwants _ hw]
    split at h
    · cases h
    · rename_i out hout
      split at h
      · rename_i hcond
        split at h
        · cases h
        · rename_i p sv hfix
          simp only [Option.some.injEq, Prod.mk.injEq] at h
          obtain ⟨rfl, rfl⟩ := h
          obtain ⟨hp1, hp2⟩ := hp
          have hlook : ∀ n cs, (if (reads (TR st.T (o.looksAt ops)) o.op).contains n then st.M.getD n none else none) = some cs → st.M[n]? = some (some cs) := by
            intro n cs e
            split at e
            · rw [List.getD_eq_getElem?_getD] at e
              cases hx : st.M[n]? with
              | none => rw [hx] at e; simp at e
              | some u => rw [hx] at e; simp at e; rw [e]
            · cases e
          have hmk := (okW_ok hcond).2
          have hout' := core_ok hT hS hr.mem hlook hρ o hmk hout hp1
          refine wp_of_outcome (Outcome.mono (fun v w' hpost => ?_) hout')
          obtain ⟨at', h1, h2, h3⟩ := hpost
          refine hK _ _ ⟨at', hr.later.trans h1, h2, put_ok (RelL.later h1 _ _ hr.tmp) ?_ _, by rw [put_defers]; exact hr.defers⟩
          unfold fixed at hfix
          split at hfix
          · simp only [Option.some.injEq, Prod.mk.injEq] at hfix; rw [← hfix.2]; exact h3
          · split at hfix
            · rename_i q hq
              simp only [Option.some.injEq, Prod.mk.injEq] at hfix
              obtain ⟨e1, e2⟩ := hfix
              subst e1
              simp only [Ok] at hp2; rw [← e2, ← DV.fix_ok hq hp2]; exact h3
            · cases hfix
      · cases h

/-- One after the other. -/
theorem lexrun_ok (hT : TTOK P tt) (hS : SpecsOK P sp) {Q : Exit → Act → World → Prop} : ∀ {l : List Nat} {st stf : St} {rs : List Rec}, lexrun tt sp γ ops base l st = some (rs, stf) → (∀ r ∈ rs, r.ok) → ∀ {a : Act} {w : World}, Reps at0 w0 st a w →
    (∀ a' w', Reps at0 w0 stf a' w' → Q .normal a' w') → wpOps P ops Q l a w
  | [], st, stf, rs, h, _, a, w, hr, hQ => by
    simp only [lexrun, Option.some.injEq, Prod.mk.injEq] at h
    obtain ⟨_, rfl⟩ := h
    exact hQ _ _ hr
  | i :: l, st, stf, rs, h, hp, a, w, hr, hQ => by
    simp only [lexrun] at h
    split at h
    · cases h
    · rename_i o ho
      split at h
      · cases h
      · rename_i r st' hs
        split at h
        · cases h
        · rename_i rs' stf' hl
          simp only [Option.some.injEq, Prod.mk.injEq] at h
          obtain ⟨rfl, rfl⟩ := h
          rw [wpOps_cons]
          unfold wpOp
          rw [ho]
          have := step_ok (P := P) hT hS hs (hp r (by simp)) hr (K := wpOps P ops Q l) (Q := Q) (fun a' w' hr' => lexrun_ok hT hS hl (fun x hx => hp x (by simp [hx])) hr' hQ)
          simp only
          split
          · rename_i hw; rw [if_pos hw] at this; exact .inl this
          · rename_i hw; rw [if_neg hw] at this; exact this
end
end Go.Sym
/- Regions whose order the model draws: if two operations that do not wait for each other do not meet, one run in the text's order stands for all. -/
namespace Go.Sym
open Go.RowKit

/-- Does i wait for q? -/
def dep (ops : Array Oper) : Nat → Nat → Nat → Bool
  | 0, _, _ => false
  | f + 1, q, i => match ops[i]? with
    | some o => o.after.toList.any fun e => Region.binds .any e && (e.on == q || dep ops f q e.on)
    | none => false
def apartB (ops : Array Oper) (q i : Nat) : Bool :=
  match ops[q]?, ops[i]? with
  | some a, some b => a.apart ops b
  | _, _ => false
def disj (q i : Rec) : Bool := (q.W.all fun n => !i.R.contains n && !i.W.contains n) && (i.W.all fun n => !q.R.contains n)
def pairOK (ops : Array Oper) (q i : Rec) : Bool := dep ops ops.size q.i i.i || (apartB ops q.i i.i && disj q i)
def pairs (ops : Array Oper) : List Rec → Bool
  | [] => true
  | q :: rest => (rest.all (pairOK ops q)) && pairs ops rest
def edgesDown (ops : Array Oper) : Bool := ops.toList.zipIdx.all fun (o, i) => o.after.toList.all fun e => !Region.binds .any e || decide (e.on < i)

def Down (ops : Array Oper) (listed : Array Bool) : Prop := ∀ (i : Nat) (o : Oper), ops[i]? = some o → listed.getD i true = true → ∀ e ∈ o.after, Region.binds .any e = true → listed.getD e.on false = true

theorem getD_false_true {l : Array Bool} {i : Nat} (h : l.getD i false = true) : l.getD i true = true := by
  rw [Array.getD_eq_getD_getElem?] at *
  cases hx : l[i]? with
  | none => rw [hx] at h; cases h
  | some b => rw [hx] at h; simpa using h

theorem dep_listed {ops : Array Oper} {listed : Array Bool} (hd : Down ops listed) : ∀ (f q i : Nat) (o : Oper), ops[i]? = some o → (∀ e ∈ o.after, Region.binds .any e = true → listed.getD e.on false = true) → dep ops f q i = true → listed.getD q false = true
  | 0, _, _, _, _, _, h => by simp [dep] at h
  | f + 1, q, i, o, ho, hr, h => by
    simp only [dep, ho, List.any_eq_true, Bool.and_eq_true, Bool.or_eq_true, beq_iff_eq] at h
    obtain ⟨e, he, hb, h⟩ := h
    have he' : e ∈ o.after := by simpa using he
    have h1 := hr e he' hb
    rcases h with h | h
    · rw [← h]; exact h1
    · cases hx : ops[e.on]? with
      | none =>
        cases f with
        | zero => simp [dep] at h
        | succ f => simp [dep, hx] at h
      | some o' => exact dep_listed hd f q e.on o' hx (fun e' h2 h3 => hd e.on o' hx (getD_false_true h1) e' h2 h3) h

section
variable {tt : TT} {sp : Specs} {γ : Gam} {ops : Array Oper} {base : Nat}

theorem TR_put {T : List SV} {ts : List Tmp} {dst : Option Tmp} {v : SV} (h : ∀ d, dst = some d → d ∉ ts) : TR (putT T dst v) ts = TR T ts := by
  funext x
  cases x with
  | tmp t =>
    simp only [TR]
    split
    · rename_i hc
      cases dst with
      | none => rfl
      | some d =>
        have hne : d ≠ t := by rintro rfl; exact h d rfl (by simpa using hc)
        simp only [putT, List.getD_eq_getElem?_getD, List.getElem?_set_ne hne]
    · rfl
  | _ => rfl
theorem putT_comm {T : List SV} {d e : Option Tmp} {v u : SV} (h : ∀ x, d = some x → e ≠ some x) : putT (putT T d v) e u = putT (putT T e u) d v := by
  cases d with
  | none => rfl
  | some d =>
    cases e with
    | none => rfl
    | some e =>
      have hne : d ≠ e := fun h' => h d rfl (by rw [h'])
      simp only [putT, List.set_comm _ _ hne]
theorem applyWs_get : ∀ (ws : List (Nat × Blk)) (M : List (Option Blk)) (n : Nat), (∀ p ∈ ws, p.1 ≠ n) → (applyWs M ws)[n]? = M[n]?
  | [], _, _, _ => rfl
  | p :: ws, M, n, h => by
    have h1 : p.1 ≠ n := h p (by simp)
    show (applyWs (M.set p.1 (some p.2)) ws)[n]? = _
    rw [applyWs_get ws _ n (fun q hq => h q (by simp [hq])), List.getElem?_set_ne h1]
theorem applyWs_set : ∀ (ws : List (Nat × Blk)) (M : List (Option Blk)) (n : Nat) (b : Blk), (∀ p ∈ ws, p.1 ≠ n) → applyWs (M.set n (some b)) ws = (applyWs M ws).set n (some b)
  | [], _, _, _, _ => rfl
  | p :: ws, M, n, b, h => by
    have h1 : p.1 ≠ n := h p (by simp)
    show applyWs ((M.set n (some b)).set p.1 (some p.2)) ws = (applyWs (M.set p.1 (some p.2)) ws).set n (some b)
    rw [List.set_comm _ _ (Ne.symm h1), applyWs_set ws _ n b (fun q hq => h q (by simp [hq]))]
theorem applyWs_comm : ∀ (ws vs : List (Nat × Blk)) (M : List (Option Blk)), (∀ p ∈ ws, ∀ q ∈ vs, p.1 ≠ q.1) → applyWs (applyWs M ws) vs = applyWs (applyWs M vs) ws
  | [], _, _, _ => rfl
  | p :: ws, vs, M, h => by
    show applyWs (applyWs (M.set p.1 (some p.2)) ws) vs = applyWs ((applyWs M vs).set p.1 (some p.2)) ws
    rw [applyWs_comm ws vs _ (fun x hx q hq => h x (by simp [hx]) q hq), applyWs_set vs M p.1 p.2 (fun q hq => Ne.symm (h p (by simp) q hq))]

/-- A step's parts: what it sees, and what it does. -/
theorem stepI_cases {i : Nat} {o : Oper} {st st' : St} {r : Rec} (h : stepI tt sp γ ops base i o st = some (r, st')) :
    ∃ (ws : List (Nat × Blk)) (sv : SV), st' = ⟨putT st.T o.dst sv, applyWs st.M ws⟩ ∧ r.i = i ∧ (∀ p ∈ ws, p.1 ∈ r.W) ∧
      ∀ st1 : St, TR st1.T (o.looksAt ops) = TR st.T (o.looksAt ops) → (∀ n ∈ r.R, st1.M[n]? = st.M[n]?) → (∀ n ∈ r.W, st1.M[n]? = st.M[n]?) →
        stepI tt sp γ ops base i o st1 = some (r, ⟨putT st1.T o.dst sv, applyWs st1.M ws⟩) := by
  unfold stepI at h
  simp only at h
  split at h
  · cases h
  · rename_i hw
    simp only [Option.some.injEq, Prod.mk.injEq] at h
    obtain ⟨rfl, rfl⟩ := h
    refine ⟨[], .undef, rfl, rfl, by simp, fun st1 h1 _ _ => ?_⟩
    unfold stepI
    simp only [h1, hw]
    rfl
  · rename_i hw
    split at h
    · cases h
    · rename_i out hout
      split at h
      · rename_i hcond
        split at h
        · cases h
        · rename_i p sv hfix
          simp only [Option.some.injEq, Prod.mk.injEq] at h
          obtain ⟨rfl, rfl⟩ := h
          refine ⟨out.ws, sv, rfl, rfl, (okW_ok hcond).1, fun st1 h1 h2 h3 => ?_⟩
          unfold stepI
          simp only [h1, hw]
          have hl : (fun n => if (reads (TR st.T (o.looksAt ops)) o.op).contains n then st1.M.getD n none else none) = (fun n => if (reads (TR st.T (o.looksAt ops)) o.op).contains n then st.M.getD n none else none) := by
            funext n
            split
            · rename_i hc
              have := h2 n (by simpa using hc)
              rw [List.getD_eq_getElem?_getD, List.getD_eq_getElem?_getD, this]
            · rfl
          have hmk : makes o.op = true → st1.M[base + i]? = st.M[base + i]? := by
            intro hm
            refine h3 _ ?_
            cases hop : o.op <;> rw [hop] at hm <;> simp only [makes] at hm <;> first | (cases hm; done) | (simp [writes]; done) | (simp only [writes, callW]; split at hm <;> first | (rename_i hc; rw [hc]; simp) | cases hm)
          rw [hl, hout]
          simp only [okW_congr hmk, hcond, if_true, hfix]
      · cases h

/-- Two operations that do not meet may change places. -/
theorem swap {q i : Nat} {oq oi : Oper} {st s1 s2 : St} {rq ri : Rec} (hq : stepI tt sp γ ops base q oq st = some (rq, s1)) (hi : stepI tt sp γ ops base i oi s1 = some (ri, s2)) (hap : oq.apart ops oi = true) (hd : disj rq ri = true) :
    ∃ s1', stepI tt sp γ ops base i oi st = some (ri, s1') ∧ stepI tt sp γ ops base q oq s1' = some (rq, s2) := by
  obtain ⟨a1, a2, a3⟩ := Oper.apart_spec hap
  obtain ⟨wq, svq, rfl, _, hwq, Hq⟩ := stepI_cases hq
  obtain ⟨wi, svi, rfl, _, hwi, Hi⟩ := stepI_cases hi
  unfold disj at hd
  simp only [Bool.and_eq_true, List.all_eq_true, Bool.not_eq_true'] at hd
  obtain ⟨d1, d2⟩ := hd
  have e1 : ∀ n ∈ ri.R, ∀ p ∈ wq, p.1 ≠ n := fun n hn p hp e => by
    have := (d1 p.1 (hwq p hp)).1; rw [e] at this; rw [List.contains_iff_mem.2 hn] at this; cases this
  have e2 : ∀ n ∈ ri.W, ∀ p ∈ wq, p.1 ≠ n := fun n hn p hp e => by
    have := (d1 p.1 (hwq p hp)).2; rw [e] at this; rw [List.contains_iff_mem.2 hn] at this; cases this
  have e3 : ∀ n ∈ rq.R, ∀ p ∈ wi, p.1 ≠ n := fun n hn p hp e => by
    have := d2 p.1 (hwi p hp); rw [e] at this; rw [List.contains_iff_mem.2 hn] at this; cases this
  have e4 : ∀ n ∈ rq.W, ∀ p ∈ wi, p.1 ≠ n := fun n hn p hp e => by
    have := (d1 n hn).2; rw [← e] at this; rw [List.contains_iff_mem.2 (hwi p hp)] at this; cases this
  have H1 := Hi st (TR_put a1).symm (fun n hn => (applyWs_get wq st.M n (e1 n hn)).symm) (fun n hn => (applyWs_get wq st.M n (e2 n hn)).symm)
  have H2 := Hq ⟨putT st.T oi.dst svi, applyWs st.M wi⟩ (TR_put a3) (fun n hn => applyWs_get wi st.M n (e3 n hn)) (fun n hn => applyWs_get wi st.M n (e4 n hn))
  refine ⟨_, H1, ?_⟩
  rw [H2]
  congr 3
  · rw [putT_comm (fun x hx => fun h => a2 x h hx)]
  · exact (applyWs_comm wq wi st.M (fun p hp x hx => fun e => e4 p.1 (hwq p hp) x hx e.symm)).symm

/-- One that waits for nothing that is left may be taken first. -/
theorem pull {listed : Array Bool} (hdn : Down ops listed) {i : Nat} {oi : Oper} (hoi : ops[i]? = some oi) (hready : ∀ e ∈ oi.after, Region.binds .any e = true → listed.getD e.on false = true) :
    ∀ (pre post : List Nat) (st stf : St) (rs : List Rec), lexrun tt sp γ ops base (pre ++ i :: post) st = some (rs, stf) → (∀ q ∈ pre, listed.getD q true = false) → pairs ops rs = true →
      ∃ r s1 rs', stepI tt sp γ ops base i oi st = some (r, s1) ∧ lexrun tt sp γ ops base (pre ++ post) s1 = some (rs', stf) ∧ pairs ops rs' = true ∧ (∀ x, x ∈ rs ↔ x = r ∨ x ∈ rs')
  | [], post, st, stf, rs, h, _, hpr => by
    simp only [List.nil_append, lexrun, hoi] at h
    split at h
    · cases h
    · rename_i r s1 hs
      split at h
      · cases h
      · rename_i rs' stf' hl
        simp only [Option.some.injEq, Prod.mk.injEq] at h
        obtain ⟨rfl, rfl⟩ := h
        simp only [pairs, Bool.and_eq_true] at hpr
        exact ⟨r, s1, rs', hs, hl, hpr.2, fun x => by simp⟩
  | q :: pre, post, st, stf, rs, h, hun, hpr => by
    simp only [List.cons_append, lexrun] at h
    split at h
    · cases h
    · rename_i oq hoq
      split at h
      · cases h
      · rename_i rq s1 hs
        split at h
        · cases h
        · rename_i rs0 stf' hl
          simp only [Option.some.injEq, Prod.mk.injEq] at h
          obtain ⟨rfl, rfl⟩ := h
          simp only [pairs, Bool.and_eq_true, List.all_eq_true] at hpr
          obtain ⟨hp1, hp2⟩ := hpr
          obtain ⟨ri, s2, rs', h1, h2, h3, h4⟩ := pull hdn hoi hready pre post s1 stf' rs0 hl (fun x hx => hun x (by simp [hx])) hp2
          have hok := hp1 ri ((h4 ri).2 (.inl rfl))
          obtain ⟨_, _, _, eq1, _, _⟩ := stepI_cases hs
          obtain ⟨_, _, _, ei1, _, _⟩ := stepI_cases h1
          unfold pairOK at hok
          rw [eq1, ei1] at hok
          have hnd : dep ops ops.size q i = false := by
            cases hx : dep ops ops.size q i with
            | false => rfl
            | true =>
              have := getD_false_true (dep_listed hdn _ _ _ _ hoi hready hx)
              rw [hun q (by simp)] at this; cases this
          rw [hnd, Bool.false_or, Bool.and_eq_true] at hok
          have hap : oq.apart ops oi = true := by have := hok.1; unfold apartB at this; rw [hoq, hoi] at this; exact this
          obtain ⟨s1', g1, g2⟩ := swap hs h1 hap hok.2
          refine ⟨ri, s1', rq :: rs', g1, ?_, ?_, ?_⟩
          · simp only [List.cons_append, lexrun, hoq, g2, h2]
          · simp only [pairs, Bool.and_eq_true, List.all_eq_true]
            exact ⟨fun x hx => hp1 x ((h4 x).2 (.inr hx)), h3⟩
          · intro x
            simp only [List.mem_cons, h4 x]
            constructor
            · rintro (h | h | h)
              · exact .inr (.inl h)
              · exact .inl h
              · exact .inr (.inr h)
            · rintro (h | h | h)
              · exact .inr (.inl h)
              · exact .inl h
              · exact .inr (.inr h)
end

section
variable {P : Program} {tt : TT} {sp : Specs} {γ : Gam} {ops : Array Oper} {base : Nat} {at0 : At} {w0 : World}

theorem edgesDown_ok (h : edgesDown ops = true) {i : Nat} {o : Oper} (ho : ops[i]? = some o) : ∀ e ∈ o.after, Region.binds .any e = true → e.on < i := by
  intro e he hb
  unfold edgesDown at h
  simp only [List.all_eq_true] at h
  have hm : (o, i) ∈ ops.toList.zipIdx := by
    rw [List.mem_zipIdx_iff_getElem?]; simpa using ho
  have := h (o, i) hm
  simp only at this
  have := this e (by simpa using he)
  rw [hb] at this
  simpa using this

theorem min_mem : ∀ (l : List Nat), l ≠ [] → ∃ m ∈ l, ∀ x ∈ l, m ≤ x
  | [], h => absurd rfl h
  | [a], _ => ⟨a, by simp, by simp⟩
  | a :: b :: l, _ => by
    obtain ⟨m, h1, h2⟩ := min_mem (b :: l) (by simp)
    by_cases h : a ≤ m
    · exact ⟨a, by simp, fun x hx => by
        rcases List.mem_cons.1 hx with rfl | hx
        · exact Nat.le_refl _
        · exact Nat.le_trans h (h2 x hx)⟩
    · exact ⟨m, List.mem_cons_of_mem _ h1, fun x hx => by
        rcases List.mem_cons.1 hx with rfl | hx
        · omega
        · exact h2 x hx⟩

theorem any_ok (hT : TTOK P tt) (hS : SpecsOK P sp) (hE : edgesDown ops = true) {Q : Exit → Act → World → Prop} {stf : St} (hQ : ∀ a w, Reps at0 w0 stf a w → Q .normal a w) :
    ∀ (n : Nat) (l : List Nat) (listed : Array Bool) (st : St) (rs : List Rec), l.length = n → l.Nodup → (∀ i, i ∈ l ↔ i < ops.size ∧ listed.getD i true = false) → listed.size = ops.size → Down ops listed →
      lexrun tt sp γ ops base l st = some (rs, stf) → pairs ops rs = true → (∀ r ∈ rs, r.ok) → ∀ a w, Reps at0 w0 st a w → wpAny P .any ops Q n listed a w
  | 0, l, listed, st, rs, hn, _, hl, _, _, hrun, _, _, a, w, hr => by
    have : l = [] := List.eq_nil_of_length_eq_zero hn
    subst this
    simp only [lexrun, Option.some.injEq, Prod.mk.injEq] at hrun
    obtain ⟨_, rfl⟩ := hrun
    refine ⟨?_, hQ a w hr⟩
    rw [List.eq_nil_iff_forall_not_mem]
    intro j hj
    obtain ⟨h1, o, h2, _⟩ := mem_ready.1 hj
    have := (hl j).2 ⟨(Array.getElem?_eq_some_iff.1 h2).1, h1⟩
    cases this
  | n + 1, l, listed, st, rs, hn, hnd, hl, hsz, hdn, hrun, hpr, hpre, a, w, hr => by
    refine ⟨fun hnil => ?_, fun i hi => ?_⟩
    · exfalso
      obtain ⟨m, hm1, hm2⟩ := min_mem l (by intro e; rw [e] at hn; cases hn)
      obtain ⟨hm3, hm4⟩ := (hl m).1 hm1
      have : m ∈ Region.ready .any ops listed := by
        rw [mem_ready]
        refine ⟨hm4, ops[m], Array.getElem?_eq_getElem hm3, fun e he hb => ?_⟩
        have hlt := edgesDown_ok hE (Array.getElem?_eq_getElem hm3) e he hb
        have hno : e.on ∉ l := fun h => by have := hm2 _ h; omega
        have hx : ¬ (listed.getD e.on true = false) := fun h => hno ((hl e.on).2 ⟨by omega, h⟩)
        rw [Array.getD_eq_getD_getElem?] at hx ⊢
        have hlt' : e.on < listed.size := by omega
        simp only [Array.getElem?_eq_getElem hlt', Option.getD_some, Bool.not_eq_false] at hx ⊢
        exact hx
      rw [hnil] at this; cases this
    · obtain ⟨h1, o, h2, h3⟩ := mem_ready.1 hi
      have hil : i ∈ l := (hl i).2 ⟨(Array.getElem?_eq_some_iff.1 h2).1, h1⟩
      obtain ⟨pre, post, rfl⟩ := List.append_of_mem hil
      have hnp := List.nodup_append.1 hnd
      obtain ⟨r, s1, rs', g1, g2, g3, g4⟩ := pull hdn h2 h3 pre post st stf rs hrun (fun q hq => ((hl q).1 (by simp [hq])).2) hpr
      have hni : i ∉ pre ++ post := by
        have h := hnd
        rw [List.nodup_append] at h
        obtain ⟨_, h5, h6⟩ := h
        rw [List.nodup_cons] at h5
        intro hx
        rcases List.mem_append.1 hx with hx | hx
        · exact h6 i hx i (by simp) rfl
        · exact h5.1 hx
      have hlt : i < listed.size := by have := (Array.getElem?_eq_some_iff.1 h2).1; omega
      unfold wpOp
      rw [h2]
      simp only
      have hstep := step_ok (P := P) hT hS g1 (hpre r ((g4 r).2 (.inl rfl))) hr (K := wpAny P .any ops Q n (listed.setIfInBounds i true)) (Q := Q) (fun a' w' hr' => by
        refine any_ok hT hS hE hQ n (pre ++ post) (listed.setIfInBounds i true) s1 rs' ?_ ?_ ?_ (by simpa using hsz) ?_ g2 g3 (fun x hx => hpre x ((g4 x).2 (.inr hx))) a' w' hr'
        · simp at hn ⊢; omega
        · have h := hnd
          rw [List.nodup_append] at h ⊢
          obtain ⟨h5, h6, h7⟩ := h
          rw [List.nodup_cons] at h6
          exact ⟨h5, h6.2, fun x hx y hy => h7 x hx y (by simp [hy])⟩
        · intro j
          by_cases hj : i = j
          · subst hj
            constructor
            · intro h; exact absurd h hni
            · rintro ⟨_, h⟩
              rw [Array.getD_eq_getD_getElem?, Array.getElem?_setIfInBounds_self_of_lt hlt] at h
              cases h
          · rw [getD_set_ne true hj]
            have := hl j
            simp only [List.mem_append, List.mem_cons] at this ⊢
            rw [← this]
            constructor
            · rintro (h | h)
              · exact .inl h
              · exact .inr (.inr h)
            · rintro (h | h | h)
              · exact .inl h
              · exact absurd h.symm hj
              · exact .inr h
        · intro j oj hoj hlj e he hb
          by_cases hj : i = j
          · subst hj
            rw [h2] at hoj; cases hoj
            exact getD_set_true (h3 e he hb)
          · rw [getD_set_ne true hj] at hlj
            exact getD_set_true (hdn j oj hoj hlj e he hb))
      split
      · rename_i hw; rw [if_pos hw] at hstep; exact .inl hstep
      · rename_i hw; rw [if_neg hw] at hstep; exact hstep

/-- A region whose order is drawn. -/
theorem draw_ok (hm : P.follows .mixedOrders = true) (hT : TTOK P tt) (hS : SpecsOK P sp) {id : Nat} {Q : Exit → Act → World → Prop} {st stf : St} {rs : List Rec} (hE : edgesDown ops = true) (hrun : lexrun tt sp γ ops base (List.range ops.size) st = some (rs, stf))
    (hpr : pairs ops rs = true) (hpre : ∀ r ∈ rs, r.ok) {a : Act} {w : World} (hr : Reps at0 w0 st a w) (hQ : ∀ a w, Reps at0 w0 stf a w → Q .normal a w) : (Code.region id ops true).wp P Q a w := by
  refine wp_region_any hm ?_
  refine any_ok hT hS hE hQ ops.size (List.range ops.size) _ st rs (by simp) List.nodup_range ?_ (by simp) ?_ hrun hpr hpre a _ ?_
  · intro i
    rw [List.mem_range]
    constructor
    · intro h; exact ⟨h, by rw [Array.getD_eq_getD_getElem?]; simp [h]⟩
    · exact fun h => h.1
  · intro i o ho hl
    have hlt := (Array.getElem?_eq_some_iff.1 ho).1
    rw [Array.getD_eq_getD_getElem?] at hl
    simp [hlt] at hl
  · obtain ⟨at_, h⟩ := hr
    have hl := Later.drew at_ w
    exact ⟨at_, h.later.trans hl, h.mem.later_free (fun _ _ => rfl) (Nat.le_refl _) hl, RelL.later hl _ _ h.tmp, h.defers⟩
/-- A region in the text's order. -/
theorem plain_ok (hT : TTOK P tt) (hS : SpecsOK P sp) {id : Nat} {Q : Exit → Act → World → Prop} {st stf : St} {rs : List Rec} (hrun : lexrun tt sp γ ops base (List.range ops.size) st = some (rs, stf))
    (hpre : ∀ r ∈ rs, r.ok) {a : Act} {w : World} (hr : Reps at0 w0 st a w) (hQ : ∀ a w, Reps at0 w0 stf a w → Q .normal a w) : (Code.region id ops false).wp P Q a w :=
  wp_region (lexrun_ok hT hS hrun hpre hr hQ)
end
end Go.Sym
/- Code of the symbolic machine: what is to be shown for a body, as one proposition that a machine can compute. -/
namespace Go.Sym
open Go.RowKit

abbrev KT := Exit → St → Prop

def conj (p : Option Prop) (q : Prop) : Prop :=
  match p with
  | none => q
  | some p => p ∧ q
def bcase (b : Bool) (x y : Prop) : Prop :=
  match b with
  | true => x
  | false => y

def condTs : Operand → List Tmp
  | .tmp t => [t]
  | _ => []
def setC (T : List SV) (c : Operand) (b : Bool) : List SV :=
  match c with
  | .tmp t => T.set t (.bool b)
  | _ => T
def guardsOf (ops : Array Oper) : List Nat := ops.toList.filterMap fun o => o.guard.map (·.1)

/-- One after the other; where an operation tells whether others run, both ways. -/
def explore (tt : TT) (sp : Specs) (ops : Array Oper) (base : Nat) (J : List Nat) (D : Gam) (K : List Rec → St → Prop) : List Nat → List Rec → St → Prop
  | [], acc, st => K acc.reverse st
  | i :: l, acc, st => match ops[i]? with
    | none => False
    | some o => match stepI tt sp [] ops base i o st with
      | none => False
      | some (r, st') => conj r.pre (if J.contains i then
          match wants ops o (TR st.T (o.looksAt ops)) with
          | some true => match o.dst with
            | some d => match st'.T.getD d .any with
              | .bool b => bcase b (explore tt sp ops base J D K l ({ r with fx := some (b = true) } :: acc) ⟨st'.T.set d (.bool true), st'.M⟩) (explore tt sp ops base J D K l ({ r with fx := some (b = false) } :: acc) ⟨st'.T.set d (.bool false), st'.M⟩)
              | _ => False
            | none => False
          | _ => explore tt sp ops base J D K l (r :: acc) st'
        else match D.lookup i with
          | none => explore tt sp ops base J D K l (r :: acc) st'
          | some dv => match wants ops o (TR st.T (o.looksAt ops)) with
            | some true => match o.dst with
              | some d => match dv.fix (st'.T.getD d .any) with
                | some q => conj (some q.1) (explore tt sp ops base J D K l ({ r with fx := some q.1 } :: acc) ⟨st'.T.set d q.2, st'.M⟩)
                | none => False
              | none => False
            | _ => explore tt sp ops base J D K l (r :: acc) st')

def extend (ops : Array Oper) (M : List (Option Blk)) : List (Option Blk) := if (ops.toList.any fun o => makes o.op) then M ++ List.replicate ops.size none else M
/-- What is decided ahead of a region's tests. -/
abbrev Dec := List (Nat × Nat × DV)
def Dec.of : Dec → Nat → Gam
  | [], _ => []
  | d :: D, id => if d.1 = id then d.2 :: Dec.of D id else Dec.of D id
def regionVC (tt : TT) (sp : Specs) (D : Gam) (ops : Array Oper) (draw : Bool) (K : St → Prop) (st : St) : Prop :=
  explore tt sp ops st.M.length (guardsOf ops) D (fun rs stf => bcase (!draw || (edgesDown ops && pairs ops rs)) (K stf) False) (List.range ops.size) [] ⟨st.T, extend ops st.M⟩

def loopVC (body : St → KT → Prop) (K : KT) : Nat → St → Prop
  | 0, _ => False
  | n + 1, st => body st fun e st' => match e with
    | .normal => loopVC body K n st'
    | e => K e st'

def vc (tt : TT) (sp : Specs) (fuel : Nat) (D : Dec) : Code → St → KT → Prop
  | .skip, st, K => K .normal st
  | .region id ops draw, st, K => regionVC tt sp (D.of id) ops draw (K .normal) st
  | .seq a b, st, K => vc tt sp fuel D a st fun e st' => match e with
    | .normal => vc tt sp fuel D b st' K
    | e => K e st'
  | .cond c x y, st, K => match TR st.T (condTs c) c with
    | .bool b => bcase b (vc tt sp fuel D x ⟨setC st.T c true, st.M⟩ K) (vc tt sp fuel D y ⟨setC st.T c false, st.M⟩ K)
    | _ => False
  | .block id c, st, K => vc tt sp fuel D c st fun e st' => match e with
    | .exit id' => if id' = id then K .normal st' else K (.exit id') st'
    | e => K e st'
  | .loop c, st, K => loopVC (vc tt sp fuel D c) K fuel st
  | .exit id, st, K => K (.exit id) st
  | .label _, st, K => K .normal st
  | .ret, st, K => K .ret st
  | _, _, _ => False

/-! What it says of the model. -/
section
variable {P : Program} {tt : TT} {sp : Specs} {at0 : At} {w0 : World}

theorem bcase_ok {b : Bool} {x y : Prop} (h : bcase b x y) : (b = true → x) ∧ (b = false → y) := by
  cases b
  · exact ⟨fun e => (by cases e), fun _ => h⟩
  · exact ⟨fun _ => h, fun e => (by cases e)⟩
theorem conj_ok {p : Option Prop} {q : Prop} (h : conj p q) : Ok p ∧ q := by
  cases p with
  | none => exact ⟨trivial, h⟩
  | some p => exact h

theorem fixed_nil (i : Nat) (sv : SV) : fixed [] i sv = some (none, sv) := rfl

/-- A step under decisions, from the step without. -/
theorem stepI_gamma {γ : Gam} {ops : Array Oper} {base i : Nat} {o : Oper} {st st' : St} {r : Rec} (h : stepI tt sp [] ops base i o st = some (r, st')) :
    (γ.lookup i = none → stepI tt sp γ ops base i o st = some (r, st')) ∧
    (wants ops o (TR st.T (o.looksAt ops)) ≠ some true → stepI tt sp γ ops base i o st = some (r, st')) ∧
    (∀ d dv q, γ.lookup i = some dv → o.dst = some d → dv.fix (st'.T.getD d .any) = some q → stepI tt sp γ ops base i o st = some ({ r with fx := some q.1 }, ⟨st'.T.set d q.2, st'.M⟩) ∨ wants ops o (TR st.T (o.looksAt ops)) ≠ some true) := by
  have eqn : ∀ γ : Gam, stepI tt sp γ ops base i o st = match wants ops o (TR st.T (o.looksAt ops)) with
      | none => none
      | some false => some (⟨i, none, none, [], []⟩, ⟨putT st.T o.dst .undef, st.M⟩)
      | some true => match core tt sp (fun n => if (reads (TR st.T (o.looksAt ops)) o.op).contains n then st.M.getD n none else none) (base + i) (TR st.T (o.looksAt ops)) o.op with
        | none => none
        | some out => if okW out.ws (writes sp (TR st.T (o.looksAt ops)) (base + i) o.op) o.op st.M (base + i) = true then
            match fixed γ i out.sv with
            | none => none
            | some (p, sv) => some (⟨i, out.pre, p, reads (TR st.T (o.looksAt ops)) o.op, writes sp (TR st.T (o.looksAt ops)) (base + i) o.op⟩, ⟨putT st.T o.dst sv, applyWs st.M out.ws⟩)
          else none := fun _ => rfl
  rw [eqn] at h ⊢
  cases hw : wants ops o (TR st.T (o.looksAt ops)) with
  | none => rw [hw] at h; cases h
  | some b =>
    rw [hw] at h
    cases b with
    | false => exact ⟨fun _ => h, fun _ => h, fun _ _ _ _ _ _ => .inr (by simp)⟩
    | true =>
      simp only at h
      split at h
      · cases h
      · rename_i out hout
        split at h
        · rename_i hcond
          simp only [hcond, if_true]
          rw [fixed_nil] at h
          simp only [Option.some.injEq, Prod.mk.injEq] at h
          obtain ⟨rfl, rfl⟩ := h
          refine ⟨fun hg => by simp only [fixed, hg], fun hne => absurd rfl hne, fun d dv q hg hd hT => .inl ?_⟩
          by_cases hlt : d < st.T.length
          · simp only [putT, hd, List.getD_eq_getElem?_getD, List.getElem?_set_self hlt, Option.getD_some] at hT
            simp only [fixed, hg, hT, putT, hd, List.set_set]
          · exfalso
            have hle : (st.T.set d out.sv).length ≤ d := by rw [List.length_set]; exact Nat.le_of_not_lt hlt
            simp only [putT, hd, List.getD_eq_getElem?_getD, List.getElem?_eq_none hle, Option.getD_none] at hT
            cases dv <;> cases hT
        · cases h

theorem lookup_append_none {l m : Gam} {i : Nat} (h : ∀ p ∈ l, p.1 ≠ i) : (l ++ m).lookup i = m.lookup i := by
  induction l with
  | nil => rfl
  | cons p l ih =>
    rw [List.cons_append, List.lookup_cons]
    have : (i == p.1) = false := by simpa using fun e => h p (by simp) e.symm
    rw [this]
    exact ih (fun q hq => h q (by simp [hq]))

theorem explore_ok {ops : Array Oper} {base : Nat} {J : List Nat} {D : Gam} {K : List Rec → St → Prop} : ∀ (l : List Nat) (acc : List Rec) (st : St), l.Nodup → explore tt sp ops base J D K l acc st →
    ∃ (γ : Gam) (rs : List Rec) (stf : St), (∀ p ∈ γ, p.1 ∈ l) ∧ (∀ γ' : Gam, (∀ i ∈ l, γ'.lookup i = γ.lookup i) → lexrun tt sp γ' ops base l st = some (rs, stf)) ∧ (∀ r ∈ rs, r.ok) ∧ K (acc.reverse ++ rs) stf
  | [], acc, st, _, h => ⟨[], [], st, by simp, fun _ _ => rfl, by simp, by simpa [explore] using h⟩
  | i :: l, acc, st, hnd, h => by
    simp only [explore] at h
    split at h
    · exact h.elim
    · rename_i o ho
      split at h
      · exact h.elim
      · rename_i r st' hs
        rw [List.nodup_cons] at hnd
        obtain ⟨hpre, h⟩ := conj_ok h
        -- without a decision
        have plain : explore tt sp ops base J D K l (r :: acc) st' → Ok r.fx → (∀ γ : Gam, γ.lookup i = none → stepI tt sp γ ops base i o st = some (r, st')) ∨ (∀ γ : Gam, stepI tt sp γ ops base i o st = some (r, st')) →
            ∃ (γ : Gam) (rs : List Rec) (stf : St), (∀ p ∈ γ, p.1 ∈ i :: l) ∧ (∀ γ' : Gam, (∀ j ∈ i :: l, γ'.lookup j = γ.lookup j) → lexrun tt sp γ' ops base (i :: l) st = some (rs, stf)) ∧ (∀ r ∈ rs, r.ok) ∧ K (acc.reverse ++ rs) stf := by
          intro h hfx hstep
          obtain ⟨γ, rs, stf, h1, h2, h3, h4⟩ := explore_ok l (r :: acc) st' hnd.2 h
          refine ⟨γ, r :: rs, stf, fun p hp => List.mem_cons_of_mem _ (h1 p hp), fun γ' hγ => ?_, fun x hx => ?_, by simpa using h4⟩
          · have hnone : γ'.lookup i = none := by
              rw [hγ i (by simp)]
              have := lookup_append_none (l := γ) (m := []) (i := i) (fun p hp e => hnd.1 (e ▸ h1 p hp))
              simpa using this
            have hs' : stepI tt sp γ' ops base i o st = some (r, st') := by
              rcases hstep with hstep | hstep
              · exact hstep _ hnone
              · exact hstep _
            simp only [lexrun, ho, hs', h2 γ' (fun j hj => hγ j (List.mem_cons_of_mem _ hj))]
          · rcases List.mem_cons.1 hx with rfl | hx
            · exact ⟨hpre, hfx⟩
            · exact h3 x hx
        have hfx0 : Ok r.fx := by
          unfold stepI at hs
          simp only at hs
          split at hs
          · cases hs
          · simp only [Option.some.injEq, Prod.mk.injEq] at hs; rw [← hs.1]; trivial
          · split at hs
            · cases hs
            · split at hs
              · rw [fixed_nil] at hs; simp only [Option.some.injEq, Prod.mk.injEq] at hs; rw [← hs.1]; trivial
              · cases hs
        have dec : ∀ (d : Tmp) (dv : DV) (q : Prop × SV), o.dst = some d → dv.fix (st'.T.getD d .any) = some q → wants ops o (TR st.T (o.looksAt ops)) = some true → q.1 → explore tt sp ops base J D K l ({ r with fx := some q.1 } :: acc) ⟨st'.T.set d q.2, st'.M⟩ →
            ∃ (γ : Gam) (rs : List Rec) (stf : St), (∀ p ∈ γ, p.1 ∈ i :: l) ∧ (∀ γ' : Gam, (∀ j ∈ i :: l, γ'.lookup j = γ.lookup j) → lexrun tt sp γ' ops base (i :: l) st = some (rs, stf)) ∧ (∀ r ∈ rs, r.ok) ∧ K (acc.reverse ++ rs) stf := by
          intro d dv q hd hb hw hc h
          obtain ⟨γ, rs, stf, h1, h2, h3, h4⟩ := explore_ok l _ _ hnd.2 h
          refine ⟨(i, dv) :: γ, { r with fx := some q.1 } :: rs, stf, fun p hp => ?_, fun γ' hγ => ?_, fun x hx => ?_, by simpa using h4⟩
          · rcases List.mem_cons.1 hp with rfl | hp
            · simp
            · exact List.mem_cons_of_mem _ (h1 p hp)
          · have hi : γ'.lookup i = some dv := by rw [hγ i (by simp)]; simp
            have hs' : stepI tt sp γ' ops base i o st = some ({ r with fx := some q.1 }, ⟨st'.T.set d q.2, st'.M⟩) := by
              rcases (stepI_gamma (γ := γ') hs).2.2 d dv q hi hd hb with h | h
              · exact h
              · exact absurd hw h
            have hl : lexrun tt sp γ' ops base l ⟨st'.T.set d q.2, st'.M⟩ = some (rs, stf) := h2 γ' (fun j hj => by
              rw [hγ j (List.mem_cons_of_mem _ hj), List.lookup_cons]
              have : (j == i) = false := by
                simp only [beq_eq_false_iff_ne, ne_eq]
                intro e; subst e; exact hnd.1 hj
              rw [this])
            simp only [lexrun, ho, hs', hl]
          · rcases List.mem_cons.1 hx with rfl | hx
            · exact ⟨hpre, hc⟩
            · exact h3 x hx
        split at h
        · split at h
          · rename_i hw
            split at h
            · rename_i d hd
              split at h
              · rename_i b hb
                obtain ⟨ht, hf⟩ := bcase_ok h
                cases hbv : b with
                | true => exact dec d (.b true) (b = true, .bool true) hd (by rw [hb]; rfl) hw hbv (ht hbv)
                | false => exact dec d (.b false) (b = false, .bool false) hd (by rw [hb]; rfl) hw hbv (hf hbv)
              · exact h.elim
            · exact h.elim
          · rename_i hw
            exact plain h hfx0 (.inr fun γ => (stepI_gamma (γ := γ) hs).2.1 (fun e => hw e))
        · split at h
          · exact plain h hfx0 (.inl fun γ hγ => (stepI_gamma (γ := γ) hs).1 hγ)
          · rename_i b _
            split at h
            · rename_i hw
              split at h
              · rename_i d hd
                split at h
                · rename_i q hb'
                  obtain ⟨h1, h2⟩ := conj_ok h
                  exact dec d b q hd hb' hw h1 h2
                · exact h.elim
              · exact h.elim
            · rename_i hw
              exact plain h hfx0 (.inr fun γ => (stepI_gamma (γ := γ) hs).2.1 (fun e => hw e))

theorem Reps.extend {ops : Array Oper} {st : St} {a : Act} {w : World} (h : Reps at0 w0 st a w) : Reps at0 w0 ⟨st.T, extend ops st.M⟩ a w := by
  obtain ⟨at_, h⟩ := h
  refine ⟨at_, h.later, ?_, h.tmp, h.defers⟩
  unfold Sym.extend
  split
  · have back : ∀ (n : Nat) (cs : Blk), (st.M ++ List.replicate ops.size none)[n]? = some (some cs) → st.M[n]? = some (some cs) := fun n cs e => by
      by_cases hn : n < st.M.length
      · rw [List.getElem?_append_left hn] at e; exact e
      · rw [List.getElem?_append_right (by omega), List.getElem?_replicate] at e
        split at e <;> cases e
    have forth : ∀ (n : Nat) (cs : Blk), st.M[n]? = some (some cs) → (st.M ++ List.replicate ops.size none)[n]? = some (some cs) := fun n cs e => by
      have hn : n < st.M.length := (List.getElem?_eq_some_iff.1 e).1
      rw [List.getElem?_append_left hn]; exact e
    refine ⟨fun n g cs e1 e => h.mem.blk n g cs e1 (back n cs e), h.mem.inj, fun n g e => ?_, h.mem.outlt, fun n l e => h.mem.glk n l (back n _ e), h.mem.ginj, h.mem.gap, fun n e => ?_, h.mem.gsz, h.mem.gout⟩
    · obtain ⟨h1, cs, h2⟩ := h.mem.dom n g e
      exact ⟨h1, cs, forth n cs h2⟩
    · obtain ⟨cs, h2⟩ := h.mem.gdom n e
      exact ⟨cs, forth n cs h2⟩
  · exact h.mem

theorem region_ok (hm : P.follows .mixedOrders = true) (hT : TTOK P tt) (hS : SpecsOK P sp) {id : Nat} {D : Gam} {ops : Array Oper} {draw : Bool} {K : St → Prop} {st : St} (h : regionVC tt sp D ops draw K st) {a : Act} {w : World} (hr : Reps at0 w0 st a w)
    {Q : Exit → Act → World → Prop} (hQ : ∀ st' a' w', K st' → Reps at0 w0 st' a' w' → Q .normal a' w') : (Code.region id ops draw).wp P Q a w := by
  obtain ⟨γ, rs, stf, _, h2, h3, h4⟩ := explore_ok _ _ _ List.nodup_range h
  have hrun := h2 γ (fun _ _ => rfl)
  simp only [List.reverse_nil, List.nil_append] at h4
  obtain ⟨h5, h6⟩ := bcase_ok h4
  cases hb : (!draw || (edgesDown ops && pairs ops rs)) with
  | false => exact (h6 hb).elim
  | true =>
    have hK := h5 hb
    cases draw with
    | false => exact plain_ok hT hS hrun h3 hr.extend (fun a' w' hr' => hQ stf a' w' hK hr')
    | true =>
      simp only [Bool.not_true, Bool.false_or, Bool.and_eq_true] at hb
      exact draw_ok hm hT hS hb.1 hrun hb.2 h3 hr.extend (fun a' w' hr' => hQ stf a' w' hK hr')

/-- No name from k on. -/
def Clean (k : Nat) (at_ : At) : Prop := ∀ n, k ≤ n → at_ n = none ∧ at_.gn n = .unborn
/-- The body, from any state that fits. -/
def AWp (P : Program) (at0 : At) (w0 : World) (c : Code) (st : St) (K : KT) : Prop := ∀ a w, Reps at0 w0 st a w → c.wp P (fun e a' w' => ∃ st', Reps at0 w0 st' a' w' ∧ K e st') a w

theorem AWp.mono {c : Code} {st : St} {K K' : KT} (h : AWp P at0 w0 c st K) (hk : ∀ e st, K e st → K' e st) : AWp P at0 w0 c st K' :=
  fun a w hr => Code.wp_mono (fun _ _ _ ⟨st', h1, h2⟩ => ⟨st', h1, hk _ _ h2⟩) (h a w hr)
theorem AWp.seq {x y : Code} {st : St} {K : KT} (h : AWp P at0 w0 x st fun e st' => match e with | .normal => AWp P at0 w0 y st' K | e => K e st') : AWp P at0 w0 (.seq x y) st K := by
  intro a w hr
  refine wp_seq (Code.wp_mono ?_ (h a w hr))
  rintro e a' w' ⟨st', h1, h2⟩
  cases e with
  | normal => exact h2 a' w' h1
  | _ => exact ⟨st', h1, h2⟩
theorem AWp.block {id : Nat} {c : Code} {st : St} {K : KT} (h : AWp P at0 w0 c st fun e st' => match e with | .exit id' => if id' = id then K .normal st' else K (.exit id') st' | e => K e st') : AWp P at0 w0 (.block id c) st K := by
  intro a w hr
  refine wp_block (Code.wp_mono ?_ (h a w hr))
  rintro e a' w' ⟨st', h1, h2⟩
  cases e with
  | exit id' =>
    simp only [Exit.inBlock]
    split
    · rename_i he; simp only [he, if_true] at h2; exact ⟨st', h1, h2⟩
    · rename_i he; simp only [he, if_false] at h2; exact ⟨st', h1, h2⟩
  | _ => exact ⟨st', h1, h2⟩
/-- A loop: what holds at each round's head, and a measure. -/
theorem AWp.loop {c : Code} {st : St} {K : KT} (I : Nat → St → Prop) (n : Nat) (h0 : I n st) (round : ∀ n st, I n st → AWp P at0 w0 c st fun e st' => match e with | .normal => ∃ m, m < n ∧ I m st' | e => K e st') : AWp P at0 w0 (.loop c) st K := by
  intro a w hr b k cs
  have key : ∀ n st a w, I n st → Reps at0 w0 st a w →
      ∃ e a' w', (∃ st', Reps at0 w0 st' a' w' ∧ K e st') ∧ Arrives P (lone (b.at a (.code c :: .inLoop c :: k)) cs w) b k cs e a' w' := by
    intro n
    induction n using Nat.strongRecOn with
    | _ n ih =>
      intro st a w hI hr
      obtain ⟨e, a1, w1, ⟨st1, hr1, hq⟩, harr⟩ := round n st hI a w hr b (.inLoop c :: k) cs
      cases e with
      | normal =>
        obtain ⟨m, hlt, hI1⟩ := hq
        obtain ⟨e2, a2, w2, hq2, harr2⟩ := ih m hlt st1 a1 w1 hI1 hr1
        exact ⟨e2, a2, w2, hq2, .of_steps (Steps.trans harr (.one step_inLoop)) harr2⟩
      | exit id => exact ⟨_, a1, w1, ⟨st1, hr1, hq⟩, .pass (x := .inLoop c) rfl (fun _ _ => .inl (by simp)) harr⟩
      | goto l => exact ⟨_, a1, w1, ⟨st1, hr1, hq⟩, .pass (x := .inLoop c) rfl (fun _ _ => .inl (by simp)) harr⟩
      | ret => exact ⟨_, a1, w1, ⟨st1, hr1, hq⟩, .pass (x := .inLoop c) rfl (fun _ _ => .inl (by simp)) harr⟩
      | panic ch => exact ⟨_, a1, w1, ⟨st1, hr1, hq⟩, .pass (x := .inLoop c) rfl (fun _ _ => .inl (by simp)) harr⟩
      | outgrown => exact ⟨_, a1, w1, ⟨st1, hr1, hq⟩, .pass (x := .inLoop c) rfl (fun _ _ => .inl (by simp)) harr⟩
  obtain ⟨e, a', w', hq, harr⟩ := key n st a w h0 hr
  exact ⟨e, a', w', hq, .of_steps (.one step_loop) harr⟩

theorem AWp.cond {c : Operand} {x y : Code} {st : St} {K : KT} {b : Bool} (hc : TR st.T (condTs c) c = .bool b)
    (ht : b = true → AWp P at0 w0 x ⟨setC st.T c true, st.M⟩ K) (hf : b = false → AWp P at0 w0 y ⟨setC st.T c false, st.M⟩ K) : AWp P at0 w0 (.cond c x y) st K := by
  intro a w hr
  obtain ⟨at_, h⟩ := hr
  have hrel := TR_ok (ts := condTs c) h.tmp c
  rw [hc] at hrel
  simp only [Rel] at hrel
  have hset : ∀ b', b = b' → RelL at_ w (setC st.T c b') a.tmps.toList := by
    intro b' hb
    subst hb
    cases c with
    | tmp t =>
      simp only [setC]
      have hev : a.eval (.tmp t) = a.tmps.getD t Go.undef := rfl
      rw [hev] at hrel
      have hs := h.tmp.set t (.bool b) (.bool b) (by simp only [Rel])
      have : a.tmps.toList.set t (.bool b) = a.tmps.toList := by
        apply List.ext_getElem?
        intro i
        by_cases hi : t = i
        · subst hi
          by_cases hlt : t < a.tmps.toList.length
          · rw [List.getElem?_set_self hlt, List.getElem?_eq_getElem hlt]
            have hlt' : t < a.tmps.size := by simpa using hlt
            rw [Array.getD_eq_getD_getElem?, Array.getElem?_eq_getElem hlt'] at hrel
            simp only [Option.getD_some] at hrel
            rw [← hrel]; simp
          · rw [List.getElem?_eq_none (by simpa using hlt), List.getElem?_eq_none (by simpa using hlt)]
        · rw [List.getElem?_set_ne hi]
      rw [this] at hs; exact hs
    | _ => exact h.tmp
  refine wp_cond hrel ?_
  cases b with
  | true => exact ht rfl a w ⟨at_, h.later, h.mem, hset true rfl, h.defers⟩
  | false => exact hf rfl a w ⟨at_, h.later, h.mem, hset false rfl, h.defers⟩

theorem vc_ok (hm : P.follows .mixedOrders = true) (hT : TTOK P tt) (hS : SpecsOK P sp) {fuel : Nat} {D : Dec} : ∀ (c : Code) (st : St) (K : KT), vc tt sp fuel D c st K → AWp P at0 w0 c st K
  | .skip, st, K, h => fun a w hr => wp_skip ⟨st, hr, h⟩
  | .label _, st, K, h => fun a w hr => wp_label ⟨st, hr, h⟩
  | .exit id, st, K, h => fun a w hr => wp_exit ⟨st, hr, h⟩
  | .ret, st, K, h => fun a w hr => wp_ret ⟨st, hr, h⟩
  | .region _ _ _, st, K, h => fun a w hr => region_ok hm hT hS h hr (fun st' a' w' hK hr' => ⟨st', hr', hK⟩)
  | .seq x y, st, K, h => by
    refine AWp.seq (AWp.mono (vc_ok hm hT hS x st _ h) ?_)
    intro e st' hk
    cases e with
    | normal => exact vc_ok hm hT hS y st' K hk
    | _ => exact hk
  | .cond c x y, st, K, h => by
    simp only [vc] at h
    split at h
    · rename_i b hb
      obtain ⟨h1, h2⟩ := bcase_ok h
      exact AWp.cond hb (fun e => vc_ok hm hT hS x _ K (h1 e)) (fun e => vc_ok hm hT hS y _ K (h2 e))
    · exact h.elim
  | .block id c, st, K, h => AWp.block (vc_ok hm hT hS c st _ h)
  | .loop c, st, K, h => by
    refine AWp.loop (fun n st => loopVC (vc tt sp fuel D c) K n st) fuel h (fun n st hI => ?_)
    cases n with
    | zero => exact hI.elim
    | succ n =>
      refine AWp.mono (vc_ok hm hT hS c st _ hI) ?_
      intro e st' hk
      cases e with
      | normal => exact ⟨n, Nat.lt_succ_self n, hk⟩
      | _ => exact hk
  | .rangeFunc _ _ _ _, _, _, h => h.elim
  | .scope _, _, _, h => h.elim
  | .goto _, _, _, h => h.elim
  | .refuse _, _, _, h => h.elim

end

/-! Functions. -/
def resOne (tt : TT) (st : St) : ResultVar → Option SV
  | .tmp t => st.T[t]?
  | .cell t ty => match st.T[t]?, tt.lookup ty with
    | some (.ptr b 0), some i => match st.M[b]? with
      | some (some cs) => if i.d.agg = true ∧ cs.length = i.size then some (.agg cs) else none
      | _ => none
    | _, _ => none
def resAll (tt : TT) (st : St) : List ResultVar → Option (List SV)
  | [] => some []
  | r :: rs => match resOne tt st r, resAll tt st rs with
    | some v, some vs => some (v :: vs)
    | _, _ => none
def retSV : List SV → SV
  | [v] => v
  | vs => .tup vs
mutual
/-- A result, as the caller sees it. -/
def freeze (M : List (Option Blk)) : SV → Option SV
  | .ptr b off => match M[b]? with
    | some (some cs) => if noNameL cs = true then some (.ro cs off) else none
    | _ => none
  | .slc b off len cap => match M[b]? with
    | some (some cs) => if off + len ≤ cs.length ∧ 0 < len ∧ len ≤ cap then (asLV ((cs.drop off).take len)).map .lst else none
    | _ => none
  | .sl b lo len => match M[b]? with
    | some (some [.own l]) => some (.lst (l.cut lo (lo + len)))
    | _ => none
  | .lp _ _ | .own _ => none
  | .agg cs => match freezeL M cs with
    | some ds => some (.agg ds)
    | none => none
  | .tup cs => match freezeL M cs with
    | some ds => some (.tup ds)
    | none => none
  | .lel x => if x.noName = true then some (.lel x) else none
  | .ro cs off => if noNameL cs = true then some (.ro cs off) else none
  | .fn f cs => if noNameL cs = true then some (.fn f cs) else none
  | v => some v
def freezeL (M : List (Option Blk)) : List SV → Option (List SV)
  | [] => some []
  | c :: cs => match freeze M c, freezeL M cs with
    | some d, some ds => some (d :: ds)
    | _, _ => none
end
def finK (tt : TT) (fr : List ResultVar) (Q : SV → Prop) : KT := fun e st =>
  match e with
  | .normal | .ret => match resAll tt st fr with
    | some vs => match freeze st.M (retSV vs) with
      | some r => Q r
      | none => False
    | none => False
  | _ => False
def init (args : List SV) (n : Nat) : St := ⟨args ++ List.replicate (n - args.length) .any, []⟩

section
variable {at_ at' : At} {w : World} {M : List (Option Blk)}
/-- What was the machine's own is nobody's to write behind the return. -/
theorem freeze_own (hM : MemOK at_ M w) (hfix : ∀ g, Fix at_ g → Fix at' g) (hown : ∀ n g, at_ n = some g → Fix at' g) {s r : SV} {v : Value} (hs : (∃ b off, s = .ptr b off) ∨ (∃ b off len cap, s = .slc b off len cap)) (h : freeze M s = some r)
    (hr : Rel at_ w s v) : Rel at' w r v := by
  rcases hs with ⟨b, off, rfl⟩ | ⟨b, off, len, cap, rfl⟩
  · simp only [freeze] at h
    split at h
    · rename_i cs hc
      split at h
      · rename_i hn
        simp only [Option.some.injEq] at h; subst h
        simp only [Rel] at hr ⊢
        obtain ⟨g, h1, h2⟩ := hr
        obtain ⟨ty, vs, h4, h5⟩ := hM.blk _ _ _ h1 hc
        exact ⟨g, ty, (0, 0), vs, h2, hown _ _ h1, h4, RelL.noName hfix _ _ hn h5⟩
      · cases h
    · cases h
  · simp only [freeze] at h
    split at h
    · rename_i cs hc
      split at h
      · rename_i hcond
        obtain ⟨c1, c2, c3⟩ := hcond
        obtain ⟨l, hl, e⟩ := Option.map_eq_some_iff.1 h
        subst e
        simp only [Rel] at hr ⊢
        obtain ⟨g, h1, h2⟩ := hr
        obtain ⟨ty, vs, h4, h5⟩ := hM.blk _ _ _ h1 hc
        have h6 := asLV_ok hl ((h5.drop off).take len)
        have hlen := h5.length
        have hll : l.len = len := by rw [← LV.len_vals, ← h6]; simp; omega
        refine ⟨_, _, by rw [hll]; exact h2, by omega, fun j u hj => ⟨_, rfl, hown _ _ h1, ?_⟩⟩
        rw [addr_add, cell_of_row w g _ _ ty (0, 0) h4]
        rw [← h6, List.getElem?_take] at hj
        split at hj
        · simpa using hj
        · cases hj
      · cases h
    · cases h
mutual
theorem freeze_ok (hM : MemOK at_ M w) (hfix : ∀ g, Fix at_ g → Fix at' g) (hown : ∀ n g, at_ n = some g → Fix at' g) (hgown : ∀ n g b c k, at_.gn n = .live g b c k → Fix at' g) : ∀ (s r : SV) (v : Value), freeze M s = some r → Rel at_ w s v → Rel at' w r v
  | .i64 _, _, _, h, r => by simp only [freeze, Option.some.injEq] at h; subst h; simpa only [Rel] using r
  | .u64 _, _, _, h, r => by simp only [freeze, Option.some.injEq] at h; subst h; simpa only [Rel] using r
  | .u32 _, _, _, h, r => by simp only [freeze, Option.some.injEq] at h; subst h; simpa only [Rel] using r
  | .u8 _, _, _, h, r => by simp only [freeze, Option.some.injEq] at h; subst h; simpa only [Rel] using r
  | .bool _, _, _, h, r => by simp only [freeze, Option.some.injEq] at h; subst h; simpa only [Rel] using r
  | .val _, _, _, h, r => by simp only [freeze, Option.some.injEq] at h; subst h; simpa only [Rel] using r
  | .undef, _, _, h, r => by simp only [freeze, Option.some.injEq] at h; subst h; simpa only [Rel] using r
  | .any, _, _, h, _ => by simp only [freeze, Option.some.injEq] at h; subst h; simp only [Rel]
  | .lst l, _, _, h, r => by
    simp only [freeze, Option.some.injEq] at h; subst h
    exact Rel.noName hfix (.lst l) _ rfl r
  | .ptr b off, _, _, h, r => freeze_own hM hfix hown (.inl ⟨b, off, rfl⟩) h r
  | .slc b off len cap, _, _, h, r => freeze_own hM hfix hown (.inr ⟨b, off, len, cap, rfl⟩) h r
  | .sl b lo len, _, _, h, r => by
    simp only [freeze] at h
    split at h
    · rename_i l hl
      simp only [Option.some.injEq] at h; subst h
      exact (sl_lst hM hl r (fun g b' c k e => hgown b g b' c k e)).1
    · cases h
  | .lp _ _, _, _, h, _ => by simp [freeze] at h
  | .own _, _, _, h, _ => by simp [freeze] at h
  | .lel x, _, _, h, r => by
    simp only [freeze] at h
    split at h
    · rename_i hn; simp only [Option.some.injEq] at h; subst h; exact Rel.noName hfix (.lel x) _ (by simpa only [SV.noName] using hn) r
    · cases h
  | .ro cs off, _, _, h, r => by
    simp only [freeze] at h
    split at h
    · rename_i hn; simp only [Option.some.injEq] at h; subst h; exact Rel.noName hfix (.ro cs off) _ (by simpa only [SV.noName] using hn) r
    · cases h
  | .fn f cs, _, _, h, r => by
    simp only [freeze] at h
    split at h
    · rename_i hn; simp only [Option.some.injEq] at h; subst h; exact Rel.noName hfix (.fn f cs) _ (by simpa only [SV.noName] using hn) r
    · cases h
  | .agg cs, _, _, h, r => by
    simp only [freeze] at h
    split at h
    · rename_i ds hd
      simp only [Option.some.injEq] at h; subst h
      simp only [Rel] at r ⊢
      obtain ⟨vs, h1, h2⟩ := r
      exact ⟨vs, h1, freezeL_ok hM hfix hown hgown cs ds vs hd h2⟩
    · cases h
  | .tup cs, _, _, h, r => by
    simp only [freeze] at h
    split at h
    · rename_i ds hd
      simp only [Option.some.injEq] at h; subst h
      simp only [Rel] at r ⊢
      obtain ⟨vs, h1, h2⟩ := r
      exact ⟨vs, h1, freezeL_ok hM hfix hown hgown cs ds vs hd h2⟩
    · cases h
theorem freezeL_ok (hM : MemOK at_ M w) (hfix : ∀ g, Fix at_ g → Fix at' g) (hown : ∀ n g, at_ n = some g → Fix at' g) (hgown : ∀ n g b c k, at_.gn n = .live g b c k → Fix at' g) : ∀ (s r : List SV) (v : List Value), freezeL M s = some r → RelL at_ w s v → RelL at' w r v
  | [], _, _, h, r => by simp only [freezeL, Option.some.injEq] at h; subst h; simpa only [RelL] using r
  | c :: cs, _, _, h, r => by
    simp only [freezeL] at h
    simp only [RelL] at r
    obtain ⟨u, us, rfl, h2, h3⟩ := r
    split at h
    · rename_i d ds hd hds
      simp only [Option.some.injEq] at h; subst h
      exact RelL.cons (freeze_ok hM hfix hown hgown c d u hd h2) (freezeL_ok hM hfix hown hgown cs ds us hds h3)
    · cases h
end

variable {P : Program}
def resSem (a : Act) : ResultVar → Sem Value
  | .tmp t => pure (a.tmps.getD t Go.undef)
  | .cell b t => do loadVar t (← asAddr (a.tmps.getD b Go.undef))
theorem resAll_ok {tt : TT} (hT : TTOK P tt) {st : St} {a : Act} (hM : MemOK at_ st.M w) (hr : RelL at_ w st.T a.tmps.toList) :
    ∀ (l : List ResultVar) (vs : List SV), resAll tt st l = some vs → ∃ us, (l.mapM (resSem a)).run P w = .ok us w ∧ RelL at_ w vs us
  | [], vs, h => by simp only [resAll, Option.some.injEq] at h; subst h; exact ⟨[], by simp, RelL.nil⟩
  | r :: l, vs, h => by
    simp only [resAll] at h
    split at h
    · rename_i v vs' hv hvs
      simp only [Option.some.injEq] at h; subst h
      obtain ⟨us, h1, h2⟩ := resAll_ok hT hM hr l vs' hvs
      have get : ∀ t s, st.T[t]? = some s → Rel at_ w s (a.tmps.getD t Go.undef) := by
        intro t s e
        obtain ⟨u, e1, e2⟩ := hr.get t s e
        rw [Array.getElem?_toList] at e1
        rw [Array.getD_eq_getD_getElem?, e1]; exact e2
      have fin : ∀ u, (resSem a r).run P w = .ok u w → Rel at_ w v u → ∃ us, ((r :: l).mapM (resSem a)).run P w = .ok us w ∧ RelL at_ w (v :: vs') us := by
        intro u e1 e2
        exact ⟨u :: us, by simp only [List.mapM_cons, Sem.run_bind, e1, Sem.run_pure, Result.andThen_ok, h1], RelL.cons e2 h2⟩
      cases r with
      | tmp t =>
        simp only [resOne] at hv
        exact fin _ rfl (get t v hv)
      | cell t ty =>
        simp only [resOne] at hv
        split at hv
        · rename_i b i hb hi
          split at hv
          · rename_i cs hcs
            split at hv
            · rename_i hcond
              simp only [Option.some.injEq] at hv; subst hv
              have hg := get t _ hb
              simp only [Rel] at hg
              obtain ⟨g, g1, g2⟩ := hg
              obtain ⟨ty', us', g4, g5⟩ := hM.blk _ _ _ g1 hcs
              have hll := g5.length
              have hrun := run_loadVar_cells (P := P) (hT _ _ hi) (off := 0) g4 hcond.1 (by omega)
              have : (us'.drop 0).take i.size = us' := by rw [List.drop_zero, List.take_of_length_le (by omega)]
              rw [this] at hrun
              refine fin (.agg (List.toArray us')) ?_ (by simp only [Rel]; exact ⟨us', rfl, g5⟩)
              simp only [resSem, Sem.run_bind, g2, asAddr, Sem.run_pure, Result.andThen_ok, hrun]
            · cases hv
          · cases hv
        · cases hv
    · cases h
def retV : List Value → Value
  | [v] => v
  | us => .tuple (List.toArray us)
theorem results_run {fn : Func} {a : Act} {us : List Value} (h : (fn.results.toList.mapM (resSem a)).run P w = .ok us w) :
    (results fn a.tmps).run P w = .ok (retV us) w := by
  have e : results fn a.tmps = (do let vs ← fn.results.mapM (resSem a); pure (if h : vs.size = 1 then vs[0] else .tuple vs)) := rfl
  rw [e, Array.mapM_eq_mapM_toList]
  simp only [Sem.run_bind, Sem.run_map, h, Result.andThen_ok, Sem.run_pure]
  rcases us with _ | ⟨u, _ | ⟨u', us⟩⟩ <;> simp [retV]

/-- **A function, from what its body's proposition says.** -/
theorem calls_of_awp (_hm : P.follows .mixedOrders = true) {tt : TT} {sp : Specs} (hT : TTOK P tt) (_hS : SpecsOK P sp) {f : FuncId} {fn : Func} {c : Code} (hf : P.funcs[f]? = some fn) (hb : fn.body = some c) {svs : List SV} {Q : SV → Prop}
    (hvc : ∀ at0 w0, Clean 0 at0 → AWp P at0 w0 c (init svs fn.ntmps) (finK tt fn.results.toList Q)) (hn : noNameL svs = true) {vs : List Value} {w : World} (hat : ∀ n g, at_ n = some g → g < w.heap.size) (hout : ∀ g, (at_.out g ∨ ∃ n b c k, at_.gn n = .live g b c k) → g < w.heap.size) (hr : RelL at_ w svs vs) :
    Calls P f (List.toArray vs) w fun e w' => ∃ v, e = .returned v ∧ ∃ r, Q r ∧ Rel at_ w' r v ∧ Below w.heap.size w w' := by
  refine calls_of_wp hf hb ?_
  let at0 : At := ⟨fun _ => none, fun g => (∃ n, at_ n = some g) ∨ at_.out g ∨ ∃ n b c k, at_.gn n = .live g b c k, fun _ => .unborn⟩
  have fixA : ∀ g, Fix at_ g → Fix at0 g := fun g h => ⟨fun n e => by simp [at0] at e, fun e => by
    rcases e with ⟨n, e⟩ | e | ⟨n, b, c, k, e⟩
    · exact h.1 n e
    · exact h.2.1 e
    · exact h.2.2 n b c k e, fun _ _ _ _ e => by simp [at0] at e⟩
  have fixB : ∀ g, ¬ at0.out g → Fix at_ g := fun g h => ⟨fun n e => h (.inl ⟨n, e⟩), fun e => h (.inr (.inl e)), fun n b c k e => h (.inr (.inr ⟨n, b, c, k, e⟩))⟩
  have hlen := hr.length
  have hstart : Reps at0 w (init svs fn.ntmps) { tmps := List.toArray vs ++ Array.replicate (fn.ntmps - (List.toArray vs).size) Go.undef, defers := [] } w := by
    refine ⟨at0, Later.refl _ _, ⟨fun n g cs e1 e => by simp [init] at e, fun n m g e => by simp [at0] at e, fun n g e => by simp [at0] at e, fun g h => ?_, fun n l e => by simp [init] at e, fun n m g b c k b' c' k' e => by simp [at0] at e, fun n m g b c k e => by simp [at0] at e, fun n e => by simp [at0] at e, fun n g b c k e => by simp [at0] at e, fun n g b c k e => by simp [at0] at e⟩, ?_, rfl⟩
    · rcases h with ⟨n, h⟩ | h
      · exact hat n g h
      · exact hout g h
    · simp only [init, Array.toList_append, Array.toList_replicate, List.size_toArray, hlen]
      exact RelL.append (RelL.noName fixA _ _ hn hr) (RelL.replicate _ (by simp only [Rel]))
  refine Code.wp_mono ?_ (hvc _ _ (fun _ _ => ⟨rfl, rfl⟩) _ _ hstart)
  rintro e a' w' ⟨st', ⟨at', hl, hM, hT', hd⟩, hk⟩
  have fin : finK tt fn.results.toList Q .ret st' →
      a'.defers = [] ∧ ∃ v, (results fn a'.tmps).run P w' = .ok v w' ∧ ∃ u, Ending.returned v = .returned u ∧ ∃ r, Q r ∧ Rel at_ w' r u ∧ Below w.heap.size w w' := by
    intro hk
    refine ⟨hd, ?_⟩
    simp only [finK] at hk
    split at hk
    · rename_i svs' hres
      split at hk
      · rename_i r hfr
        obtain ⟨us, h1, h2⟩ := resAll_ok hT hM hT' _ _ hres
        have hrun := results_run h1
        refine ⟨_, hrun, _, rfl, r, hk, ?_, ?_⟩
        · have hrel : Rel at' w' (retSV svs') (retV us) := by
            rcases svs' with _ | ⟨s, _ | ⟨s', ss⟩⟩
            · simp only [RelL] at h2; subst h2; simp only [retSV, Rel]; exact ⟨[], rfl, RelL.nil⟩
            · simp only [RelL] at h2
              obtain ⟨v, vs', rfl, h3, rfl⟩ := h2
              exact h3
            · have h2' := h2
              simp only [RelL] at h2
              obtain ⟨v, vs', rfl, h3, v', vs'', rfl, h4, h5⟩ := h2
              simp only [retSV, Rel]
              exact ⟨_, rfl, h2'⟩
          refine freeze_ok hM (fun g hg => fixB g (fun ho => hg.2.1 (by rw [hl.out]; exact ho))) (fun n g e => ?_) (fun n g b c k e => ?_) _ _ _ hfr hrel
          · rcases hl.new n g e with e' | e'
            · simp [at0] at e'
            · exact ⟨fun m h => by have := hat m g h; omega, fun h => by have := hout g (.inl h); omega, fun n b c k h => by have := hout g (.inr ⟨n, b, c, k, h⟩); omega⟩
          · rcases hl.gnew n g b c k e with ⟨m, b', c', k', e'⟩ | e'
            · simp [at0] at e'
            · exact ⟨fun m h => by have := hat m g h; omega, fun h => by have := hout g (.inl h); omega, fun n b c k h => by have := hout g (.inr ⟨n, b, c, k, h⟩); omega⟩
        · refine ⟨hl.os, hl.tape, hl.output, hl.size, fun k hk' => ?_⟩
          exact (hl.keep k (fun n e => by simp [at0] at e) (fun n b c k e => by simp [at0] at e) hk').2.2
      · exact hk.elim
    · exact hk.elim
  cases e with
  | normal => exact fin hk
  | ret => exact fin hk
  | exit id => exact hk.elim
  | goto l => exact hk.elim
  | panic ch => exact hk.elim
  | outgrown => exact hk.elim
theorem calls_of_vc (hm : P.follows .mixedOrders = true) {tt : TT} {sp : Specs} (hT : TTOK P tt) (hS : SpecsOK P sp) {fuel : Nat} {D : Dec} {f : FuncId} {fn : Func} {c : Code} (hf : P.funcs[f]? = some fn) (hb : fn.body = some c) {svs : List SV} {Q : SV → Prop}
    (hvc : vc tt sp fuel D c (init svs fn.ntmps) (finK tt fn.results.toList Q)) (hn : noNameL svs = true) {vs : List Value} {w : World} (hat : ∀ n g, at_ n = some g → g < w.heap.size) (hout : ∀ g, (at_.out g ∨ ∃ n b c k, at_.gn n = .live g b c k) → g < w.heap.size) (hr : RelL at_ w svs vs) :
    Calls P f (List.toArray vs) w fun e w' => ∃ v, e = .returned v ∧ ∃ r, Q r ∧ Rel at_ w' r v ∧ Below w.heap.size w w' :=
  calls_of_awp hm hT hS hf hb (fun _ _ _ => vc_ok hm hT hS c _ _ hvc) hn hat hout hr
end
end Go.Sym
