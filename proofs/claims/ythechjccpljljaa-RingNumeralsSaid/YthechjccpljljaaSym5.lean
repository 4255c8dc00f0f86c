/- The symbolic machine's operations are right: all of them. -/
import Derived.Test.YthechjccpljljaaSym4g
namespace Go.Sym
open Go.RowKit

section
variable {P : Program} {at_ : At} {w : World} {M : List (Option Blk)} {look : Nat → Option Blk} {tt : TT} {sp : Specs} {fresh : Nat} {ρ : Operand → SV} {ev : Operand → Value}

theorem target_ok (hM : MemOK at_ M w) (hlook : ∀ n cs, look n = some cs → M[n]? = some (some cs)) {s : SV} {v : Value} {cs : Blk} {off : Nat} (h : target look s = some (cs, off)) (r : Rel at_ w s v) :
    ∃ g ty fz vs, v = .pointer (some ⟨g, off, none⟩) ∧ w.heap[g]? = some (.cells (List.toArray vs) ty fz) ∧ RelL at_ w cs vs := by
  unfold target at h
  split at h
  · obtain ⟨cs', hc, e⟩ := Option.map_eq_some_iff.1 h
    simp only [Prod.mk.injEq] at e
    obtain ⟨rfl, rfl⟩ := e
    simp only [Rel] at r
    obtain ⟨g, h1, h2⟩ := r
    obtain ⟨ty, vs, h4, h5⟩ := hM.blk _ _ _ h1 (hlook _ _ hc)
    exact ⟨g, ty, _, vs, h2, h4, h5⟩
  · simp only [Option.some.injEq, Prod.mk.injEq] at h
    obtain ⟨rfl, rfl⟩ := h
    simp only [Rel] at r
    obtain ⟨g, ty, fz, vs, h1, _, h3, h4⟩ := r
    exact ⟨g, ty, fz, vs, h1, h3, h4⟩
  · cases h

theorem loadVar_ok {t : TypeId} {i : TI} (hi : TIOK P t i) {cs : Blk} {off g : Nat} {ty : TypeId} {fz : Nat × Nat} {vs : List Value} {out : Out} (hg : w.heap[g]? = some (.cells (List.toArray vs) ty fz)) (hr : RelL at_ w cs vs)
    (h : ldAt i.d.agg i.size (some (cs, off)) = some out) : ∃ v, (loadVar t ⟨g, off, none⟩).run P w = .ok v w ∧ Rel at_ w out.sv v ∧ out.ws = [] := by
  unfold ldAt at h
  simp only at h
  split at h
  · rename_i ha
    split at h
    · simp only [mk, Option.some.injEq] at h; subst h
      have hl := hr.length
      exact ⟨_, run_loadVar_cells hi hg ha (by omega), by simp only [Rel]; exact ⟨_, rfl, (hr.drop off).take _⟩, rfl⟩
    · cases h
  · rename_i ha
    cases hc : cs[off]? with
    | none => rw [hc] at h; cases h
    | some c =>
      rw [hc] at h
      simp only [mk?, Option.some.injEq] at h; subst h
      obtain ⟨u, h1, h2⟩ := hr.get off c hc
      refine ⟨u, run_loadVar_one hi ?_ (by simpa using ha), h2, rfl⟩
      rw [cell_of_row w g off _ ty fz hg]; simpa using h1

theorem part_ok {t : TypeId} {i : TI} (hi : TIOK P t i) {cs : List SV} {off : Nat} {vs : List Value} {out : Out} (hr : RelL at_ w cs vs)
    (h : ldAt i.d.agg i.size (some (cs, off)) = some out) : ∃ v, (part t (List.toArray vs) off).run P w = .ok v w ∧ Rel at_ w out.sv v ∧ out.ws = [] := by
  unfold ldAt at h
  simp only at h
  split at h
  · rename_i ha
    split at h
    · simp only [mk, Option.some.injEq] at h; subst h
      exact ⟨_, run_part_agg hi ha, by simp only [Rel]; exact ⟨_, rfl, (hr.drop off).take _⟩, rfl⟩
    · cases h
  · rename_i ha
    cases hc : cs[off]? with
    | none => rw [hc] at h; cases h
    | some c =>
      rw [hc] at h
      simp only [mk?, Option.some.injEq] at h; subst h
      obtain ⟨u, h1, h2⟩ := hr.get off c hc
      exact ⟨u, run_part_one hi (by simpa using ha) (by simpa using h1), h2, rfl⟩

/-- A value is come to, and nothing is written. -/
theorem Outcome.value {r : Sem Next} {v : Value} {sv : SV} (hM : MemOK at_ M w) (h : r.run P w = .ok (.value v) w) (hr : Rel at_ w sv v) : Outcome P (r.run P w) (Post at_ w M [] sv) := by
  rw [h]; exact Post.same hM hr
theorem Outcome.valueS {r : Sem Value} {v : Value} {sv : SV} (hM : MemOK at_ M w) (h : r.run P w = .ok v w) (hr : Rel at_ w sv v) : Outcome P ((do pure (Next.value (← r)) : Sem Next).run P w) (Post at_ w M [] sv) := by
  refine Outcome.value (v := v) hM ?_ hr
  simp only [Sem.run_bind, h, Result.andThen_ok, Sem.run_pure]

theorem toI_ok {s : SV} {v : Value} {n : Int} (h : s.toI = some n) (r : Rel at_ w s v) : ∃ k, v = .int k n := by
  cases s <;> simp only [SV.toI] at h <;> simp only [Rel] at r <;> first | (cases h; done) | (simp only [Option.some.injEq] at h; subst h; exact ⟨_, r⟩)

theorem LV.get_at (l : LV) (i : Nat) (h : i < l.len) : ∃ u, l.vals[i]? = some u ∧ ∀ (at_ : At) (w : World), Rel at_ w (l.at_ i) u := by
  cases l <;> simp only [LV.len] at h <;> simp only [LV.vals, LV.at_, Rel, List.getElem?_map, List.getElem?_eq_getElem h, Option.map_some, Option.some.injEq, List.getD_eq_getElem?_getD, Option.getD_some, exists_eq_left', implies_true]

theorem parts_rel (parts : Array (Nat × Operand)) (hρ : ∀ x, Rel at_ w (ρ x) (ev x)) : ((parts.map fun (i, x) => (i, ev x)).toList.map (·.1)) = ((parts.toList.map fun p => (p.1, ρ p.2)).map (·.1)) ∧
    ∀ (i : Nat) (p : Nat × SV) (q : Nat × Value), (parts.toList.map fun p => (p.1, ρ p.2))[i]? = some p → (parts.map fun (i, x) => (i, ev x)).toList[i]? = some q → Rel at_ w p.2 q.2 := by
  refine ⟨by simp [Function.comp_def], fun i p q h1 h2 => ?_⟩
  simp only [Array.toList_map, List.getElem?_map, Option.map_eq_some_iff] at h1 h2
  obtain ⟨a, ha, rfl⟩ := h1
  obtain ⟨b, hb, rfl⟩ := h2
  rw [ha] at hb; cases hb
  exact hρ _

end

theorem places_ok {P : Program} {tt : TT} (hT : TTOK P tt) (w : World) : ∀ {F : List Field} {pl : List (Nat × Nat)}, placesT tt (F.map fun f => (f.offset, f.type)) = some pl →
    (F.mapM (m := Sem) fun f => do pure (f.offset, ← sizeOf f.type)).run P w = .ok pl w
  | [], pl, h => by simp only [List.map_nil, placesT, Option.some.injEq] at h; subst h; simp
  | f :: F, pl, h => by
    simp only [List.map_cons, placesT] at h
    cases h1 : sizeT tt f.type with
    | none => rw [h1] at h; cases h
    | some s =>
      rw [h1] at h
      cases h2 : placesT tt (F.map fun f => (f.offset, f.type)) with
      | none => rw [h2] at h; cases h
      | some r =>
        rw [h2] at h
        simp only [Option.some.injEq] at h
        subst h
        unfold sizeT at h1
        obtain ⟨j, hj, rfl⟩ := Option.map_eq_some_iff.1 h1
        simp only [List.mapM_cons, Sem.run_bind, (hT _ _ hj).sizeOf, Result.andThen_ok, Sem.run_pure, places_ok hT w h2]

section
variable {P : Program} {at_ : At} {w : World} {M : List (Option Blk)} {look : Nat → Option Blk} {tt : TT} {sp : Specs} {fresh : Nat} {ρ : Operand → SV} {ev : Operand → Value}
variable (hT : TTOK P tt) (hS : SpecsOK P sp) (hM : MemOK at_ M w) (hlook : ∀ n cs, look n = some cs → M[n]? = some (some cs)) (hf : M[fresh]? = some none) (hρ : ∀ x, Rel at_ w (ρ x) (ev x))
include hT hM hρ

theorem ok_build {t : TypeId} {parts : Array (Nat × Operand)} {out : Out} (h : core tt sp look fresh ρ (.build t parts) = some out) :
    Outcome P ((do pure (Next.value (← Instr.build t (parts.map fun (i, x) => (i, ev x)))) : Sem Next).run P w) (Post at_ w M out.ws out.sv) := by
  obtain ⟨hp1, hp2⟩ := parts_rel (at_ := at_) (w := w) (ρ := ρ) (ev := ev) parts hρ
  simp only [core] at h
  split at h
  · rename_i fs size bytes zero heq
    have hi := hT _ _ heq
    obtain ⟨F, hF, hFs⟩ := hi.struct rfl
    obtain ⟨x, z, h1, h2, h3, h4, h5⟩ := hi.ti
    split at h
    · rename_i pl hpl
      split at h
      · rename_i cs hfill
        simp only [mk, Option.some.injEq] at h; subst h
        obtain ⟨vout, g1, g2⟩ := fill_ok _ _ _ _ _ hfill (RelL.ofV at_ w zero) hp1 hp2
        refine Outcome.valueS (v := .agg (List.toArray vout)) hM ?_ (by simp only [Rel]; exact ⟨_, rfl, g2⟩)
        have hz : z.cells = List.toArray zero := by have := congrArg List.toArray h3; simpa using this
        rw [← hFs] at hpl
        have hplaces := places_ok hT w hpl
        simp only [Instr.build, zeroValue, Sem.run_bind, typeInfo, run_program, h1, Result.andThen_ok, Sem.run_pure, h2, run_underlying hF, hz, Array.mapM_eq_mapM_toList, Sem.run_map, hplaces]
        simp only [List.getElem?_toArray, g1, Sem.run_pure]
      · cases h
    · cases h
  · rename_i n e size bytes zero heq
    have hi := hT _ _ heq
    obtain ⟨x, z, h1, h2, h3, h4, h5⟩ := hi.ti
    split at h
    · rename_i s hs
      split at h
      · rename_i cs hfill
        simp only [mk, Option.some.injEq] at h; subst h
        unfold sizeT at hs
        obtain ⟨j, hj, rfl⟩ := Option.map_eq_some_iff.1 hs
        have hj' := hT _ _ hj
        obtain ⟨vout, g1, g2⟩ := fill_ok _ _ _ _ _ hfill (RelL.ofV at_ w zero) hp1 hp2
        refine Outcome.valueS (v := .agg (List.toArray vout)) hM ?_ (by simp only [Rel]; exact ⟨_, rfl, g2⟩)
        have hz : z.cells = List.toArray zero := by have := congrArg List.toArray h3; simpa using this
        simp only [Instr.build, zeroValue, Sem.run_bind, typeInfo, run_program, h1, Result.andThen_ok, Sem.run_pure, h2, run_underlying (hi.array rfl), hj'.sizeOf, hz]
        simp only [g1, Sem.run_pure]
      · cases h
    · cases h
  · cases h
end
end Go.Sym
