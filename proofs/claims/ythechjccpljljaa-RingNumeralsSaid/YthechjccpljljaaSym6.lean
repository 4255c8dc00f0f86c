/- The symbolic machine's operations are right: all of them, in one theorem. -/
import Derived.Test.YthechjccpljljaaSym5
namespace Go.Sym
open Go.RowKit

section
variable {P : Program} {at_ : At} {w : World} {M : List (Option Blk)} {look : Nat → Option Blk} {tt : TT} {sp : Specs} {fresh : Nat} {ρ : Operand → SV} {ev : Operand → Value}
variable (hT : TTOK P tt) (hS : SpecsOK P sp) (hM : MemOK at_ M w) (hlook : ∀ n cs, look n = some cs → M[n]? = some (some cs)) (hf : M[fresh]? = some none) (hρ : ∀ x, Rel at_ w (ρ x) (ev x))
include hM hρ

theorem ok_pick {c a b : Operand} {out : Out} (h : core tt sp look fresh ρ (.pick c a b) = some out) :
    Outcome P ((do pure (Next.value (if ← asBool (ev c) then ev a else ev b)) : Sem Next).run P w) (Post at_ w M out.ws out.sv) := by
  have hc := hρ c
  have ha := hρ a
  have hb := hρ b
  simp only [core] at h
  split at h
  · rename_i c' x y hc' hx hy
    simp only [mk, Option.some.injEq] at h; subst h
    rw [hc'] at hc; rw [hx] at ha; rw [hy] at hb
    simp only [Rel] at hc ha hb
    refine Outcome.value (v := .bool (cond c' x y)) hM ?_ (by simp only [Rel])
    simp only [hc, ha, hb, asBool, Sem.run_bind, Sem.run_pure, Result.andThen_ok]
    cases c' <;> rfl
  · rename_i hc' _
    simp only [mk, Option.some.injEq] at h; subst h
    rw [hc'] at hc
    simp only [Rel] at hc
    refine Outcome.value (v := ev a) hM ?_ ha
    simp only [hc, asBool, Sem.run_bind, Sem.run_pure, Result.andThen_ok, if_true]
  · rename_i hc' _
    simp only [mk, Option.some.injEq] at h; subst h
    rw [hc'] at hc
    simp only [Rel] at hc
    refine Outcome.value (v := ev b) hM ?_ hb
    simp only [hc, asBool, Sem.run_bind, Sem.run_pure, Result.andThen_ok, Bool.false_eq_true, if_false]
  · cases h

include hT hf in
omit hρ in
theorem ok_alloc {t : TypeId} {out : Out} (h : core tt sp look fresh ρ (.alloc t) = some out) :
    Outcome P ((do pure (Next.value (← Instr.alloc t true (.tuple #[]))) : Sem Next).run P w) (Post at_ w M out.ws out.sv) := by
  simp only [core] at h
  split at h
  · rename_i i heq
    simp only [Option.some.injEq] at h; subst h
    have hi := hT _ _ heq
    obtain ⟨x, z, h1, h2, h3, h4, h5⟩ := hi.ti
    have hz : z.cells = List.toArray i.zero := by have := congrArg List.toArray h3; simpa using this
    simp only [Instr.alloc, zeroValue, newVar, newRow, Sem.run_bind, typeInfo, run_program, h1, h2, Result.andThen_ok, Sem.run_pure, run_newObj, hz, Outcome, World.alloc_eq]
    exact Post.new t hM hf (RelL.ofV at_ w i.zero) (fun at' ha => by simp only [Rel]; exact ⟨_, ha, rfl⟩)
  · cases h

include hf in
theorem ok_box {t : TypeId} {x : Operand} {out : Out} (h : core tt sp look fresh ρ (.box t x) = some out) :
    Outcome P ((do pure (Next.value (← Instr.box t (ev x))) : Sem Next).run P w) (Post at_ w M out.ws out.sv) := by
  simp only [core] at h
  split at h
  · rename_i cs heq
    simp only [Option.some.injEq] at h; subst h
    obtain ⟨h1, _⟩ := Rel.cells heq (hρ x)
    have e : (ev x).cells = List.toArray (ev x).cells.toList := by simp
    simp only [Instr.box, newVar, newRow, Sem.run_bind, Result.andThen_ok, Sem.run_pure, run_newObj, Outcome, World.alloc_eq]
    rw [e]
    exact Post.new t hM hf h1 (fun at' ha => by simp only [Rel]; exact ⟨_, ha, rfl⟩)
  · cases h

include hT hf in
theorem ok_buildSlice {t : TypeId} {len : Nat} {parts : Array (Nat × Operand)} {out : Out} (h : core tt sp look fresh ρ (.buildSlice t len parts) = some out) :
    Outcome P ((do pure (Next.value (← Instr.buildSlice t len (parts.map fun (i, x) => (i, ev x)))) : Sem Next).run P w) (Post at_ w M out.ws out.sv) := by
  obtain ⟨hp1, hp2⟩ := parts_rel (at_ := at_) (w := w) (ρ := ρ) (ev := ev) parts hρ
  simp only [core] at h
  split at h
  · rename_i e size bytes zero heq
    split at h
    · rename_i d bytes' z heq'
      split at h
      · rename_i hlen
        split at h
        · rename_i cs hfill
          have hi := hT _ _ heq
          have hj := hT _ _ heq'
          obtain ⟨x, zv, h1, h2, h3, h4, h5⟩ := hj.ti
          obtain ⟨vout, g1, g2⟩ := fill_ok _ _ _ (List.replicate len z) _ hfill (RelL.replicate len (Rel.ofV at_ w z)) hp1 hp2
          have hz : zv.cells = #[z] := by have := congrArg List.toArray h3; simpa using this
          have hrow : ((Array.range (len * 1)).map (zv.cells[· % zv.cells.size]!)) = List.toArray (List.replicate len z) := by
            rw [hz]
            apply Array.ext
            · simp
            · intro i hi1 hi2
              simp [Nat.mod_one]
          have hne : ¬ (len * 1 > 2 ^ 24) := by omega
          have hne0 : ¬ (len * 1 = 0) := by omega
          simp only [Instr.buildSlice, Sem.run_bind, run_underlying (hi.slice rfl), Result.andThen_ok, hj.sizeOf, hne, if_false, hne0, zeroValue, typeInfo, run_program, h1, h2, Sem.run_pure, hrow, Sem.run_ite]
          simp only [g1, newRow, Sem.run_bind, run_newObj, Result.andThen_ok, Sem.run_pure, Outcome, World.alloc_eq]
          have hcl := g2.length
          split at h
          · rename_i l hl
            simp only [Option.some.injEq] at h; subst h
            have hv := asLV_ok hl g2
            have hll : l.len = len := by
              rw [← LV.len_vals, ← hv, hcl, fill_len _ _ _ _ hfill]; simp
            have := Post.ownNew (fresh := fresh) (l := l) (c := len) (arr := List.toArray vout) e hM hf (by rw [List.size_toArray, hcl, fill_len _ _ _ _ hfill]; simp) (by omega) (by unfold maxLen; omega) (by rw [← hv]; simp only; rw [hll, List.take_of_length_le]; rw [hcl, fill_len _ _ _ _ hfill]; simp)
            rw [hll] at this
            exact this
          · simp only [Option.some.injEq] at h; subst h
            exact Post.new e hM hf g2 (fun at' ha => by simp only [Rel]; exact ⟨_, ha, rfl⟩)
        · cases h
      · cases h
    · cases h
  · cases h

include hT hlook in
theorem ok_load {t : TypeId} {x : Operand} {out : Out} (h : core tt sp look fresh ρ (.load t x) = some out) :
    Outcome P ((do pure (Next.value (← Instr.loadAt t (ev x))) : Sem Next).run P w) (Post at_ w M out.ws out.sv) := by
  have hx := hρ x
  simp only [core] at h
  split at h
  · rename_i i heq
    have hi := hT _ _ heq
    split at h
    · rename_i v hv
      split at h
      · cases h
      · rename_i ha
        simp only [mk, Option.some.injEq] at h; subst h
        rw [hv] at hx
        simp only [Rel] at hx
        obtain ⟨ad, u, h1, _, h3, h4⟩ := hx
        refine Outcome.valueS (v := u) hM ?_ h4
        simp only [Instr.loadAt, h1, Instr.sureAddr, Sem.run_bind, Sem.run_pure, Result.andThen_ok]
        exact run_loadVar_one hi h3 (by simpa using ha)
    · rename_i b j hv
      split at h
      · rename_i l hl
        split at h
        · cases h
        · rename_i ha
          simp only [mk, Option.some.injEq] at h; subst h
          rw [hv] at hx
          obtain ⟨g, base, cap, arr, ty, k1, k2, k3, k4, k5, k6, k7, k8, k9⟩ := lp_ok hM (hlook _ _ hl) hx
          obtain ⟨u, h4, h5⟩ := LV.get_at l j k2
          refine Outcome.valueS (v := u) hM ?_ (h5 _ _)
          simp only [Instr.loadAt, k3, Instr.sureAddr, Sem.run_bind, Sem.run_pure, Result.andThen_ok]
          exact run_loadVar_one hi (k9.trans h4) (by simpa using ha)
      · cases h
    · cases ht : target look (ρ x) with
      | none => rw [ht] at h; cases h
      | some p =>
        obtain ⟨cs, off⟩ := p
        rw [ht] at h
        obtain ⟨g, ty, fz, vs, h1, h2, h3⟩ := target_ok hM hlook ht hx
        obtain ⟨v, h4, h5, h6⟩ := loadVar_ok hi h2 h3 h
        rw [h6]
        refine Outcome.valueS (v := v) hM ?_ h5
        simp only [Instr.loadAt, h1, Instr.sureAddr, Sem.run_bind, Sem.run_pure, Result.andThen_ok, h4]
  · cases h

include hT hlook in
theorem ok_store {t : TypeId} {x y : Operand} {out : Out} (h : core tt sp look fresh ρ (.store t x y) = some out) :
    Outcome P ((do Instr.storeAt t (ev x) (ev y); pure Next.skip : Sem Next).run P w) (Post at_ w M out.ws out.sv) := by
  have hx := hρ x
  have hy := hρ y
  simp only [core] at h
  split at h
  · rename_i i b j heq hb
    have hi := hT _ _ heq
    split at h
    · rename_i l hl
      split at h
      · rename_i l' hs
        split at h
        · rename_i hsz
          simp only [Option.some.injEq] at h; subst h
          rw [hb] at hx
          obtain ⟨g, base, cap, arr, ty, k1, k2, k3, k4, k5, k6, k7, k8, k9⟩ := lp_ok hM (hlook _ _ hl) hx
          obtain ⟨s1, s2, s3, s4⟩ := setAt_ok hs hy
          have hst := run_storeVar_cells (t := t) hi (off := base + j) (old := arr.toList) (g := g) (w := w) (P := P) (ty := ty) (by simpa using k4) (v := ev y) s3 (by rw [hsz]; rfl) (by simp; omega) (by intro u hu; simp at hu; subst hu; exact s4)
          simp only [Instr.storeAt, k3, Instr.sureAddr, Sem.run_bind, Sem.run_pure, Result.andThen_ok, hst, Outcome]
          refine Post.setOwn hM (hlook _ _ hl) k1 s1 ⟨_, ty, setRow_heap _ _ _ _ _ _ k4, ?_, by omega, k7, ?_⟩ (by simp only [Rel])
          · simp; omega
          · rw [s2, s1, ← k8]
            have hll : l.vals.length = l.len := l.len_vals
            have := seg_set arr.toList base l.len j (ev y) k2 (by simp; omega)
            simpa using this
        · cases h
      · cases h
    · cases h
  · rename_i i b off heq hb
    have hi := hT _ _ heq
    split at h
    · rename_i cs vs hl hc
      split at h
      · rename_i hcond
        obtain ⟨c1, c2⟩ := hcond
        simp only [Option.some.injEq] at h; subst h
        rw [hb] at hx
        simp only [Rel] at hx
        obtain ⟨g, h1, h2⟩ := hx
        obtain ⟨ty, us, h4, h5⟩ := hM.blk _ _ _ h1 (hlook _ _ hl)
        obtain ⟨h6, h7⟩ := Rel.cells hc hy
        have hl1 := h5.length
        have hl2 := h6.length
        have hst := run_storeVar_cells (t := t) hi (off := off) h4 (v := ev y) rfl (by omega) (by omega) h7
        simp only [Instr.storeAt, h2, Instr.sureAddr, Sem.run_bind, Sem.run_pure, Result.andThen_ok, hst, Outcome]
        refine Post.set hM (hlook _ _ hl) h1 h4 (RelL.append (RelL.append (h5.take off) h6) ?_) (by simp only [Rel])
        rw [hl2]; exact h5.drop _
      · cases h
    · cases h
  · cases h

theorem ok_nilCheck {o : Oper} {x : Operand} {out : Out} (ho : o.op = .nilCheck x) (h : core tt sp look fresh ρ (.nilCheck x) = some out) :
    Outcome P ((execOp ev o).run P w) (Post at_ w M out.ws out.sv) := by
  have hx := hρ x
  simp only [core] at h
  split at h
  all_goals first
    | (cases h; done)
    | skip
  all_goals
    rename_i heq
    simp only [mk, Option.some.injEq] at h; subst h
    rw [heq] at hx
    refine Outcome.value (v := ev x) hM ?_ hx
    simp only [Rel] at hx
    simp only [execOp, ho]
  · obtain ⟨g, _, h2⟩ := hx; simp only [h2, Sem.run_pure]
  · obtain ⟨g, ty, fz, vs, h2, _⟩ := hx; simp only [h2, Sem.run_pure]
  · obtain ⟨ad, u, h2, _⟩ := hx; simp only [h2, Sem.run_pure]
  · obtain ⟨vs, h2, _⟩ := hx; simp only [h2, Sem.run_pure]
end
end Go.Sym
