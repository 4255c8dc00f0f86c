/- The symbolic machine's operations are right: the second half, and the one theorem. -/
import Derived.Test.YthechjccpljljaaSym6
namespace Go.Sym
open Go.RowKit

section
variable {P : Program} {at_ : At} {w : World} {M : List (Option Blk)} {look : Nat → Option Blk} {tt : TT} {sp : Specs} {fresh : Nat} {ρ : Operand → SV} {ev : Operand → Value}
variable (hT : TTOK P tt) (hS : SpecsOK P sp) (hM : MemOK at_ M w) (hlook : ∀ n cs, look n = some cs → M[n]? = some (some cs)) (hf : M[fresh]? = some none) (hρ : ∀ x, Rel at_ w (ρ x) (ev x))

include hT hM hρ in
theorem ok_binOp {op : BinOp} {t t' : TypeId} {x y : Operand} {out : Out} (h : core tt sp look fresh ρ (.binOp op t x y t') = some out) (hp : out.ok) :
    Outcome P ((do pure (Next.value (← (do eqGuard op t x y (ev x) (ev y); binOp op t (ev x) (ev y)))) : Sem Next).run P w) (Post at_ w M out.ws out.sv) := by
  have hx := hρ x
  have hy := hρ y
  have fin : ∀ {v : Value} {sv : SV}, ((∀ cs, ev x ≠ .agg cs) ∧ ev x ≠ .nilIface) → (binOp op t (ev x) (ev y)).run P w = .ok v w → Rel at_ w sv v →
      Outcome P ((do pure (Next.value (← (do eqGuard op t x y (ev x) (ev y); binOp op t (ev x) (ev y)))) : Sem Next).run P w) (Post at_ w M [] sv) := by
    intro v sv ⟨h1, h2⟩ h3 h4
    refine Outcome.valueS (v := v) hM ?_ h4
    simp only [Sem.run_bind, run_guard (P := P) (w := w) op t x y (ev x) (ev y) h1 h2, Result.andThen_ok, h3]
  have eqs : ∀ {z : BinOp} {xs ys : List SV} {n : Nat} {e : TypeId} {i j : TI} {b : Bool} {sv : SV}, op = z → (z = .eql ∧ sv = .bool b ∨ z = .neq ∧ sv = .bool (!b)) → ρ x = .agg xs → ρ y = .agg ys → tt.lookup t = some i → i.d = .array n e → tt.lookup e = some j → j.d = .int .u64 → j.size = 1 →
      xs.length = n → eqCells xs ys = some b →
      Outcome P ((do pure (Next.value (← (do eqGuard op t x y (ev x) (ev y); binOp op t (ev x) (ev y)))) : Sem Next).run P w) (Post at_ w M [] sv) := by
    intro z xs ys n e i j b sv hz hzz h1 h2 h3 h4 h5 h6 h7 h8 h9
    rw [h1] at hx; rw [h2] at hy
    simp only [Rel] at hx hy
    obtain ⟨us, hx1, hx2⟩ := hx
    obtain ⟨vs, hy1, hy2⟩ := hy
    have hi := hT _ _ h3
    have hj := hT _ _ h5
    have heq := run_equal_cells hi hj h4 h6 h7 h9 hx2 hy2 h8
    have hg : (eqGuard op t x y (ev x) (ev y)).run P w = .ok () w := by
      rw [hx1, hy1]; exact run_eqGuard_agg w op t x y _ _ hi.guard
    subst hz
    rcases hzz with ⟨e1, e2⟩ | ⟨e1, e2⟩ <;> subst e1 <;> subst e2
    · refine Outcome.valueS (v := .bool b) hM ?_ (by simp only [Rel])
      simp only [Sem.run_bind, hg, Result.andThen_ok]
      rw [hx1, hy1]
      simp only [binOp, Sem.run_bind, heq, Result.andThen_ok, Sem.run_pure]
    · refine Outcome.valueS (v := .bool (!b)) hM ?_ (by simp only [Rel])
      simp only [Sem.run_bind, hg, Result.andThen_ok]
      rw [hx1, hy1]
      simp only [binOp, Sem.run_bind, heq, Result.andThen_ok, Sem.run_pure]
  simp only [core] at h
  split at h
  · rename_i xs ys hxs hys
    split at h
    · rename_i n e s b z heq
      split at h
      · rename_i s' z' heq'
        split at h
        · rename_i hl
          split at h
          · rename_i b' hb
            simp only [mk, Option.some.injEq] at h; subst h
            exact eqs rfl (.inl ⟨rfl, rfl⟩) hxs hys heq rfl heq' rfl rfl hl.1 hb
          · cases h
        · cases h
      · cases h
    · cases h
  · rename_i xs ys hxs hys
    split at h
    · rename_i n e s b z heq
      split at h
      · rename_i s' z' heq'
        split at h
        · rename_i hl
          split at h
          · rename_i b' hb
            simp only [mk, Option.some.injEq] at h; subst h
            exact eqs rfl (.inr ⟨rfl, rfl⟩) hxs hys heq rfl heq' rfl rfl hl.1 hb
          · cases h
        · cases h
      · cases h
    · cases h
  · split at h
    · rename_i o hs
      simp only [Option.some.injEq] at h; subst h
      unfold symDiv at hs
      split at hs
      · split at hs
        · rename_i m n hm hn _ _
          rw [hm] at hx; rw [hn] at hy
          simp only [Option.some.injEq] at hs; subst hs
          simp only [Rel] at hx hy
          rw [hx, hy] at fin ⊢
          exact fin ⟨fun _ e => (by cases e), fun e => (by cases e)⟩ (r_quo t _ m n hp) (by simp only [Rel])
        · rename_i m n hm hn _ _
          rw [hm] at hx; rw [hn] at hy
          simp only [Option.some.injEq] at hs; subst hs
          simp only [Rel] at hx hy
          rw [hx, hy] at fin ⊢
          exact fin ⟨fun _ e => (by cases e), fun e => (by cases e)⟩ (r_rem t _ m n hp) (by simp only [Rel])
        · cases hs
      · cases hs
    · split at h
      · rename_i r hr
        simp only [mk, Option.some.injEq] at h; subst h
        obtain ⟨v, h1, h2⟩ := binN_ok (P := P) t hx hy hr
        exact fin (binN_num hx hr) h1 h2
      · split at h
        · rename_i heq
          unfold mk? at h
          split at h
          · rename_i r hb
            simp only [Option.some.injEq] at h; subst h
            obtain ⟨h0, v, h1, h2⟩ := binB_ok ((hT _ _ heq).bool rfl) hx hy hb
            exact fin h0 h1 h2
          · cases h
        · rename_i e _ _ _ heq
          unfold mk? at h
          split at h
          · rename_i r hb
            simp only [Option.some.injEq] at h; subst h
            obtain ⟨h0, v, h1, h2⟩ := binP_ok ((hT _ _ heq).ptr rfl) hx hy hb
            exact fin h0 h1 h2
          · cases h
        · cases h

include hM hρ in
theorem ok_unOp {op : UnOp} {t : TypeId} {x : Operand} {out : Out} (h : core tt sp look fresh ρ (.unOp op t x) = some out) :
    Outcome P ((do pure (Next.value (← Op.unary op (ev x))) : Sem Next).run P w) (Post at_ w M out.ws out.sv) := by
  simp only [core] at h
  cases hb : una op (ρ x) with
  | none => rw [hb] at h; cases h
  | some r =>
    rw [hb] at h
    simp only [mk?, Option.some.injEq] at h; subst h
    obtain ⟨v, h1, h2⟩ := una_ok (P := P) (hρ x) hb
    exact Outcome.valueS hM h1 h2

include hT hM hρ in
theorem ok_convert {src dst : TypeId} {x : Operand} {out : Out} (h : core tt sp look fresh ρ (.convert src dst x) = some out) :
    Outcome P ((do pure (Next.value (← convert src dst (ev x))) : Sem Next).run P w) (Post at_ w M out.ws out.sv) := by
  simp only [core] at h
  split at h
  · rename_i k _ _ _ s hd hs
    cases hb : conv k (ρ x) with
    | none => rw [hb] at h; cases h
    | some r =>
      rw [hb] at h
      simp only [mk?, Option.some.injEq] at h; subst h
      obtain ⟨d, hd', _⟩ := (hT _ _ hs).desc
      obtain ⟨v, h1, h2⟩ := conv_ok ⟨d, hd'⟩ ((hT _ _ hd).int rfl) (hρ x) hb
      exact Outcome.valueS hM h1 h2
  · cases h

include hM hρ in
theorem ok_extract {x : Operand} {i : Nat} {out : Out} (h : core tt sp look fresh ρ (.extract x i) = some out) :
    Outcome P ((do pure (Next.value (← Instr.extract (ev x) i)) : Sem Next).run P w) (Post at_ w M out.ws out.sv) := by
  have hx := hρ x
  simp only [core] at h
  split at h
  · rename_i cs hc
    rw [hc] at hx
    simp only [Rel] at hx
    obtain ⟨vs, h1, h2⟩ := hx
    cases hb : cs[i]? with
    | none => rw [hb] at h; cases h
    | some c =>
      rw [hb] at h
      simp only [mk?, Option.some.injEq] at h; subst h
      obtain ⟨u, h3, h4⟩ := h2.get i c hb
      refine Outcome.valueS (v := u) hM ?_ h4
      rw [h1]
      simp only [Instr.extract, List.getElem?_toArray, h3, Sem.run_pure]
  · cases h

include hT hM hρ in
theorem ok_fieldAddr {t : TypeId} {x : Operand} {f : Nat} {out : Out} (h : core tt sp look fresh ρ (.fieldAddr t x f) = some out) :
    Outcome P ((do pure (Next.value (← Instr.fieldAt t (ev x) f)) : Sem Next).run P w) (Post at_ w M out.ws out.sv) := by
  have hx := hρ x
  simp only [core] at h
  split at h
  · rename_i fs _ _ _ heq
    split at h
    · rename_i o ft hft
      split at h
      · rename_i n hn
        have hi := hT _ _ heq
        obtain ⟨F, hF, hFs⟩ := hi.struct rfl
        unfold sizeT at hn
        obtain ⟨j, hj, hjs⟩ := Option.map_eq_some_iff.1 hn
        have hj' := hT _ _ hj
        obtain ⟨fld, hfld, hoff, hty⟩ : ∃ fld, F[f]? = some fld ∧ fld.offset = o ∧ fld.type = ft := by
          rw [← hFs, List.getElem?_map] at hft
          obtain ⟨fld, h1, h2⟩ := Option.map_eq_some_iff.1 hft
          simp only [Prod.mk.injEq] at h2
          exact ⟨fld, by simpa using h1, h2.1, h2.2⟩
        have hne : ¬ (j.size = 0) := by omega
        have run : ∀ a, (Instr.fieldAt t (.pointer (some a)) f).run P w = .ok (.pointer (some (a.add o))) w := by
          intro a
          simp only [Instr.fieldAt, Sem.run_bind, run_underlying hF, Result.andThen_ok, hfld, Instr.sureAddr, Sem.run_pure, fieldPlace, hty, hj'.sizeOf, hne, if_false, hoff]
        split at h
        · rename_i b off hb
          simp only [mk, Option.some.injEq] at h; subst h
          rw [hb] at hx
          simp only [Rel] at hx
          obtain ⟨g, h1, h2⟩ := hx
          rw [h2]
          exact Outcome.valueS hM (run _) (by simp only [Rel]; exact ⟨g, h1, by rw [addr_add]⟩)
        · rename_i cs off hb
          simp only [mk, Option.some.injEq] at h; subst h
          rw [hb] at hx
          simp only [Rel] at hx
          obtain ⟨g, ty, fz, vs, h1, h2, h3, h4⟩ := hx
          rw [h1]
          exact Outcome.valueS hM (run _) (by simp only [Rel]; exact ⟨g, ty, fz, vs, by rw [addr_add], h2, h3, h4⟩)
        · cases h
      · cases h
    · cases h
  · cases h

include hT hM hρ in
theorem ok_field {t : TypeId} {x : Operand} {f : Nat} {out : Out} (h : core tt sp look fresh ρ (.field t x f) = some out) :
    Outcome P ((do pure (Next.value (← Instr.field t (ev x) f)) : Sem Next).run P w) (Post at_ w M out.ws out.sv) := by
  have hx := hρ x
  simp only [core] at h
  split at h
  · rename_i fs _ _ _ cs heq hc
    split at h
    · rename_i o ft hft
      split at h
      · rename_i i hi
        have hti := hT _ _ heq
        obtain ⟨F, hF, hFs⟩ := hti.struct rfl
        obtain ⟨fld, hfld, hoff, hty⟩ : ∃ fld, F[f]? = some fld ∧ fld.offset = o ∧ fld.type = ft := by
          rw [← hFs, List.getElem?_map] at hft
          obtain ⟨fld, h1, h2⟩ := Option.map_eq_some_iff.1 hft
          simp only [Prod.mk.injEq] at h2
          exact ⟨fld, by simpa using h1, h2.1, h2.2⟩
        rw [hc] at hx
        simp only [Rel] at hx
        obtain ⟨vs, h1, h2⟩ := hx
        obtain ⟨v, h3, h4, h5⟩ := part_ok (hT _ _ hi) h2 h
        rw [h5, h1]
        refine Outcome.valueS (v := v) hM ?_ h4
        simp only [Instr.field, Sem.run_bind, run_underlying hF, Result.andThen_ok, hfld, asAgg, Sem.run_pure, hty, hoff, h3]
      · cases h
    · cases h
  · cases h

include hT hM hρ in
theorem ok_index {t : TypeId} {x ix : Operand} {out : Out} (h : core tt sp look fresh ρ (.index t x ix) = some out) :
    Outcome P ((do pure (Next.value (← Instr.index t (ev x) (ev ix))) : Sem Next).run P w) (Post at_ w M out.ws out.sv) := by
  have hx := hρ x
  have hix := hρ ix
  simp only [core] at h
  split at h
  · rename_i n e _ _ _ cs i heq hc hi
    split at h
    · rename_i j hj
      split at h
      · rename_i hcond
        rw [hc] at hx
        simp only [Rel] at hx
        obtain ⟨vs, h1, h2⟩ := hx
        obtain ⟨k, hk⟩ := toI_ok hi hix
        have hj' := hT _ _ hj
        obtain ⟨v, h3, h4, h5⟩ := part_ok hj' h2 h
        rw [h5, h1, hk]
        refine Outcome.valueS (v := v) hM ?_ h4
        simp only [Instr.index, asIntOf, Sem.run_bind, Sem.run_pure, run_underlying ((hT _ _ heq).array rfl), Result.andThen_ok, hj'.sizeOf, hcond, and_self, if_true, h3]
      · cases h
    · cases h
  · cases h
end
end Go.Sym
