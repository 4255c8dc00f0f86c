/- The statement SswuBack: for every input that the row lets in, the law's call returns true and leaves its arguments as they were. -/
import Derived.Test.YtficbeeoafiiaaaDoorRows
import Derived.Test.YtficbeeoafiiaaaDoorQ27
import Derived.Test.YtficbeeoafiiaaaDoorQ7
import Derived.Test.YtficbeeoafiiaaaDoorQ28
import Derived.Test.YtficbeeoafiiaaaDoorCards
import Derived.Test.YtficbeeoafiiaaaDoorTie
import Derived.Lay
import Derived.LaidOnce
import Derived.LaidLaws
import Derived.SevenTiedAt
import Derived.MakeChecks
namespace Go.Proofs.YtficbeeoafiiaaaDoor.sswuBack
open Go.ChangeShapes Go.WideShapes Go.ChangeAt Go.RowKit Go.Sym
theorem own : ownKnob Tryd.prog.godebug = none := by kernel_rfl
theorem laidOut : laidOutB Tryd.prog = true := by kernel_rfl
set_option maxRecDepth 100000 in
theorem lifted (os : Os) (started : os.Started) (H : Type) (enc : TypeId × Value → H) :
    ReturnsInHanded {} Tryd.checked os 4 .any (fun w args => (Rows.sswuBackSpec.pre enc Tryd.prog Tryd.f4 Rows.sswuBackRow.domain false w args ∧ laidMetH Tryd.prog Rows.sswuBackRow.laid w) ∧ sizedMet enc Tryd.prog Tryd.f4 (OpenSpec.ofChange Rows.sswuBackSpec) false w args) (Rows.sswuBackSpec.post enc Tryd.prog Tryd.f4 false true false false) := by
  refine returnsInHanded_of_change_and (C := Tryd.checked) (X := fun w _ => laidMetH Tryd.prog Rows.sswuBackRow.laid w) (fun _ _ _ hh h => h.of_heap hh) own started (by kernel_rfl) Tryd.func4
    (ChangeSpec.witness_shaped (enc := enc) (C := Tryd.checked) (os := os) (X := fun w _ => laidMetH Tryd.prog Rows.sswuBackRow.laid w) false (World.laidAll Tryd.prog os Rows.sswuBackRow.laid) #[.agg #[.int .u64 0, .int .u64 0, .int .u64 0, .int .u64 0]] 8 (World.laidAll_os _ _ _)
      (World.shaped_of_ZipB (by kernel_rfl) (by kernel_rfl)) (by kernel_rfl) (by kernel_rfl) (by kernel_rfl)
      (by rw [MakeChecks.laidMetH_plain _ _ _ (by kernel_rfl)]; exact laidMet_laidAll _ (by kernel_rfl) (by kernel_rfl))) ?_
  intro W base args ds gs before hval0 hW hcnd hsz0 hL _
  have hsz : (DataW.weightsEach Tryd.prog (Tryd.f4.params.toList ++ Rows.sswuBackSpec.plain.varTypes Tryd.prog) (ds ++ gs)).all (· ≤ reachBytes) = true := hsz0
  have hval : ∀ (j : Nat) t v, Tryd.f4.params[j]? = some t → args[j]? = some v → Value.okWide Tryd.prog W .any base t v := hval0
  have hW' := hW
  obtain ⟨p, q, hA0, hV, rfl, hfz, hnd⟩ := hW
  have hA : DataW.TrodAll enc Tryd.prog W 0 (fun _ => true) true Tryd.f4.params.toList args.toList ds p := hA0
  rw [Tryd.params4] at hA hval hsz
  obtain ⟨v0, vs0, d0, ds0, p0, q0, hargs, rfl, rfl, h0, r0⟩ := trodAll_cons hA
  obtain ⟨rfl, rfl, rfl⟩ := trodAll_nil r0
  obtain rfl : args = #[v0] := by cases args; simp_all
  obtain ⟨rfl, rfl⟩ := trodVars_none hV
  have k0 := h0
  have lt0 : ∀ x ∈ p0, x.block < W.heap.size := by obtain ⟨m, hm⟩ := k0; exact DataW.trod_lt m _ _ _ hm
  obtain ⟨a0, e0⟩ := open_four Tryd.underlying24 Tryd.underlying22 (by kernel_rfl) (by kernel_rfl) (hval 0 24 v0 rfl rfl) h0
  have hcall := calls_of_spec (f := 4) P12.ok_SwBk Tryd.func4 (by decide +kernel) (by kernel_rfl) (svs := [Four.sv a0]) (w := W) (S39.glok hL) (h := Eq.refl (some ((none : Option Prop), SV.bool true))) trivial (RelL.cons e0 RelL.nil)
  clear hA0 hval0 hsz0 hsz
  refine hcall.mono fun e W' hx => ?_
  obtain ⟨v, rfl, hv, bel⟩ := hx
  simp only [Rel] at hv
  subst hv
  exact ⟨_, rfl, _, _, _, [], _, [], hW', trodAll_mk1 (shut_bool Tryd.underlying4 _), (trodAll_cons_mk (Below.trod laidOut (by kernel_rfl) (of_decide_eq_true (by kernel_rfl)) k0 bel lt0) trodAll_mk0), rfl, bel.frame _, fun h => by cases h⟩
theorem over : Rows.sswuBackRow.holds Tryd.pinned (OpenSpec.ofChange Rows.sswuBackSpec) :=
  OpenClaim.holds_of_wide 4 Tryd.f4 rfl rfl rfl rfl rfl rfl rfl ⟨rfl, rfl, rfl, rfl, rfl⟩ rfl rfl rfl rfl rfl (by kernel_rfl) Tryd.func4 (by kernel_rfl)
    (of_decide_eq_true (by kernel_rfl)) (by unfold Func.isWrapper; first | (rw [if_pos (by decide +kernel)]; kernel_rfl) | (rw [if_neg (by decide +kernel)]; exact ⟨rfl, rfl⟩))
    (fun os started H enc _ => lifted os started H enc)
end Go.Proofs.YtficbeeoafiiaaaDoor.sswuBack
namespace Go.Proofs.YtficbeeoafiiaaaDoor
/-- The row's statement. -/
theorem sswuBack_row : Rows.SswuBackSaid := sswuBack.over
open Go in
set_option maxRecDepth 100000 in
/-- The statement: the row's, with its table tied to the program's text. -/
theorem sswuBack_holds : Rows.SswuBackCardSaid :=
  Claim7.holds_tied_plain_at .later [] [.data] true Rows.sswuBackCard.stood.harness Rows.sswuBackCard.stood.looks
    sswuBack_row (fun _ h => by cases h) (by kernel_rfl) (fun _ h => by cases h) sswuBack_row_tie rfl ⟨rfl, rfl⟩ (by kernel_rfl) rfl
    (fun f fn hf hfn => by
      obtain rfl : f = 4 := Option.some.inj ((show Tryd.prog.funcNamed "cleromancy/cleromancylaw39.SswuBack" = some 4 by kernel_rfl).symm.trans hf) |>.symm
      obtain rfl : fn = Tryd.f4 := (Option.some.inj (Tryd.func4.symm.trans hfn)).symm
      exact ⟨by kernel_rfl, fun j t ht => by
        rw [Tryd.params4] at ht
        have h3 : (Tryd.prog.wantsStandIn t) = false := by
          have hm : t ∈ [24] := List.mem_of_getElem? (by simpa using ht)
          simp only [List.mem_cons, List.not_mem_nil, or_false] at hm
          rcases hm with rfl
          all_goals first | exact (show Tryd.prog.wantsStandIn 24 = false by kernel_rfl)
        exact h3⟩)
    (by kernel_rfl)
#print axioms sswuBack_holds
end Go.Proofs.YtficbeeoafiiaaaDoor
