/- The statement BroadTables: for every input that the row lets in, the law's call returns true and leaves its arguments as they were. -/
import Derived.Test.YtbdoieajjhhbpaaDoorRows
import Derived.Test.YtbdoieajjhhbpaaDoorQ8
import Derived.Test.YtbdoieajjhhbpaaDoorQ6
import Derived.Test.YtbdoieajjhhbpaaDoorQ9
import Derived.Test.YtbdoieajjhhbpaaDoorCards
import Derived.Test.YtbdoieajjhhbpaaDoorTie
import Derived.Lay
import Derived.LaidOnce
import Derived.LaidLaws
import Derived.SevenTiedAt
import Derived.MakeChecks
namespace Go.Proofs.YtbdoieajjhhbpaaDoor.broadTables
open Go.ChangeShapes Go.WideShapes Go.ChangeAt Go.RowKit Go.Sym
theorem own : ownKnob Tryd.prog.godebug = none := by kernel_rfl
theorem laidOut : laidOutB Tryd.prog = true := by kernel_rfl
set_option maxRecDepth 100000 in
theorem lifted (os : Os) (started : os.Started) (H : Type) (enc : TypeId × Value → H) :
    ReturnsInHanded {} Tryd.checked os 6 .any (fun w args => (Rows.broadTablesSpec.pre enc Tryd.prog Tryd.f6 Rows.broadTablesRow.domain false w args ∧ laidMetH Tryd.prog Rows.broadTablesRow.laid w) ∧ sizedMet enc Tryd.prog Tryd.f6 (OpenSpec.ofChange Rows.broadTablesSpec) false w args) (Rows.broadTablesSpec.post enc Tryd.prog Tryd.f6 false true false false) := by
  refine returnsInHanded_of_change_and (C := Tryd.checked) (X := fun w _ => laidMetH Tryd.prog Rows.broadTablesRow.laid w) (fun _ _ _ hh h => h.of_heap hh) own started (by kernel_rfl) Tryd.func6
    (ChangeSpec.witness_shaped (enc := enc) (C := Tryd.checked) (os := os) (X := fun w _ => laidMetH Tryd.prog Rows.broadTablesRow.laid w) false (World.laidAll Tryd.prog os Rows.broadTablesRow.laid) #[] 8 (World.laidAll_os _ _ _)
      (World.shaped_of_ZipB (by kernel_rfl) (by kernel_rfl)) (by kernel_rfl) (by kernel_rfl) (by kernel_rfl)
      (by rw [MakeChecks.laidMetH_plain _ _ _ (by kernel_rfl)]; exact laidMet_laidAll _ (by kernel_rfl) (by kernel_rfl))) ?_
  intro W base args ds gs before hval0 hW hcnd hsz0 hL _
  have hsz : (DataW.weightsEach Tryd.prog (Tryd.f6.params.toList ++ Rows.broadTablesSpec.plain.varTypes Tryd.prog) (ds ++ gs)).all (· ≤ reachBytes) = true := hsz0
  have hval : ∀ (j : Nat) t v, Tryd.f6.params[j]? = some t → args[j]? = some v → Value.okWide Tryd.prog W .any base t v := hval0
  have hW' := hW
  obtain ⟨p, q, hA0, hV, rfl, hfz, hnd⟩ := hW
  have hA : DataW.TrodAll enc Tryd.prog W 0 (fun _ => true) true Tryd.f6.params.toList args.toList ds p := hA0
  rw [Tryd.params6] at hA hval hsz
  obtain ⟨hargs, rfl, rfl⟩ := trodAll_nil hA
  obtain rfl : args = #[] := by cases args; simp_all
  obtain ⟨rfl, rfl⟩ := trodVars_none hV
  have hcall := calls_of_spec (f := 6) H6.ok_Tab Tryd.func6 (by decide +kernel) (by kernel_rfl) (svs := []) (w := W) (H6.glok hL) (h := Eq.refl (some ((none : Option Prop), SV.bool true))) trivial RelL.nil
  clear hA0 hval0 hsz0 hsz
  refine hcall.mono fun e W' hx => ?_
  obtain ⟨v, rfl, hv, bel⟩ := hx
  simp only [Rel] at hv
  subst hv
  exact ⟨_, rfl, _, _, _, [], _, [], hW', trodAll_mk1 (shut_bool Tryd.underlying4 _), trodAll_mk0, rfl, bel.frame _, fun h => by cases h⟩
theorem over : Rows.broadTablesRow.holds Tryd.pinned (OpenSpec.ofChange Rows.broadTablesSpec) :=
  OpenClaim.holds_of_wide 6 Tryd.f6 rfl rfl rfl rfl rfl rfl rfl ⟨rfl, rfl, rfl, rfl, rfl⟩ rfl rfl rfl rfl rfl (by kernel_rfl) Tryd.func6 (by kernel_rfl)
    (of_decide_eq_true (by kernel_rfl)) (by unfold Func.isWrapper; first | (rw [if_pos (by decide +kernel)]; kernel_rfl) | (rw [if_neg (by decide +kernel)]; exact ⟨rfl, rfl⟩))
    (fun os started H enc _ => lifted os started H enc)
end Go.Proofs.YtbdoieajjhhbpaaDoor.broadTables
namespace Go.Proofs.YtbdoieajjhhbpaaDoor
/-- The row's statement. -/
theorem broadTables_row : Rows.BroadTablesSaid := broadTables.over
open Go in
/-- The statement: the row's, with its table tied to the program's text. -/
theorem broadTables_holds : Rows.BroadTablesCardSaid :=
  Claim7.holds_tied_plain_at .later [] [.data] true Rows.broadTablesCard.stood.harness Rows.broadTablesCard.stood.looks
    broadTables_row (fun _ h => by cases h) (by kernel_rfl) (fun _ h => by cases h) broadTables_row_tie rfl ⟨rfl, rfl⟩ (by kernel_rfl) rfl
    (fun f fn hf hfn => by
      obtain rfl : f = 6 := Option.some.inj ((show Tryd.prog.funcNamed "cleromancy/cleromancylaw06.BroadTables" = some 6 by kernel_rfl).symm.trans hf) |>.symm
      obtain rfl : fn = Tryd.f6 := (Option.some.inj (Tryd.func6.symm.trans hfn)).symm
      exact ⟨by kernel_rfl, fun j t ht => by
        rw [Tryd.params6] at ht
        cases ht⟩)
    (by kernel_rfl)
#print axioms broadTables_holds
end Go.Proofs.YtbdoieajjhhbpaaDoor
