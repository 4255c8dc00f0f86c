/- The statement ExpandChain: for every input that the row lets in, the law's call returns true and leaves its arguments as they were. -/
import Derived.Test.YtomoihkepkmgdaaDoorRows
import Derived.Test.YtomoihkepkmgdaaDoorQ11
import Derived.Test.YtomoihkepkmgdaaDoorQ9
import Derived.Test.YtomoihkepkmgdaaDoorQ12
import Derived.Test.YtomoihkepkmgdaaDoorCards
import Derived.Test.YtomoihkepkmgdaaDoorTie
import Derived.Lay
import Derived.LaidOnce
import Derived.LaidLaws
import Derived.SevenTiedAt
import Derived.MakeChecks
import Derived.Test.YtomoihkepkmgdaaDoorQ13
namespace Go.Proofs.YtomoihkepkmgdaaDoor.expandChain
open Go.ChangeShapes Go.WideShapes Go.ChangeAt Go.RowKit Go.Sym
theorem own : ownKnob Tryd.prog.godebug = none := by kernel_rfl
theorem laidOut : laidOutB Tryd.prog = true := by kernel_rfl
set_option maxRecDepth 100000 in
theorem lifted (os : Os) (started : os.Started) (H : Type) (enc : TypeId × Value → H) :
    ReturnsInHanded {} Tryd.checked os 6 .any (fun w args => (Rows.expandChainSpec.pre enc Tryd.prog Tryd.f6 Rows.expandChainRow.domain false w args ∧ laidMetH Tryd.prog Rows.expandChainRow.laid w) ∧ sizedMet enc Tryd.prog Tryd.f6 (OpenSpec.ofChange Rows.expandChainSpec) false w args) (Rows.expandChainSpec.post enc Tryd.prog Tryd.f6 false true false false) := by
  refine returnsInHanded_of_change_and (C := Tryd.checked) (X := fun w _ => laidMetH Tryd.prog Rows.expandChainRow.laid w) (fun _ _ _ hh h => h.of_heap hh) own started (by kernel_rfl) Tryd.func6
    (ChangeSpec.witness_shaped (enc := enc) (C := Tryd.checked) (os := os) (X := fun w _ => laidMetH Tryd.prog Rows.expandChainRow.laid w) false (World.laidAll Tryd.prog os Rows.expandChainRow.laid) #[.slice none 0 0, .slice none 0 0, .int .u16 0] 8 (World.laidAll_os _ _ _)
      (World.shaped_of_ZipB (by kernel_rfl) (by kernel_rfl)) (by kernel_rfl) (by kernel_rfl) (by kernel_rfl)
      (by rw [MakeChecks.laidMetH_plain _ _ _ (by kernel_rfl)]; exact laidMet_laidAll _ (by kernel_rfl) (by kernel_rfl))) ?_
  intro W base args ds gs before hval0 hW hcnd hsz0 hL _
  have hsz : (DataW.weightsEach Tryd.prog (Tryd.f6.params.toList ++ Rows.expandChainSpec.plain.varTypes Tryd.prog) (ds ++ gs)).all (· ≤ reachBytes) = true := hsz0
  have hval : ∀ (j : Nat) t v, Tryd.f6.params[j]? = some t → args[j]? = some v → Value.okWide Tryd.prog W .any base t v := hval0
  have hW' := hW
  obtain ⟨p, q, hA0, hV, rfl, hfz, hnd⟩ := hW
  have hA : DataW.TrodAll enc Tryd.prog W 0 (fun _ => true) true Tryd.f6.params.toList args.toList ds p := hA0
  rw [Tryd.params6] at hA hval hsz
  obtain ⟨v0, vs0, d0, ds0, p0, q0, hargs, rfl, rfl, h0, r0⟩ := trodAll_cons hA
  obtain ⟨v1, vs1, d1, ds1, p1, q1, rfl, rfl, rfl, h1, r1⟩ := trodAll_cons r0
  obtain ⟨v2, vs2, d2, ds2, p2, q2, rfl, rfl, rfl, h2, r2⟩ := trodAll_cons r1
  obtain ⟨rfl, rfl, rfl⟩ := trodAll_nil r2
  obtain rfl : args = #[v0, v1, v2] := by cases args; simp_all
  obtain ⟨rfl, rfl⟩ := trodVars_none hV
  have k0 := h0
  have lt0 : ∀ x ∈ p0, x.block < W.heap.size := by obtain ⟨m, hm⟩ := k0; exact DataW.trod_lt m _ _ _ hm
  obtain ⟨a0, e0⟩ := open_bytes Tryd.underlying22 Tryd.underlying5 (by kernel_rfl) (hval 0 22 v0 rfl rfl) h0
  have k1 := h1
  have lt1 : ∀ x ∈ p1, x.block < W.heap.size := by obtain ⟨m, hm⟩ := k1; exact DataW.trod_lt m _ _ _ hm
  obtain ⟨a1, e1⟩ := open_bytes Tryd.underlying22 Tryd.underlying5 (by kernel_rfl) (hval 1 22 v1 rfl rfl) h1
  have k2 := h2
  have lt2 : ∀ x ∈ p2, x.block < W.heap.size := by obtain ⟨m, hm⟩ := k2; exact DataW.trod_lt m _ _ _ hm
  obtain ⟨a2, e2⟩ := open_u16 Tryd.underlying36 (hval 2 36 v2 rfl rfl) h2
  have hcall := calls_of_spec (f := 6) H9.ok_Chn Tryd.func6 (by decide +kernel) (by kernel_rfl) (svs := [.lst (.bytes a0), .lst (.bytes a1), .val (.int .u16 (Int.ofNat a2))]) (w := W) (H9.glok hL) (h := Eq.refl (some ((none : Option Prop), SV.bool true))) trivial (RelL.cons e0 (RelL.cons e1 (RelL.cons e2 RelL.nil)))
  clear hA0 hval0 hsz0 hsz
  refine hcall.mono fun e W' hx => ?_
  obtain ⟨v, rfl, hv, bel⟩ := hx
  simp only [Rel] at hv
  subst hv
  exact ⟨_, rfl, _, _, _, [], _, [], hW', trodAll_mk1 (shut_bool Tryd.underlying4 _), (trodAll_cons_mk (Below.trod laidOut (by kernel_rfl) (of_decide_eq_true (by kernel_rfl)) k0 bel lt0) (trodAll_cons_mk (Below.trod laidOut (by kernel_rfl) (of_decide_eq_true (by kernel_rfl)) k1 bel lt1) (trodAll_cons_mk (Below.trod laidOut (by kernel_rfl) (of_decide_eq_true (by kernel_rfl)) k2 bel lt2) trodAll_mk0))), rfl, bel.frame _, fun h => by cases h⟩
theorem over : Rows.expandChainRow.holds Tryd.pinned (OpenSpec.ofChange Rows.expandChainSpec) :=
  OpenClaim.holds_of_wide 6 Tryd.f6 rfl rfl rfl rfl rfl rfl rfl ⟨rfl, rfl, rfl, rfl, rfl⟩ rfl rfl rfl rfl rfl (by kernel_rfl) Tryd.func6 (by kernel_rfl)
    (of_decide_eq_true (by kernel_rfl)) (by unfold Func.isWrapper; first | (rw [if_pos (by decide +kernel)]; kernel_rfl) | (rw [if_neg (by decide +kernel)]; exact ⟨rfl, rfl⟩))
    (fun os started H enc _ => lifted os started H enc)
end Go.Proofs.YtomoihkepkmgdaaDoor.expandChain
namespace Go.Proofs.YtomoihkepkmgdaaDoor
/-- The row's statement. -/
theorem expandChain_row : Rows.ExpandChainSaid := expandChain.over
open Go in
set_option maxRecDepth 100000 in
/-- The statement: the row's, with its table tied to the program's text. -/
theorem expandChain_holds : Rows.ExpandChainCardSaid :=
  Claim7.holds_tied_plain_at .later [] [.data] true Rows.expandChainCard.stood.harness Rows.expandChainCard.stood.looks
    expandChain_row (fun _ h => by cases h) (by kernel_rfl) (fun _ h => by cases h) expandChain_row_tie rfl ⟨rfl, rfl⟩ (by kernel_rfl) rfl
    (fun f fn hf hfn => by
      obtain rfl : f = 6 := Option.some.inj ((show Tryd.prog.funcNamed "cleromancy/cleromancylaw09.ExpandChain" = some 6 by kernel_rfl).symm.trans hf) |>.symm
      obtain rfl : fn = Tryd.f6 := (Option.some.inj (Tryd.func6.symm.trans hfn)).symm
      exact ⟨by kernel_rfl, fun j t ht => by
        rw [Tryd.params6] at ht
        have h3 : (Tryd.prog.wantsStandIn t) = false := by
          have hm : t ∈ [22, 22, 36] := List.mem_of_getElem? (by simpa using ht)
          simp only [List.mem_cons, List.not_mem_nil, or_false] at hm
          rcases hm with rfl | rfl | rfl
          all_goals first | exact (show Tryd.prog.wantsStandIn 22 = false by kernel_rfl) | exact (show Tryd.prog.wantsStandIn 36 = false by kernel_rfl)
        exact h3⟩)
    (by kernel_rfl)
#print axioms expandChain_holds
end Go.Proofs.YtomoihkepkmgdaaDoor
