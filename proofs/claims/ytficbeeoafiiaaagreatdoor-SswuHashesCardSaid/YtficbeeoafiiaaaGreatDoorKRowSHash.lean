/- The statement SswuHashes: for every input that the row lets in, the law's call returns true and leaves its arguments as they were. -/
import Derived.Test.YtficbeeoafiiaaaGreatDoorRows
import Derived.Test.YtficbeeoafiiaaaGreatDoorQ27
import Derived.Test.YtficbeeoafiiaaaGreatDoorQ7
import Derived.Test.YtficbeeoafiiaaaGreatDoorQ28
import Derived.Test.YtficbeeoafiiaaaGreatDoorCards
import Derived.Test.YtficbeeoafiiaaaGreatDoorTie
import Derived.Lay
import Derived.LaidOnce
import Derived.LaidLaws
import Derived.SevenTiedAt
import Derived.MakeChecks
namespace Go.Proofs.YtficbeeoafiiaaaGreatDoor.sswuHashes
open Go.ChangeShapes Go.WideShapes Go.ChangeAt Go.RowKit Go.Sym
theorem own : ownKnob Tryz.prog.godebug = none := by kernel_rfl
theorem laidOut : laidOutB Tryz.prog = true := by kernel_rfl
set_option maxRecDepth 100000 in
theorem lifted (os : Os) (started : os.Started) (H : Type) (enc : TypeId × Value → H) :
    ReturnsInHanded {} Tryz.checked os 3 .any (fun w args => (Rows.sswuHashesSpec.pre enc Tryz.prog Tryz.f3 Rows.sswuHashesRow.domain false w args ∧ laidMetH Tryz.prog Rows.sswuHashesRow.laid w) ∧ sizedMet enc Tryz.prog Tryz.f3 (OpenSpec.ofChange Rows.sswuHashesSpec) false w args) (Rows.sswuHashesSpec.post enc Tryz.prog Tryz.f3 false true false false) := by
  refine returnsInHanded_of_change_and (C := Tryz.checked) (X := fun w _ => laidMetH Tryz.prog Rows.sswuHashesRow.laid w) (fun _ _ _ hh h => h.of_heap hh) own started (by kernel_rfl) Tryz.func3
    (ChangeSpec.witness_shaped (enc := enc) (C := Tryz.checked) (os := os) (X := fun w _ => laidMetH Tryz.prog Rows.sswuHashesRow.laid w) false (World.laidAll Tryz.prog os Rows.sswuHashesRow.laid) #[.slice none 0 0, .slice none 0 0, .int .i64 0] 8 (World.laidAll_os _ _ _)
      (World.shaped_of_ZipB (by kernel_rfl) (by kernel_rfl)) (by kernel_rfl) (by kernel_rfl) (by kernel_rfl)
      (by rw [MakeChecks.laidMetH_plain _ _ _ (by kernel_rfl)]; exact laidMet_laidAll _ (by kernel_rfl) (by kernel_rfl))) ?_
  intro W base args ds gs before hval0 hW hcnd hsz0 hL _
  have hsz : (DataW.weightsEach Tryz.prog (Tryz.f3.params.toList ++ Rows.sswuHashesSpec.plain.varTypes Tryz.prog) (ds ++ gs)).all (· ≤ reachBytes) = true := hsz0
  have hval : ∀ (j : Nat) t v, Tryz.f3.params[j]? = some t → args[j]? = some v → Value.okWide Tryz.prog W .any base t v := hval0
  have hW' := hW
  obtain ⟨p, q, hA0, hV, rfl, hfz, hnd⟩ := hW
  have hA : DataW.TrodAll enc Tryz.prog W 0 (fun _ => true) true Tryz.f3.params.toList args.toList ds p := hA0
  rw [Tryz.params3] at hA hval hsz
  obtain ⟨v0, vs0, d0, ds0, p0, q0, hargs, rfl, rfl, h0, r0⟩ := trodAll_cons hA
  obtain ⟨v1, vs1, d1, ds1, p1, q1, rfl, rfl, rfl, h1, r1⟩ := trodAll_cons r0
  obtain ⟨v2, vs2, d2, ds2, p2, q2, rfl, rfl, rfl, h2, r2⟩ := trodAll_cons r1
  obtain ⟨rfl, rfl, rfl⟩ := trodAll_nil r2
  obtain rfl : args = #[v0, v1, v2] := by cases args; simp_all
  obtain ⟨rfl, rfl⟩ := trodVars_none hV
  have k0 := h0
  have lt0 : ∀ x ∈ p0, x.block < W.heap.size := by obtain ⟨m, hm⟩ := k0; exact DataW.trod_lt m _ _ _ hm
  obtain ⟨a0, e0⟩ := open_bytes Tryz.underlying22 Tryz.underlying5 (by kernel_rfl) (hval 0 22 v0 rfl rfl) h0
  have k1 := h1
  have lt1 : ∀ x ∈ p1, x.block < W.heap.size := by obtain ⟨m, hm⟩ := k1; exact DataW.trod_lt m _ _ _ hm
  obtain ⟨a1, e1⟩ := open_bytes Tryz.underlying22 Tryz.underlying5 (by kernel_rfl) (hval 1 22 v1 rfl rfl) h1
  have k2 := h2
  have lt2 : ∀ x ∈ p2, x.block < W.heap.size := by obtain ⟨m, hm⟩ := k2; exact DataW.trod_lt m _ _ _ hm
  obtain ⟨a2, e2⟩ := open_i64 Tryz.underlying3 (hval 2 3 v2 rfl rfl) h2
  have hcall := calls_of_spec (f := 3) P12.ok_SwHs Tryz.func3 (by decide +kernel) (by kernel_rfl) (svs := [.lst (.bytes a0), .lst (.bytes a1), .i64 a2]) (w := W) (S39.glok hL) (h := Eq.refl (some ((none : Option Prop), SV.bool true))) trivial (RelL.cons e0 (RelL.cons e1 (RelL.cons e2 RelL.nil)))
  clear hA0 hval0 hsz0 hsz
  refine hcall.mono fun e W' hx => ?_
  obtain ⟨v, rfl, hv, bel⟩ := hx
  simp only [Rel] at hv
  subst hv
  exact ⟨_, rfl, _, _, _, [], _, [], hW', trodAll_mk1 (shut_bool Tryz.underlying4 _), (trodAll_cons_mk (Below.trod laidOut (by kernel_rfl) (of_decide_eq_true (by kernel_rfl)) k0 bel lt0) (trodAll_cons_mk (Below.trod laidOut (by kernel_rfl) (of_decide_eq_true (by kernel_rfl)) k1 bel lt1) (trodAll_cons_mk (Below.trod laidOut (by kernel_rfl) (of_decide_eq_true (by kernel_rfl)) k2 bel lt2) trodAll_mk0))), rfl, bel.frame _, fun h => by cases h⟩
theorem over : Rows.sswuHashesRow.holds Tryz.pinned (OpenSpec.ofChange Rows.sswuHashesSpec) :=
  OpenClaim.holds_of_wide 3 Tryz.f3 rfl rfl rfl rfl rfl rfl rfl ⟨rfl, rfl, rfl, rfl, rfl⟩ rfl rfl rfl rfl rfl (by kernel_rfl) Tryz.func3 (by kernel_rfl)
    (of_decide_eq_true (by kernel_rfl)) (by unfold Func.isWrapper; first | (rw [if_pos (by decide +kernel)]; kernel_rfl) | (rw [if_neg (by decide +kernel)]; exact ⟨rfl, rfl⟩))
    (fun os started H enc _ => lifted os started H enc)
end Go.Proofs.YtficbeeoafiiaaaGreatDoor.sswuHashes
namespace Go.Proofs.YtficbeeoafiiaaaGreatDoor
/-- The row's statement. -/
theorem sswuHashes_row : Rows.SswuHashesSaid := sswuHashes.over
open Go in
set_option maxRecDepth 100000 in
/-- The statement: the row's, with its table tied to the program's text. -/
theorem sswuHashes_holds : Rows.SswuHashesCardSaid :=
  Claim7.holds_tied_plain_at .later [] [.data] true Rows.sswuHashesCard.stood.harness Rows.sswuHashesCard.stood.looks
    sswuHashes_row (fun _ h => by cases h) (by kernel_rfl) (fun _ h => by cases h) sswuHashes_row_tie rfl ⟨rfl, rfl⟩ (by kernel_rfl) rfl
    (fun f fn hf hfn => by
      obtain rfl : f = 3 := Option.some.inj ((show Tryz.prog.funcNamed "cleromancy/cleromancylaw39.SswuHashes" = some 3 by kernel_rfl).symm.trans hf) |>.symm
      obtain rfl : fn = Tryz.f3 := (Option.some.inj (Tryz.func3.symm.trans hfn)).symm
      exact ⟨by kernel_rfl, fun j t ht => by
        rw [Tryz.params3] at ht
        have h3 : (Tryz.prog.wantsStandIn t) = false := by
          have hm : t ∈ [22, 22, 3] := List.mem_of_getElem? (by simpa using ht)
          simp only [List.mem_cons, List.not_mem_nil, or_false] at hm
          rcases hm with rfl | rfl | rfl
          all_goals first | exact (show Tryz.prog.wantsStandIn 22 = false by kernel_rfl) | exact (show Tryz.prog.wantsStandIn 3 = false by kernel_rfl)
        exact h3⟩)
    (by kernel_rfl)
#print axioms sswuHashes_holds
end Go.Proofs.YtficbeeoafiiaaaGreatDoor
