/- The statement ElligatorPairs: for every input that the row lets in, the law's call returns true and leaves its arguments as they were. -/
import Derived.Test.YtdbbeomfkhfhpaaRows
import Derived.Test.YtdbbeomfkhfhpaaQ20
import Derived.Test.YtdbbeomfkhfhpaaQ3
import Derived.Test.YtdbbeomfkhfhpaaQ21
namespace Go.Proofs.Ytdbbeomfkhfhpaa.elligatorPairs
open Go.ChangeShapes Go.WideShapes Go.ChangeAt Go.RowKit Go.Sym
theorem own : ownKnob Try.prog.godebug = none := by kernel_rfl
theorem laidOut : laidOutB Try.prog = true := by kernel_rfl
set_option maxRecDepth 100000 in
theorem lifted (os : Os) (started : os.Started) (H : Type) (enc : TypeId × Value → H) :
    ReturnsInHanded {} Try.checked os 3 .any (Rows.elligatorPairsSpec.pre6 enc Try.prog Try.f3 Rows.elligatorPairsRow.domain false) (Rows.elligatorPairsSpec.post enc Try.prog Try.f3 false true false false) := by
  refine returnsInHanded_of_change_sized (C := Try.checked) own started (by kernel_rfl) Try.func3
    (ChangeSpec.witness6 (enc := enc) (C := Try.checked) false ⟨#[], #[.agg #[.int .u64 0, .int .u64 0, .int .u64 0, .int .u64 0, .int .u64 0]], []⟩ 8 (by kernel_rfl) (by kernel_rfl) (by kernel_rfl) (by kernel_rfl)) ?_
  intro W base args ds gs before hval0 hW hcnd hsz0 _
  have hsz : (DataW.weightsEach Try.prog (Try.f3.params.toList ++ Rows.elligatorPairsSpec.plain.varTypes Try.prog) (ds ++ gs)).all (· ≤ reachBytes) = true := hsz0
  have hval : ∀ (j : Nat) t v, Try.f3.params[j]? = some t → args[j]? = some v → Value.okWide Try.prog W .any base t v := hval0
  have hW' := hW
  obtain ⟨p, q, hA0, hV, rfl, hfz, hnd⟩ := hW
  have hA : DataW.TrodAll enc Try.prog W 0 (fun _ => true) true Try.f3.params.toList args.toList ds p := hA0
  rw [Try.params3] at hA hval hsz
  obtain ⟨v0, vs0, d0, ds0, p0, q0, hargs, rfl, rfl, h0, r0⟩ := trodAll_cons hA
  obtain ⟨rfl, rfl, rfl⟩ := trodAll_nil r0
  obtain rfl : args = #[v0] := by cases args; simp_all
  obtain ⟨rfl, rfl⟩ := trodVars_none hV
  have k0 := h0
  have lt0 : ∀ x ∈ p0, x.block < W.heap.size := by obtain ⟨m, hm⟩ := k0; exact DataW.trod_lt m _ _ _ hm
  obtain ⟨a0, e0⟩ := open_five Try.underlying24 Try.underlying22 (by kernel_rfl) (by kernel_rfl) (hval 0 24 v0 rfl rfl) h0
  have hcall := calls_of_spec (f := 3) E10.ok_EllP Try.func3 (by decide +kernel) (by kernel_rfl) (svs := [Five.sv a0]) (w := W) (fun _ _ h => by cases h) (h := Eq.refl (some ((none : Option Prop), SV.bool true))) trivial (RelL.cons e0 RelL.nil)
  clear hA0 hval0 hsz0 hsz
  refine hcall.mono fun e W' hx => ?_
  obtain ⟨v, rfl, hv, bel⟩ := hx
  simp only [Rel] at hv
  subst hv
  exact ⟨_, rfl, _, _, _, [], _, [], hW', trodAll_mk1 (shut_bool Try.underlying4 _), (trodAll_cons_mk (Below.trod laidOut (by kernel_rfl) (of_decide_eq_true (by kernel_rfl)) k0 bel lt0) trodAll_mk0), rfl, bel.frame _, fun h => by cases h⟩
theorem over : Rows.elligatorPairsRow.holds Try.pinned (OpenSpec.ofChange Rows.elligatorPairsSpec) :=
  OpenClaim.holds_of_wide 3 Try.f3 rfl rfl rfl rfl rfl rfl rfl ⟨rfl, rfl, rfl, rfl, rfl⟩ rfl rfl rfl rfl rfl (by kernel_rfl) Try.func3 (by kernel_rfl)
    (of_decide_eq_true (by kernel_rfl)) (by unfold Func.isWrapper; first | (rw [if_pos (by decide +kernel)]; kernel_rfl) | (rw [if_neg (by decide +kernel)]; exact ⟨rfl, rfl⟩))
    (fun os started H enc _ => lifted os started H enc)
end Go.Proofs.Ytdbbeomfkhfhpaa.elligatorPairs
namespace Go.Proofs.Ytdbbeomfkhfhpaa
/-- The statement. -/
theorem elligatorPairs_holds : Rows.ElligatorPairsSaid := elligatorPairs.over
#print axioms elligatorPairs_holds
end Go.Proofs.Ytdbbeomfkhfhpaa
