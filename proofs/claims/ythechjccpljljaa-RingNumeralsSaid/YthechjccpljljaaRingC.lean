/- Package ring: what its functions come to is so (without powers). -/
import Derived.Test.YthechjccpljljaaRingB
namespace Go.Proofs.Ythechjccpljljaa
open Go.Sym Go.Dig

theorem sv_fin {y : SV} (x : SV) (h : (fun x => x = y) x) (at_ : At) (w : World) (v : Value) (r : Rel at_ w x v) : Rel at_ w y v := by have h' : x = y := h; subst h'; exact r
theorem spG1_ok : SpecsOK Try.prog spG1 := spL0_ok
theorem ok_RPlus : SpecOK Try.prog 76 sRPlus := by
  refine fn_okL (by kernel_rfl) tt_ok spG1_ok 3 Try.func76 (by decide +kernel) (by kernel_rfl) ?_
  rintro ⟨r, a, b, _⟩ _
  exact ⟨[], {}, fun x => x = (ringPlus r.m a b).sv, LnVD.of (vcPlus r a b _) rfl, sv_fin⟩
theorem spG2_ok : SpecsOK Try.prog spG2 := .cons ok_RPlus spG1_ok
theorem ok_Twice : SpecOK Try.prog 72 sTwice := by
  refine fn_okL (by kernel_rfl) tt_ok spG2_ok 3 Try.func72 (by decide +kernel) (by kernel_rfl) ?_
  rintro ⟨r, a, _⟩ _
  exact ⟨[], {}, fun x => x = (ringPlus r.m a a).sv, LnVD.of (vcTwice r a _) rfl, sv_fin⟩
theorem spG3_ok : SpecsOK Try.prog spG3 := .cons ok_Twice spG2_ok

theorem ok_NewG : SpecOK Try.prog 44 sNewG := by
  refine fn_okL (by kernel_rfl) tt_ok spG3_ok 9 Try.func44 (by decide +kernel) (by kernel_rfl) ?_
  rintro ⟨m, _⟩ hg
  replace hg : goodM m = true := hg
  refine ⟨_, lNew, fun x => x = .tup [.ro (ringOf m).cells 0, .i64 0], LnVD.of (vcNewA m _) ?_, sv_fin⟩
  unfold goodM at hg
  simp only [Bool.and_eq_true, Bool.not_eq_true'] at hg
  refine ⟨hg.1, hg.2, ⟨rfl, rfl, by omega, by omega, rfl⟩, fun v r x i ⟨e1, e2, i0, i1, e3⟩ => ?_⟩
  subst e1 e2
  rw [R1.bcase_dec]
  refine ⟨fun hi => ?_, fun hi => ?_⟩
  · rw [R1.wr (x := i + 1) (by omega)]
    refine ⟨by trivial, ⟨by trivial, by trivial, by omega, by omega, ?_⟩, by omega⟩
    rw [e3, show (i + 1).toNat = i.toNat + 1 by omega]; rfl
  · have hi6 : i.toNat = 6 := by omega
    rw [hi6] at e3
    refine ⟨⟨by omega, by omega, ?_, rfl⟩, fun r2 x2 j ⟨j0, j1, e4, e5⟩ => ?_⟩
    · simp only [oneN]; rfl
    · rw [R1.bcase_dec]
      refine ⟨fun hj => ?_, fun hj => ?_⟩
      · rw [R1.wr (x := j + 1) (by omega), R1.bcase_iff]
        have hd : dblN v (j + 1).toNat = ringPlus v (dblN v j.toNat) (dblN v j.toNat) := by rw [show (j + 1).toNat = j.toNat + 1 by omega]; rfl
        subst e4 e5
        simp only at hd ⊢
        refine ⟨fun h => ⟨by trivial, ⟨by omega, by omega, ?_, hd.symm⟩, by omega⟩, fun h => ⟨by trivial, ⟨by omega, by omega, ?_, hd.symm⟩, by omega⟩⟩
        · have : j = 255 := by simpa using h
          subst this
          have e : oneN v (255 + 1) = dblN v 256 := by unfold oneN; rw [if_neg (by omega)]
          rw [e]; rfl
        · have hne : j ≠ 255 := by simpa using h
          have e : oneN v (j + 1) = oneN v j := by
            unfold oneN
            by_cases hl : j ≤ 255
            · rw [if_pos hl, if_pos (by omega)]
            · rw [if_neg hl, if_neg (by omega)]
          rw [e]
      · have hj5 : j = 512 := by omega
        subst hj5
        subst e4 e5
        have e : oneN v 512 = dblN v 256 := by unfold oneN; rw [if_neg (by omega)]
        rw [e3]
        simp only [e]
        rfl
theorem ok_NewN : SpecOK Try.prog 44 sNewN := by
  refine fn_okL (by kernel_rfl) tt_ok spG3_ok 9 Try.func44 (by decide +kernel) (by kernel_rfl) ?_
  rintro ⟨m, _⟩ hg
  replace hg : goodM m = false := hg
  unfold goodM at hg
  cases h1 : ((m.w0 &&& 1) == 0) with
  | true => exact ⟨_, lNew, fun x => x = .tup [.val (.pointer none), .i64 2], LnVD.of (vcNewB m _) ⟨h1, rfl⟩, sv_fin⟩
  | false =>
    rw [h1] at hg
    simp only [Bool.not_false, Bool.true_and, Bool.not_eq_false'] at hg
    exact ⟨_, lNew, fun x => x = .tup [.val (.pointer none), .i64 2], LnVD.of (vcNewC m _) ⟨h1, hg, rfl⟩, sv_fin⟩

theorem spG4_ok : SpecsOK Try.prog spG4 := .cons ok_mul64 <| .cons ok_add64 spL0_ok
theorem ok_Shrink : SpecOK Try.prog 82 sShrink :=
  fn_ok mixed tt_ok spG4_ok 9 Try.func82 (by decide +kernel) rfl
    (fun a => conj (cpre (shrV a.1.back a.1.m a.2.1).o1) (conj (cpre (shrV a.1.back a.1.m a.2.1).o2) (conj (cpre (shrV a.1.back a.1.m a.2.1).o3) (Same (retSV (RetL.retL (shrinkF a.1.back a.1.m a.2.1)))))))
    (fun a => by kernel_rfl)
    (fun _ _ => cpre_conj (addHi_le _ _ _ zero_le) (cpre_conj (addHi_le _ _ _ (addHi_le _ _ _ zero_le)) (cpre_conj (addHi_le _ _ _ (addHi_le _ _ _ (addHi_le _ _ _ zero_le))) rfl)))
theorem ok_TimesR : SpecOK Try.prog 74 sTimesR := by
  refine fn_okL (by kernel_rfl) tt_ok (.cons ok_Shrink spL0_ok) 3 Try.func74 (by decide +kernel) (by kernel_rfl) ?_
  rintro ⟨r, a, b, _⟩ _
  exact ⟨[], {}, fun x => x = (timesR r a b).sv, LnVD.of (vcTimesR r a b _) rfl, sv_fin⟩
theorem ok_IsR : SpecOK Try.prog 73 sIsR := by
  refine fn_okL (by kernel_rfl) tt_ok (.nil _) 3 Try.func73 (by decide +kernel) (by kernel_rfl) ?_
  rintro ⟨r, _⟩ _
  cases r with
  | none => exact ⟨[], {}, fun x => x = .bool false, LnVD.of (vcIsB _) rfl, sv_fin⟩
  | some r => exact ⟨[], {}, fun x => x = .bool (isR (some r)), LnVD.of (vcIsA r _) rfl, sv_fin⟩
theorem spG5_ok : SpecsOK Try.prog spG5 := .cons ok_IsR <| .cons ok_TimesR spG3_ok
theorem onR_t {r : RingV} {f : RingV → Four} (h : (!isR (some r)) = false) : onR (some r) f = f r := by
  unfold onR; simp only; rw [if_pos (by simpa using h)]
theorem onR_f {r : RingV} {f : RingV → Four} (h : (!isR (some r)) = true) : onR (some r) f = zero4 := by
  unfold onR; simp only; rw [if_neg (by simpa using h)]
theorem onR_goal {r : RingV} {f : RingV → Four} {z : SV} (h0 : z = (f r).sv) : bcase (!isR (some r)) ((fun x => x = (onR (some r) f).sv) zero4.sv) ((fun x => x = (onR (some r) f).sv) z) := by
  rw [R1.bcase_iff]
  exact ⟨fun h => by show _ = _; rw [onR_f h], fun h => by show _ = _; rw [onR_t h, h0]⟩
theorem ok_Modulus : SpecOK Try.prog 46 sModulus := by
  refine fn_okL (by kernel_rfl) tt_ok spG5_ok 3 Try.func46 (by decide +kernel) (by kernel_rfl) ?_
  rintro ⟨r, _⟩ _
  cases r with
  | none => exact ⟨[], {}, fun x => x = zero4.sv, LnVD.of (vcModulusB _) rfl, sv_fin⟩
  | some r => exact ⟨[], {}, fun x => x = (onR (some r) fun r => r.m).sv, LnVD.of (vcModulusA r _) (onR_goal rfl), sv_fin⟩
theorem ok_Reduce : SpecOK Try.prog 47 sReduce := by
  refine fn_okL (by kernel_rfl) tt_ok spG5_ok 3 Try.func47 (by decide +kernel) (by kernel_rfl) ?_
  rintro ⟨r, a, _⟩ _
  cases r with
  | none => exact ⟨[], {}, fun x => x = zero4.sv, LnVD.of (vcReduceB a _) rfl, sv_fin⟩
  | some r => exact ⟨[], {}, fun x => x = (onR (some r) fun r => redR r a).sv, LnVD.of (vcReduceA r a _) (onR_goal rfl), sv_fin⟩
theorem ok_In : SpecOK Try.prog 51 sIn := by
  refine fn_okL (by kernel_rfl) tt_ok spG5_ok 3 Try.func51 (by decide +kernel) (by kernel_rfl) ?_
  rintro ⟨r, a, _⟩ _
  cases r with
  | none => exact ⟨[], {}, fun x => x = zero4.sv, LnVD.of (vcInB a _) rfl, sv_fin⟩
  | some r => exact ⟨[], {}, fun x => x = (onR (some r) fun r => timesR r a r.two).sv, LnVD.of (vcInA r a _) (onR_goal rfl), sv_fin⟩
theorem ok_Out : SpecOK Try.prog 53 sOut := by
  refine fn_okL (by kernel_rfl) tt_ok spG5_ok 3 Try.func53 (by decide +kernel) (by kernel_rfl) ?_
  rintro ⟨r, a, _⟩ _
  cases r with
  | none => exact ⟨[], {}, fun x => x = zero4.sv, LnVD.of (vcOutB a _) rfl, sv_fin⟩
  | some r => exact ⟨[], {}, fun x => x = (onR (some r) fun r => timesR r a one4).sv, LnVD.of (vcOutA r a _) (onR_goal rfl), sv_fin⟩
theorem spG6_ok : SpecsOK Try.prog spG6 := .cons ok_Reduce spG5_ok
theorem ok_ResidueR : SpecOK Try.prog 78 sResidueR := by
  refine fn_okL (by kernel_rfl) tt_ok spG6_ok 3 Try.func78 (by decide +kernel) (by kernel_rfl) ?_
  rintro ⟨r, a, _⟩ _
  refine ⟨[], {}, fun x => x = (resR r a).sv, LnVD.of (vcResidueR r a _) ?_, sv_fin⟩
  rw [R1.bcase_dec]
  refine ⟨fun h => ?_, fun h => ?_⟩
  · show _ = _; unfold resR; rw [if_pos h]; rfl
  · show _ = _; unfold resR; rw [if_neg h]; rfl
theorem spG7_ok : SpecsOK Try.prog spG7 := .cons ok_ResidueR spG6_ok
theorem ok_PlusR : SpecOK Try.prog 54 sPlusR := by
  refine fn_okL (by kernel_rfl) tt_ok spG7_ok 3 Try.func54 (by decide +kernel) (by kernel_rfl) ?_
  rintro ⟨r, a, b, _⟩ _
  cases r with
  | none => exact ⟨[], {}, fun x => x = zero4.sv, LnVD.of (vcPlusB a b _) rfl, sv_fin⟩
  | some r => exact ⟨[], {}, fun x => x = (onR (some r) fun r => plusR r a b).sv, LnVD.of (vcPlusA r a b _) (onR_goal rfl), sv_fin⟩
theorem ok_MinusR : SpecOK Try.prog 55 sMinusR := by
  refine fn_okL (by kernel_rfl) tt_ok spG7_ok 3 Try.func55 (by decide +kernel) (by kernel_rfl) ?_
  rintro ⟨r, a, b, _⟩ _
  cases r with
  | none => exact ⟨[], {}, fun x => x = zero4.sv, LnVD.of (vcMinusB a b _) rfl, sv_fin⟩
  | some r => exact ⟨[], {}, fun x => x = (onR (some r) fun r => minusR r a b).sv, LnVD.of (vcMinusA r a b _) (onR_goal rfl), sv_fin⟩
theorem ok_MulR : SpecOK Try.prog 57 sMulR := by
  refine fn_okL (by kernel_rfl) tt_ok spG7_ok 3 Try.func57 (by decide +kernel) (by kernel_rfl) ?_
  rintro ⟨r, a, b, _⟩ _
  cases r with
  | none => exact ⟨[], {}, fun x => x = zero4.sv, LnVD.of (vcMulB a b _) rfl, sv_fin⟩
  | some r => exact ⟨[], {}, fun x => x = (onR (some r) fun r => mulR r a b).sv, LnVD.of (vcMulA r a b _) (onR_goal rfl), sv_fin⟩
theorem ok_WideR : SpecOK Try.prog 49 sWideR := by
  refine fn_okL (by kernel_rfl) tt_ok spG7_ok 3 Try.func49 (by decide +kernel) (by kernel_rfl) ?_
  rintro ⟨r, a, _⟩ _
  cases r with
  | none => exact ⟨[], {}, fun x => x = zero4.sv, LnVD.of (vcWideB a _) rfl, sv_fin⟩
  | some r =>
    refine ⟨[], {}, fun x => x = (onR (some r) fun r => wideR r a).sv, LnVD.of (vcWideA r a _) ?_, sv_fin⟩
    rw [R1.bcase_iff]
    refine ⟨fun h => by show _ = _; rw [onR_f h]; rfl, fun h => ?_⟩
    show _ = _
    rw [onR_t (f := fun r => wideR r a) h]
    simp only [onR_t (f := fun r => redR r ⟨a.e0, a.e1, a.e2, a.e3⟩) h]
    rfl
end Go.Proofs.Ythechjccpljljaa
