/- A symbolic machine for Go functions, and what the functions that the law reaches come to: FieldA. -/
import Derived.Test.YtigkddloeikpbaaGreatDoorQ12
import Derived.Test.YtigkddloeikpbaaGreatDoorQ3
/- Package field: what the bodies of its functions come to. -/
set_option maxRecDepth 10000
namespace Go.Proofs.YtigkddloeikpbaaGreatDoor
open Go.Sym

--STOP fCarry, fMul, fSub, fAdd, fNeg, fSq, dPlus, fWhole, fSel, mul64, addLo, addHi

abbrev sCarry : SpecF := fspec (α := Five × Unit) total fun a => fCarry a.1
theorem ok_fCarry : SpecOK Tryz.prog 81 sCarry :=
  fn_ok mixed tt_ok (.nil _) 9 Tryz.func81 (by decide +kernel) (by kernel_rfl)
    (fun a => Same (retSV (RetL.retL (fCarry a.1)))) (fun a => by kernel_rfl) (fun _ _ => rfl)
def spF1 : Specs := [(81, sCarry)]
theorem spF1_ok : SpecsOK Tryz.prog spF1 := .cons ok_fCarry (.nil _)
theorem small_ex : ∃ s : UInt32 → Five, s = fSmall := ⟨_, rfl⟩
/-- Small elements, told so that no machine computes with them. -/
noncomputable def smallV : UInt32 → Five := Classical.choose small_ex
theorem smallV_eq : smallV = fSmall := Classical.choose_spec small_ex
noncomputable def sFSmall : SpecF := fspec (α := UInt32 × Unit) total fun a => smallV a.1
theorem ok_fSmall0 : SpecOK Tryz.prog 17 (fspec (α := UInt32 × Unit) total fun a => fSmall a.1) :=
  fn_ok mixed tt_ok (.nil _) 9 Tryz.func17 (by decide +kernel) (by kernel_rfl)
    (fun a => Same (retSV (RetL.retL (fSmall a.1)))) (fun a => by kernel_rfl) (fun _ _ => rfl)
theorem ok_fSmall : SpecOK Tryz.prog 17 sFSmall := by unfold sFSmall; rw [smallV_eq]; exact ok_fSmall0
abbrev sFAdd : SpecF := fspec (α := Five × Five × Unit) total fun a => fAdd a.1 a.2.1
theorem ok_fAdd : SpecOK Tryz.prog 53 sFAdd :=
  fn_ok mixed tt_ok spF1_ok 9 Tryz.func53 (by decide +kernel) (by kernel_rfl)
    (fun a => Same (retSV (RetL.retL (fAdd a.1 a.2.1)))) (fun a => by kernel_rfl) (fun _ _ => rfl)
abbrev sFSub : SpecF := fspec (α := Five × Five × Unit) total fun a => fSub a.1 a.2.1
theorem ok_fSub : SpecOK Tryz.prog 57 sFSub :=
  fn_ok mixed tt_ok spF1_ok 9 Tryz.func57 (by decide +kernel) (by kernel_rfl)
    (fun a => Same (retSV (RetL.retL (fSub a.1 a.2.1)))) (fun a => by kernel_rfl) (fun _ _ => rfl)
noncomputable def spF2 : Specs := (17, sFSmall) :: (53, sFAdd) :: (57, sFSub) :: spF1
theorem spF2_ok : SpecsOK Tryz.prog spF2 := .cons ok_fSmall <| .cons ok_fAdd <| .cons ok_fSub spF1_ok
abbrev sFNeg : SpecF := fspec (α := Five × Unit) total fun a => fNeg a.1
theorem ok_fNeg : SpecOK Tryz.prog 16 sFNeg :=
  fn_ok mixed tt_ok spF2_ok 9 Tryz.func16 (by decide +kernel) (by kernel_rfl)
    (fun a => Same (retSV (RetL.retL (fNeg a.1)))) (fun a => by kernel_rfl) (fun _ _ => rfl)
abbrev sDPlus : SpecF := fspec (α := Dbl × UInt64 × UInt64 × Unit) total fun a => dPlus a.1 a.2.1 a.2.2.1
theorem ok_dPlus : SpecOK Tryz.prog 79 sDPlus :=
  fn_ok mixed tt_ok sp2_ok 9 Tryz.func79 (by decide +kernel) (by kernel_rfl)
    (fun a => conj (cpre (addHi a.1.lo (mul64 a.2.1 a.2.2.1).2 0)) (Same (retSV (RetL.retL (dPlus a.1 a.2.1 a.2.2.1))))) (fun a => by kernel_rfl) (fun _ _ => cpre_conj (addHi_le _ _ _ zero_le) rfl)
noncomputable def spF3 : Specs := (16, sFNeg) :: (79, sDPlus) :: (spF2 ++ sp2)
theorem spF3_ok : SpecsOK Tryz.prog spF3 := .cons ok_fNeg <| .cons ok_dPlus <| .cons ok_fSmall <| .cons ok_fAdd <| .cons ok_fSub <| .cons ok_fCarry sp2_ok
abbrev sFMul : SpecF := fspec (α := Five × Five × Unit) total fun a => fMul a.1 a.2.1
theorem ok_fMul : SpecOK Tryz.prog 52 sFMul :=
  fn_ok mixed tt_ok spF3_ok 9 Tryz.func52 (by decide +kernel) (by kernel_rfl)
    (fun a => Same (retSV (RetL.retL (fMul a.1 a.2.1)))) (fun a => by kernel_rfl) (fun _ _ => rfl)
abbrev sFSel : SpecF := fspec (α := UInt64 × Five × Five × Unit) total fun a => fSel a.1 a.2.1 a.2.2.1
theorem ok_fSel : SpecOK Tryz.prog 97 sFSel :=
  fn_ok mixed tt_ok sp2_ok 9 Tryz.func97 (by decide +kernel) (by kernel_rfl)
    (fun a => Same (retSV (RetL.retL (fSel a.1 a.2.1 a.2.2.1)))) (fun a => by kernel_rfl) (fun _ _ => rfl)
abbrev sFWhole : SpecF := fspec (α := Five × Unit) total fun a => fWhole a.1
theorem ok_fWhole : SpecOK Tryz.prog 59 sFWhole :=
  fn_ok mixed tt_ok spF3_ok 9 Tryz.func59 (by decide +kernel) (by kernel_rfl)
    (fun a => Same (retSV (RetL.retL (fWhole a.1)))) (fun a => by kernel_rfl) (fun _ _ => rfl)
noncomputable def spF4 : Specs := (52, sFMul) :: (97, sFSel) :: (59, sFWhole) :: spF3
theorem spF4_ok : SpecsOK Tryz.prog spF4 := .cons ok_fMul <| .cons ok_fSel <| .cons ok_fWhole spF3_ok
abbrev sFSame : SpecF := fspec (α := Five × Five × Unit) total fun a => fSame a.1 a.2.1
theorem ok_fSame : SpecOK Tryz.prog 19 sFSame :=
  fn_ok mixed tt_ok spF4_ok 9 Tryz.func19 (by decide +kernel) (by kernel_rfl)
    (fun a => Same (retSV (RetL.retL (fSame a.1 a.2.1)))) (fun a => by kernel_rfl) (fun _ _ => rfl)
abbrev sFNegB : SpecF := fspec (α := Five × Unit) total fun a => fNegB a.1
theorem ok_fNegB : SpecOK Tryz.prog 46 sFNegB :=
  fn_ok mixed tt_ok spF4_ok 9 Tryz.func46 (by decide +kernel) (by kernel_rfl)
    (fun a => Same (retSV (RetL.retL (fNegB a.1)))) (fun a => by kernel_rfl) (fun _ _ => rfl)
end Go.Proofs.YtigkddloeikpbaaGreatDoor
