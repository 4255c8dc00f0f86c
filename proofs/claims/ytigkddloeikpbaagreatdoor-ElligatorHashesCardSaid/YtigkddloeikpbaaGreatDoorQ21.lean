/- A symbolic machine for Go functions, and what the functions that the law reaches come to: EdP. -/
import Derived.Test.YtigkddloeikpbaaGreatDoorQ19
import Derived.Test.YtigkddloeikpbaaGreatDoorQ20
import Derived.Test.YtigkddloeikpbaaGreatDoorQ16
/- Layer 10's laws: what their bodies come to. -/
set_option maxRecDepth 10000
namespace Go.Proofs.YtigkddloeikpbaaGreatDoor.E10
open Go.Sym Go.Dig R1 F4
--STOP R1.Sm, Lm, Lh, eSides, eFlat, ePair, eAdd, eDouble, eNeg, eEight, eSame, eFrom, eOf, eSmall, eBytes, eZero, eBase, rAdd, rNeg, rOf, rSame, rBytes, rPairX, rPairY, onN, smallV, rZero

/-- As bytes they are the same: so it is. -/
noncomputable def sIs10 : SpecF := fspec (α := Pt × RP × Unit) (fun a => some ((Lh a.2.1.x ∧ Lh a.2.1.y ∧ Lh a.2.1.z) ∧ eBytes a.1 = rBytes a.2.1)) (fun _ => true)
abbrev sAw10 : SpecF := fspec (α := Unit) total fun _ => true
noncomputable def spL10 : Specs := (1000004, Sym.sNo) :: (1000005, Sym.sNo) :: (spE4 ++ spK4)
/-- They are the same. -/
noncomputable def sSameT : SpecF := fspec (α := Pt × Pt × Unit) (fun a => some (eSame a.1 a.2.1 = true)) (fun _ => true)
noncomputable def spG10 : Specs := (20, sSameT) :: spL10
end Go.Proofs.YtigkddloeikpbaaGreatDoor.E10
