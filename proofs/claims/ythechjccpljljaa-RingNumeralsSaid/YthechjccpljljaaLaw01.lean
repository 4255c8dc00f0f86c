/- Layer 1's laws: what they begin with. -/
import Derived.Test.YthechjccpljljaaLimb6
namespace Go.Proofs.Ythechjccpljljaa
open Go.Sym

def spL0 : Specs := [(14, sAdd), (15, sSub), (22, sCmp), (40, sBits), (30, sMul), (33, sMulWord),
  (37, sLeft), (38, sRight), (39, sBit), (23, sOf), (27, sBytes), (42, sSelect)]
theorem spL0_ok : SpecsOK Try.prog spL0 := .cons ok_Add <| .cons ok_Sub <| .cons ok_Cmp <| .cons ok_Bits <| .cons ok_Mul <| .cons ok_MulWord <| .cons ok_Left <| .cons ok_Right <| .cons ok_Bit <| .cons ok_Of <| .cons ok_Bytes <| .cons ok_Select <| .nil _
abbrev sAwake1 : SpecF := fspec (α := Unit) total fun _ => true
theorem ok_awake1 : SpecOK Try.prog 12 sAwake1 :=
  fn_ok mixed tt_ok spL0_ok 9 Try.func12 (by decide +kernel) rfl (fun _ => Same (.bool true)) (fun a => by kernel_rfl) (fun _ _ => Same.mk _)
def spL1 : Specs := (12, sAwake1) :: spL0
theorem spL1_ok : SpecsOK Try.prog spL1 := .cons ok_awake1 spL0_ok
end Go.Proofs.Ythechjccpljljaa
