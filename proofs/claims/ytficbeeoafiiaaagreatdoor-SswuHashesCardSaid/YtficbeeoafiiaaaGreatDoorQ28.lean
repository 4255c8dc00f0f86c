/- A symbolic machine for Go functions, and what the functions that the law reaches come to: Laid39. -/
import Derived.Test.YtficbeeoafiiaaaGreatDoorRows
import Derived.Test.YtficbeeoafiiaaaGreatDoorQ7
import Derived.Test.YtficbeeoafiiaaaGreatDoorQ3
import Derived.Lib.LaidTab
import Derived.MakeChecks
import Derived.ChangeOld
/- What the rows say of the memory: the constants' table lies there. -/
namespace Go.Proofs.YtficbeeoafiiaaaGreatDoor.S39
open Go.Sym Go.Lib
theorem heap_of_var {P : Program} {w : World} {n : String} {g : Nat} {cs : Array Value} (hg : P.globalNamed n = some g) (h : w.var? P n = some cs) : ∃ ty fz, w.heap[g]? = some (.cells cs ty fz) := by
  simp only [World.var?, hg, Option.bind_some] at h
  split at h
  · rename_i c t fr hb
    simp only [Option.some.injEq] at h
    subst h
    exact ⟨_, _, hb⟩
  · cases h
theorem glok {W : World} (h : laidMetH Tryz.prog Rows.sswuHashesRow.laid W) : GLOK noAt W := by
  rw [MakeChecks.laidMetH_plain _ _ _ (by kernel_rfl)] at h
  have h' : laidMet Tryz.prog [("cleromancy/digest.constants", tabData .u32 (glob0.map fun x => (x.toNat : Int)))] W := by
    have e : Rows.sswuHashesRow.laid = [("cleromancy/digest.constants", (tabData .u32 (glob0.map fun x => (x.toNat : Int)) : DataW Unit))] := by kernel_rfl
    rw [← e]; exact h
  have hv := tabIs_of_head (g := 0) (t := 130) (e := 108) (n := 64) (by kernel_rfl) (by kernel_rfl) (by kernel_rfl) (by kernel_rfl) (by kernel_rfl) (by kernel_rfl) h'
  obtain ⟨ty, fz, hh⟩ := heap_of_var (show Tryz.prog.globalNamed "cleromancy/digest.constants" = some 0 by kernel_rfl) hv
  intro g l e
  match g, e with
  | 0, e =>
    have e' : LV.halfs glob0 = l := Option.some.inj e
    subst e'
    refine ⟨⟨fun n e => by simp [noAt] at e, fun e => by simp [noAt] at e, fun n b c k e => by simp [noAt] at e⟩, ty, fz, ?_⟩
    rw [hh]
    simp only [LV.vals, List.map_map]
    rfl
  | g + 1, e => cases e
end Go.Proofs.YtficbeeoafiiaaaGreatDoor.S39
