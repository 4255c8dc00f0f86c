/- A symbolic machine for Go functions, and what the functions that the law reaches come to: SymW. -/
import Derived.Test.YtficbeeoafiiaaaGreatDoorQ5
/- Functions whose result is a list of its own: told read only, whatever they are handed. -/
namespace Go.Sym
open Go.RowKit
def toN (s : SpecF) : NSpecF := fun look _ svs =>
  match lendL look svs with
  | some (as, _, _) => if noNameL as = true then (match s as with
    | some (pre, .lst l) => some ⟨pre, .lst l, []⟩
    | _ => none) else none
  | none => none
section
variable [GLob] {P : Program} {f : FuncId} {s : SpecF} {at_ a : At} {M : List (Option Blk)} {w w' : World}
theorem FRel1.lst {l : LV} {v : Value} (hM : MemOK at_ M w) (h : FRel1 a w.heap.size w' (.lst l) v) : Rel at_ w' (.lst l) v := by
  simp only [FRel1] at h
  simp only [Rel]
  rcases h with ⟨hl, rfl⟩ | ⟨g, base, cap, ad, hge, ⟨arr, ty, hh, hsz, hle, _, hv⟩, rfl, had⟩
  · refine ⟨none, 0, by rw [hl], by omega, fun j u hj => ?_⟩
    have := List.eq_nil_of_length_eq_zero (show l.vals.length = 0 by rw [LV.len_vals, hl])
    rw [this] at hj; simp at hj
  · refine ⟨ad, cap, rfl, hle, fun j u hj => ?_⟩
    have hlt : j < l.len := by rw [← LV.len_vals]; exact (List.getElem?_eq_some_iff.1 hj).1
    refine ⟨_, had (by omega), ⟨fun n e => ?_, fun e => ?_, fun n b c k e => ?_⟩, ?_⟩
    · have h1 := (hM.dom n g e).1; omega
    · have h1 := hM.outlt g e; omega
    · have h1 := hM.gsz n g b c k e; omega
    · rw [addr_add, cell_of_row w' g _ _ ty (0, 0) hh, ← Array.getElem?_toList]
      rw [← hv, List.getElem?_take, List.getElem?_drop, if_pos hlt] at hj
      exact hj
theorem FSpecOK.toN (h : FSpecOK P f s) : NSpecOK P f (toN s) := by
  intro at_ M w look fresh svs vs out hM hlook hf hs hp hr
  unfold Sym.toN at hs
  split at hs
  · rename_i as ks fx hl
    split at hs
    · rename_i hn
      split at hs
      · rename_i pre l hsa
        obtain rfl := Option.some.inj hs
        obtain ⟨k0, k1, k2⟩ := lendL_ok hM hlook hl hr
        exact Outcome.mono (fun v w' ⟨h1, h2⟩ => Post.below hM h2 (FRel1.lst (a := noAt) hM h1)) (h noAt w _ _ _ _ (fun n g e => by simp [noAt] at e) (fun g h => by simp [noAt] at h) (hM.glb.fixed fun g _ => Fix.noAt g) hsa hp (k1 hn))
      · cases hs
    · cases hs
  · cases hs
end
end Go.Sym
