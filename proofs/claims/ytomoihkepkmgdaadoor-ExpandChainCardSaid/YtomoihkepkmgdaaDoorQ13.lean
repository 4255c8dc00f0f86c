/- A symbolic machine for Go functions, and what the functions that the law reaches come to: Open9. -/
import Derived.Test.YtomoihkepkmgdaaDoorQ9
/- Laws' rows: a number of 16 bits. -/
namespace Go.Proofs.YtomoihkepkmgdaaDoor
open Go.Sym Go.ChangeShapes Go.WideShapes
theorem u16_of_wf {n : Int} (h : (Lit.int .u16 n).wf = true) : ∃ x : Nat, (.int .u16 n : Value) = .int .u16 (Int.ofNat x) := by
  simp [Lit.wf, IntKind.min, IntKind.max, IntKind.signed, IntKind.bits] at h
  refine ⟨n.toNat, ?_⟩
  simp; omega
theorem open_u16 [GLob] {H : Type} {enc : TypeId × Value → H} {P : Program} {W : World} {base b0 : Nat} {spare : Nat → Bool} {held : Bool} {t : TypeId} {v : Value} {d : DataW H} {ps : List MemPlace} (ht : P.underlying t = some (.int .u16)) (hval : Value.okWide P W .any b0 t v) (hd : DataW.Trod enc P W base spare held t v d ps) : ∃ x : Nat, Rel noAt W (.val (.int .u16 (Int.ofNat x))) v := by
  have := ‹GLob›
  obtain ⟨n, rfl, _, _, hw⟩ := open_int ht hval hd
  obtain ⟨x, hx⟩ := u16_of_wf hw
  exact ⟨x, by simp only [Rel]; exact hx⟩
end Go.Proofs.YtomoihkepkmgdaaDoor
