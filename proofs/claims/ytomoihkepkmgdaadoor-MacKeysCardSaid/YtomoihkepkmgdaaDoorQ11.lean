/- A symbolic machine for Go functions, and what the functions that the law reaches come to: Open7. -/
import Derived.Test.YtomoihkepkmgdaaDoorQ6
/- Laws' rows: a byte. -/
namespace Go.Proofs.YtomoihkepkmgdaaDoor
open Go.Sym Go.ChangeShapes Go.WideShapes
theorem u8_of_wf {n : Int} (h : (Lit.int .u8 n).wf = true) : ∃ x : UInt8, (.int .u8 n : Value) = .int .u8 (x.toNat : Int) := by
  simp [Lit.wf, IntKind.min, IntKind.max, IntKind.signed, IntKind.bits] at h
  refine ⟨UInt8.ofNat n.toNat, ?_⟩
  simp; omega
theorem open_u8 [GLob] {H : Type} {enc : TypeId × Value → H} {P : Program} {W : World} {base b0 : Nat} {spare : Nat → Bool} {held : Bool} {t : TypeId} {v : Value} {d : DataW H} {ps : List MemPlace} (ht : P.underlying t = some (.int .u8)) (hval : Value.okWide P W .any b0 t v) (hd : DataW.Trod enc P W base spare held t v d ps) : ∃ x : UInt8, Rel noAt W (.u8 x) v := by
  have := ‹GLob›
  obtain ⟨n, rfl, _, _, hw⟩ := open_int ht hval hd
  obtain ⟨x, hx⟩ := u8_of_wf hw
  exact ⟨x, by simp only [Rel]; exact hx⟩
end Go.Proofs.YtomoihkepkmgdaaDoor
