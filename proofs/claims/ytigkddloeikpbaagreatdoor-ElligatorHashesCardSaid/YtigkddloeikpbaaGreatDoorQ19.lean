/- A symbolic machine for Go functions, and what the functions that the law reaches come to: EdC. -/
import Derived.Test.YtigkddloeikpbaaGreatDoorQ18
/- Package edwards: its functions come to what is said. -/
set_option maxRecDepth 10000
namespace Go.Proofs.YtigkddloeikpbaaGreatDoor.E10
open Go.Sym Go.Dig R1 F4

theorem ok_Clone : FSpecOK Tryz.prog 61 sClone := by
  refine fn_okF (by kernel_rfl) tt_ok (.nil _) 9 Tryz.func61 (by decide +kernel) (by kernel_rfl) ?_
  rintro ⟨b, _⟩ hp
  obtain ⟨h1, h2⟩ : 0 < b.length ∧ b.length ≤ appLim := hp
  refine ⟨_, {}, fun x => x = .lst (.bytes b), LfVD.of (vcClone b _) ?_, fun x h at_ n w v r => by have h' : x = _ := h; subst h'; exact r⟩
  refine ⟨h1, rfl, ⟨rfl, by simpa using h2⟩, ?_⟩
  simp
theorem ok_MulW : SpecOK Tryz.prog 1000006 Sym.sNo := Sym.sNo_ok _ _
theorem spRp_ok : SpecsOK Tryz.prog spRp := .cons ok_MulW sp2_ok
theorem m32 : IntKind.wrap .i64 ((mul64 (UInt64.ofInt ((1 : Nat) : Int)) (UInt64.ofInt 32)).2.toNat : Int) = 32 := by decide +kernel
theorem rep_step {c : UInt8} {l : List UInt8} {a : Nat} (hl : l.length = 32) (ha : a ≤ 32) (h : l.take a = List.replicate a c) (h0 : 0 < a) :
    ∃ k, (List.take (32 - a) (List.take a l)).length = k ∧ k = min (32 - a) a ∧ (List.take a l ++ List.take (32 - a) (List.take a l) ++ List.drop (a + k) l).length = 32 ∧
      (List.take a l ++ List.take (32 - a) (List.take a l) ++ List.drop (a + k) l).take (a + k) = List.replicate (a + k) c := by
  refine ⟨_, rfl, by simp; omega, ?_, ?_⟩
  · simp; omega
  · have hk : (List.take (32 - a) (List.take a l)).length = min (32 - a) a := by simp; omega
    rw [hk, h, List.take_replicate, List.replicate_append_replicate, List.take_append_of_le_length (by simp), List.take_replicate, Nat.min_self]
theorem ok_Repeat : SpecOK Tryz.prog 1000007 Sym.sNo := Sym.sNo_ok _ _
theorem ok_curve0 : SpecOK Tryz.prog 98 (fspec (α := Unit) total (fun _ => (⟨929955233495203, 466365720129213, 1662059464998953, 2033849074728123, 1442794654840575⟩ : Five))) :=
  fn_ok mixed tt_ok (.nil _) 9 Tryz.func98 (by decide +kernel) (by kernel_rfl)
    (fun _ => Same (retSV (RetL.retL (⟨929955233495203, 466365720129213, 1662059464998953, 2033849074728123, 1442794654840575⟩ : Five)))) (fun a => by kernel_rfl) (fun _ _ => rfl)
theorem ok_curve : SpecOK Tryz.prog 98 sCurve := by unfold sCurve; rw [dC_eq]; exact ok_curve0
theorem ok_curve20 : SpecOK Tryz.prog 1000005 Sym.sNo := Sym.sNo_ok _ _
theorem ok_curve2 : SpecOK Tryz.prog 1000005 Sym.sNo := Sym.sNo_ok _ _
theorem spE0_ok : SpecsOK Tryz.prog spE0 := .consF ok_Clone <| .cons ok_Repeat <| .cons ok_curve <| .cons ok_curve2 spFd_ok
theorem ok_sides : SpecOK Tryz.prog 86 sSides :=
  fn_ok mixed tt_ok spE0_ok 9 Tryz.func86 (by decide +kernel) (by kernel_rfl)
    (fun a => Same (retSV (RetL.retL (eSides a.1)))) (fun a => by kernel_rfl) (fun _ _ => rfl)
theorem ok_flat : SpecOK Tryz.prog 60 sFlat :=
  fn_ok mixed tt_ok spE0_ok 9 Tryz.func60 (by decide +kernel) (by kernel_rfl)
    (fun a => Same (retSV (RetL.retL (eFlat a.1 a.2.1)))) (fun a => by kernel_rfl) (fun _ _ => rfl)
theorem ok_made : SpecOK Tryz.prog 91 sMade :=
  fn_ok mixed tt_ok spE0_ok 9 Tryz.func91 (by decide +kernel) (by kernel_rfl)
    (fun a => Same (retSV (RetL.retL (eMade a.1 a.2.1 a.2.2.1 a.2.2.2.1)))) (fun a => by kernel_rfl) (fun _ _ => rfl)
theorem ok_ePair0 : SpecOK Tryz.prog 44 (fspec (α := Pt × Unit) total (fun a => ePair0 a.1)) :=
  fn_ok mixed tt_ok spE0_ok 9 Tryz.func44 (by decide +kernel) (by kernel_rfl)
    (fun a => Same (retSV (RetL.retL (ePair0 a.1)))) (fun a => by kernel_rfl) (fun _ _ => rfl)
theorem ok_ePair : SpecOK Tryz.prog 44 sEPair := by unfold sEPair; rw [ePair_eq]; exact ok_ePair0
theorem spE1_ok : SpecsOK Tryz.prog spE1 := .cons ok_sides <| .cons ok_flat <| .cons ok_made <| .cons ok_ePair spE0_ok
theorem ok_eAdd : SpecOK Tryz.prog 1000000 Sym.sNo := Sym.sNo_ok _ _
theorem ok_eDouble : SpecOK Tryz.prog 64 sEDouble :=
  fn_ok mixed tt_ok spE1_ok 9 Tryz.func64 (by decide +kernel) (by kernel_rfl)
    (fun a => Same (retSV (RetL.retL (eDouble a.1)))) (fun a => by kernel_rfl) (fun _ _ => rfl)
theorem ok_eNeg : SpecOK Tryz.prog 1000001 Sym.sNo := Sym.sNo_ok _ _
theorem ok_eZero0 : SpecOK Tryz.prog 21 (fspec (α := Unit) total (fun _ => eFlat fZero eOne)) :=
  fn_ok mixed tt_ok spE1_ok 9 Tryz.func21 (by decide +kernel) (by kernel_rfl)
    (fun _ => Same (retSV (RetL.retL (eFlat fZero eOne)))) (fun a => by kernel_rfl) (fun _ _ => rfl)
theorem ok_eZero : SpecOK Tryz.prog 21 sEZero := by unfold sEZero; rw [eZero_eq]; exact ok_eZero0
theorem ok_eSame : SpecOK Tryz.prog 20 sESame := by
  refine fn_okL (by kernel_rfl) tt_ok spE1_ok 9 Tryz.func20 (by decide +kernel) (by kernel_rfl) ?_
  rintro ⟨p, q, _⟩ _
  show ∃ D L, ∃ Q : SV → Prop, LnVD tt spE1 9 D L _ Q (p, q, ()) ∧ ∀ x, Q x → ∀ (at_ : At) (w : World) (v : Value), Rel at_ w x v → Rel at_ w (.bool (eSame p q)) v
  unfold eSame
  cases h : fSame (fMul p.x q.z) (fMul q.x p.z) with
  | false => exact ⟨_, {}, fun x => x = .bool false, LnVD.of (vcSameF p q _) ⟨h, rfl⟩, svf⟩
  | true => exact ⟨_, {}, fun x => x = .bool (fSame (fMul p.y q.z) (fMul q.y p.z)), LnVD.of (vcSameT p q _) ⟨h, rfl⟩, svf⟩
theorem ok_eFrom : SpecOK Tryz.prog 58 sEFrom := by
  unfold sEFrom
  rw [eFrom_eq]
  refine fn_okL (by kernel_rfl) tt_ok spE1_ok 9 Tryz.func58 (by decide +kernel) (by kernel_rfl) ?_
  rintro ⟨x, y, _⟩ _
  show ∃ D L, ∃ Q : SV → Prop, LnVD tt spE1 9 D L _ Q (x, y, ()) ∧ ∀ z, Q z → ∀ (at_ : At) (w : World) (v : Value), Rel at_ w z v → Rel at_ w (retSV (RetL.retL (eFrom0 x y))) v
  cases h : fSame (fMul (fMul x x) (eSides y).2) (eSides y).1 with
  | false =>
    have e : eFrom0 x y = (ptNil, false) := by unfold eFrom0; rw [if_neg (by rw [h]; exact Bool.false_ne_true)]
    rw [e]
    exact ⟨_, {}, _, LnVD.of (vcFromF x y) ⟨h, Same.mk _⟩, svf⟩
  | true =>
    have e : eFrom0 x y = (eFlat x y, true) := by unfold eFrom0; rw [if_pos h]
    rw [e]
    exact ⟨_, {}, _, LnVD.of (vcFromT x y) ⟨h, Same.mk _⟩, svf⟩
theorem ok_eOf : SpecOK Tryz.prog 1000004 Sym.sNo := Sym.sNo_ok _ _
theorem spE2_ok : SpecsOK Tryz.prog spE2 := .cons ok_eAdd <| .cons ok_eDouble <| .cons ok_eNeg <| .cons ok_eZero <| .cons ok_eSame <| .cons ok_eFrom <| .cons ok_eOf spE1_ok
theorem ok_eEight : SpecOK Tryz.prog 24 sEEight :=
  fn_ok mixed tt_ok spE2_ok 9 Tryz.func24 (by decide +kernel) (by kernel_rfl)
    (fun a => Same (retSV (RetL.retL (eEight a.1)))) (fun a => by kernel_rfl) (fun _ _ => rfl)
theorem baseL_eq : baseL = baseB := by decide
theorem ok_eBase : SpecOK Tryz.prog 1000003 Sym.sNo := Sym.sNo_ok _ _
theorem ok_eBytes : FSpecOK Tryz.prog 13 sEBytes := by
  unfold sEBytes
  rw [eBytes_eq]
  refine fn_okF (by kernel_rfl) tt_ok spE2_ok 9 Tryz.func13 (by decide +kernel) (by kernel_rfl) ?_
  rintro ⟨p, _⟩ _
  show ∃ D L, ∃ Q : SV → Prop, LfVD tt spE2 9 D L _ Q (p, ()) ∧ ∀ z, Q z → ∀ (at_ : At) (n : Nat) (w : World) (v : Value), FRel at_ n w z v → FRel at_ n w (.lst (.bytes (eBytesB p))) v
  have fin : ∀ {x : SV}, ∀ z, (fun y => y = x) z → ∀ (at_ : At) (n : Nat) (w : World) (v : Value), FRel at_ n w z v → FRel at_ n w x v := fun z h at_ n w v r => by have h' : z = _ := h; subst h'; exact r
  have hl : (fBytesO (ePair p).2).length = 32 := by rw [fBytesO_eq]; exact fBytesP_len _ _
  unfold eBytesB
  cases h : fNegB (ePair p).1 with
  | false =>
    refine ⟨_, {}, fun x => x = .lst (.bytes (fBytesO (ePair p).2)), LfVD.of (vcEBytesF p _) ⟨h, ?_⟩, fin⟩
    rw [R1.whole]
  | true =>
    refine ⟨_, {}, fun x => x = .lst (.bytes ((fBytesO (ePair p).2).set 31 ((fBytesO (ePair p).2).getD 31 0 ||| 128))), LfVD.of (vcEBytesT p _) ⟨h, ?_, ?_, ?_⟩, fin⟩
    · rw [hl]; decide
    · rw [hl]; decide
    · have e := R1.whole ((fBytesO (ePair p).2).set 31 ((fBytesO (ePair p).2).getD 31 0 ||| 128))
      rw [List.length_set] at e
      exact congrArg (fun l => SV.lst (LV.bytes l)) e
theorem spE3_ok : SpecsOK Tryz.prog spE3 := .cons ok_eEight <| .cons ok_eBase <| .consF ok_eBytes spE2_ok
theorem ok_eSmall : SpecOK Tryz.prog 1000002 Sym.sNo := Sym.sNo_ok _ _
theorem spE4_ok : SpecsOK Tryz.prog spE4 := .cons ok_eSmall spE3_ok
end Go.Proofs.YtigkddloeikpbaaGreatDoor.E10
