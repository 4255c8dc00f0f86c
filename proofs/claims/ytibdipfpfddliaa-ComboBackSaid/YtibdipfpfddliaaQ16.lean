/- A symbolic machine for Go functions, and what the functions that the law reaches come to: EdC. -/
import Derived.Test.YtibdipfpfddliaaQ15
/- Package edwards: its functions come to what is said. -/
set_option maxRecDepth 10000
namespace Go.Proofs.Ytibdipfpfddliaa.E10
open Go.Sym Go.Dig R1 F4

theorem ok_Clone : FSpecOK Try.prog 21 sClone := by
  refine fn_okF (by kernel_rfl) tt_ok (.nil _) 9 Try.func21 (by decide +kernel) (by kernel_rfl) ?_
  rintro ⟨b, _⟩ hp
  obtain ⟨h1, h2⟩ : 0 < b.length ∧ b.length ≤ appLim := hp
  refine ⟨_, {}, fun x => x = .lst (.bytes b), LfVD.of (vcClone b _) ?_, fun x h at_ n w v r => by have h' : x = _ := h; subst h'; exact r⟩
  refine ⟨h1, rfl, ⟨rfl, by simpa using h2⟩, ?_⟩
  simp
theorem ok_MulW : SpecOK Try.prog 49 sMulW := by
  refine fn_okL (by kernel_rfl) tt_ok sp2_ok 9 Try.func49 (by decide +kernel) (by kernel_rfl) ?_
  rintro ⟨a, b, _⟩ _
  exact ⟨[], {}, fun x => x = .tup [.u64 (mul64 a b).1, .u64 (mul64 a b).2], LnVD.of (vcMulW a b _) rfl, svf⟩
theorem spRp_ok : SpecsOK Try.prog spRp := .cons ok_MulW sp2_ok
theorem m32 : IntKind.wrap .i64 ((mul64 (UInt64.ofInt ((1 : Nat) : Int)) (UInt64.ofInt 32)).2.toNat : Int) = 32 := by decide +kernel
theorem rep_step {c : UInt8} {l : List UInt8} {a : Nat} (hl : l.length = 32) (ha : a ≤ 32) (h : l.take a = List.replicate a c) (h0 : 0 < a) :
    ∃ k, (List.take (32 - a) (List.take a l)).length = k ∧ k = min (32 - a) a ∧ (List.take a l ++ List.take (32 - a) (List.take a l) ++ List.drop (a + k) l).length = 32 ∧
      (List.take a l ++ List.take (32 - a) (List.take a l) ++ List.drop (a + k) l).take (a + k) = List.replicate (a + k) c := by
  refine ⟨_, rfl, by simp; omega, ?_, ?_⟩
  · simp; omega
  · have hk : (List.take (32 - a) (List.take a l)).length = min (32 - a) a := by simp; omega
    rw [hk, h, List.take_replicate, List.replicate_append_replicate, List.take_append_of_le_length (by simp), List.take_replicate, Nat.min_self]
theorem ok_Repeat : FSpecOK Try.prog 28 sRepeat := by
  refine fn_okF (by kernel_rfl) tt_ok spRp_ok 9 Try.func28 (by decide +kernel) (by kernel_rfl) ?_
  rintro ⟨l0, n, _⟩ hp
  obtain ⟨h1, h2⟩ : l0 = [l0.headD 0] ∧ n = 32 := hp
  subst h2
  generalize l0.headD 0 = c at h1
  subst h1
  refine ⟨[], lRep, fun x => x = .lst (.bytes (List.replicate 32 c)), LfVD.of (vcRepeat c _) ?_, fun x h at_ n w v r => by have h' : x = _ := h; subst h'; exact r⟩
  rw [m32]
  refine ⟨⟨by decide, rfl, by decide⟩, ⟨rfl, by simp⟩, ⟨by simp, by simp, by simp, by simp⟩, fun l a ⟨i1, i2, i3, i4⟩ => ?_⟩
  rw [R1.bcase_dec]
  refine ⟨fun ha => ?_, fun ha => ?_⟩
  · rw [i1] at ha
    obtain ⟨k, k1, k2, k3, k4⟩ := rep_step i1 (by omega) i4 (by omega)
    have e1 : List.drop 0 (List.take (Int.toNat (l.length : Int) - a.toNat) (List.drop (0 + Int.toNat 0) (List.take (0 + Int.toNat 0 + (a.toNat - Int.toNat 0)) l))) = List.take (32 - a.toNat) (List.take a.toNat l) := by
      rw [i1]; simp
    rw [e1, k1, Nat.zero_add, R1.wr (x := a + (k : Int)) (by omega)]
    have e2 : (a + (k : Int)).toNat = a.toNat + k := by omega
    refine ⟨⟨by omega, by omega, by omega⟩, ⟨by omega, by omega, by omega⟩, ⟨rfl, by rw [k3, i1]⟩, rfl, ⟨k3, by omega, by omega, by rw [e2]; exact k4⟩, by omega⟩
  · have : a = 32 := by omega
    subst this
    show SV.lst (LV.bytes (List.drop 0 (List.take (0 + l.length) l))) = _
    rw [R1.whole]
    have i5 : List.take 32 l = List.replicate 32 c := i4
    have e : l = List.replicate 32 c := by rw [← i5, List.take_of_length_le (by rw [i1]; decide)]
    rw [e]

theorem ok_curve0 : SpecOK Try.prog 48 (fspec (α := Unit) total (fun _ => (⟨929955233495203, 466365720129213, 1662059464998953, 2033849074728123, 1442794654840575⟩ : Five))) :=
  fn_ok mixed tt_ok (.nil _) 9 Try.func48 (by decide +kernel) (by kernel_rfl)
    (fun _ => Same (retSV (RetL.retL (⟨929955233495203, 466365720129213, 1662059464998953, 2033849074728123, 1442794654840575⟩ : Five)))) (fun a => by kernel_rfl) (fun _ _ => rfl)
theorem ok_curve : SpecOK Try.prog 48 sCurve := by unfold sCurve; rw [dC_eq]; exact ok_curve0
theorem ok_curve20 : SpecOK Try.prog 36 (fspec (α := Unit) total (fun _ => (⟨1859910466990425, 932731440258426, 1072319116312658, 1815898335770999, 633789495995903⟩ : Five))) :=
  fn_ok mixed tt_ok (.nil _) 9 Try.func36 (by decide +kernel) (by kernel_rfl)
    (fun _ => Same (retSV (RetL.retL (⟨1859910466990425, 932731440258426, 1072319116312658, 1815898335770999, 633789495995903⟩ : Five)))) (fun a => by kernel_rfl) (fun _ _ => rfl)
theorem ok_curve2 : SpecOK Try.prog 36 sCurve2 := by unfold sCurve2; rw [dC2_eq]; exact ok_curve20
theorem spE0_ok : SpecsOK Try.prog spE0 := .consF ok_Clone <| .consF ok_Repeat <| .cons ok_curve <| .cons ok_curve2 spFd_ok
theorem ok_sides : SpecOK Try.prog 24 sSides :=
  fn_ok mixed tt_ok spE0_ok 9 Try.func24 (by decide +kernel) (by kernel_rfl)
    (fun a => Same (retSV (RetL.retL (eSides a.1)))) (fun a => by kernel_rfl) (fun _ _ => rfl)
theorem ok_flat : SpecOK Try.prog 27 sFlat :=
  fn_ok mixed tt_ok spE0_ok 9 Try.func27 (by decide +kernel) (by kernel_rfl)
    (fun a => Same (retSV (RetL.retL (eFlat a.1 a.2.1)))) (fun a => by kernel_rfl) (fun _ _ => rfl)
theorem ok_made : SpecOK Try.prog 37 sMade :=
  fn_ok mixed tt_ok spE0_ok 9 Try.func37 (by decide +kernel) (by kernel_rfl)
    (fun a => Same (retSV (RetL.retL (eMade a.1 a.2.1 a.2.2.1 a.2.2.2.1)))) (fun a => by kernel_rfl) (fun _ _ => rfl)
theorem ok_ePair0 : SpecOK Try.prog 1000002 Sym.sNo := Sym.sNo_ok _ _
theorem ok_ePair : SpecOK Try.prog 1000002 Sym.sNo := Sym.sNo_ok _ _
theorem spE1_ok : SpecsOK Try.prog spE1 := .cons ok_sides <| .cons ok_flat <| .cons ok_made <| .cons ok_ePair spE0_ok
theorem ok_eAdd : SpecOK Try.prog 10 sEAdd :=
  fn_ok mixed tt_ok spE1_ok 9 Try.func10 (by decide +kernel) (by kernel_rfl)
    (fun a => Same (retSV (RetL.retL (eAdd a.1 a.2.1)))) (fun a => by kernel_rfl) (fun _ _ => rfl)
theorem ok_eDouble : SpecOK Try.prog 20 sEDouble :=
  fn_ok mixed tt_ok spE1_ok 9 Try.func20 (by decide +kernel) (by kernel_rfl)
    (fun a => Same (retSV (RetL.retL (eDouble a.1)))) (fun a => by kernel_rfl) (fun _ _ => rfl)
theorem ok_eNeg : SpecOK Try.prog 1000001 Sym.sNo := Sym.sNo_ok _ _
theorem ok_eZero0 : SpecOK Try.prog 19 (fspec (α := Unit) total (fun _ => eFlat fZero eOne)) :=
  fn_ok mixed tt_ok spE1_ok 9 Try.func19 (by decide +kernel) (by kernel_rfl)
    (fun _ => Same (retSV (RetL.retL (eFlat fZero eOne)))) (fun a => by kernel_rfl) (fun _ _ => rfl)
theorem ok_eZero : SpecOK Try.prog 19 sEZero := by unfold sEZero; rw [eZero_eq]; exact ok_eZero0
theorem ok_eSame : SpecOK Try.prog 11 sESame := by
  refine fn_okL (by kernel_rfl) tt_ok spE1_ok 9 Try.func11 (by decide +kernel) (by kernel_rfl) ?_
  rintro ⟨p, q, _⟩ _
  show ∃ D L, ∃ Q : SV → Prop, LnVD tt spE1 9 D L _ Q (p, q, ()) ∧ ∀ x, Q x → ∀ (at_ : At) (w : World) (v : Value), Rel at_ w x v → Rel at_ w (.bool (eSame p q)) v
  unfold eSame
  cases h : fSame (fMul p.x q.z) (fMul q.x p.z) with
  | false => exact ⟨_, {}, fun x => x = .bool false, LnVD.of (vcSameF p q _) ⟨h, rfl⟩, svf⟩
  | true => exact ⟨_, {}, fun x => x = .bool (fSame (fMul p.y q.z) (fMul q.y p.z)), LnVD.of (vcSameT p q _) ⟨h, rfl⟩, svf⟩
theorem ok_eFrom : SpecOK Try.prog 1000004 Sym.sNo := Sym.sNo_ok _ _
theorem ok_eOf : SpecOK Try.prog 5 sEOf := by
  unfold sEOf
  rw [eOf_eq]
  refine fn_okL (by kernel_rfl) tt_ok spE1_ok 9 Try.func5 (by decide +kernel) (by kernel_rfl) ?_
  rintro ⟨b, _⟩ _
  show ∃ D L, ∃ Q : SV → Prop, LnVD tt spE1 9 D L _ Q (b, ()) ∧ ∀ z, Q z → ∀ (at_ : At) (w : World) (v : Value), Rel at_ w z v → Rel at_ w (retSV (RetL.retL (eOfB b))) v
  unfold eOfB
  by_cases h : b.length ≠ 32
  · rw [if_pos h]
    exact ⟨_, {}, _, LnVD.of (vcOfA b) ⟨by simpa [bne_iff_ne] using (by omega : (b.length : Int) ≠ 32), Same.mk _⟩, svf⟩
  rw [if_neg h]
  have h32 : b.length = 32 := by omega
  have l1 : ((b.length : Int) != 32) = false := by rw [h32]; rfl
  have l2 : 0 < b.length ∧ b.length ≤ appLim := by rw [h32]; decide
  have l3 : (0 : Int) ≤ 31 ∧ (31 : Int) < b.length := by rw [h32]; decide
  have s1 : UInt8.ofNat (Int.toNat 1) = (1 : UInt8) := by decide
  cases h2 : (fOfO (unsigned b)).2 with
  | false => exact ⟨_, {}, _, LnVD.of (vcOfB b) ⟨l1, l2, l3, l3, l3, by rw [h2]; rfl, Same.mk _⟩, svf⟩
  | true =>
    rw [if_neg (by decide)]
    cases h3 : (eOfX b).2 with
    | false => exact ⟨_, {}, _, LnVD.of (vcOfC b) ⟨l1, l2, l3, l3, l3, by rw [h2]; rfl, by rw [h3]; rfl, Same.mk _⟩, svf⟩
    | true =>
      rw [if_neg (by decide)]
      cases h4 : (signOf b == 1) with
      | false =>
        rw [if_neg (by decide)]
        exact ⟨_, {}, _, LnVD.of (vcOfF b) ⟨l1, l2, l3, l3, l3, by rw [h2]; rfl, by rw [h3]; rfl, by rw [s1]; exact h4, by rw [s1]; exact h4, Same.mk _⟩, svf⟩
      | true =>
        rw [if_pos rfl]
        cases h5 : fSame (eOfX b).1 fZero with
        | false =>
          rw [if_neg (by decide)]
          exact ⟨_, {}, _, LnVD.of (vcOfE b) ⟨l1, l2, l3, l3, l3, by rw [h2]; rfl, by rw [h3]; rfl, by rw [s1]; exact h4, h5, by rw [s1]; exact h4, Same.mk _⟩, svf⟩
        | true =>
          rw [if_pos rfl]
          exact ⟨_, {}, _, LnVD.of (vcOfD b) ⟨l1, l2, l3, l3, l3, by rw [h2]; rfl, by rw [h3]; rfl, by rw [s1]; exact h4, h5, Same.mk _⟩, svf⟩
theorem spE2_ok : SpecsOK Try.prog spE2 := .cons ok_eAdd <| .cons ok_eDouble <| .cons ok_eNeg <| .cons ok_eZero <| .cons ok_eSame <| .cons ok_eFrom <| .cons ok_eOf spE1_ok
theorem ok_eEight : SpecOK Try.prog 13 sEEight :=
  fn_ok mixed tt_ok spE2_ok 9 Try.func13 (by decide +kernel) (by kernel_rfl)
    (fun a => Same (retSV (RetL.retL (eEight a.1)))) (fun a => by kernel_rfl) (fun _ _ => rfl)
theorem baseL_eq : baseL = baseB := by decide
theorem ok_eBase : SpecOK Try.prog 6 sEBase := by
  unfold sEBase
  rw [eBase_eq]
  refine fn_okL (by kernel_rfl) tt_ok spE2_ok 9 Try.func6 (by decide +kernel) (by kernel_rfl) ?_
  rintro ⟨⟩ _
  refine ⟨_, {}, _, LnVD.of vcBase ⟨by decide, by decide, Same.mk _⟩, ?_⟩
  rw [baseL_eq]
  exact svf
theorem ok_eBytes : SpecOK Try.prog 1000000 Sym.sNo := Sym.sNo_ok _ _
theorem spE3_ok : SpecsOK Try.prog spE3 := .cons ok_eEight <| .cons ok_eBase <| .cons ok_eBytes spE2_ok
theorem ok_eSmall : SpecOK Try.prog 1000003 Sym.sNo := Sym.sNo_ok _ _
theorem spE4_ok : SpecsOK Try.prog spE4 := .cons ok_eSmall spE3_ok
end Go.Proofs.Ytibdipfpfddliaa.E10
