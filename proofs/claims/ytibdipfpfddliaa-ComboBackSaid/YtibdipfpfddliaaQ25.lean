/- A symbolic machine for Go functions, and what the functions that the law reaches come to: LawCA, LawCB, LawCC. -/
import Derived.Test.YtibdipfpfddliaaQ22
import Derived.Test.YtibdipfpfddliaaQ24
import Derived.Test.YtibdipfpfddliaaQ21
/- Layer 11: multiples go back: what is said of the functions. -/
set_option maxRecDepth 10000
namespace Go.Proofs.Ytibdipfpfddliaa.C11
open Go.Sym Go.Dig R1 F4 E10
theorem rg_ex : ∃ f : Four → RingV, f = ringOf := ⟨_, rfl⟩
noncomputable def ringO : Four → RingV := Classical.choose rg_ex
theorem ringO_eq : ringO = ringOf := Classical.choose_spec rg_ex
/-- A ring is made of the order. -/
noncomputable def sNewO : SpecF := fspec (α := Four × Unit) (β := Option RingV × Int × Unit) (fun a => some (goodM a.1 = true)) (fun a => (some (ringO a.1), 0, ()))
theorem rd_ex2 : ∃ f : RingV → Four → Four, f = fun r k => onR (some r) fun r => redR r k := ⟨_, rfl⟩
noncomputable def redO : RingV → Four → Four := Classical.choose rd_ex2
theorem redO_eq : redO = fun r k => onR (some r) fun r => redR r k := Classical.choose_spec rd_ex2
noncomputable def sRedO : SpecF := fspec (α := RingV × Four × Unit) total (fun a => redO a.1 a.2.1)
theorem rgt_ex : ∃ f : Four → Four, f = fun k => limb_Right k 1 := ⟨_, rfl⟩
noncomputable def halfO : Four → Four := Classical.choose rgt_ex
theorem halfO_eq : halfO = fun k => limb_Right k 1 := Classical.choose_spec rgt_ex
noncomputable def sHalf : SpecF := fspec (α := Four × Int × Unit) (fun a => some (a.2.1 = 1)) (fun a => halfO a.1)
theorem add_ex : ∃ f : Four → Four → Four × UInt64, f = limb_Add := ⟨_, rfl⟩
noncomputable def addO : Four → Four → Four × UInt64 := Classical.choose add_ex
theorem addO_eq : addO = limb_Add := Classical.choose_spec add_ex
noncomputable def sAddO : SpecF := fspec (α := Four × Four × Unit) total fun a => addO a.1 a.2.1
noncomputable def spCB : Specs := (4, sAw11) :: (7, sHalf) :: (8, sAddO) :: (14, sNewO) :: (17, sRedO) :: spC4
end Go.Proofs.Ytibdipfpfddliaa.C11
/- Layer 11: multiples go back: what the body comes to. -/
set_option maxRecDepth 10000
namespace Go.Proofs.Ytibdipfpfddliaa.C11
open Go.Sym Go.Dig R1 F4 E10
--STOP oMul, oBoth, oPure, oAdd, oEight, eSame, eZero, eBase, eOf, ordV, ringO, redO, halfO, addO, goodM
theorem vcBackN (b : List UInt8) (k m : Four) (Q : SV → Prop) : LnRaw tt spCB 9 ([(4, 1, .b true)] ++ dT [(9, 4), (9, 13), (9, 22), (13, 8), (13, 12), (13, 25), (13, 33)]) {} Try.f3 Q (b, k, m, ()) =
  (((!Prod.snd (eOf b)) = true) ∧
  (((1 : Int) = (1 : Int)) ∧
  (((1 : Int) = (1 : Int)) ∧
  ((eSame (oMul (Prod.fst (addO (halfO k) (halfO m))) eBase) (oAdd (oMul (halfO k) eBase) (oMul (halfO m) eBase)) = true) ∧
  ((eSame (oBoth (halfO k) eBase (halfO m) eBase) (oAdd (oMul (halfO k) eBase) (oMul (halfO m) eBase)) = true) ∧
  ((eSame
    (oMul
      (Four.mk (UInt64.ofNat (Int.toNat (8 : Int))) (UInt64.ofNat (Int.toNat (0 : Int)))
        (UInt64.ofNat (Int.toNat (0 : Int))) (UInt64.ofNat (Int.toNat (0 : Int))))
      eBase)
    (oEight eBase) =
  true) ∧
  ((goodM ordV = true) ∧
  ((eSame (oMul (redO (ringO ordV) k) eBase) (oMul k eBase) = true) ∧
  ((oPure (oMul k eBase) = true) ∧
  ((eSame (oBoth k eBase m eBase) (oAdd (oMul k eBase) (oMul m eBase)) = true) ∧
  ((eSame (oMul ordV (oEight eBase)) eZero = true) ∧
  (Q (SV.bool true))))))))))))) := by kernel_rfl
theorem vcBackY (b : List UInt8) (k m : Four) (Q : SV → Prop) : LnRaw tt spCB 9 ([(4, 1, .b false)] ++ dT [(9, 4), (9, 13), (9, 22), (13, 8), (13, 12), (13, 25), (13, 33)]) {} Try.f3 Q (b, k, m, ()) =
  (((!Prod.snd (eOf b)) = false) ∧
  (((1 : Int) = (1 : Int)) ∧
  (((1 : Int) = (1 : Int)) ∧
  ((eSame (oMul (Prod.fst (addO (halfO k) (halfO m))) (Prod.fst (eOf b)))
    (oAdd (oMul (halfO k) (Prod.fst (eOf b))) (oMul (halfO m) (Prod.fst (eOf b)))) =
  true) ∧
  ((eSame (oBoth (halfO k) (Prod.fst (eOf b)) (halfO m) (Prod.fst (eOf b)))
    (oAdd (oMul (halfO k) (Prod.fst (eOf b))) (oMul (halfO m) (Prod.fst (eOf b)))) =
  true) ∧
  ((eSame
    (oMul
      (Four.mk (UInt64.ofNat (Int.toNat (8 : Int))) (UInt64.ofNat (Int.toNat (0 : Int)))
        (UInt64.ofNat (Int.toNat (0 : Int))) (UInt64.ofNat (Int.toNat (0 : Int))))
      (Prod.fst (eOf b)))
    (oEight (Prod.fst (eOf b))) =
  true) ∧
  ((goodM ordV = true) ∧
  ((eSame (oMul (redO (ringO ordV) k) eBase) (oMul k eBase) = true) ∧
  ((oPure (oMul k eBase) = true) ∧
  ((eSame (oBoth k eBase m (Prod.fst (eOf b))) (oAdd (oMul k eBase) (oMul m (Prod.fst (eOf b)))) = true) ∧
  ((eSame (oMul ordV (oEight (Prod.fst (eOf b)))) eZero = true) ∧
  (Q (SV.bool true))))))))))))) := by kernel_rfl
end Go.Proofs.Ytibdipfpfddliaa.C11
/- Layer 11: multiples go back: the law holds. -/
set_option maxRecDepth 10000
namespace Go.Proofs.Ytibdipfpfddliaa.C11
open Go.Sym Go.Dig R1 F4 E10 Go.Alg
theorem ok_Half : SpecOK Try.prog 7 sHalf := by
  refine fspec_weaken ok_Right (fun a => a) (fun _ _ _ _ r => r) (fun a => rfl) (fun _ _ => trivial) (fun a h at_ w v r => ?_)
  obtain ⟨k, i, _⟩ := a
  have h' : i = 1 := h
  subst h'
  rw [halfO_eq]
  exact r
theorem ok_AddO : SpecOK Try.prog 8 sAddO := by
  unfold sAddO
  rw [addO_eq]
  exact _root_.Go.Proofs.Ytibdipfpfddliaa.ok_Add
theorem ok_NewO : SpecOK Try.prog 14 sNewO := by
  unfold sNewO
  rw [ringO_eq]
  exact ok_NewG
theorem ok_RedO : SpecOK Try.prog 17 sRedO := by
  refine fspec_weaken ok_Reduce (α' := RingV × Four × Unit) (fun a => (some a.1, a.2)) (fun _ _ _ _ r => r) (fun a => rfl) (fun _ _ => trivial) (fun a h at_ w v r => ?_)
  obtain ⟨m, k, _⟩ := a
  rw [redO_eq]
  exact r
theorem spCB_ok : SpecsOK Try.prog spCB := .cons ok_awake11 <| .cons ok_Half <| .cons ok_AddO <| .cons ok_NewO <| .cons ok_RedO spC4_ok
theorem half_nat (k : Four) : nat4 (halfO k) = nat4 k / 2 := by
  rw [halfO_eq]
  exact right_nat k 1 (by decide)
theorem sum_nat (k m : Four) : nat4 (addO (halfO k) (halfO m)).1 = nat4 (halfO k) + nat4 (halfO m) := by
  have h := add_nat (halfO k) (halfO m)
  have h1 := nat4_lt k
  have h2 := nat4_lt m
  have h3 := half_nat k
  have h4 := half_nat m
  rw [addO_eq]
  omega
theorem ord_good : goodM ordV = true := by rw [ordV_eq]; decide +kernel
theorem ord_L : nat4 ordV = ordL := by rw [ordV_eq]; decide +kernel
theorem red_nat (k : Four) : nat4 (redO (ringO ordV) k) = nat4 k % ordL := by
  rw [redO_eq, ringO_eq]
  have g := ringOf_good ord_good
  show nat4 (onR (some (ringOf ordV)) fun r => redR r k) = _
  rw [onR_good g, redR_nat g]
  show nat4 k % nat4 ordV = _
  rw [ord_L]
theorem pure_ok (k : Nat) : G.mul ordL (G.mul k PB) = EE.zero := by
  rw [← Grp.mul_mul, Nat.mul_comm, Grp.mul_mul]
  have : G.mul ordL PB = EE.zero := L_base
  rw [this]
  exact Grp.mul_nil G k
/-- All that is asked of a point. -/
theorem back_facts {p : Pt} {P : EPt} (h : Rp p P) (k m : Four) :
    eSame (oMul (addO (halfO k) (halfO m)).1 p) (oAdd (oMul (halfO k) p) (oMul (halfO m) p)) = true ∧
    eSame (oBoth (halfO k) p (halfO m) p) (oAdd (oMul (halfO k) p) (oMul (halfO m) p)) = true ∧
    eSame (oMul (Four.mk (UInt64.ofNat (Int.toNat (8 : Int))) (UInt64.ofNat (Int.toNat (0 : Int))) (UInt64.ofNat (Int.toNat (0 : Int))) (UInt64.ofNat (Int.toNat (0 : Int)))) p) (oEight p) = true ∧
    eSame (oMul (redO (ringO ordV) k) eBase) (oMul k eBase) = true ∧ oPure (oMul k eBase) = true ∧
    eSame (oBoth k eBase m p) (oAdd (oMul k eBase) (oMul m p)) = true ∧ eSame (oMul ordV (oEight p)) eZero = true := by
  refine ⟨sameOK (Rp_mul _ h) (Rp_add (Rp_mul _ h) (Rp_mul _ h)) ?_, sameOK (Rp_both _ _ h h) (Rp_add (Rp_mul _ h) (Rp_mul _ h)) rfl, sameOK (Rp_mul _ h) (Rp_eight h) rfl, sameOK (Rp_mul _ Rp.base) (Rp_mul _ Rp.base) ?_, sameOK (Rp_mul _ (Rp_mul _ Rp.base)) Rp.zero ?_, sameOK (Rp_both _ _ Rp.base h) (Rp_add (Rp_mul _ Rp.base) (Rp_mul _ h)) rfl, sameOK (Rp_mul _ (Rp_eight h)) Rp.zero ?_⟩
  · rw [sum_nat]; exact Grp.mul_add G _ _ _
  · rw [red_nat]; exact Grp.mul_mod G L_base _
  · rw [ord_L]; exact pure_ok _
  · rw [ord_L, ← Grp.mul_mul]; exact all_8L P
abbrev sComboBack : SpecF := fspec (α := List UInt8 × Four × Four × Unit) total fun _ => true
theorem ok_ComboBack : SpecOK Try.prog 3 sComboBack := by
  refine fn_okL (by kernel_rfl) tt_ok spCB_ok 9 Try.func3 (by decide +kernel) (by kernel_rfl) ?_
  rintro ⟨b, k, m, _⟩ _
  cases hb : (eOf b).2 with
  | false =>
    obtain ⟨f1, f2, f3, f4, f5, f6, f7⟩ := back_facts Rp.base k m
    exact ⟨_, {}, fun x => x = .bool true, LnVD.of (vcBackN b k m _) ⟨not_f hb, rfl, rfl, f1, f2, f3, ord_good, f4, f5, f6, f7, rfl⟩, svf⟩
  | true =>
    obtain ⟨P, p1, _, _⟩ := (of_ok b).2 hb
    obtain ⟨f1, f2, f3, f4, f5, f6, f7⟩ := back_facts p1 k m
    exact ⟨_, {}, fun x => x = .bool true, LnVD.of (vcBackY b k m _) ⟨not_t hb, rfl, rfl, f1, f2, f3, ord_good, f4, f5, f6, f7, rfl⟩, svf⟩
end Go.Proofs.Ytibdipfpfddliaa.C11
