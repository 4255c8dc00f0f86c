/- A symbolic machine for Go functions, and what the functions that the law reaches come to: PrS. -/
import Derived.Test.YtficbeeoafiiaaaGreatDoorQ13
/- The reference of layer 12 on numbers: its functions come to what is said. -/
set_option maxRecDepth 10000
namespace Go.Proofs.YtficbeeoafiiaaaGreatDoor.P12
open Go.Sym Go.Dig R1

theorem svg {y : SV} (x : SV) (h : (fun x => x = y) x) (at_ : At) (w : World) (v : Value) (r : Rel at_ w x v) : Rel at_ w y v := by have h' : x = y := h; subst h'; exact r
theorem pN_pos : 0 < pN := by rw [pN_eq]; decide
theorem pN_lt : pN < 115792089237316195423570985008687907853269984665640564039457584007913129639936 := by rw [pN_eq]; decide
theorem qlt (n : Nat) : n % pN < pN := Nat.mod_lt _ pN_pos
theorem qM_lt (a b : Nat) : qM a b < pN := qlt _
theorem qA_lt (a b : Nat) : qA a b < pN := qlt _
theorem qS_lt (a b : Nat) : qS a b < pN := qlt _
theorem qE_lt (a b : Nat) : qE a b < pN := qlt _
theorem qI_lt (a : Nat) : qI a < pN := qlt _
theorem small_lt {n : Nat} (h : n < 1000) : n < pN := by rw [pN_eq]; omega
theorem fwp {n : Nat} (h : n ≤ pN) : Fw n := FwC (by have := pN_lt; omega)
theorem fzp {n : Nat} (h : n ≤ pN + pN) : Fz n := Nat.le_trans (FwC (n := n) (by have := pN_lt; omega)) (by decide)
theorem smp {n : Nat} (h : n ≤ pN + pN) : Sm n := SmB (by have := pN_lt; omega)
theorem two_lt : Int.toNat 2 < pN := small_lt (by decide)
theorem three_lt : Int.toNat 3 < pN := small_lt (by decide)
theorem hB_lt : hB < pN := by rw [hB_eq, pN_eq]; decide
theorem hX_lt : hX < pN := by rw [hX_eq, pN_eq]; decide
theorem hY_lt : hY < pN := by rw [hY_eq, pN_eq]; decide
theorem p16 : (16 : Nat) ^ 64 = 115792089237316195423570985008687907853269984665640564039457584007913129639936 := by decide
theorem hexC_ok {K : Nat → Prop} : ∀ (ds : List Int) (out j : Nat), (ds.all fun d => decide (0 ≤ d ∧ d ≤ 15)) = true → out < 16 ^ j → j + ds.length ≤ 64 → K (ds.foldl (fun o d => o * 16 + d.toNat) out) → hexC ds out K
  | [], out, _, _, _, _, h => h
  | d :: ds, out, j, h1, h2, h3, h => by
    simp only [List.all_cons, Bool.and_eq_true, decide_eq_true_eq] at h1
    have hj : 16 ^ (j + 1) ≤ 16 ^ 64 := Nat.pow_le_pow_right (by decide) (by simp only [List.length_cons] at h3; omega)
    have hj0 : 16 ^ j ≤ 16 ^ 64 := Nat.pow_le_pow_right (by decide) (by omega)
    rw [p16] at hj hj0
    have e : 16 ^ (j + 1) = 16 ^ j * 16 := Nat.pow_succ _ _
    have e16 : Int.toNat 16 = 16 := rfl
    refine ⟨⟨SmB (by omega), by decide, by decide⟩, ⟨h1.1.1, by omega⟩, ⟨by rw [e16]; exact SmB (by omega), SmB (by omega)⟩, ?_⟩
    rw [e16]
    exact hexC_ok ds _ (j + 1) h1.2 (by omega) (by simp only [List.length_cons] at h3; omega) h
theorem ok_HexO : SpecOK Tryz.prog 35 nHexO := by
  refine fn_okL (by kernel_rfl) tt_ok R1.spN_ok 70 Tryz.func35 (by decide +kernel) (by kernel_rfl) ?_
  rintro ⟨⟨s⟩, _⟩ h
  have h' : s = strO := h
  subst h'
  refine ⟨_, {}, fun x => x = .lst (.num hO), LnVD.of (vcHexO _) (hexC_ok _ _ 0 (by decide) (by decide) (by decide) ?_), svg⟩
  rw [hO_eq]; kernel_rfl
theorem ok_HexB : SpecOK Tryz.prog 35 nHexB := by
  refine fn_okL (by kernel_rfl) tt_ok R1.spN_ok 70 Tryz.func35 (by decide +kernel) (by kernel_rfl) ?_
  rintro ⟨⟨s⟩, _⟩ h
  have h' : s = strB := h
  subst h'
  refine ⟨_, {}, fun x => x = .lst (.num hB), LnVD.of (vcHexB _) (hexC_ok _ _ 0 (by decide) (by decide) (by decide) ?_), svg⟩
  rw [hB_eq]; kernel_rfl
theorem strXY : strY ≠ strX := by
  intro h
  unfold strX strY at h
  simp only [Value.string.injEq, ByteArray.mk.injEq] at h
  revert h
  decide
theorem ok_HexXY : SpecOK Tryz.prog 35 nHexXY := by
  refine fn_okL (by kernel_rfl) tt_ok R1.spN_ok 70 Tryz.func35 (by decide +kernel) (by kernel_rfl) ?_
  rintro ⟨⟨s⟩, _⟩ h
  have h' : s = strX ∨ s = strY := h
  rcases h' with h' | h'
  · subst h'
    refine ⟨_, {}, fun x => x = .lst (.num (hXY strX)), LnVD.of (vcHexX _) (hexC_ok _ _ 0 (by decide) (by decide) (by decide) ?_), svg⟩
    unfold hXY
    rw [if_pos rfl, hX_eq]; kernel_rfl
  · subst h'
    refine ⟨_, {}, fun x => x = .lst (.num (hXY strY)), LnVD.of (vcHexY _) (hexC_ok _ _ 0 (by decide) (by decide) (by decide) ?_), svg⟩
    unfold hXY
    rw [if_neg strXY, hY_eq]; kernel_rfl
theorem ok_P : SpecOK Tryz.prog 28 nP := by
  refine fn_okL (by kernel_rfl) tt_ok R1.spN_ok 9 Tryz.func28 (by decide +kernel) (by kernel_rfl) ?_
  rintro ⟨⟩ _
  have e1 : (2 : Nat) ^ Int.toNat 256 = 115792089237316195423570985008687907853269984665640564039457584007913129639936 := by decide +kernel
  have e2 : (2 : Nat) ^ Int.toNat 192 = 6277101735386680763835789423207666416102355444464034512896 := by decide +kernel
  have e3 : (2 : Nat) ^ Int.toNat 96 = 79228162514264337593543950336 := by decide +kernel
  have e4 : (2 : Nat) ^ Int.toNat 224 = 26959946667150639794667015087019630673637144422540572481103610249216 := by decide +kernel
  have e5 : Int.toNat 1 = 1 := rfl
  refine ⟨_, {}, fun x => x = .lst (.num pN), LnVD.of (vcP _) ?_, svg⟩
  rw [e1, e2, e3, e4, e5]
  refine ⟨⟨by decide, by decide⟩, ⟨by decide, by decide⟩, ⟨SmB (by decide), SmB (by decide)⟩, ⟨by decide, by decide⟩, ⟨SmB (by decide), SmB (by decide)⟩, ⟨by decide, by decide⟩, ⟨SmB (by decide), by decide, SmB (by decide)⟩, ⟨SmB (by decide), by decide, SmB (by decide)⟩, ?_⟩
  rw [pN_eq]
theorem ok_OrdR : SpecOK Tryz.prog 1000001 Sym.sNo := Sym.sNo_ok _ _
theorem ok_Field : SpecOK Tryz.prog 14 nField := by
  refine fn_okL (by kernel_rfl) tt_ok (.cons ok_P (.cons ok_nQuick (.nil _))) 9 Tryz.func14 (by decide +kernel) (by kernel_rfl) ?_
  rintro ⟨⟩ _
  exact ⟨_, {}, fun x => x = .agg [.lst (.num pN), .lst (.num (muN pN))], LnVD.of (vcField _) ⟨⟨fwp (Nat.le_refl _), pN_pos⟩, rfl⟩, svg⟩
theorem ok_FM : SpecOK Tryz.prog 37 nFM :=
  fspec_weaken ok_nFMul3 (fun a => a) (fun _ _ _ _ r => r) (fun a => rfl) (fun a h => by
    obtain ⟨h1, h2, h3⟩ : a.1 = fV ∧ a.2.1.n < pN ∧ a.2.2.1.n < pN := h
    exact ⟨by rw [h1]; rfl, by rw [h1]; exact pN_pos, by rw [h1]; exact fwp (Nat.le_refl _), fwp (Nat.le_of_lt h2), fwp (Nat.le_of_lt h3)⟩) (fun a h at_ w v r => by
    obtain ⟨f, x, y, u⟩ := a
    have h1 : f = fV := h.1
    subst h1; exact r)
theorem ok_FA : SpecOK Tryz.prog 39 nFA := by
  refine fn_okL (by kernel_rfl) tt_ok spQ3_ok 3 Tryz.func39 (by decide +kernel) (by kernel_rfl) ?_
  rintro ⟨f, ⟨a⟩, ⟨b⟩, _⟩ ⟨h1, h2, h3⟩
  have h1' : f = fV := h1
  subst h1'
  simp only at h2 h3
  exact ⟨[], {}, fun x => x = .lst (.num ((a + b) % pN)), LnVD.of (vcFAdd fV a b _) ⟨⟨smp (by omega), smp (by omega)⟩, ⟨rfl, pN_pos, fwp (Nat.le_refl _), fzp (by omega)⟩, rfl⟩, svg⟩
theorem ok_FS : SpecOK Tryz.prog 36 nFS := by
  refine fn_okL (by kernel_rfl) tt_ok spQ3_ok 3 Tryz.func36 (by decide +kernel) (by kernel_rfl) ?_
  rintro ⟨f, ⟨a⟩, ⟨b⟩, _⟩ ⟨h1, h2, h3⟩
  have h1' : f = fV := h1
  subst h1'
  simp only at h2 h3
  exact ⟨[], {}, fun x => x = .lst (.num ((a + pN - b) % pN)), LnVD.of (vcFSub fV a b _) ⟨⟨smp (by omega), smp (show pN ≤ _ by omega)⟩, ⟨smp (show a + pN ≤ _ by omega), show b ≤ a + pN by omega, smp (by omega)⟩, ⟨rfl, pN_pos, fwp (Nat.le_refl _), fzp (show a + pN - b ≤ _ by omega)⟩, rfl⟩, svg⟩
theorem ok_FE : SpecOK Tryz.prog 75 nFE :=
  fspec_weaken ok_nFExp3 (fun a => a) (fun _ _ _ _ r => r) (fun a => rfl) (fun a h => by
    obtain ⟨h1, h2, h3⟩ : a.1 = fV ∧ a.2.1.n < pN ∧ a.2.2.1.n ≤ pN := h
    exact ⟨by rw [h1]; rfl, by rw [h1]; exact pN_pos, by rw [h1]; exact fwp (Nat.le_refl _), fwp (Nat.le_of_lt h2), fwp h3⟩) (fun a h at_ w v r => by
    obtain ⟨f, x, y, u⟩ := a
    have h1 : f = fV := h.1
    subst h1; exact r)
theorem ok_FI : SpecOK Tryz.prog 38 nFI := by
  refine fn_okL (by kernel_rfl) tt_ok spQ5_ok 3 Tryz.func38 (by decide +kernel) (by kernel_rfl) ?_
  rintro ⟨f, ⟨a⟩, _⟩ ⟨h1, h2⟩
  have h1' : f = fV := h1
  subst h1'
  simp only at h2
  have e2 : Int.toNat 2 = 2 := rfl
  exact ⟨[], {}, fun x => x = .lst (.num (a ^ (pN - 2) % pN)), LnVD.of (vcFInv fV a _) ⟨⟨smp (show pN ≤ _ by omega), Nat.le_of_lt two_lt, smp (Nat.le_of_lt (Nat.lt_of_lt_of_le two_lt (by omega)))⟩, ⟨rfl, pN_pos, fwp (Nat.le_refl _), fwp (Nat.le_of_lt h2), fwp (Nat.sub_le _ _)⟩, rfl⟩, svg⟩
theorem spR0_ok : SpecsOK Tryz.prog spR0 := .cons ok_FM <| .cons ok_FA <| .cons ok_FS <| .cons ok_FE <| .cons ok_FI <| .cons ok_Field R1.spN_ok
theorem ok_RSide : SpecOK Tryz.prog 41 nRSide := by
  refine fn_okL (by kernel_rfl) tt_ok (.cons ok_HexB spR0_ok) 9 Tryz.func41 (by decide +kernel) (by kernel_rfl) ?_
  rintro ⟨f, ⟨x⟩, _⟩ ⟨h1, h2⟩
  have h1' : f = fV := h1
  subst h1'
  replace h2 : x < pN := h2
  refine ⟨_, {}, fun y => y = .lst (.num (rSide x)), LnVD.of (vcRSide x _) ⟨rfl, ?_⟩, svg⟩
  simp only [qM_lt, qS_lt, qA_lt, three_lt, hB_lt, h2, and_self, true_and]
  rfl
theorem spR1_ok : SpecsOK Tryz.prog spR1 := .cons ok_RSide spR0_ok
theorem cmp_lt (x y : Nat) : decide (cmpN x y < 0) = decide (x < y) := by
  unfold cmpN
  by_cases h : x < y
  · rw [if_pos h, decide_eq_true h]; rfl
  · rw [if_neg h, decide_eq_false h]
    split <;> rfl
theorem cmp_eq (x y : Nat) : (cmpN x y == 0) = decide (x = y) := by
  unfold cmpN
  by_cases h : x < y
  · rw [if_pos h, decide_eq_false (by omega)]; rfl
  · by_cases h' : y < x
    · rw [if_neg h, if_pos h', decide_eq_false (by omega)]; rfl
    · rw [if_neg h, if_neg h', decide_eq_true (by omega)]; rfl
theorem ok_ROn : SpecOK Tryz.prog 1000000 Sym.sNo := Sym.sNo_ok _ _
end Go.Proofs.YtficbeeoafiiaaaGreatDoor.P12
