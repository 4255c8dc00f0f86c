/- A symbolic machine for Go functions, and what the functions that the law reaches come to: BdK, BdL, BdM, BdN, BdO, BdP, BdT, BdU, BdV, BdW, BdX, BdY, BdZ. -/
import Derived.Test.YtbdoieajjhhbpaaDoorQ7
/- The reference of layer 6: a block is the program's. -/
set_option maxRecDepth 10000
namespace Go.Proofs.YtbdoieajjhhbpaaDoor.H6
open Go.Sym Go.Dig R1
theorem turn_eq (x : UInt64) : turnF x 1 = (shr64 x 1 ||| shl64 x 63) ∧ turnF x 8 = (shr64 x 8 ||| shl64 x 56) ∧ turnF x 19 = (shr64 x 19 ||| shl64 x 45) ∧ turnF x 61 = (shr64 x 61 ||| shl64 x 3) ∧ turnF x 14 = (shr64 x 14 ||| shl64 x 50) ∧ turnF x 18 = (shr64 x 18 ||| shl64 x 46) ∧ turnF x 41 = (shr64 x 41 ||| shl64 x 23) ∧ turnF x 28 = (shr64 x 28 ||| shl64 x 36) ∧ turnF x 34 = (shr64 x 34 ||| shl64 x 30) ∧ turnF x 39 = (shr64 x 39 ||| shl64 x 25) := by
  have e : ∀ (n : Int) (k : Nat), (UInt64.ofInt (IntKind.wrap .i64 (0 - n)) &&& 63).toNat = 64 - k → (64 - (UInt64.ofInt (IntKind.wrap .i64 (0 - n)) &&& 63)).toNat = k → turnF x n = (shr64 x k ||| shl64 x (64 - k)) := by
    intro n k h1 h2
    unfold turnF rotl
    rw [h1, h2, UInt64.or_comm]
  exact ⟨e 1 1 (by decide +kernel) (by decide +kernel), e 8 8 (by decide +kernel) (by decide +kernel), e 19 19 (by decide +kernel) (by decide +kernel), e 61 61 (by decide +kernel) (by decide +kernel), e 14 14 (by decide +kernel) (by decide +kernel), e 18 18 (by decide +kernel) (by decide +kernel), e 41 41 (by decide +kernel) (by decide +kernel), e 28 28 (by decide +kernel) (by decide +kernel), e 34 34 (by decide +kernel) (by decide +kernel), e 39 39 (by decide +kernel) (by decide +kernel)⟩
theorem ok_TurnR : SpecOK Tryd.prog 53 sTurnR := by
  refine fn_okL (by kernel_rfl) tt_ok (.nil _) 3 Tryd.func53 (by decide +kernel) (by kernel_rfl) ?_
  rintro ⟨x, n, _⟩ hn
  obtain ⟨e1, e2, e3, e4, e5, e6, e7, e8, e9, e10⟩ := turn_eq x
  replace hn : nOK n := hn
  simp only [nOK, List.mem_cons, List.not_mem_nil, or_false] at hn
  rcases hn with rfl | rfl | rfl | rfl | rfl | rfl | rfl | rfl | rfl | rfl
  · exact ⟨_, {}, fun t => t = _, LnVD.of (vcTurnR1 x _) (congrArg SV.u64 e1.symm), svf⟩
  · exact ⟨_, {}, fun t => t = _, LnVD.of (vcTurnR8 x _) (congrArg SV.u64 e2.symm), svf⟩
  · exact ⟨_, {}, fun t => t = _, LnVD.of (vcTurnR19 x _) (congrArg SV.u64 e3.symm), svf⟩
  · exact ⟨_, {}, fun t => t = _, LnVD.of (vcTurnR61 x _) (congrArg SV.u64 e4.symm), svf⟩
  · exact ⟨_, {}, fun t => t = _, LnVD.of (vcTurnR14 x _) (congrArg SV.u64 e5.symm), svf⟩
  · exact ⟨_, {}, fun t => t = _, LnVD.of (vcTurnR18 x _) (congrArg SV.u64 e6.symm), svf⟩
  · exact ⟨_, {}, fun t => t = _, LnVD.of (vcTurnR41 x _) (congrArg SV.u64 e7.symm), svf⟩
  · exact ⟨_, {}, fun t => t = _, LnVD.of (vcTurnR28 x _) (congrArg SV.u64 e8.symm), svf⟩
  · exact ⟨_, {}, fun t => t = _, LnVD.of (vcTurnR34 x _) (congrArg SV.u64 e9.symm), svf⟩
  · exact ⟨_, {}, fun t => t = _, LnVD.of (vcTurnR39 x _) (congrArg SV.u64 e10.symm), svf⟩
theorem ok_Const : SpecOK Tryd.prog 20 sConst := by
  refine fn_okL (by kernel_rfl) tt_ok (.nil _) 9 Tryd.func20 (by decide +kernel) (by kernel_rfl) ?_
  rintro ⟨⟩ _
  exact ⟨_, {}, fun t => t = _, LnVD.of (vcConst _) rfl, svf⟩
theorem ok_BegR : FSpecOK Tryd.prog 21 sBegR := by
  refine fn_okF (by kernel_rfl) tt_ok (.nil _) 9 Tryd.func21 (by decide +kernel) (by kernel_rfl) ?_
  rintro ⟨⟩ _
  exact ⟨[], {}, fun x => x = _, LfVD.of (vcBegR _) rfl, fun x h at_ n w v r => by have h' : x = _ := h; subst h'; exact r⟩
theorem spR5_ok : SpecsOK Tryd.prog spR5 := .cons ok_TurnR <| .cons ok_Const (.nil _)

theorem shl8or (x : UInt64) (c : UInt8) : shl64 x 8 ||| c.toUInt64 = x * 256 + c.toUInt64 := by
  apply UInt64.toNat_inj.1
  have hc : c.toUInt64.toNat < 256 := by rw [UInt8.toNat_toUInt64]; exact c.toNat_lt
  have hx := x.toNat_lt
  rw [UInt64.toNat_or, UInt64.toNat_add, UInt64.toNat_mul]
  have e1 : (shl64 x 8).toNat = (x.toNat % 72057594037927936) <<< 8 := by
    rw [shl64, UInt64.toNat_ofNat', Nat.shiftLeft_eq]; omega
  rw [e1, ← Nat.shiftLeft_add_eq_or_of_lt hc, Nat.shiftLeft_eq]
  have : (256 : UInt64).toNat = 256 := rfl
  rw [this]; omega
theorem getD_set_ne {l : List UInt64} {i j : Nat} {x : UInt64} (h : i ≠ j) : (l.set i x).getD j 0 = l.getD j 0 := by
  simp only [List.getD_eq_getElem?_getD, List.getElem?_set, if_neg h]
theorem getD_set_eq {l : List UInt64} {i : Nat} {x : UInt64} (h : i < l.length) : (l.set i x).getD i 0 = x := by
  simp only [List.getD_eq_getElem?_getD, List.getElem?_set, if_pos h, if_true, Option.getD_some]
theorem take_succ_getD {l : List UInt64} {i : Nat} (h : i < l.length) : l.take (i + 1) = l.take i ++ [l.getD i 0] := by
  rw [List.take_add_one, List.getD_eq_getElem?_getD, List.getElem?_eq_getElem h]; rfl
theorem getD_take {l : List UInt64} {i n : Nat} (h : i < n) : (l.take n).getD i 0 = l.getD i 0 := by
  simp only [List.getD_eq_getElem?_getD, List.getElem?_take, if_pos h]
theorem take_set_le {l : List UInt64} {i n : Nat} {x : UInt64} (h : i ≤ n) : (l.set n x).take i = l.take i := by
  apply List.ext_getElem?
  intro k
  simp only [List.getElem?_take, List.getElem?_set]
  by_cases hk : k < i
  · rw [if_pos hk, if_pos hk, if_neg (by omega)]
  · rw [if_neg hk, if_neg hk]
theorem wB_zero (b : List UInt8) : ∀ n i, n ≤ 8 * i → (wB b n).getD i 0 = 0
  | 0, i, _ => by
    rw [wB, List.getD_eq_getElem?_getD, List.getElem?_replicate]
    split <;> rfl
  | n + 1, i, h => by rw [wB, getD_set_ne (by omega)]; exact wB_zero b n i (by omega)
theorem wB_take (b : List UInt8) (i : Nat) : ∀ j, j ≤ 8 → (wB b (8 * i + j)).take i = (wB b (8 * i)).take i
  | 0, _ => rfl
  | j + 1, h => by rw [← Nat.add_assoc, wB, take_set_le (by omega)]; exact wB_take b i j (by omega)
theorem iw_done {b : List UInt8} {w : List UInt64} {i : Int} {x : UInt64} {j : Int} (h : iw b w i) (hi : i < 16) (hx : ix b i x j) (hj : ¬ j < 8) : iw b (w ++ [x]) (IntKind.wrap .i64 (i + 1)) := by
  obtain ⟨h0, h1, rfl⟩ := h
  obtain ⟨k0, k1, rfl⟩ := hx
  rw [wr (by omega)]
  refine ⟨by omega, by omega, ?_⟩
  have ej : j = 8 := by omega
  subst ej
  rw [show (i + 1).toNat = i.toNat + 1 by omega, take_succ_getD (by rw [wB_len]; omega), show 8 * (i.toNat + 1) = 8 * i.toNat + 8 by omega, wB_take b _ 8 (by omega)]
  rfl
theorem ix_step {b : List UInt8} {i : Int} {x : UInt64} {j : Int} (h0 : 0 ≤ i) (hi : i < 16) (hx : ix b i x j) (hj : j < 8) :
    ix b i (x * UInt64.ofNat (Int.toNat 256) + UInt8.toUInt64 (List.getD b (Int.toNat (IntKind.wrap IntKind.i64 (IntKind.wrap IntKind.i64 (8 * i) + j))) 0)) (IntKind.wrap IntKind.i64 (j + 1)) := by
  obtain ⟨k0, k1, rfl⟩ := hx
  rw [wr (x := 8 * i) (by omega), wr (x := 8 * i + j) (by omega), wr (x := j + 1) (by omega)]
  refine ⟨by omega, by omega, ?_⟩
  rw [show (j + 1).toNat = j.toNat + 1 by omega, ← Nat.add_assoc, wB]
  rw [show (8 * i.toNat + j.toNat) / 8 = i.toNat by omega, getD_set_eq (by rw [wB_len]; omega), shl8or, show (8 * i + j).toNat = 8 * i.toNat + j.toNat by omega]
  rfl
theorem ix_start {b : List UInt8} {i : Int} : ix b i (UInt64.ofNat (Int.toNat 0)) 0 := by
  refine ⟨by omega, by omega, ?_⟩
  rw [wB_zero b _ _ (by simp)]; rfl
theorem it_start {b : List UInt8} {w : List UInt64} {i : Int} (h : iw b w i) (hi : ¬ i < 16) : it b w 16 := by
  obtain ⟨h0, h1, rfl⟩ := h
  refine ⟨by omega, by omega, ?_⟩
  rw [show i.toNat = 16 by omega]; rfl
theorem wX_take (b : List UInt8) (n : Nat) (h : n < 64) : (wX b (n + 1)).take (n + 17) = (wX b n).take (n + 16) ++ [(wX b n).getD n 0 + sig0 ((wX b n).getD (n + 1) 0) + (wX b n).getD (n + 9) 0 + sig1 ((wX b n).getD (n + 14) 0)] := by
  rw [wX, take_succ_getD (by rw [List.length_set, wX_len]; omega), take_set_le (by omega), getD_set_eq (by rw [wX_len]; omega)]
theorem it_step {b : List UInt8} {w : List UInt64} {t : Int} (h : it b w t) (ht : t < 80) : it b (w ++ [(turnF (List.getD w (0 + Int.toNat (IntKind.wrap IntKind.i64 (t - 2))) 0) 19 ^^^ turnF (List.getD w (0 + Int.toNat (IntKind.wrap IntKind.i64 (t - 2))) 0) 61 ^^^ shr64 (List.getD w (0 + Int.toNat (IntKind.wrap IntKind.i64 (t - 2))) 0) (UInt64.toNat (UInt64.ofNat (Int.toNat 6)))) +
            List.getD w (0 + Int.toNat (IntKind.wrap IntKind.i64 (t - 7))) 0 +
          (turnF (List.getD w (0 + Int.toNat (IntKind.wrap IntKind.i64 (t - 15))) 0) 1 ^^^ turnF (List.getD w (0 + Int.toNat (IntKind.wrap IntKind.i64 (t - 15))) 0) 8 ^^^ shr64 (List.getD w (0 + Int.toNat (IntKind.wrap IntKind.i64 (t - 15))) 0) (UInt64.toNat (UInt64.ofNat (Int.toNat 7)))) +
        List.getD w (0 + Int.toNat (IntKind.wrap IntKind.i64 (t - 16))) 0]) (IntKind.wrap IntKind.i64 (t + 1)) := by
  obtain ⟨h0, h1, rfl⟩ := h
  rw [wr (x := t - 2) (by omega), wr (x := t - 7) (by omega), wr (x := t - 15) (by omega), wr (x := t - 16) (by omega), wr (x := t + 1) (by omega)]
  obtain ⟨n, rfl⟩ : ∃ n : Nat, t = ((n + 16 : Nat) : Int) := ⟨(t - 16).toNat, by omega⟩
  refine ⟨by omega, by omega, ?_⟩
  rw [show (((n + 16 : Nat) : Int) + 1).toNat = n + 17 by omega, show (((n + 16 : Nat) : Int)).toNat = n + 16 by omega, show n + 17 - 16 = n + 1 by omega, show n + 16 - 16 = n by omega]
  rw [show 0 + (((n + 16 : Nat) : Int) - 2).toNat = n + 14 by omega, show 0 + (((n + 16 : Nat) : Int) - 7).toNat = n + 9 by omega, show 0 + (((n + 16 : Nat) : Int) - 15).toNat = n + 1 by omega, show 0 + (((n + 16 : Nat) : Int) - 16).toNat = n by omega]
  rw [getD_take (by omega), getD_take (by omega), getD_take (by omega), getD_take (by omega), wX_take b n (by omega)]
  congr 2
  have e0 : ∀ a : UInt64, turnF a 1 ^^^ turnF a 8 ^^^ shr64 a (UInt64.toNat (UInt64.ofNat (Int.toNat 7))) = sig0 a := fun a => rfl
  have e1 : ∀ a : UInt64, turnF a 19 ^^^ turnF a 61 ^^^ shr64 a (UInt64.toNat (UInt64.ofNat (Int.toNat 6))) = sig1 a := fun a => rfl
  rw [e0, e1]
  ac_rfl
theorem ir_start {b : List UInt8} {w : List UInt64} {t : Int} (s : St8) (h : it b w t) (ht : ¬ t < 80) : ir (wX b 64) s w s 0 := by
  obtain ⟨h0, h1, rfl⟩ := h
  have : t.toNat = 80 := by omega
  refine ⟨?_, by omega, by omega, rfl⟩
  rw [this]
  exact List.take_of_length_le (by rw [wX_len]; omega)
theorem ir_step {w0 w : List UInt64} {s v : St8} {t : Int} (h : ir w0 s w v t) (ht : t < 80) : ir w0 s w (round v (kTab.getD t.toNat 0) (w.getD (0 + t.toNat) 0)) (IntKind.wrap .i64 (t + 1)) := by
  obtain ⟨rfl, h0, h1, rfl⟩ := h
  rw [wr (by omega)]
  refine ⟨rfl, by omega, by omega, ?_⟩
  rw [show (t + 1).toNat = t.toNat + 1 by omega, rounds, Nat.zero_add]
  rfl
instance (n : Int) : Decidable (nOK n) := by unfold nOK; infer_instance
noncomputable def sBlk : SpecF := fspec (α := L8 × List UInt8 × Unit) (fun a => some (a.2.1.length = 128)) (fun a => L8.mk (mixV a.1.v a.2.1))
theorem cut_whole {b : List UInt8} (h : b.length = 128) : b.take 128 = b := List.take_of_length_le (by omega)
theorem ok_Blk : FSpecOK Tryd.prog 42 sBlk := by
  refine fn_okF (by kernel_rfl) tt_ok spR5_ok 9 Tryd.func42 (by decide +kernel) (by kernel_rfl) ?_
  rintro ⟨⟨s⟩, b, _⟩ hb
  replace hb : b.length = 128 := hb
  refine ⟨[], lBlk s b, fun x => x = .lst (.words (mixV s b).l), LfVD.of (vcBlk s b _) ?_, fun x h at_ n w v r => by have h' : x = _ := h; subst h'; exact r⟩
  refine ⟨⟨rfl, rfl⟩, ⟨by omega, by omega, rfl⟩, ?_⟩
  intro w i hw
  rw [bcase_dec]
  refine ⟨fun hi => ?_, fun hi => ?_⟩
  · have h0 := hw.1
    refine ⟨⟨rfl, rfl⟩, ⟨rfl, rfl, ix_start⟩, ?_⟩
    rintro w1 i1 x j ⟨hO, rfl, hx⟩
    injection hO with hO; subst hO
    rw [bcase_dec]
    refine ⟨fun hj => ?_, fun hj => ?_⟩
    · have j0 := hx.1
      refine ⟨⟨by rw [wr (x := 8 * i1) (by omega), wr (by omega)]; omega, by rw [wr (x := 8 * i1) (by omega), wr (by omega), hb]; omega⟩, ⟨rfl, rfl⟩, rfl, ⟨rfl, rfl, ix_step h0 hi hx hj⟩, ?_⟩
      rw [wr (by omega)]; omega
    · have lw : w1.length ≤ 16 := by rw [hw.2.2, List.length_take]; omega
      rw [show List.drop 0 (List.take w1.length w1) = w1 by rw [List.take_length]; rfl]
      refine ⟨⟨by omega, by rw [List.length_append]; simp only [appLim, List.length_singleton]; omega⟩, ⟨rfl, rfl⟩, rfl, iw_done hw hi hx hj, ?_⟩
      rw [wr (by omega)]; omega
  · refine ⟨⟨rfl, rfl⟩, it_start hw hi, ?_⟩
    intro w1 t ht
    have lw : w1.length = t.toNat := by have := ht.1; have := ht.2.1; rw [ht.2.2, List.length_take, wX_len]; omega
    rw [bcase_dec, show List.drop 0 (List.take w1.length w1) = w1 by rw [List.take_length]; rfl]
    refine ⟨fun h => ?_, fun h => ?_⟩
    · have t0 := ht.1
      have rg : ∀ k : Int, 0 < k ∧ k ≤ 16 → 0 ≤ IntKind.wrap .i64 (t - k) ∧ IntKind.wrap .i64 (t - k) < (w1.length : Int) := fun k hk => by rw [wr (by omega), lw]; omega
      refine ⟨rg 15 (by omega), by decide +kernel, rg 15 (by omega), by decide +kernel, rg 15 (by omega), rg 2 (by omega), by decide +kernel, rg 2 (by omega), by decide +kernel, rg 2 (by omega), rg 7 (by omega), rg 16 (by omega), ⟨by omega, ?_⟩, ⟨rfl, rfl⟩, rfl, it_step ht h, ?_⟩
      · rw [List.length_append]; simp only [appLim, List.length_singleton]; omega
      · rw [wr (by omega)]; omega
    · refine ⟨by show (8 : Nat) ≤ appLim; decide, ⟨⟨rfl, rfl⟩, rfl, rfl⟩, ir_start s ht h, ?_⟩
      intro w2 v a hR
      rw [bcase_dec]
      refine ⟨fun ha => ?_, fun ha => ?_⟩
      · have a0 := hR.2.1
        have k1 : 0 ≤ a ∧ a < (kTab.length : Int) := ⟨a0, ha⟩
        have k2 : 0 ≤ a ∧ a < (w2.length : Int) := ⟨a0, by rw [hR.1, wX_len]; exact ha⟩
        repeat (first | refine ⟨by decide +kernel, ?_⟩ | refine ⟨k1, ?_⟩ | refine ⟨k2, ?_⟩)
        refine ⟨⟨⟨rfl, rfl⟩, rfl, rfl⟩, rfl, ir_step hR ha, ?_⟩
        rw [wr (by omega)]; omega
      · have hl : s.l.length = 8 := rfl
        rw [hl]
        repeat (refine ⟨by decide +kernel, ?_⟩)
        have e : mixV s b = s.plus v := by
          obtain ⟨_, r0, r1, rfl⟩ := hR
          rw [mixV_eq, show a.toNat = 80 by omega]; rfl
        rw [e]
        show _ = _
        kernel_rfl
end Go.Proofs.YtbdoieajjhhbpaaDoor.H6
/- The reference of layer 6: the sum: what the body comes to. -/
set_option maxRecDepth 10000
namespace Go.Proofs.YtbdoieajjhhbpaaDoor.H6
open Go.Sym Go.Dig R1
noncomputable def spS5 : Specs := [(42, .fresh sBlk), (21, .fresh sBegR), (32, sToBig), (33, sInt), (35, sWords)]
def mR (b : List UInt8) : List UInt8 := padZ b (zn b.length) ++ [0, 0, 0, 0, 0, 0, 0, 0] ++ (bytesN (8 * b.length) 8).reverse
def iH (m0 : List UInt8) (m : List UInt8) (h : St8) (i : Int) : Prop := ∃ k : Nat, m = m0 ∧ i = 128 * (k : Int) ∧ 128 * k ≤ m0.length ∧ h = absN beg m0 k
--STOP iZ, iH, iO, outN, St8.l, mixV, absN, beg, bytesN, nv, Dg, wv, padZ, zn, mR
def lRSum (b : List UInt8) : Plan := { loops := [
  (0, { β := List UInt8 × Unit, α := OwnB × Unit, same := [0], keep := [3], inv := fun _ _ x => iZ b x.1.l, meas := fun _ x => zn b.length + b.length + 1 - x.1.l.length }),
  (2, { β := List UInt8 × Unit, α := OwnB × O8 × Int × Unit, same := [0], keep := [3, 4, 5], inv := fun _ _ x => iH (mR b) x.1.l x.2.1.v x.2.2.1, meas := fun _ x => ((x.1.l.length : Int) - x.2.2.1).toNat }),
  (4, { β := Unit, α := O8 × OwnB × Int × Unit, same := [], keep := [4, 6, 7], inv := fun _ a x => x.1.v = a.1.v ∧ iO a.1.v x.2.1.l x.2.2.1, meas := fun _ x => (8 - x.2.2.1).toNat })] }
theorem vcRSum (b : List UInt8) (Q : SV → Prop) : LnRaw tt spS5 9 [] (lRSum b) Tryd.f19 Q (b, ()) =
  ((List.length ([] ++ b) ≤ appLim) ∧
  ((((0 : Nat) + List.length ([] ++ b) = List.length ([] ++ b)) ∧
   (List.length
    (List.drop (0 : Nat) (List.take (List.length ([] ++ b)) ([] ++ b)) ++ [UInt8.ofNat (Int.toNat (128 : Int))]) ≤
  appLim)) ∧
  ((((0 : Nat) = (0 : Nat)) ∧
   (List.length
    (List.drop (0 : Nat) (List.take (List.length ([] ++ b)) ([] ++ b)) ++ [UInt8.ofNat (Int.toNat (128 : Int))]) =
  List.length
    (List.drop (0 : Nat) (List.take (List.length ([] ++ b)) ([] ++ b)) ++ [UInt8.ofNat (Int.toNat (128 : Int))]))) ∧
  ((iZ b (List.drop (0 : Nat) (List.take (List.length ([] ++ b)) ([] ++ b)) ++ [UInt8.ofNat (Int.toNat (128 : Int))])) ∧
  (∀ l : List UInt8,
  ((iZ b l) →
  bcase (Int.tmod (↑(List.length l) : Int) (128 : Int) != (112 : Int))
    (((((0 : Nat) + List.length l = List.length l) ∧
     (List.length (List.drop (0 : Nat) (List.take (List.length l) l) ++ [UInt8.ofNat (Int.toNat (0 : Int))]) ≤ appLim)) ∧
    ((((0 : Nat) = (0 : Nat)) ∧
     (List.length (List.drop (0 : Nat) (List.take (List.length l) l) ++ [UInt8.ofNat (Int.toNat (0 : Int))]) =
  List.length (List.drop (0 : Nat) (List.take (List.length l) l) ++ [UInt8.ofNat (Int.toNat (0 : Int))]))) ∧
    (((b, ()) = (b, ())) ∧
    ((iZ b (List.drop (0 : Nat) (List.take (List.length l) l) ++ [UInt8.ofNat (Int.toNat (0 : Int))])) ∧
    (zn (List.length b) + List.length b + (1 : Nat) -
    List.length (List.drop (0 : Nat) (List.take (List.length l) l) ++ [UInt8.ofNat (Int.toNat (0 : Int))]) <
  zn (List.length b) + List.length b + (1 : Nat) - List.length l))))))
    (((((0 : Nat) + List.length l = List.length l) ∧
     (List.length
    (List.drop (0 : Nat) (List.take (List.length l) l) ++
      [UInt8.ofNat (Int.toNat (0 : Int)), UInt8.ofNat (Int.toNat (0 : Int)), UInt8.ofNat (Int.toNat (0 : Int)),
        UInt8.ofNat (Int.toNat (0 : Int)), UInt8.ofNat (Int.toNat (0 : Int)), UInt8.ofNat (Int.toNat (0 : Int)),
        UInt8.ofNat (Int.toNat (0 : Int)), UInt8.ofNat (Int.toNat (0 : Int))]) ≤
  appLim)) ∧
    ((((0 : Int) ≤ IntKind.wrap IntKind.i64 ((8 : Int) * (↑(List.length b) : Int))) ∧
     (IntKind.wrap IntKind.i64 ((8 : Int) * (↑(List.length b) : Int)) < (9223372036854775808 : Int))) ∧
    (((Dg (dg (Int.toNat (IntKind.wrap IntKind.i64 ((8 : Int) * (↑(List.length b) : Int)))))) ∧
     (((0 : Int) ≤ (8 : Int)) ∧
     ((8 : Int) ≤ (1048576 : Int)))) ∧
    ((((0 : Nat) +
    List.length
      (List.drop (0 : Nat) (List.take (List.length l) l) ++
        [UInt8.ofNat (Int.toNat (0 : Int)), UInt8.ofNat (Int.toNat (0 : Int)), UInt8.ofNat (Int.toNat (0 : Int)),
          UInt8.ofNat (Int.toNat (0 : Int)), UInt8.ofNat (Int.toNat (0 : Int)), UInt8.ofNat (Int.toNat (0 : Int)),
          UInt8.ofNat (Int.toNat (0 : Int)), UInt8.ofNat (Int.toNat (0 : Int))]) =
  List.length
    (List.drop (0 : Nat) (List.take (List.length l) l) ++
      [UInt8.ofNat (Int.toNat (0 : Int)), UInt8.ofNat (Int.toNat (0 : Int)), UInt8.ofNat (Int.toNat (0 : Int)),
        UInt8.ofNat (Int.toNat (0 : Int)), UInt8.ofNat (Int.toNat (0 : Int)), UInt8.ofNat (Int.toNat (0 : Int)),
        UInt8.ofNat (Int.toNat (0 : Int)), UInt8.ofNat (Int.toNat (0 : Int))])) ∧
     (List.length
    (List.drop (0 : Nat)
        (List.take
          (List.length
            (List.drop (0 : Nat) (List.take (List.length l) l) ++
              [UInt8.ofNat (Int.toNat (0 : Int)), UInt8.ofNat (Int.toNat (0 : Int)), UInt8.ofNat (Int.toNat (0 : Int)),
                UInt8.ofNat (Int.toNat (0 : Int)), UInt8.ofNat (Int.toNat (0 : Int)), UInt8.ofNat (Int.toNat (0 : Int)),
                UInt8.ofNat (Int.toNat (0 : Int)), UInt8.ofNat (Int.toNat (0 : Int))]))
          (List.drop (0 : Nat) (List.take (List.length l) l) ++
            [UInt8.ofNat (Int.toNat (0 : Int)), UInt8.ofNat (Int.toNat (0 : Int)), UInt8.ofNat (Int.toNat (0 : Int)),
              UInt8.ofNat (Int.toNat (0 : Int)), UInt8.ofNat (Int.toNat (0 : Int)), UInt8.ofNat (Int.toNat (0 : Int)),
              UInt8.ofNat (Int.toNat (0 : Int)), UInt8.ofNat (Int.toNat (0 : Int))])) ++
      List.reverse
        (bytesN (nv (dg (Int.toNat (IntKind.wrap IntKind.i64 ((8 : Int) * (↑(List.length b) : Int))))))
          (Int.toNat (8 : Int)))) ≤
  appLim)) ∧
    (((((0 : Nat) = (0 : Nat)) ∧
      (List.length
    (List.drop (0 : Nat)
        (List.take
          (List.length
            (List.drop (0 : Nat) (List.take (List.length l) l) ++
              [UInt8.ofNat (Int.toNat (0 : Int)), UInt8.ofNat (Int.toNat (0 : Int)), UInt8.ofNat (Int.toNat (0 : Int)),
                UInt8.ofNat (Int.toNat (0 : Int)), UInt8.ofNat (Int.toNat (0 : Int)), UInt8.ofNat (Int.toNat (0 : Int)),
                UInt8.ofNat (Int.toNat (0 : Int)), UInt8.ofNat (Int.toNat (0 : Int))]))
          (List.drop (0 : Nat) (List.take (List.length l) l) ++
            [UInt8.ofNat (Int.toNat (0 : Int)), UInt8.ofNat (Int.toNat (0 : Int)), UInt8.ofNat (Int.toNat (0 : Int)),
              UInt8.ofNat (Int.toNat (0 : Int)), UInt8.ofNat (Int.toNat (0 : Int)), UInt8.ofNat (Int.toNat (0 : Int)),
              UInt8.ofNat (Int.toNat (0 : Int)), UInt8.ofNat (Int.toNat (0 : Int))])) ++
      List.reverse
        (bytesN (nv (dg (Int.toNat (IntKind.wrap IntKind.i64 ((8 : Int) * (↑(List.length b) : Int))))))
          (Int.toNat (8 : Int)))) =
  List.length
    (List.drop (0 : Nat)
        (List.take
          (List.length
            (List.drop (0 : Nat) (List.take (List.length l) l) ++
              [UInt8.ofNat (Int.toNat (0 : Int)), UInt8.ofNat (Int.toNat (0 : Int)), UInt8.ofNat (Int.toNat (0 : Int)),
                UInt8.ofNat (Int.toNat (0 : Int)), UInt8.ofNat (Int.toNat (0 : Int)), UInt8.ofNat (Int.toNat (0 : Int)),
                UInt8.ofNat (Int.toNat (0 : Int)), UInt8.ofNat (Int.toNat (0 : Int))]))
          (List.drop (0 : Nat) (List.take (List.length l) l) ++
            [UInt8.ofNat (Int.toNat (0 : Int)), UInt8.ofNat (Int.toNat (0 : Int)), UInt8.ofNat (Int.toNat (0 : Int)),
              UInt8.ofNat (Int.toNat (0 : Int)), UInt8.ofNat (Int.toNat (0 : Int)), UInt8.ofNat (Int.toNat (0 : Int)),
              UInt8.ofNat (Int.toNat (0 : Int)), UInt8.ofNat (Int.toNat (0 : Int))])) ++
      List.reverse
        (bytesN (nv (dg (Int.toNat (IntKind.wrap IntKind.i64 ((8 : Int) * (↑(List.length b) : Int))))))
          (Int.toNat (8 : Int)))))) ∧
     (((0 : Nat) = (0 : Nat)) ∧
     (List.length (St8.l beg) = List.length (St8.l beg)))) ∧
    ((iH (mR b)
  (List.drop (0 : Nat)
      (List.take
        (List.length
          (List.drop (0 : Nat) (List.take (List.length l) l) ++
            [UInt8.ofNat (Int.toNat (0 : Int)), UInt8.ofNat (Int.toNat (0 : Int)), UInt8.ofNat (Int.toNat (0 : Int)),
              UInt8.ofNat (Int.toNat (0 : Int)), UInt8.ofNat (Int.toNat (0 : Int)), UInt8.ofNat (Int.toNat (0 : Int)),
              UInt8.ofNat (Int.toNat (0 : Int)), UInt8.ofNat (Int.toNat (0 : Int))]))
        (List.drop (0 : Nat) (List.take (List.length l) l) ++
          [UInt8.ofNat (Int.toNat (0 : Int)), UInt8.ofNat (Int.toNat (0 : Int)), UInt8.ofNat (Int.toNat (0 : Int)),
            UInt8.ofNat (Int.toNat (0 : Int)), UInt8.ofNat (Int.toNat (0 : Int)), UInt8.ofNat (Int.toNat (0 : Int)),
            UInt8.ofNat (Int.toNat (0 : Int)), UInt8.ofNat (Int.toNat (0 : Int))])) ++
    List.reverse
      (bytesN (nv (dg (Int.toNat (IntKind.wrap IntKind.i64 ((8 : Int) * (↑(List.length b) : Int))))))
        (Int.toNat (8 : Int))))
  beg (0 : Int)) ∧
    (∀ l_1 : List UInt8,
    (∀ v : St8,
    (∀ a : Int,
    ((iH (mR b) l_1 v a) →
    bcase (decide (a < (↑(List.length l_1) : Int)))
      (((((0 : Int) ≤ a) ∧
       ((a ≤ IntKind.wrap IntKind.i64 (a + (128 : Int))) ∧
       (IntKind.wrap IntKind.i64 (a + (128 : Int)) ≤ (↑(List.length l_1) : Int)))) ∧
      ((List.length
    (List.drop ((0 : Nat) + Int.toNat a)
      (List.take ((0 : Nat) + Int.toNat a + (Int.toNat (IntKind.wrap IntKind.i64 (a + (128 : Int))) - Int.toNat a))
        l_1)) =
  (128 : Nat)) ∧
      (((((0 : Nat) = (0 : Nat)) ∧
        (List.length l_1 = List.length l_1)) ∧
       (((0 : Nat) = (0 : Nat)) ∧
       (List.length
    (St8.l
      (mixV v
        (List.drop ((0 : Nat) + Int.toNat a)
          (List.take ((0 : Nat) + Int.toNat a + (Int.toNat (IntKind.wrap IntKind.i64 (a + (128 : Int))) - Int.toNat a))
            l_1)))) =
  List.length
    (St8.l
      (mixV v
        (List.drop ((0 : Nat) + Int.toNat a)
          (List.take ((0 : Nat) + Int.toNat a + (Int.toNat (IntKind.wrap IntKind.i64 (a + (128 : Int))) - Int.toNat a))
            l_1))))))) ∧
      (((b, ()) = (b, ())) ∧
      ((iH (mR b) l_1
  (mixV v
    (List.drop ((0 : Nat) + Int.toNat a)
      (List.take ((0 : Nat) + Int.toNat a + (Int.toNat (IntKind.wrap IntKind.i64 (a + (128 : Int))) - Int.toNat a))
        l_1)))
  (IntKind.wrap IntKind.i64 (a + (128 : Int)))) ∧
      (Int.toNat ((↑(List.length l_1) : Int) - IntKind.wrap IntKind.i64 (a + (128 : Int))) <
  Int.toNat ((↑(List.length l_1) : Int) - a))))))))
      ((((((0 : Nat) = (0 : Nat)) ∧
        ((8 : Nat) = List.length (St8.l v))) ∧
       (((0 : Nat) = (0 : Nat)) ∧
       ((0 : Nat) = (0 : Nat)))) ∧
      (((v = v) ∧
       (iO v [] (0 : Int))) ∧
      (∀ v_1 : St8,
      (∀ l_2 : List UInt8,
      (∀ a_1 : Int,
      (((v_1 = v) ∧
      (iO v l_2 a_1)) →
      bcase (decide (a_1 < (8 : Int)))
        (((((0 : Int) ≤ a_1) ∧
         (a_1 < (↑(8 : Nat) : Int))) ∧
        (((1 : Nat) ≤ (1048576 : Nat)) ∧
        (((Dg (dg (wv [List.getD (St8.l v_1) ((0 : Nat) + Int.toNat a_1) (0 : UInt64)]))) ∧
         (((0 : Int) ≤ (8 : Int)) ∧
         ((8 : Int) ≤ (1048576 : Int)))) ∧
        ((((0 : Nat) + List.length l_2 = List.length l_2) ∧
         (List.length
    (List.drop (0 : Nat) (List.take (List.length l_2) l_2) ++
      List.reverse
        (bytesN (nv (dg (wv [List.getD (St8.l v_1) ((0 : Nat) + Int.toNat a_1) (0 : UInt64)])))
          (Int.toNat (8 : Int)))) ≤
  appLim)) ∧
        (((((0 : Nat) = (0 : Nat)) ∧
          ((8 : Nat) = List.length (St8.l v_1))) ∧
         (((0 : Nat) = (0 : Nat)) ∧
         (List.length
    (List.drop (0 : Nat) (List.take (List.length l_2) l_2) ++
      List.reverse
        (bytesN (nv (dg (wv [List.getD (St8.l v_1) ((0 : Nat) + Int.toNat a_1) (0 : UInt64)])))
          (Int.toNat (8 : Int)))) =
  List.length
    (List.drop (0 : Nat) (List.take (List.length l_2) l_2) ++
      List.reverse
        (bytesN (nv (dg (wv [List.getD (St8.l v_1) ((0 : Nat) + Int.toNat a_1) (0 : UInt64)]))) (Int.toNat (8 : Int))))))) ∧
        ((() = ()) ∧
        (((v_1 = v) ∧
         (iO v
  (List.drop (0 : Nat) (List.take (List.length l_2) l_2) ++
    List.reverse
      (bytesN (nv (dg (wv [List.getD (St8.l v_1) ((0 : Nat) + Int.toNat a_1) (0 : UInt64)]))) (Int.toNat (8 : Int))))
  (IntKind.wrap IntKind.i64 (a_1 + (1 : Int))))) ∧
        (Int.toNat ((8 : Int) - IntKind.wrap IntKind.i64 (a_1 + (1 : Int))) < Int.toNat ((8 : Int) - a_1))))))))))
        ((Q (SV.lst (LV.bytes (List.drop (0 : Nat) (List.take ((0 : Nat) + List.length l_2) l_2)))))))))))))))))))))))))))))) := by kernel_rfl
end Go.Proofs.YtbdoieajjhhbpaaDoor.H6
/- Layer 6: the program's sum and the reference's are one. -/
set_option maxRecDepth 10000
namespace Go.Proofs.YtbdoieajjhhbpaaDoor.H6
open Go.Sym Go.Dig R1
noncomputable def digV0 (b : List UInt8) : List UInt8 := sum0 (absT beg b) (absR b) (UInt64.ofInt (b.length : Int))
theorem dig_ex : ∃ f : List UInt8 → List UInt8, f = digV0 := ⟨_, rfl⟩
noncomputable def digV : List UInt8 → List UInt8 := Classical.choose dig_ex
theorem digV_eq : digV = digV0 := Classical.choose_spec dig_ex
noncomputable def sDSum : SpecF := fspec (α := List UInt8 × Unit) (fun a => some (a.1.length ≤ 1073741824)) (fun a => digV a.1)
theorem absR_len (r : List UInt8) : (absR r).length < 128 := by rw [absR, List.length_drop]; omega
theorem ok_DSumF : FSpecOK Tryd.prog 18 sDSum := by
  unfold sDSum
  rw [digV_eq]
  refine fn_okF (by kernel_rfl) tt_ok spD_ok 9 Tryd.func18 (by decide +kernel) (by kernel_rfl) ?_
  rintro ⟨b, _⟩ hb
  replace hb : b.length ≤ 1073741824 := hb
  have e : rOf (HashV.mk beg [] 0 0 0) b = b := rfl
  have e2 : nOf (HashV.mk beg [] 0 0 0) b = UInt64.ofInt (b.length : Int) := by unfold nOf; exact UInt64.zero_add _
  refine ⟨[], {}, fun x => x = .lst (.bytes (digV0 b)), LfVD.of (vcDSum b _) ?_, fun x h at_ n w v r => by have h' : x = _ := h; subst h'; exact r⟩
  have f : ∀ l : List UInt8, List.drop 0 (List.take (0 + l.length) l) = l := fun l => by rw [Nat.zero_add, List.take_length]; rfl
  rw [e, e2, f, f]
  have := absR_len b
  refine ⟨⟨rfl, by simp only [appLim]; omega, trivial⟩, by omega, ?_⟩
  show SV.lst (.bytes (sumO _)) = _
  unfold sumO digV0
  rw [sumV_eq]
theorem be8_eq (x : UInt64) : (bytesN x.toNat 8).reverse = be8 x 8 := by
  have hx := x.toNat_lt
  have e : ∀ k d : Nat, d = 2 ^ k → UInt8.ofNat (x.toNat / d) = (shr64 x k).toUInt8 := by
    intro k d hd
    apply UInt8.toNat_inj.1
    subst hd
    have : x.toNat / 2 ^ k ≤ x.toNat := Nat.div_le_self _ _
    rw [shr64, UInt64.toNat_toUInt8, UInt64.toNat_ofNat', UInt8.toNat_ofNat']
    omega
  show [UInt8.ofNat (x.toNat / 256 ^ 7), UInt8.ofNat (x.toNat / 256 ^ 6), UInt8.ofNat (x.toNat / 256 ^ 5), UInt8.ofNat (x.toNat / 256 ^ 4), UInt8.ofNat (x.toNat / 256 ^ 3), UInt8.ofNat (x.toNat / 256 ^ 2), UInt8.ofNat (x.toNat / 256 ^ 1), UInt8.ofNat (x.toNat / 256 ^ 0)] = _
  rw [e 56 _ (by decide), e 48 _ (by decide), e 40 _ (by decide), e 32 _ (by decide), e 24 _ (by decide), e 16 _ (by decide), e 8 _ (by decide), e 0 _ (by decide)]
  rfl
theorem be8w (x : UInt64) : (bytesN (nv (dg (wv [x]))) 8).reverse = be8 x 8 := by
  rw [nv_dg, show wv [x] = x.toNat by simp [wv]]; exact be8_eq x
theorem len8 (n : Nat) (h : n ≤ 1073741824) : (UInt64.ofInt (n : Int) * 8).toNat = 8 * n := by
  rw [UInt64.toNat_mul, ofInt64]
  have : (8 : UInt64).toNat = 8 := rfl
  rw [this]; omega
theorem absN_congr (s : St8) (m b : List UInt8) : ∀ i, (∀ j, j < i → cut m (128 * j) = cut b (128 * j)) → absN s m i = absN s b i
  | 0, _ => rfl
  | i + 1, h => by rw [absN, absN, absN_congr s m b i (fun j hj => h j (by omega)), h i (by omega)]
theorem absN_add (s : St8) (m : List UInt8) (q : Nat) : ∀ i, absN s m (q + i) = absN (absN s m q) (m.drop (128 * q)) i
  | 0 => rfl
  | i + 1 => by
    rw [← Nat.add_assoc, absN, absN, absN_add s m q i]
    congr 1
    simp only [cut, List.drop_drop]
    congr 2; omega
theorem cut_append {b r : List UInt8} {j : Nat} (h : 128 * j + 128 ≤ b.length) : cut (b ++ r) (128 * j) = cut b (128 * j) := by
  simp only [cut]
  rw [List.drop_append_of_le_length (by omega), List.take_append_of_le_length (by rw [List.length_drop]; omega)]
theorem mR_drop (b : List UInt8) (h : b.length ≤ 1073741824) : (mR b).drop (128 * (b.length / 128)) = padded (absR b) (UInt64.ofInt (b.length : Int)) := by
  have ez : zn (absR b).length = zn b.length := by
    rw [absR, List.length_drop]
    have : (b.length - 128 * (b.length / 128)) % 128 = b.length % 128 := by omega
    simp only [zn, this]
  unfold mR padded padZ
  rw [ez, ← be8_eq, len8 _ h]
  simp only [List.append_assoc]
  rw [List.drop_append_of_le_length (by omega)]
  rfl
theorem mR_len (b : List UInt8) : (mR b).length = b.length + 17 + zn b.length := by
  rw [mR, List.length_append, List.length_append, padZ_len, List.length_reverse, bytesN_len]; simp only [List.length_cons, List.length_nil]; omega
theorem ref_eq (b : List UInt8) (h : b.length ≤ 1073741824) : outN (absN beg (mR b) ((mR b).length / 128)) 8 = digV0 b := by
  unfold digV0 sum0
  have e : (mR b).length / 128 = b.length / 128 + (padded (absR b) (UInt64.ofInt (b.length : Int))).length / 128 := by
    rw [← mR_drop b h, List.length_drop, mR_len]; omega
  rw [e, absN_add, mR_drop b h]
  congr 2
  unfold absT mR padZ
  simp only [List.append_assoc]
  exact absN_congr _ _ _ _ fun j hj => cut_append (by omega)
theorem spS5_ok : SpecsOK Tryd.prog spS5 := .consF ok_Blk <| .consF ok_BegR <| .cons ok_ToBig <| .cons ok_Int <| .cons ok_Words (.nil _)
noncomputable def sRSum : SpecF := sDSum
theorem ok_RSum : SpecOK Tryd.prog 19 sRSum := by
  unfold sRSum sDSum
  rw [digV_eq]
  refine fn_okL (by kernel_rfl) tt_ok spS5_ok 9 Tryd.func19 (by decide +kernel) (by kernel_rfl) ?_
  rintro ⟨b, _⟩ hb
  replace hb : b.length ≤ 1073741824 := hb
  have hz := zn_lt b.length
  refine ⟨[], lRSum b, fun x => x = .lst (.bytes (digV0 b)), LnVD.of (vcRSum b _) ?_, svf⟩
  rw [List.nil_append, full]
  refine ⟨by simp only [appLim]; omega, ⟨by omega, by simp only [appLim, List.length_append, List.length_singleton]; omega⟩, ⟨rfl, rfl⟩, ⟨0, by omega, by simp [padZ]⟩, ?_⟩
  intro t hZ
  have lt : t.length ≤ b.length + 129 := by obtain ⟨k, hk, rfl⟩ := hZ; rw [padZ_len]; omega
  have em : Int.tmod (t.length : Int) 128 = ((t.length % 128 : Nat) : Int) := by rw [tmod_nn (by omega)]; omega
  rw [em, bcase_iff, full]
  refine ⟨fun hc => ?_, fun hc => ?_⟩
  · have hc' : ¬ t.length % 128 = 112 := by
      intro e; rw [e] at hc; exact absurd hc (by decide)
    obtain ⟨z1, z2⟩ := iZ_step hZ hc'
    refine ⟨⟨by omega, by simp only [appLim, List.length_append, List.length_singleton]; omega⟩, ⟨rfl, rfl⟩, rfl, z1, ?_⟩
    rw [List.length_append, List.length_singleton]
    omega
  · have hc' : t.length % 128 = 112 := by
      have := bne_eq_false_iff_eq.1 hc
      omega
    have ht := iZ_done hZ hc'
    have ew : IntKind.wrap .i64 (8 * (b.length : Int)) = ((8 * b.length : Nat) : Int) := by rw [wr (by omega)]; omega
    have em' : t ++ [UInt8.ofNat (Int.toNat (0 : Int)), UInt8.ofNat (Int.toNat (0 : Int)), UInt8.ofNat (Int.toNat (0 : Int)), UInt8.ofNat (Int.toNat (0 : Int)), UInt8.ofNat (Int.toNat (0 : Int)), UInt8.ofNat (Int.toNat (0 : Int)), UInt8.ofNat (Int.toNat (0 : Int)), UInt8.ofNat (Int.toNat (0 : Int))] ++ List.reverse (bytesN (nv (dg (Int.toNat ((8 * b.length : Nat) : Int)))) (Int.toNat 8)) = mR b := by
      rw [ht, Int.toNat_natCast, nv_dg]; rfl
    rw [ew, full, em']
    have lm := mR_len b
    have hDg : Dg (dg (Int.toNat ((8 * b.length : Nat) : Int))) := by
      rw [Int.toNat_natCast]
      have : 8 * b.length < 16777216 ^ 2 := by omega
      exact Dg.dg (Nat.le_trans (dg_length_lt this) (by decide))
    refine ⟨⟨by omega, by simp only [appLim, List.length_append, List.length_cons, List.length_nil]; omega⟩, ⟨by omega, by omega⟩, ⟨hDg, by omega, by omega⟩, ⟨by omega, by rw [lm]; simp only [appLim]; omega⟩, ⟨⟨rfl, rfl⟩, rfl, rfl⟩, ⟨0, rfl, rfl, by omega, rfl⟩, ?_⟩
    intro m v a hH
    obtain ⟨k, rfl, rfl, hk, rfl⟩ := hH
    rw [bcase_dec]
    have l64 : (mR b).length % 128 = 0 := by rw [lm, zn]; omega
    refine ⟨fun ha => ?_, fun ha => ?_⟩
    · have w1 : IntKind.wrap .i64 (128 * (k : Int) + 128) = ((128 * k + 128 : Nat) : Int) := by rw [wr (by omega)]; omega
      have w2 : Int.toNat (128 * (k : Int)) = 128 * k := by omega
      have ec : List.drop (0 + 128 * k) (List.take (0 + 128 * k + (128 * k + 128 - 128 * k)) (mR b)) = cut (mR b) (128 * k) := by
        rw [Nat.zero_add, List.drop_take]
        congr 1; omega
      rw [w1, w2, Int.toNat_natCast, ec]
      refine ⟨⟨by omega, by omega, by omega⟩, ?_, ⟨⟨rfl, rfl⟩, rfl, rfl⟩, rfl, ⟨k + 1, rfl, by omega, by omega, rfl⟩, by omega⟩
      rw [List.length_take, List.length_drop]; omega
    · refine ⟨⟨⟨rfl, rfl⟩, rfl, rfl⟩, ⟨rfl, by omega, by omega, rfl⟩, ?_⟩
      rintro v l a ⟨rfl, hO⟩
      have o0 := hO.1
      have hl : l.length ≤ 64 := by
        have lo : ∀ (s : St8) (n : Nat), (outN s n).length = 8 * n := by
          intro s n
          induction n with
          | zero => rfl
          | succ n ih => rw [outN, List.length_append, ih, be8_len]; omega
        have := hO.2.1
        rw [hO.2.2, lo]; omega
      rw [bcase_dec, full, show Int.toNat 8 = 8 from rfl, be8w]
      refine ⟨fun h8 => ?_, fun h8 => ?_⟩
      · refine ⟨⟨o0, h8⟩, by omega, ⟨Dg.dg (Nat.le_trans (dg_length_lt (k := 20) (Nat.lt_trans (wv_lt _) (show (2 : Nat) ^ (64 * 1) < 16777216 ^ 20 by decide))) (by decide)), by omega, by omega⟩, ⟨by omega, ?_⟩, ⟨⟨rfl, rfl⟩, rfl, rfl⟩, rfl, ⟨rfl, ?_⟩, ?_⟩
        · rw [List.length_append]
          have : (be8 (List.getD (St8.l (absN beg (mR b) k)) (0 + Int.toNat a) 0) 8).length = 8 := be8_len _ _
          simp only [appLim]; omega
        · rw [wr (by omega)]
          refine ⟨by omega, by omega, ?_⟩
          rw [show (a + 1).toNat = a.toNat + 1 by omega, outN, ← hO.2.2, Nat.zero_add]
        · rw [wr (by omega)]; omega
      · have e : l = digV0 b := by
          rw [hO.2.2, show a.toNat = 8 by have := hO.2.1; omega, ← ref_eq b hb, show (mR b).length / 128 = k by omega]
        show SV.lst (.bytes (List.drop 0 (List.take (0 + l.length) l))) = _
        rw [Nat.zero_add, full, e]
end Go.Proofs.YtbdoieajjhhbpaaDoor.H6
/- Layer 6: the example. -/
set_option maxRecDepth 100000
namespace Go.Proofs.YtbdoieajjhhbpaaDoor.H6
open Go.Sym Go.Dig R1
def blkA : List UInt8 := [97, 98, 99, 128, 0, 0, 0, 0, 0, 0, 0, 0, 0, 0, 0, 0, 0, 0, 0, 0, 0, 0, 0, 0, 0, 0, 0, 0, 0, 0, 0, 0, 0, 0, 0, 0, 0, 0, 0, 0, 0, 0, 0, 0, 0, 0, 0, 0, 0, 0, 0, 0, 0, 0, 0, 0, 0, 0, 0, 0, 0, 0, 0, 0, 0, 0, 0, 0, 0, 0, 0, 0, 0, 0, 0, 0, 0, 0, 0, 0, 0, 0, 0, 0, 0, 0, 0, 0, 0, 0, 0, 0, 0, 0, 0, 0, 0, 0, 0, 0, 0, 0, 0, 0, 0, 0, 0, 0, 0, 0, 0, 0, 0, 0, 0, 0, 0, 0, 0, 0, 0, 0, 0, 0, 0, 0, 0, 24]
deriving instance DecidableEq for St8
theorem mixA : mix0 beg blkA = ⟨15974045371385084602, 14718171817514647857, 1362051152550133410, 765311659573367706, 2419164356178592168, 3943530547489205181, 4993722480620005390, 3069987439919277215⟩ := by decide +kernel
theorem abc : digV [97, 98, 99] = [221, 175, 53, 161, 147, 97, 122, 186, 204, 65, 115, 73, 174, 32, 65, 49, 18, 230, 250, 78, 137, 169, 126, 162, 10, 158, 238, 230, 75, 85, 211, 154, 33, 146, 153, 42, 39, 79, 193, 168, 54, 186, 60, 35, 163, 254, 235, 189, 69, 77, 68, 35, 100, 60, 232, 14, 42, 154, 201, 79, 165, 76, 164, 159] := by
  rw [digV_eq]
  have e : sum0 (absT beg [97, 98, 99]) (absR [97, 98, 99]) (UInt64.ofInt 3) = outN (mixV beg blkA) 8 := by
    unfold sum0
    rw [show padded (absR [97, 98, 99]) (UInt64.ofInt 3) = blkA by decide +kernel]
    rfl
  show sum0 (absT beg [97, 98, 99]) (absR [97, 98, 99]) (UInt64.ofInt 3) = _
  rw [e, mixV_eq, mixA]
  decide +kernel
end Go.Proofs.YtbdoieajjhhbpaaDoor.H6
/- Layer 6's laws: what the bodies come to. -/
set_option maxRecDepth 10000
namespace Go.Proofs.YtbdoieajjhhbpaaDoor.H6
open Go.Sym Go.Dig R1
noncomputable def spA6 : Specs := [(18, .fresh sDSum)]
--STOP digV
theorem vcAwake6 (Q : SV → Prop) : LnRaw tt spA6 9 [] {} Tryd.f17 Q () =
  (((3 : Nat) ≤ (1073741824 : Nat)) ∧
  bcase ((↑(List.length
        (digV
          [UInt8.ofNat (Int.toNat (97 : Int)), UInt8.ofNat (Int.toNat (98 : Int)),
            UInt8.ofNat (Int.toNat (99 : Int))])) :
    Int) ==
  (64 : Int))
    (((((0 : Int) ≤ (0 : Int)) ∧
     ((0 : Int) <
  (↑(List.length
        (digV
          [UInt8.ofNat (Int.toNat (97 : Int)), UInt8.ofNat (Int.toNat (98 : Int)),
            UInt8.ofNat (Int.toNat (99 : Int))])) :
    Int))) ∧
    bcase (List.getD
    (digV [UInt8.ofNat (Int.toNat (97 : Int)), UInt8.ofNat (Int.toNat (98 : Int)), UInt8.ofNat (Int.toNat (99 : Int))])
    ((0 : Nat) + Int.toNat (0 : Int)) (0 : UInt8) ==
  UInt8.ofNat (Int.toNat (221 : Int)))
      (((((0 : Int) ≤ (1 : Int)) ∧
       ((1 : Int) <
  (↑(List.length
        (digV
          [UInt8.ofNat (Int.toNat (97 : Int)), UInt8.ofNat (Int.toNat (98 : Int)),
            UInt8.ofNat (Int.toNat (99 : Int))])) :
    Int))) ∧
      bcase (List.getD
    (digV [UInt8.ofNat (Int.toNat (97 : Int)), UInt8.ofNat (Int.toNat (98 : Int)), UInt8.ofNat (Int.toNat (99 : Int))])
    ((0 : Nat) + Int.toNat (1 : Int)) (0 : UInt8) ==
  UInt8.ofNat (Int.toNat (175 : Int)))
        (((((0 : Int) ≤ (2 : Int)) ∧
         ((2 : Int) <
  (↑(List.length
        (digV
          [UInt8.ofNat (Int.toNat (97 : Int)), UInt8.ofNat (Int.toNat (98 : Int)),
            UInt8.ofNat (Int.toNat (99 : Int))])) :
    Int))) ∧
        bcase (List.getD
    (digV [UInt8.ofNat (Int.toNat (97 : Int)), UInt8.ofNat (Int.toNat (98 : Int)), UInt8.ofNat (Int.toNat (99 : Int))])
    ((0 : Nat) + Int.toNat (2 : Int)) (0 : UInt8) ==
  UInt8.ofNat (Int.toNat (53 : Int)))
          (((((0 : Int) ≤ (63 : Int)) ∧
           ((63 : Int) <
  (↑(List.length
        (digV
          [UInt8.ofNat (Int.toNat (97 : Int)), UInt8.ofNat (Int.toNat (98 : Int)),
            UInt8.ofNat (Int.toNat (99 : Int))])) :
    Int))) ∧
          (Q
  (SV.bool
    (List.getD
        (digV
          [UInt8.ofNat (Int.toNat (97 : Int)), UInt8.ofNat (Int.toNat (98 : Int)), UInt8.ofNat (Int.toNat (99 : Int))])
        ((0 : Nat) + Int.toNat (63 : Int)) (0 : UInt8) ==
      UInt8.ofNat (Int.toNat (159 : Int)))))))
          ((Q (SV.bool false)))))
        ((Q (SV.bool false)))))
      ((Q (SV.bool false)))))
    ((Q (SV.bool false)))) := by kernel_rfl
def sAwake6 : SpecF := fspec (α := Unit) total (fun _ => true)
noncomputable def spL6 : Specs := [(18, .fresh sDSum), (19, sRSum), (10, sSame), (17, sAwake6)]
theorem vcSums6 (b : List UInt8) (Q : SV → Prop) : LnRaw tt spL6 9 [] {} Tryd.f5 Q (b, ()) =
  bcase (decide ((↑(List.length b) : Int) > (2000 : Int)))
    ((Q (SV.bool true)))
    (((List.length b ≤ (1073741824 : Nat)) ∧
    ((List.length b ≤ (1073741824 : Nat)) ∧
    ((List.length (List.drop (0 : Nat) (List.take ((0 : Nat) + List.length (digV b)) (digV b))) ≤ (4294967296 : Nat)) ∧
    (Q (SV.bool (decide (List.drop (0 : Nat) (List.take ((0 : Nat) + List.length (digV b)) (digV b)) = digV b)))))))) := by kernel_rfl
end Go.Proofs.YtbdoieajjhhbpaaDoor.H6
/- Layer 6's laws hold. -/
set_option maxRecDepth 10000
namespace Go.Proofs.YtbdoieajjhhbpaaDoor.H6
open Go.Sym Go.Dig R1
theorem outN_len (s : St8) : ∀ n, (outN s n).length = 8 * n
  | 0 => rfl
  | n + 1 => by rw [outN, List.length_append, outN_len s n, be8_len]; omega
theorem digV_len (b : List UInt8) : (digV b).length = 64 := by
  rw [digV_eq]
  exact outN_len _ 8
theorem spA6_ok : SpecsOK Tryd.prog spA6 := .consF ok_DSumF (.nil _)
theorem ok_Awake6 : SpecOK Tryd.prog 17 sAwake6 := by
  refine fn_okL (by kernel_rfl) tt_ok spA6_ok 9 Tryd.func17 (by decide +kernel) (by kernel_rfl) ?_
  rintro ⟨⟩ _
  refine ⟨_, {}, fun t => t = _, LnVD.of (vcAwake6 _) ?_, svf⟩
  have e : [UInt8.ofNat (Int.toNat (97 : Int)), UInt8.ofNat (Int.toNat (98 : Int)), UInt8.ofNat (Int.toNat (99 : Int))] = ([97, 98, 99] : List UInt8) := rfl
  rw [e, abc]
  refine ⟨by decide, ?_⟩
  rw [bcase_iff]
  refine ⟨fun _ => ⟨by decide, ?_⟩, fun h => absurd h (by decide)⟩
  rw [bcase_iff]
  refine ⟨fun _ => ⟨by decide, ?_⟩, fun h => absurd h (by decide)⟩
  rw [bcase_iff]
  refine ⟨fun _ => ⟨by decide, ?_⟩, fun h => absurd h (by decide)⟩
  rw [bcase_iff]
  refine ⟨fun _ => ⟨by decide, rfl⟩, fun h => absurd h (by decide)⟩
theorem spL6_ok : SpecsOK Tryd.prog spL6 := .consF ok_DSumF <| .cons ok_RSum <| .cons ok_Same <| .cons ok_Awake6 (.nil _)
abbrev sSums6 : SpecF := fspec (α := List UInt8 × Unit) total fun _ => true
theorem ok_Sums6 : SpecOK Tryd.prog 5 sSums6 := by
  refine fn_okL (by kernel_rfl) tt_ok spL6_ok 9 Tryd.func5 (by decide +kernel) (by kernel_rfl) ?_
  rintro ⟨b, _⟩ _
  refine ⟨_, {}, fun t => t = _, LnVD.of (vcSums6 b _) ?_, svf⟩
  rw [bcase_dec]
  refine ⟨fun _ => rfl, fun h => ?_⟩
  have f : List.drop 0 (List.take (0 + (digV b).length) (digV b)) = digV b := by rw [Nat.zero_add, List.take_length]; rfl
  rw [f]
  refine ⟨by omega, by omega, by rw [digV_len]; decide, ?_⟩
  show SV.bool (decide (digV b = digV b)) = SV.bool true
  rw [decide_eq_true rfl]
end Go.Proofs.YtbdoieajjhhbpaaDoor.H6
/- The reference of layer 6: primes and roots. -/
set_option maxRecDepth 10000
namespace Go.Proofs.YtbdoieajjhhbpaaDoor.H6
open Go.Sym Go.Dig R1
/-- No number from 2 on, below i, divides p. -/
def chk (p i : Nat) : Bool := (List.range i).all fun j => decide (j < 2) || p % j != 0
/-- The n-th prime behind p, in so many steps. -/
def nx : Nat → Nat → Nat → Option Nat
  | p, 0, _ => some p
  | _, _ + 1, 0 => none
  | p, n + 1, k + 1 => nx (p + 1) (if chk (p + 1) (p + 1) = true then n else n + 1) k
def iN (R : Nat) (n p : Int) : Prop := 0 ≤ n ∧ 2 ≤ p ∧ ∃ k, p.toNat + k ≤ 500 ∧ nx p.toNat n.toNat k = some R
def iI (n0 p0 n p : Int) (b : Bool) (i : Int) : Prop := n = n0 ∧ p = p0 ∧ 2 ≤ i ∧ i ≤ p ∧ b = chk p.toNat i.toNat
def prV (n : Int) : Nat := (nx 2 n.toNat 498).getD 0
def prOK (n : Int) : Prop := 0 ≤ n ∧ (nx 2 n.toNat 498).isSome = true
/-- A root, bit by bit. -/
def rtN (d w : Nat) : Nat → Nat → Nat
  | 0, x => x
  | i + 1, x => rtN d w i (if (x + 2 ^ i) ^ d ≤ w then x + 2 ^ i else x)
def iT (d w R x : Nat) (i : Int) : Prop := -1 ≤ i ∧ i ≤ 69 ∧ rtN d w (i + 1).toNat x = R ∧ x < 2 ^ 70 ∧ x % 2 ^ (i + 1).toNat = 0
def rtV (n : Nat) (d : Nat) : Nat := rtN d (n * 2 ^ (64 * d)) 70 0
theorem cp_ex : ∃ f : Nat → Nat → Int, f = cmpN := ⟨_, rfl⟩
noncomputable def cmpO : Nat → Nat → Int := Classical.choose cp_ex
theorem cmpO_eq : cmpO = cmpN := Classical.choose_spec cp_ex
end Go.Proofs.YtbdoieajjhhbpaaDoor.H6
/- The reference of layer 6: roots: what the body comes to. -/
set_option maxRecDepth 10000
namespace Go.Proofs.YtbdoieajjhhbpaaDoor.H6
open Go.Sym Go.Dig R1
def lPrime (R : Nat) : Plan := { loops := [
  (0, { β := Unit, α := Int × Int × Unit, same := [], keep := [0, 3], inv := fun _ _ x => iN R x.1 x.2.1, meas := fun _ x => (500 - x.2.1).toNat }),
  (2, { β := Unit, α := Int × Int × Bool × Int × Unit, same := [], keep := [0, 3, 4, 5], inv := fun _ a x => iI a.1 a.2.1 x.1 x.2.1 x.2.2.1 x.2.2.2.1, meas := fun _ x => (x.2.1 - x.2.2.2.1).toNat })] }
theorem vcPrime (R : Nat) (n : Int) (Q : SV → Prop) : LnRaw tt [] 9 [] (lPrime R) Tryd.f22 Q (n, ()) =
  ((iN R n (2 : Int)) ∧
  (∀ a : Int,
  (∀ a_1 : Int,
  ((iN R a a_1) →
  bcase (decide (a > (0 : Int)))
    (((iI a (IntKind.wrap IntKind.i64 (a_1 + (1 : Int))) a (IntKind.wrap IntKind.i64 (a_1 + (1 : Int))) true (2 : Int)) ∧
    (∀ a_2 : Int,
    (∀ a_3 : Int,
    (∀ a_4 : Bool,
    (∀ a_5 : Int,
    ((iI a (IntKind.wrap IntKind.i64 (a_1 + (1 : Int))) a_2 a_3 a_4 a_5) →
    bcase (decide (a_5 < a_3))
      (((a_5 ≠ (0 : Int)) ∧
      bcase (Int.tmod a_3 a_5 == (0 : Int))
        (((() = ()) ∧
        ((iI a (IntKind.wrap IntKind.i64 (a_1 + (1 : Int))) a_2 a_3 false (IntKind.wrap IntKind.i64 (a_5 + (1 : Int)))) ∧
        (Int.toNat (a_3 - IntKind.wrap IntKind.i64 (a_5 + (1 : Int))) < Int.toNat (a_3 - a_5)))))
        (((() = ()) ∧
        ((iI a (IntKind.wrap IntKind.i64 (a_1 + (1 : Int))) a_2 a_3 a_4 (IntKind.wrap IntKind.i64 (a_5 + (1 : Int)))) ∧
        (Int.toNat (a_3 - IntKind.wrap IntKind.i64 (a_5 + (1 : Int))) < Int.toNat (a_3 - a_5)))))))
      (bcase (a_4)
        (((() = ()) ∧
        ((iN R (IntKind.wrap IntKind.i64 (a_2 - (1 : Int))) a_3) ∧
        (Int.toNat ((500 : Int) - a_3) < Int.toNat ((500 : Int) - a_1)))))
        (((() = ()) ∧
        ((iN R a_2 a_3) ∧
        (Int.toNat ((500 : Int) - a_3) < Int.toNat ((500 : Int) - a_1)))))))))))))
    ((Q (SV.i64 a_1))))))) := by kernel_rfl
noncomputable def nCmpO : SpecF := fspec (α := N2) (β := Int) (fun a => some (Sm a.1.n ∧ Sm a.2.1.n)) (fun a => cmpO a.1.n a.2.1.n)
noncomputable def spRt : Specs := [(33, sInt), (36, nShift), (38, sPower), (37, nAdd), (39, nMul), (40, nCmpO), (41, nToWords)]
def lRoot (d w R : Nat) : Plan := { loops := [(0, { β := Int × Num × Unit, α := Num × Int × Unit, same := [1, 6], keep := [5, 7], inv := fun _ _ x => iT d w R x.1.n x.2.1, meas := fun _ x => (1 + x.2.1).toNat })] }
--STOP iN, iI, chk, nx, iT, rtN, Sm, cmpO, wordsL, dg
theorem vcRoot2 (R w : Nat) (n : Int) (Q : SV → Prop) : LnRaw tt spRt 9 [] (lRoot 2 w R) Tryd.f23 Q (n, (2 : Int), ()) =
  ((((0 : Int) ≤ n) ∧
   (n < (9223372036854775808 : Int))) ∧
  (((List.length (dg (Int.toNat n)) ≤ (536870912 : Nat)) ∧
   (((0 : Int) ≤ IntKind.wrap IntKind.i64 ((2 : Int) * (64 : Int))) ∧
   (IntKind.wrap IntKind.i64 ((2 : Int) * (64 : Int)) ≤ (1073741824 : Int)))) ∧
  ((iT (2 : Nat) w R (0 : Nat) (69 : Int)) ∧
  (∀ a : Num,
  (∀ a_1 : Int,
  ((iT (2 : Nat) w R (Num.n a) a_1) →
  bcase (decide (a_1 ≥ (0 : Int)))
    (((((0 : Int) ≤ a_1) ∧
     (a_1 ≤ (1073741824 : Int))) ∧
    (((Sm (Num.n a)) ∧
     (Sm ((2 : Nat) ^ Int.toNat a_1))) ∧
    (((Sm (Num.n a + (2 : Nat) ^ Int.toNat a_1)) ∧
     (Sm (Num.n a + (2 : Nat) ^ Int.toNat a_1))) ∧
    (((Sm ((Num.n a + (2 : Nat) ^ Int.toNat a_1) * (Num.n a + (2 : Nat) ^ Int.toNat a_1))) ∧
     (Sm (Int.toNat n * (2 : Nat) ^ Int.toNat (IntKind.wrap IntKind.i64 ((2 : Int) * (64 : Int)))))) ∧
    bcase (decide
  (cmpO ((Num.n a + (2 : Nat) ^ Int.toNat a_1) * (Num.n a + (2 : Nat) ^ Int.toNat a_1))
      (Int.toNat n * (2 : Nat) ^ Int.toNat (IntKind.wrap IntKind.i64 ((2 : Int) * (64 : Int)))) ≤
    (0 : Int)))
      (((((2 : Int), Num.mk (Int.toNat n * (2 : Nat) ^ Int.toNat (IntKind.wrap IntKind.i64 ((2 : Int) * (64 : Int)))), ()) =
  ((2 : Int), Num.mk (Int.toNat n * (2 : Nat) ^ Int.toNat (IntKind.wrap IntKind.i64 ((2 : Int) * (64 : Int)))), ())) ∧
      ((iT (2 : Nat) w R (Num.n a + (2 : Nat) ^ Int.toNat a_1) (IntKind.wrap IntKind.i64 (a_1 - (1 : Int)))) ∧
      (Int.toNat ((1 : Int) + IntKind.wrap IntKind.i64 (a_1 - (1 : Int))) < Int.toNat ((1 : Int) + a_1)))))
      (((((2 : Int), Num.mk (Int.toNat n * (2 : Nat) ^ Int.toNat (IntKind.wrap IntKind.i64 ((2 : Int) * (64 : Int)))), ()) =
  ((2 : Int), Num.mk (Int.toNat n * (2 : Nat) ^ Int.toNat (IntKind.wrap IntKind.i64 ((2 : Int) * (64 : Int)))), ())) ∧
      ((iT (2 : Nat) w R (Num.n a) (IntKind.wrap IntKind.i64 (a_1 - (1 : Int)))) ∧
      (Int.toNat ((1 : Int) + IntKind.wrap IntKind.i64 (a_1 - (1 : Int))) < Int.toNat ((1 : Int) + a_1))))))))))
    ((((Sm (Num.n a)) ∧
     (((0 : Int) ≤ (1 : Int)) ∧
     ((1 : Int) ≤ (1048576 : Int)))) ∧
    ((((0 : Int) ≤ (0 : Int)) ∧
     ((0 : Int) < (↑(List.length (wordsL (Num.n a) (Int.toNat (1 : Int)))) : Int))) ∧
    (Q (SV.u64 (List.getD (wordsL (Num.n a) (Int.toNat (1 : Int))) (Int.toNat (0 : Int)) (0 : UInt64))))))))))))) := by kernel_rfl
theorem vcRoot3 (R w : Nat) (n : Int) (Q : SV → Prop) : LnRaw tt spRt 9 [] (lRoot 3 w R) Tryd.f23 Q (n, (3 : Int), ()) =
  ((((0 : Int) ≤ n) ∧
   (n < (9223372036854775808 : Int))) ∧
  (((List.length (dg (Int.toNat n)) ≤ (536870912 : Nat)) ∧
   (((0 : Int) ≤ IntKind.wrap IntKind.i64 ((3 : Int) * (64 : Int))) ∧
   (IntKind.wrap IntKind.i64 ((3 : Int) * (64 : Int)) ≤ (1073741824 : Int)))) ∧
  ((iT (3 : Nat) w R (0 : Nat) (69 : Int)) ∧
  (∀ a : Num,
  (∀ a_1 : Int,
  ((iT (3 : Nat) w R (Num.n a) a_1) →
  bcase (decide (a_1 ≥ (0 : Int)))
    (((((0 : Int) ≤ a_1) ∧
     (a_1 ≤ (1073741824 : Int))) ∧
    (((Sm (Num.n a)) ∧
     (Sm ((2 : Nat) ^ Int.toNat a_1))) ∧
    (((Sm (Num.n a + (2 : Nat) ^ Int.toNat a_1)) ∧
     (Sm (Num.n a + (2 : Nat) ^ Int.toNat a_1))) ∧
    (((Sm ((Num.n a + (2 : Nat) ^ Int.toNat a_1) * (Num.n a + (2 : Nat) ^ Int.toNat a_1))) ∧
     (Sm (Num.n a + (2 : Nat) ^ Int.toNat a_1))) ∧
    (((Sm
  ((Num.n a + (2 : Nat) ^ Int.toNat a_1) * (Num.n a + (2 : Nat) ^ Int.toNat a_1) *
    (Num.n a + (2 : Nat) ^ Int.toNat a_1))) ∧
     (Sm (Int.toNat n * (2 : Nat) ^ Int.toNat (IntKind.wrap IntKind.i64 ((3 : Int) * (64 : Int)))))) ∧
    bcase (decide
  (cmpO
      ((Num.n a + (2 : Nat) ^ Int.toNat a_1) * (Num.n a + (2 : Nat) ^ Int.toNat a_1) *
        (Num.n a + (2 : Nat) ^ Int.toNat a_1))
      (Int.toNat n * (2 : Nat) ^ Int.toNat (IntKind.wrap IntKind.i64 ((3 : Int) * (64 : Int)))) ≤
    (0 : Int)))
      (((((3 : Int), Num.mk (Int.toNat n * (2 : Nat) ^ Int.toNat (IntKind.wrap IntKind.i64 ((3 : Int) * (64 : Int)))), ()) =
  ((3 : Int), Num.mk (Int.toNat n * (2 : Nat) ^ Int.toNat (IntKind.wrap IntKind.i64 ((3 : Int) * (64 : Int)))), ())) ∧
      ((iT (3 : Nat) w R (Num.n a + (2 : Nat) ^ Int.toNat a_1) (IntKind.wrap IntKind.i64 (a_1 - (1 : Int)))) ∧
      (Int.toNat ((1 : Int) + IntKind.wrap IntKind.i64 (a_1 - (1 : Int))) < Int.toNat ((1 : Int) + a_1)))))
      (((((3 : Int), Num.mk (Int.toNat n * (2 : Nat) ^ Int.toNat (IntKind.wrap IntKind.i64 ((3 : Int) * (64 : Int)))), ()) =
  ((3 : Int), Num.mk (Int.toNat n * (2 : Nat) ^ Int.toNat (IntKind.wrap IntKind.i64 ((3 : Int) * (64 : Int)))), ())) ∧
      ((iT (3 : Nat) w R (Num.n a) (IntKind.wrap IntKind.i64 (a_1 - (1 : Int)))) ∧
      (Int.toNat ((1 : Int) + IntKind.wrap IntKind.i64 (a_1 - (1 : Int))) < Int.toNat ((1 : Int) + a_1)))))))))))
    ((((Sm (Num.n a)) ∧
     (((0 : Int) ≤ (1 : Int)) ∧
     ((1 : Int) ≤ (1048576 : Int)))) ∧
    ((((0 : Int) ≤ (0 : Int)) ∧
     ((0 : Int) < (↑(List.length (wordsL (Num.n a) (Int.toNat (1 : Int)))) : Int))) ∧
    (Q (SV.u64 (List.getD (wordsL (Num.n a) (Int.toNat (1 : Int))) (Int.toNat (0 : Int)) (0 : UInt64))))))))))))) := by kernel_rfl
end Go.Proofs.YtbdoieajjhhbpaaDoor.H6
/- The reference of layer 6: primes. -/
set_option maxRecDepth 10000
namespace Go.Proofs.YtbdoieajjhhbpaaDoor.H6
open Go.Sym Go.Dig R1
theorem chk_two (p : Nat) : chk p 2 = true := by simp [chk, List.range_succ]
theorem chk_succ (p i : Nat) (h : 2 ≤ i) : chk p (i + 1) = (chk p i && (p % i != 0)) := by
  have : decide (i < 2) = false := decide_eq_false (by omega)
  simp only [chk, List.range_succ, List.all_append, List.all_cons, List.all_nil, Bool.and_true, this, Bool.false_or]
theorem nx_le : ∀ (k p n r : Nat), nx p n k = some r → n ≤ k
  | _, _, 0, _, _ => Nat.zero_le _
  | 0, _, n + 1, r, h => by simp [nx] at h
  | k + 1, p, n + 1, r, h => by
    rw [nx] at h
    have := nx_le k _ _ _ h
    split at this <;> omega
def sPrime : SpecF := fspec (α := Int × Unit) (fun a => some (prOK a.1)) (fun a => (prV a.1 : Int))
theorem ok_Prime : SpecOK Tryd.prog 22 sPrime := by
  refine fn_okL (by kernel_rfl) tt_ok (.nil _) 9 Tryd.func22 (by decide +kernel) (by kernel_rfl) ?_
  rintro ⟨n, _⟩ ⟨h0, h1⟩
  refine ⟨[], lPrime (prV n), fun x => x = .i64 (prV n : Int), LnVD.of (vcPrime (prV n) n _) ?_, svf⟩
  have hR : nx 2 n.toNat 498 = some (prV n) := by
    show nx 2 n.toNat 498 = some ((nx 2 n.toNat 498).getD 0)
    cases e : nx 2 n.toNat 498 with
    | none => rw [e] at h1; cases h1
    | some r => rfl
  refine ⟨⟨h0, by omega, 498, by decide, hR⟩, ?_⟩
  rintro a p ⟨ha, hp, k, hk, hn⟩
  rw [bcase_dec]
  refine ⟨fun h => ?_, fun h => ?_⟩
  · obtain ⟨m, rfl⟩ : ∃ m : Nat, a = ((m + 1 : Nat) : Int) := ⟨(a - 1).toNat, by omega⟩
    rw [Int.toNat_natCast] at hn
    have hm := nx_le _ _ _ _ hn
    cases k with
    | zero => simp [nx] at hn
    | succ k =>
      rw [nx] at hn
      have e1 : IntKind.wrap .i64 (p + 1) = p + 1 := wr (by omega)
      rw [e1]
      refine ⟨⟨rfl, rfl, by omega, by omega, (chk_two _).symm⟩, ?_⟩
      rintro a2 p2 b i ⟨rfl, rfl, hi, hi2, rfl⟩
      rw [bcase_dec]
      refine ⟨fun hlt => ?_, fun hlt => ?_⟩
      · have e2 : IntKind.wrap .i64 (i + 1) = i + 1 := wr (by omega)
        have e3 : Int.tmod (p + 1) i = (((p + 1).toNat % i.toNat : Nat) : Int) := by
          rw [tmod_nn (by omega)]
          obtain ⟨x, hx⟩ := Int.eq_ofNat_of_zero_le (show 0 ≤ p + 1 by omega)
          obtain ⟨y, hy⟩ := Int.eq_ofNat_of_zero_le (show 0 ≤ i by omega)
          rw [hx, hy, Int.toNat_natCast, Int.toNat_natCast, Int.natCast_emod]
        have e4 : (i + 1).toNat = i.toNat + 1 := by omega
        refine ⟨by omega, ?_⟩
        rw [bcase_iff, e2, e3]
        refine ⟨fun hz => ?_, fun hz => ?_⟩
        · have hz' := beq_iff_eq.1 hz
          refine ⟨rfl, ⟨rfl, rfl, by omega, by omega, ?_⟩, by omega⟩
          rw [e4, chk_succ _ _ (by omega), show (p + 1).toNat % i.toNat = 0 by omega]
          simp
        · have hz' : ((((p + 1).toNat % i.toNat : Nat) : Int)) ≠ 0 := by
            intro e; rw [e] at hz; exact absurd hz (by decide)
          refine ⟨rfl, ⟨rfl, rfl, by omega, by omega, ?_⟩, by omega⟩
          have : ((p + 1).toNat % i.toNat != 0) = true := bne_iff_ne.2 (by omega)
          rw [e4, chk_succ _ _ (by omega), this, Bool.and_true]
      · have ei : i.toNat = p.toNat + 1 := by omega
        have e5 : (p + 1).toNat = p.toNat + 1 := by omega
        rw [bcase_iff, e5, ei]
        refine ⟨fun hb => ?_, fun hb => ?_⟩
        · rw [if_pos hb] at hn
          refine ⟨rfl, ⟨by rw [wr (by omega)]; omega, by omega, k, by omega, ?_⟩, by omega⟩
          rw [wr (by omega), show (((m + 1 : Nat) : Int) - 1).toNat = m by omega, e5]
          exact hn
        · rw [if_neg (by rw [hb]; simp)] at hn
          refine ⟨rfl, ⟨by omega, by omega, k, by omega, ?_⟩, by omega⟩
          rw [Int.toNat_natCast, e5]
          exact hn
  · have : a.toNat = 0 := by omega
    rw [this] at hn
    have e : p.toNat = prV n := by
      cases k <;> simpa [nx] using hn
    show SV.i64 p = SV.i64 (prV n : Int)
    rw [← e, Int.toNat_of_nonneg (by omega)]
end Go.Proofs.YtbdoieajjhhbpaaDoor.H6
/- The reference of layer 6: roots. -/
set_option maxRecDepth 10000
namespace Go.Proofs.YtbdoieajjhhbpaaDoor.H6
open Go.Sym Go.Dig R1
theorem ok_nCmpO : SpecOK Tryd.prog 40 nCmpO := by
  unfold nCmpO
  rw [cmpO_eq]
  exact ok_nCmp
theorem spRt_ok : SpecsOK Tryd.prog spRt := .cons ok_Int <| .cons ok_nShift <| .cons ok_Power <| .cons ok_nAdd <| .cons ok_nMul <| .cons ok_nCmpO <| .cons ok_nToWords (.nil _)
theorem cmpO_le (x y : Nat) : cmpO x y ≤ 0 ↔ x ≤ y := by
  rw [cmpO_eq]; unfold cmpN
  split
  · exact ⟨fun _ => by omega, fun _ => by decide⟩
  · split
    · exact ⟨fun h => absurd h (by decide), fun h => by omega⟩
    · exact ⟨fun _ => by omega, fun _ => by decide⟩
theorem iT_step {d w R x : Nat} {i : Int} (h : iT d w R x i) (hi : 0 ≤ i) : iT d w R (if (x + 2 ^ i.toNat) ^ d ≤ w then x + 2 ^ i.toNat else x) (IntKind.wrap .i64 (i - 1)) ∧ x + 2 ^ i.toNat < 2 ^ 70 := by
  obtain ⟨h1, h2, h3, h4, h5⟩ := h
  obtain ⟨k, rfl⟩ := Int.eq_ofNat_of_zero_le hi
  rw [wr (by omega)]
  simp only [Int.ofNat_eq_natCast, Int.toNat_natCast] at *
  have e1 : ((k : Int) + 1).toNat = k + 1 := by omega
  have e2 : ((k : Int) - 1 + 1).toNat = k := by omega
  rw [e1] at h3 h5
  have hk : k ≤ 69 := by omega
  obtain ⟨q, hq⟩ := Nat.dvd_of_mod_eq_zero h5
  have hp : 2 ^ 70 = 2 ^ (k + 1) * 2 ^ (69 - k) := by rw [← Nat.pow_add]; congr 1; omega
  have hlt : q < 2 ^ (69 - k) := by
    rw [hq, hp] at h4
    exact Nat.lt_of_mul_lt_mul_left h4
  have h6 : x + 2 ^ k < 2 ^ 70 := by
    have : 2 ^ (k + 1) * (q + 1) ≤ 2 ^ (k + 1) * 2 ^ (69 - k) := Nat.mul_le_mul_left _ hlt
    rw [Nat.mul_add, ← hq, Nat.mul_one, Nat.pow_succ, ← Nat.pow_succ, ← hp] at this
    have h0 : 0 < 2 ^ k := Nat.pos_of_ne_zero (by simp)
    rw [Nat.pow_succ] at this
    omega
  refine ⟨⟨by omega, by omega, ?_, ?_, ?_⟩, h6⟩
  · rw [e2, ← h3, rtN]
  · split <;> omega
  · rw [e2]
    have e3 : x % 2 ^ k = 0 := by
      rw [hq, Nat.pow_succ, Nat.mul_assoc]; exact Nat.mul_mod_right _ _
    split
    · rw [Nat.add_mod_right]; exact e3
    · exact e3
end Go.Proofs.YtbdoieajjhhbpaaDoor.H6
/- The reference of layer 6: roots, told. -/
set_option maxRecDepth 10000
namespace Go.Proofs.YtbdoieajjhhbpaaDoor.H6
open Go.Sym Go.Dig R1
def outRt (x : Nat) : UInt64 := List.getD (wordsL x (Int.toNat 1)) (Int.toNat 0) 0
def sRoot : SpecF := fspec (α := Int × Int × Unit) (fun a => some (0 ≤ a.1 ∧ a.1 < 1000 ∧ (a.2.1 = 2 ∨ a.2.1 = 3))) (fun a => outRt (rtV a.1.toNat a.2.1.toNat))
theorem sm2 {n : Nat} (h : n < 2 ^ 240) : Sm n := Sm.of 10 h (by decide)
theorem w64 : IntKind.wrap .i64 (2 * 64) = 128 := by decide
theorem w96 : IntKind.wrap .i64 (3 * 64) = 192 := by decide
theorem mul_lt {a b : Nat} {i j : Nat} (h : a < 2 ^ i) (k : b < 2 ^ j) : a * b < 2 ^ (i + j) := by
  rw [Nat.pow_add]; exact Nat.mul_lt_mul'' h k
theorem ok_Root : SpecOK Tryd.prog 23 sRoot := by
  refine fn_okL (by kernel_rfl) tt_ok spRt_ok 9 Tryd.func23 (by decide +kernel) (by kernel_rfl) ?_
  rintro ⟨n, d, _⟩ ⟨h0, h1, hd⟩
  replace h0 : 0 ≤ n := h0
  replace h1 : n < 1000 := h1
  replace hd : d = 2 ∨ d = 3 := hd
  have hn : n.toNat < 2 ^ 10 := by omega
  have hdg : (dg n.toNat).length ≤ 536870912 := Nat.le_trans (dg_length_lt (k := 1) (by omega)) (by decide)
  rcases hd with rfl | rfl
  · refine ⟨[], lRoot 2 (n.toNat * 2 ^ 128) (rtV n.toNat 2), fun x => x = .u64 (outRt (rtV n.toNat 2)), LnVD.of (vcRoot2 _ _ n _) ?_, svf⟩
    rw [w64]
    refine ⟨⟨h0, by omega⟩, ⟨hdg, by decide, by decide⟩, ⟨by omega, by omega, rfl, by decide, by decide⟩, ?_⟩
    rintro ⟨x⟩ i hT
    rw [bcase_dec]
    refine ⟨fun hi => ?_, fun hi => ?_⟩
    · obtain ⟨hs, hl⟩ := iT_step hT hi
      have hi2 := hT.2.1
      have hx := hT.2.2.2.1
      refine ⟨⟨hi, by omega⟩, ⟨sm2 (Nat.lt_trans hx (by decide)), sm2 ?_⟩, ⟨sm2 (Nat.lt_trans hl (by decide)), sm2 (Nat.lt_trans hl (by decide))⟩, ⟨sm2 (Nat.lt_trans (mul_lt hl hl) (by decide)), sm2 (Nat.lt_trans (mul_lt hn (show 2 ^ 128 < 2 ^ 129 by decide)) (by decide))⟩, ?_⟩
      · exact Nat.lt_trans (Nat.lt_of_le_of_lt (Nat.le_add_left _ x) hl) (by decide)
      · rw [bcase_dec]
        have hw : IntKind.wrap .i64 (i - 1) = i - 1 := wr (by omega)
        refine ⟨fun hc => ⟨rfl, ?_, by rw [hw]; omega⟩, fun hc => ⟨rfl, ?_, by rw [hw]; omega⟩⟩
        · rw [if_pos (by rw [Nat.pow_two]; exact (cmpO_le _ _).1 hc)] at hs
          exact hs
        · rw [if_neg (by rw [Nat.pow_two]; exact fun h => hc ((cmpO_le _ _).2 h))] at hs
          exact hs
    · have e : x = rtV n.toNat 2 := by
        obtain ⟨k1, k2, k3, _⟩ := hT
        rw [show (i + 1).toNat = 0 by omega] at k3
        exact k3
      refine ⟨⟨sm2 (Nat.lt_trans hT.2.2.2.1 (by decide)), by omega, by omega⟩, ⟨by omega, by simp [wordsL]⟩, ?_⟩
      rw [← e]; rfl
  · refine ⟨[], lRoot 3 (n.toNat * 2 ^ 192) (rtV n.toNat 3), fun x => x = .u64 (outRt (rtV n.toNat 3)), LnVD.of (vcRoot3 _ _ n _) ?_, svf⟩
    rw [w96]
    refine ⟨⟨h0, by omega⟩, ⟨hdg, by decide, by decide⟩, ⟨by omega, by omega, rfl, by decide, by decide⟩, ?_⟩
    rintro ⟨x⟩ i hT
    rw [bcase_dec]
    refine ⟨fun hi => ?_, fun hi => ?_⟩
    · obtain ⟨hs, hl⟩ := iT_step hT hi
      have hi2 := hT.2.1
      have hx := hT.2.2.2.1
      refine ⟨⟨hi, by omega⟩, ⟨sm2 (Nat.lt_trans hx (by decide)), sm2 ?_⟩, ⟨sm2 (Nat.lt_trans hl (by decide)), sm2 (Nat.lt_trans hl (by decide))⟩, ⟨sm2 (Nat.lt_trans (mul_lt hl hl) (by decide)), sm2 (Nat.lt_trans hl (by decide))⟩, ⟨sm2 (Nat.lt_trans (mul_lt (mul_lt hl hl) hl) (by decide)), sm2 (Nat.lt_trans (mul_lt hn (show 2 ^ 192 < 2 ^ 193 by decide)) (by decide))⟩, ?_⟩
      · exact Nat.lt_trans (Nat.lt_of_le_of_lt (Nat.le_add_left _ x) hl) (by decide)
      · rw [bcase_dec]
        have hw : IntKind.wrap .i64 (i - 1) = i - 1 := wr (by omega)
        refine ⟨fun hc => ⟨rfl, ?_, by rw [hw]; omega⟩, fun hc => ⟨rfl, ?_, by rw [hw]; omega⟩⟩
        · rw [if_pos (by rw [Nat.pow_succ, Nat.pow_two]; exact (cmpO_le _ _).1 hc)] at hs
          exact hs
        · rw [if_neg (by rw [Nat.pow_succ, Nat.pow_two]; exact fun h => hc ((cmpO_le _ _).2 h))] at hs
          exact hs
    · have e : x = rtV n.toNat 3 := by
        obtain ⟨k1, k2, k3, _⟩ := hT
        rw [show (i + 1).toNat = 0 by omega] at k3
        exact k3
      refine ⟨⟨sm2 (Nat.lt_trans hT.2.2.2.1 (by decide)), by omega, by omega⟩, ⟨by omega, by simp [wordsL]⟩, ?_⟩
      rw [← e]; rfl
theorem rv_ex : ∃ f : Int → Int → UInt64, f = fun n d => outRt (rtV n.toNat d.toNat) := ⟨_, rfl⟩
/-- A root's bits, told so that no machine computes them. -/
noncomputable def rvO : Int → Int → UInt64 := Classical.choose rv_ex
theorem rvO_eq : rvO = fun n d => outRt (rtV n.toNat d.toNat) := Classical.choose_spec rv_ex
noncomputable def sRootO : SpecF := fspec (α := Int × Int × Unit) (fun a => some (0 ≤ a.1 ∧ a.1 < 1000 ∧ (a.2.1 = 2 ∨ a.2.1 = 3))) (fun a => rvO a.1 a.2.1)
theorem ok_RootO : SpecOK Tryd.prog 23 sRootO := by
  unfold sRootO
  rw [rvO_eq]
  exact ok_Root
noncomputable def spT6 : Specs := [(17, sAwake6), (20, sConst), (21, .fresh sBegR), (22, sPrime), (23, sRootO)]
theorem spT6_ok : SpecsOK Tryd.prog spT6 := .cons ok_Awake6 <| .cons ok_Const <| .consF ok_BegR <| .cons ok_Prime <| .cons ok_RootO (.nil _)
def iTab (v : St8) (i : Int) : Prop := v = beg ∧ 0 ≤ i ∧ i ≤ 80
def lTab : Plan := { loops := [(0, { β := List UInt64 × Int × Unit, α := O8 × Int × Unit, same := [1, 18], keep := [2, 19], inv := fun _ _ x => iTab x.1.v x.2.1, meas := fun _ x => (80 - x.2.1).toNat })] }
end Go.Proofs.YtbdoieajjhhbpaaDoor.H6
/- Layer 6's law of tables: what the body comes to. -/
set_option maxRecDepth 10000
namespace Go.Proofs.YtbdoieajjhhbpaaDoor.H6
open Go.Sym Go.Dig R1
--STOP iTab, kTab, prV, prOK, rvO, beg, St8.l
theorem vcTab (Q : SV → Prop) : LnRaw tt spT6 9 [(4, 2, .b false), (4, 6, .b false)] lTab Tryd.f6 Q () =
  ((((↑(List.length kTab) : Int) != (80 : Int)) = false) ∧
  ((((↑(List.length (St8.l beg)) : Int) != (8 : Int)) = false) ∧
  ((((0 : Nat) = (0 : Nat)) ∧
   (List.length (St8.l beg) = List.length (St8.l beg))) ∧
  ((iTab beg (0 : Int)) ∧
  (∀ v : St8,
  (∀ a : Int,
  ((iTab v a) →
  bcase (decide (a < (↑(List.length kTab) : Int)))
    (((prOK a) ∧
    ((((0 : Int) ≤ a) ∧
     (a < (↑(List.length kTab) : Int))) ∧
    ((((0 : Int) ≤ (↑(prV a) : Int)) ∧
     (((↑(prV a) : Int) < (1000 : Int)) ∧
     ((3 : Int) = (2 : Int) ∨ (3 : Int) = (3 : Int)))) ∧
    bcase (List.getD kTab (Int.toNat a) (0 : UInt64) != rvO (↑(prV a) : Int) (3 : Int))
      ((Q (SV.bool false)))
      (bcase (decide (a < (8 : Int)))
        (((((0 : Int) ≤ a) ∧
         (a < (↑(8 : Nat) : Int))) ∧
        ((((0 : Int) ≤ (↑(prV a) : Int)) ∧
         (((↑(prV a) : Int) < (1000 : Int)) ∧
         ((2 : Int) = (2 : Int) ∨ (2 : Int) = (3 : Int)))) ∧
        bcase (List.getD (St8.l v) ((0 : Nat) + Int.toNat a) (0 : UInt64) != rvO (↑(prV a) : Int) (2 : Int))
          ((Q (SV.bool false)))
          (((((0 : Nat) = (0 : Nat)) ∧
           ((8 : Nat) = List.length (St8.l v))) ∧
          (((kTab, (↑(List.length kTab) : Int), ()) = (kTab, (↑(List.length kTab) : Int), ())) ∧
          ((iTab v (IntKind.wrap IntKind.i64 (a + (1 : Int)))) ∧
          (Int.toNat ((80 : Int) - IntKind.wrap IntKind.i64 (a + (1 : Int))) < Int.toNat ((80 : Int) - a)))))))))
        (((((0 : Nat) = (0 : Nat)) ∧
         ((8 : Nat) = List.length (St8.l v))) ∧
        (((kTab, (↑(List.length kTab) : Int), ()) = (kTab, (↑(List.length kTab) : Int), ())) ∧
        ((iTab v (IntKind.wrap IntKind.i64 (a + (1 : Int)))) ∧
        (Int.toNat ((80 : Int) - IntKind.wrap IntKind.i64 (a + (1 : Int))) < Int.toNat ((80 : Int) - a)))))))))))
    ((Q (SV.bool true)))))))))) := by kernel_rfl
end Go.Proofs.YtbdoieajjhhbpaaDoor.H6
/- Layer 6's law of tables holds. -/
set_option maxRecDepth 100000
namespace Go.Proofs.YtbdoieajjhhbpaaDoor.H6
open Go.Sym Go.Dig R1
theorem tabs : ∀ i : Fin 80, (nx 2 i.val 498).isSome = true ∧ (nx 2 i.val 498).getD 0 < 1000 ∧ kTab.getD i.val 0 = outRt (rtV ((nx 2 i.val 498).getD 0) 3) ∧ (i.val < 8 → beg.l.getD i.val 0 = outRt (rtV ((nx 2 i.val 498).getD 0) 2)) := by decide +kernel
theorem tab_at {a : Int} (h0 : 0 ≤ a) (h : a < 80) : prOK a ∧ prV a < 1000 ∧ kTab.getD a.toNat 0 = rvO (prV a : Int) 3 ∧ (a < 8 → beg.l.getD (0 + a.toNat) 0 = rvO (prV a : Int) 2) := by
  obtain ⟨t1, t2, t3, t4⟩ := tabs ⟨a.toNat, by omega⟩
  rw [rvO_eq]
  refine ⟨⟨h0, t1⟩, t2, ?_, fun h8 => ?_⟩
  · show _ = outRt (rtV (Int.toNat ((prV a : Nat) : Int)) 3)
    rw [Int.toNat_natCast]; exact t3
  · show _ = outRt (rtV (Int.toNat ((prV a : Nat) : Int)) 2)
    rw [Int.toNat_natCast, Nat.zero_add]; exact t4 (show a.toNat < 8 by omega)
abbrev sTab : SpecF := fspec (α := Unit) total fun _ => true
theorem ok_Tab : SpecOK Tryd.prog 6 sTab := by
  refine fn_okL (by kernel_rfl) tt_ok spT6_ok 9 Tryd.func6 (by decide +kernel) (by kernel_rfl) ?_
  rintro ⟨⟩ _
  refine ⟨_, lTab, fun t => t = _, LnVD.of (vcTab _) ?_, svf⟩
  have lk : kTab.length = 80 := by decide +kernel
  rw [lk]
  refine ⟨by decide, by decide, ⟨rfl, rfl⟩, ⟨rfl, by decide, by decide⟩, ?_⟩
  rintro v a ⟨rfl, h0, h1⟩
  rw [bcase_dec]
  refine ⟨fun h => ?_, fun _ => rfl⟩
  replace h : a < 80 := h
  obtain ⟨t1, t2, t3, t4⟩ := tab_at h0 h
  have hw : IntKind.wrap .i64 (a + 1) = a + 1 := wr (by omega)
  refine ⟨t1, ⟨h0, h⟩, ⟨by omega, by omega, .inr rfl⟩, ?_⟩
  rw [bcase_iff, hw]
  refine ⟨fun e => absurd t3 (bne_iff_ne.1 e), fun _ => ?_⟩
  rw [bcase_dec]
  refine ⟨fun h8 => ⟨⟨h0, h8⟩, ⟨by omega, by omega, .inl rfl⟩, ?_⟩, fun _ => ⟨⟨rfl, rfl⟩, rfl, ⟨rfl, by omega, by omega⟩, by omega⟩⟩
  rw [bcase_iff]
  exact ⟨fun e => absurd (t4 h8) (bne_iff_ne.1 e), fun _ => ⟨⟨rfl, rfl⟩, rfl, ⟨rfl, by omega, by omega⟩, by omega⟩⟩
end Go.Proofs.YtbdoieajjhhbpaaDoor.H6
