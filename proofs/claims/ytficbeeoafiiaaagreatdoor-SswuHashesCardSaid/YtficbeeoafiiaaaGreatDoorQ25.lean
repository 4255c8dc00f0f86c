/- A symbolic machine for Go functions, and what the functions that the law reaches come to: DgK, DgL, DgM, DgN, DgO, DgP, DgQ, DgR, DgS. -/
import Derived.Test.YtficbeeoafiiaaaGreatDoorQ24
/- The reference of layer 5: a block is the program's. -/
set_option maxRecDepth 10000
namespace Go.Proofs.YtficbeeoafiiaaaGreatDoor.H5
open Go.Sym Go.Dig R1
theorem turn_eq (x : UInt32) : turnF x 7 = (shr32 x 7 ||| shl32 x 25) ∧ turnF x 18 = (shr32 x 18 ||| shl32 x 14) ∧ turnF x 17 = (shr32 x 17 ||| shl32 x 15) ∧ turnF x 19 = (shr32 x 19 ||| shl32 x 13) ∧ turnF x 6 = (shr32 x 6 ||| shl32 x 26) ∧ turnF x 11 = (shr32 x 11 ||| shl32 x 21) ∧ turnF x 25 = (shr32 x 25 ||| shl32 x 7) ∧ turnF x 2 = (shr32 x 2 ||| shl32 x 30) ∧ turnF x 13 = (shr32 x 13 ||| shl32 x 19) ∧ turnF x 22 = (shr32 x 22 ||| shl32 x 10) := by
  have e : ∀ (n : Int) (k : Nat), (UInt64.ofInt (IntKind.wrap .i64 (0 - n)) &&& 31).toNat = 32 - k → (32 - (UInt64.ofInt (IntKind.wrap .i64 (0 - n)) &&& 31)).toNat = k → turnF x n = (shr32 x k ||| shl32 x (32 - k)) := by
    intro n k h1 h2
    unfold turnF rotl
    rw [h1, h2, UInt32.or_comm]
  exact ⟨e 7 7 (by decide +kernel) (by decide +kernel), e 18 18 (by decide +kernel) (by decide +kernel), e 17 17 (by decide +kernel) (by decide +kernel), e 19 19 (by decide +kernel) (by decide +kernel), e 6 6 (by decide +kernel) (by decide +kernel), e 11 11 (by decide +kernel) (by decide +kernel), e 25 25 (by decide +kernel) (by decide +kernel), e 2 2 (by decide +kernel) (by decide +kernel), e 13 13 (by decide +kernel) (by decide +kernel), e 22 22 (by decide +kernel) (by decide +kernel)⟩
theorem ok_TurnR : SpecOK Tryz.prog 94 sTurnR := by
  refine fn_okL (by kernel_rfl) tt_ok (.nil _) 3 Tryz.func94 (by decide +kernel) (by kernel_rfl) ?_
  rintro ⟨x, n, _⟩ hn
  obtain ⟨e1, e2, e3, e4, e5, e6, e7, e8, e9, e10⟩ := turn_eq x
  replace hn : nOK n := hn
  simp only [nOK, List.mem_cons, List.not_mem_nil, or_false] at hn
  rcases hn with rfl | rfl | rfl | rfl | rfl | rfl | rfl | rfl | rfl | rfl
  · exact ⟨_, {}, fun t => t = _, LnVD.of (vcTurnR7 x _) (congrArg SV.u32 e1.symm), svf⟩
  · exact ⟨_, {}, fun t => t = _, LnVD.of (vcTurnR18 x _) (congrArg SV.u32 e2.symm), svf⟩
  · exact ⟨_, {}, fun t => t = _, LnVD.of (vcTurnR17 x _) (congrArg SV.u32 e3.symm), svf⟩
  · exact ⟨_, {}, fun t => t = _, LnVD.of (vcTurnR19 x _) (congrArg SV.u32 e4.symm), svf⟩
  · exact ⟨_, {}, fun t => t = _, LnVD.of (vcTurnR6 x _) (congrArg SV.u32 e5.symm), svf⟩
  · exact ⟨_, {}, fun t => t = _, LnVD.of (vcTurnR11 x _) (congrArg SV.u32 e6.symm), svf⟩
  · exact ⟨_, {}, fun t => t = _, LnVD.of (vcTurnR25 x _) (congrArg SV.u32 e7.symm), svf⟩
  · exact ⟨_, {}, fun t => t = _, LnVD.of (vcTurnR2 x _) (congrArg SV.u32 e8.symm), svf⟩
  · exact ⟨_, {}, fun t => t = _, LnVD.of (vcTurnR13 x _) (congrArg SV.u32 e9.symm), svf⟩
  · exact ⟨_, {}, fun t => t = _, LnVD.of (vcTurnR22 x _) (congrArg SV.u32 e10.symm), svf⟩
theorem ok_Const : SpecOK Tryz.prog 93 sConst := by
  refine fn_okL (by kernel_rfl) tt_ok (.nil _) 9 Tryz.func93 (by decide +kernel) (by kernel_rfl) ?_
  rintro ⟨⟩ _
  exact ⟨_, {}, fun t => t = _, LnVD.of (vcConst _) rfl, svf⟩
theorem ok_BegR : FSpecOK Tryz.prog 63 sBegR := by
  refine fn_okF (by kernel_rfl) tt_ok (.nil _) 9 Tryz.func63 (by decide +kernel) (by kernel_rfl) ?_
  rintro ⟨⟩ _
  exact ⟨[], {}, fun x => x = _, LfVD.of (vcBegR _) rfl, fun x h at_ n w v r => by have h' : x = _ := h; subst h'; exact r⟩
theorem spR5_ok : SpecsOK Tryz.prog spR5 := .cons ok_TurnR <| .cons ok_Const (.nil _)

theorem shl8or (x : UInt32) (c : UInt8) : shl32 x 8 ||| c.toUInt32 = x * 256 + c.toUInt32 := by
  apply UInt32.toNat_inj.1
  have hc : c.toUInt32.toNat < 256 := by rw [UInt8.toNat_toUInt32]; exact c.toNat_lt
  have hx := x.toNat_lt
  rw [UInt32.toNat_or, UInt32.toNat_add, UInt32.toNat_mul]
  have e1 : (shl32 x 8).toNat = (x.toNat % 16777216) <<< 8 := by
    rw [shl32, UInt32.toNat_ofNat', Nat.shiftLeft_eq]; omega
  rw [e1, ← Nat.shiftLeft_add_eq_or_of_lt hc, Nat.shiftLeft_eq]
  have : (256 : UInt32).toNat = 256 := rfl
  rw [this]; omega
theorem getD_set_ne {l : List UInt32} {i j : Nat} {x : UInt32} (h : i ≠ j) : (l.set i x).getD j 0 = l.getD j 0 := by
  simp only [List.getD_eq_getElem?_getD, List.getElem?_set, if_neg h]
theorem getD_set_eq {l : List UInt32} {i : Nat} {x : UInt32} (h : i < l.length) : (l.set i x).getD i 0 = x := by
  simp only [List.getD_eq_getElem?_getD, List.getElem?_set, if_pos h, if_true, Option.getD_some]
theorem take_succ_getD {l : List UInt32} {i : Nat} (h : i < l.length) : l.take (i + 1) = l.take i ++ [l.getD i 0] := by
  rw [List.take_add_one, List.getD_eq_getElem?_getD, List.getElem?_eq_getElem h]; rfl
theorem getD_take {l : List UInt32} {i n : Nat} (h : i < n) : (l.take n).getD i 0 = l.getD i 0 := by
  simp only [List.getD_eq_getElem?_getD, List.getElem?_take, if_pos h]
theorem take_set_le {l : List UInt32} {i n : Nat} {x : UInt32} (h : i ≤ n) : (l.set n x).take i = l.take i := by
  apply List.ext_getElem?
  intro k
  simp only [List.getElem?_take, List.getElem?_set]
  by_cases hk : k < i
  · rw [if_pos hk, if_pos hk, if_neg (by omega)]
  · rw [if_neg hk, if_neg hk]
theorem wB_zero (b : List UInt8) : ∀ n i, n ≤ 4 * i → (wB b n).getD i 0 = 0
  | 0, i, _ => by
    rw [wB, List.getD_eq_getElem?_getD, List.getElem?_replicate]
    split <;> rfl
  | n + 1, i, h => by rw [wB, getD_set_ne (by omega)]; exact wB_zero b n i (by omega)
theorem wB_take (b : List UInt8) (i : Nat) : ∀ j, j ≤ 4 → (wB b (4 * i + j)).take i = (wB b (4 * i)).take i
  | 0, _ => rfl
  | j + 1, h => by rw [← Nat.add_assoc, wB, take_set_le (by omega)]; exact wB_take b i j (by omega)
theorem iw_done {b : List UInt8} {w : List UInt32} {i : Int} {x : UInt32} {j : Int} (h : iw b w i) (hi : i < 16) (hx : ix b i x j) (hj : ¬ j < 4) : iw b (w ++ [x]) (IntKind.wrap .i64 (i + 1)) := by
  obtain ⟨h0, h1, rfl⟩ := h
  obtain ⟨k0, k1, rfl⟩ := hx
  rw [wr (by omega)]
  refine ⟨by omega, by omega, ?_⟩
  have ej : j = 4 := by omega
  subst ej
  rw [show (i + 1).toNat = i.toNat + 1 by omega, take_succ_getD (by rw [wB_len]; omega), show 4 * (i.toNat + 1) = 4 * i.toNat + 4 by omega, wB_take b _ 4 (by omega)]
  rfl
theorem ix_step {b : List UInt8} {i : Int} {x : UInt32} {j : Int} (h0 : 0 ≤ i) (hi : i < 16) (hx : ix b i x j) (hj : j < 4) :
    ix b i (x * UInt32.ofNat (Int.toNat 256) + UInt8.toUInt32 (List.getD b (Int.toNat (IntKind.wrap IntKind.i64 (IntKind.wrap IntKind.i64 (4 * i) + j))) 0)) (IntKind.wrap IntKind.i64 (j + 1)) := by
  obtain ⟨k0, k1, rfl⟩ := hx
  rw [wr (x := 4 * i) (by omega), wr (x := 4 * i + j) (by omega), wr (x := j + 1) (by omega)]
  refine ⟨by omega, by omega, ?_⟩
  rw [show (j + 1).toNat = j.toNat + 1 by omega, ← Nat.add_assoc, wB]
  rw [show (4 * i.toNat + j.toNat) / 4 = i.toNat by omega, getD_set_eq (by rw [wB_len]; omega), shl8or, show (4 * i + j).toNat = 4 * i.toNat + j.toNat by omega]
  rfl
theorem ix_start {b : List UInt8} {i : Int} : ix b i (UInt32.ofNat (Int.toNat 0)) 0 := by
  refine ⟨by omega, by omega, ?_⟩
  rw [wB_zero b _ _ (by simp)]; rfl
theorem it_start {b : List UInt8} {w : List UInt32} {i : Int} (h : iw b w i) (hi : ¬ i < 16) : it b w 16 := by
  obtain ⟨h0, h1, rfl⟩ := h
  refine ⟨by omega, by omega, ?_⟩
  rw [show i.toNat = 16 by omega]; rfl
theorem wX_take (b : List UInt8) (n : Nat) (h : n < 48) : (wX b (n + 1)).take (n + 17) = (wX b n).take (n + 16) ++ [(wX b n).getD n 0 + sig0 ((wX b n).getD (n + 1) 0) + (wX b n).getD (n + 9) 0 + sig1 ((wX b n).getD (n + 14) 0)] := by
  rw [wX, take_succ_getD (by rw [List.length_set, wX_len]; omega), take_set_le (by omega), getD_set_eq (by rw [wX_len]; omega)]
theorem it_step {b : List UInt8} {w : List UInt32} {t : Int} (h : it b w t) (ht : t < 64) : it b (w ++ [(turnF (List.getD w (0 + Int.toNat (IntKind.wrap IntKind.i64 (t - 2))) 0) 17 ^^^ turnF (List.getD w (0 + Int.toNat (IntKind.wrap IntKind.i64 (t - 2))) 0) 19 ^^^ shr32 (List.getD w (0 + Int.toNat (IntKind.wrap IntKind.i64 (t - 2))) 0) (UInt64.toNat (UInt64.ofNat (Int.toNat 10)))) +
            List.getD w (0 + Int.toNat (IntKind.wrap IntKind.i64 (t - 7))) 0 +
          (turnF (List.getD w (0 + Int.toNat (IntKind.wrap IntKind.i64 (t - 15))) 0) 7 ^^^ turnF (List.getD w (0 + Int.toNat (IntKind.wrap IntKind.i64 (t - 15))) 0) 18 ^^^ shr32 (List.getD w (0 + Int.toNat (IntKind.wrap IntKind.i64 (t - 15))) 0) (UInt64.toNat (UInt64.ofNat (Int.toNat 3)))) +
        List.getD w (0 + Int.toNat (IntKind.wrap IntKind.i64 (t - 16))) 0]) (IntKind.wrap IntKind.i64 (t + 1)) := by
  obtain ⟨h0, h1, rfl⟩ := h
  rw [wr (x := t - 2) (by omega), wr (x := t - 7) (by omega), wr (x := t - 15) (by omega), wr (x := t - 16) (by omega), wr (x := t + 1) (by omega)]
  obtain ⟨n, rfl⟩ : ∃ n : Nat, t = ((n + 16 : Nat) : Int) := ⟨(t - 16).toNat, by omega⟩
  refine ⟨by omega, by omega, ?_⟩
  rw [show (((n + 16 : Nat) : Int) + 1).toNat = n + 17 by omega, show (((n + 16 : Nat) : Int)).toNat = n + 16 by omega, show n + 17 - 16 = n + 1 by omega, show n + 16 - 16 = n by omega]
  rw [show 0 + (((n + 16 : Nat) : Int) - 2).toNat = n + 14 by omega, show 0 + (((n + 16 : Nat) : Int) - 7).toNat = n + 9 by omega, show 0 + (((n + 16 : Nat) : Int) - 15).toNat = n + 1 by omega, show 0 + (((n + 16 : Nat) : Int) - 16).toNat = n by omega]
  rw [getD_take (by omega), getD_take (by omega), getD_take (by omega), getD_take (by omega), wX_take b n (by omega)]
  congr 2
  have e0 : ∀ a : UInt32, turnF a 7 ^^^ turnF a 18 ^^^ shr32 a (UInt64.toNat (UInt64.ofNat (Int.toNat 3))) = sig0 a := fun a => rfl
  have e1 : ∀ a : UInt32, turnF a 17 ^^^ turnF a 19 ^^^ shr32 a (UInt64.toNat (UInt64.ofNat (Int.toNat 10))) = sig1 a := fun a => rfl
  rw [e0, e1]
  ac_rfl
theorem ir_start {b : List UInt8} {w : List UInt32} {t : Int} (s : St8) (h : it b w t) (ht : ¬ t < 64) : ir (wX b 48) s w s 0 := by
  obtain ⟨h0, h1, rfl⟩ := h
  have : t.toNat = 64 := by omega
  refine ⟨?_, by omega, by omega, rfl⟩
  rw [this]
  exact List.take_of_length_le (by rw [wX_len]; omega)
theorem ir_step {w0 w : List UInt32} {s v : St8} {t : Int} (h : ir w0 s w v t) (ht : t < 64) : ir w0 s w (round v (kTab.getD t.toNat 0) (w.getD (0 + t.toNat) 0)) (IntKind.wrap .i64 (t + 1)) := by
  obtain ⟨rfl, h0, h1, rfl⟩ := h
  rw [wr (by omega)]
  refine ⟨rfl, by omega, by omega, ?_⟩
  rw [show (t + 1).toNat = t.toNat + 1 by omega, rounds, Nat.zero_add]
  rfl
instance (n : Int) : Decidable (nOK n) := by unfold nOK; infer_instance
noncomputable def sBlk : SpecF := fspec (α := L8 × List UInt8 × Unit) (fun a => some (a.2.1.length = 64)) (fun a => L8.mk (mixV a.1.v a.2.1))
theorem cut_whole {b : List UInt8} (h : b.length = 64) : b.take 64 = b := List.take_of_length_le (by omega)
theorem ok_Blk : FSpecOK Tryz.prog 64 sBlk := by
  refine fn_okF (by kernel_rfl) tt_ok spR5_ok 9 Tryz.func64 (by decide +kernel) (by kernel_rfl) ?_
  rintro ⟨⟨s⟩, b, _⟩ hb
  replace hb : b.length = 64 := hb
  refine ⟨[], lBlk s b, fun x => x = .lst (.halfs (mixV s b).l), LfVD.of (vcBlk s b _) ?_, fun x h at_ n w v r => by have h' : x = _ := h; subst h'; exact r⟩
  refine ⟨⟨rfl, rfl⟩, ⟨by omega, by omega, rfl⟩, ?_⟩
  intro w i hw
  rw [bcase_dec]
  refine ⟨fun hi => ?_, fun hi => ?_⟩
  · have h0 := hw.1
    refine ⟨⟨rfl, rfl⟩, ⟨rfl, rfl, ix_start⟩, ?_⟩
    rintro w1 i1 x j ⟨hO, rfl, hx⟩
    injection hO with hO; subst hO
    rw [bcase_dec]
    refine ⟨fun hj => ?_, fun hj => ?_⟩
    · have j0 := hx.1
      refine ⟨⟨by rw [wr (x := 4 * i1) (by omega), wr (by omega)]; omega, by rw [wr (x := 4 * i1) (by omega), wr (by omega), hb]; omega⟩, ⟨rfl, rfl⟩, rfl, ⟨rfl, rfl, ix_step h0 hi hx hj⟩, ?_⟩
      rw [wr (by omega)]; omega
    · have lw : w1.length ≤ 16 := by rw [hw.2.2, List.length_take]; omega
      rw [show List.drop 0 (List.take w1.length w1) = w1 by rw [List.take_length]; rfl]
      refine ⟨⟨by omega, by rw [List.length_append]; simp only [appLim, List.length_singleton]; omega⟩, ⟨rfl, rfl⟩, rfl, iw_done hw hi hx hj, ?_⟩
      rw [wr (by omega)]; omega
  · refine ⟨⟨rfl, rfl⟩, it_start hw hi, ?_⟩
    intro w1 t ht
    have lw : w1.length = t.toNat := by have := ht.1; have := ht.2.1; rw [ht.2.2, List.length_take, wX_len]; omega
    rw [bcase_dec, show List.drop 0 (List.take w1.length w1) = w1 by rw [List.take_length]; rfl]
    refine ⟨fun h => ?_, fun h => ?_⟩
    · have t0 := ht.1
      have rg : ∀ k : Int, 0 < k ∧ k ≤ 16 → 0 ≤ IntKind.wrap .i64 (t - k) ∧ IntKind.wrap .i64 (t - k) < (w1.length : Int) := fun k hk => by rw [wr (by omega), lw]; omega
      refine ⟨rg 15 (by omega), by decide +kernel, rg 15 (by omega), by decide +kernel, rg 15 (by omega), rg 2 (by omega), by decide +kernel, rg 2 (by omega), by decide +kernel, rg 2 (by omega), rg 7 (by omega), rg 16 (by omega), ⟨by omega, ?_⟩, ⟨rfl, rfl⟩, rfl, it_step ht h, ?_⟩
      · rw [List.length_append]; simp only [appLim, List.length_singleton]; omega
      · rw [wr (by omega)]; omega
    · refine ⟨by show (8 : Nat) ≤ appLim; decide, ⟨⟨rfl, rfl⟩, rfl, rfl⟩, ir_start s ht h, ?_⟩
      intro w2 v a hR
      rw [bcase_dec]
      refine ⟨fun ha => ?_, fun ha => ?_⟩
      · have a0 := hR.2.1
        have k1 : 0 ≤ a ∧ a < (kTab.length : Int) := ⟨a0, ha⟩
        have k2 : 0 ≤ a ∧ a < (w2.length : Int) := ⟨a0, by rw [hR.1, wX_len]; exact ha⟩
        repeat (first | refine ⟨by decide +kernel, ?_⟩ | refine ⟨k1, ?_⟩ | refine ⟨k2, ?_⟩)
        refine ⟨⟨⟨rfl, rfl⟩, rfl, rfl⟩, rfl, ir_step hR ha, ?_⟩
        rw [wr (by omega)]; omega
      · have hl : s.l.length = 8 := rfl
        rw [hl]
        repeat (refine ⟨by decide +kernel, ?_⟩)
        have e : mixV s b = s.plus v := by
          obtain ⟨_, r0, r1, rfl⟩ := hR
          rw [mixV_eq, show a.toNat = 64 by omega]; rfl
        rw [e]
        show _ = _
        kernel_rfl
end Go.Proofs.YtficbeeoafiiaaaGreatDoor.H5
/- The reference of layer 5: the sum: what the body comes to. -/
set_option maxRecDepth 10000
namespace Go.Proofs.YtficbeeoafiiaaaGreatDoor.H5
open Go.Sym Go.Dig R1
noncomputable def spS5 : Specs := [(64, .fresh sBlk), (63, .fresh sBegR), (23, sToBig), (24, sInt), (65, sWords)]
def mR (b : List UInt8) : List UInt8 := padZ b (zn b.length) ++ (bytesN (8 * b.length) 8).reverse
def iH (m0 : List UInt8) (m : List UInt8) (h : St8) (i : Int) : Prop := ∃ k : Nat, m = m0 ∧ i = 64 * (k : Int) ∧ 64 * k ≤ m0.length ∧ h = absN beg m0 k
--STOP iZ, iH, iO, outN, St8.l, mixV, absN, beg, bytesN, nv, Dg, wv, padZ, zn, mR
def lRSum (b : List UInt8) : Plan := { loops := [
  (0, { β := List UInt8 × Unit, α := OwnB × Unit, same := [0], keep := [3], inv := fun _ _ x => iZ b x.1.l, meas := fun _ x => zn b.length + b.length + 1 - x.1.l.length }),
  (2, { β := List UInt8 × Unit, α := OwnB × O8 × Int × Unit, same := [0], keep := [3, 4, 5], inv := fun _ _ x => iH (mR b) x.1.l x.2.1.v x.2.2.1, meas := fun _ x => ((x.1.l.length : Int) - x.2.2.1).toNat }),
  (4, { β := Unit, α := O8 × OwnB × Int × Unit, same := [], keep := [4, 6, 7], inv := fun _ a x => x.1.v = a.1.v ∧ iO a.1.v x.2.1.l x.2.2.1, meas := fun _ x => (8 - x.2.2.1).toNat })] }
theorem vcRSum (b : List UInt8) (Q : SV → Prop) : LnRaw tt spS5 9 [] (lRSum b) Tryz.f25 Q (b, ()) =
 ((List.length ([] ++ b) ≤ appLim) ∧ ((((0 : Nat) + List.length ([] ++ b) = List.length ([] ++ b)) ∧ (List.length (List.drop (0 : Nat) (List.take (List.length ([] ++ b)) ([] ++ b)) ++ [UInt8.ofNat (Int.toNat (128 : Int))]) ≤ appLim)) ∧ ((((0 : Nat) = (0 : Nat)) ∧ (List.length (List.drop (0 : Nat) (List.take (List.length ([] ++ b)) ([] ++ b)) ++ [UInt8.ofNat (Int.toNat (128 : Int))]) = List.length (List.drop (0 : Nat) (List.take (List.length ([] ++ b)) ([] ++ b)) ++ [UInt8.ofNat (Int.toNat (128 : Int))]))) ∧ ((iZ b (List.drop (0 : Nat) (List.take (List.length ([] ++ b)) ([] ++ b)) ++ [UInt8.ofNat (Int.toNat (128 : Int))])) ∧ (∀ l : List UInt8, ((iZ b l) → bcase (Int.tmod (↑(List.length l) : Int) (64 : Int) != (56 : Int)) (((((0 : Nat) + List.length l = List.length l) ∧ (List.length (List.drop (0 : Nat) (List.take (List.length l) l) ++ [UInt8.ofNat (Int.toNat (0 : Int))]) ≤ appLim)) ∧ ((((0 : Nat) = (0 : Nat)) ∧
 (List.length (List.drop (0 : Nat) (List.take (List.length l) l) ++ [UInt8.ofNat (Int.toNat (0 : Int))]) = List.length (List.drop (0 : Nat) (List.take (List.length l) l) ++ [UInt8.ofNat (Int.toNat (0 : Int))]))) ∧ (((b, ()) = (b, ())) ∧ ((iZ b (List.drop (0 : Nat) (List.take (List.length l) l) ++ [UInt8.ofNat (Int.toNat (0 : Int))])) ∧ (zn (List.length b) + List.length b + (1 : Nat) - List.length (List.drop (0 : Nat) (List.take (List.length l) l) ++ [UInt8.ofNat (Int.toNat (0 : Int))]) < zn (List.length b) + List.length b + (1 : Nat) - List.length l)))))) (((((0 : Int) ≤ IntKind.wrap IntKind.i64 ((8 : Int) * (↑(List.length b) : Int))) ∧ (IntKind.wrap IntKind.i64 ((8 : Int) * (↑(List.length b) : Int)) < (9223372036854775808 : Int))) ∧ (((Dg (dg (Int.toNat (IntKind.wrap IntKind.i64 ((8 : Int) * (↑(List.length b) : Int)))))) ∧ (((0 : Int) ≤ (8 : Int)) ∧ ((8 : Int) ≤ (1048576 : Int)))) ∧ ((((0 : Nat) + List.length l = List.length l) ∧ (List.length
 (List.drop (0 : Nat) (List.take (List.length l) l) ++ List.reverse (bytesN (nv (dg (Int.toNat (IntKind.wrap IntKind.i64 ((8 : Int) * (↑(List.length b) : Int)))))) (Int.toNat (8 : Int)))) ≤ appLim)) ∧ (((((0 : Nat) = (0 : Nat)) ∧ (List.length (List.drop (0 : Nat) (List.take (List.length l) l) ++ List.reverse (bytesN (nv (dg (Int.toNat (IntKind.wrap IntKind.i64 ((8 : Int) * (↑(List.length b) : Int)))))) (Int.toNat (8 : Int)))) = List.length (List.drop (0 : Nat) (List.take (List.length l) l) ++ List.reverse (bytesN (nv (dg (Int.toNat (IntKind.wrap IntKind.i64 ((8 : Int) * (↑(List.length b) : Int)))))) (Int.toNat (8 : Int)))))) ∧ (((0 : Nat) = (0 : Nat)) ∧ (List.length (St8.l beg) = List.length (St8.l beg)))) ∧ ((iH (mR b) (List.drop (0 : Nat) (List.take (List.length l) l) ++ List.reverse (bytesN (nv (dg (Int.toNat (IntKind.wrap IntKind.i64 ((8 : Int) * (↑(List.length b) : Int)))))) (Int.toNat (8 : Int)))) beg (0 : Int)) ∧ (∀ l_1 : List UInt8, (∀ v : St8, (∀ a : Int, ((iH (mR b) l_1 v a) →
 bcase (decide (a < (↑(List.length l_1) : Int))) (((((0 : Int) ≤ a) ∧ ((a ≤ IntKind.wrap IntKind.i64 (a + (64 : Int))) ∧ (IntKind.wrap IntKind.i64 (a + (64 : Int)) ≤ (↑(List.length l_1) : Int)))) ∧ ((List.length (List.drop ((0 : Nat) + Int.toNat a) (List.take ((0 : Nat) + Int.toNat a + (Int.toNat (IntKind.wrap IntKind.i64 (a + (64 : Int))) - Int.toNat a)) l_1)) = (64 : Nat)) ∧ (((((0 : Nat) = (0 : Nat)) ∧ (List.length l_1 = List.length l_1)) ∧ (((0 : Nat) = (0 : Nat)) ∧ (List.length (St8.l (mixV v (List.drop ((0 : Nat) + Int.toNat a) (List.take ((0 : Nat) + Int.toNat a + (Int.toNat (IntKind.wrap IntKind.i64 (a + (64 : Int))) - Int.toNat a)) l_1)))) = List.length (St8.l (mixV v (List.drop ((0 : Nat) + Int.toNat a) (List.take ((0 : Nat) + Int.toNat a + (Int.toNat (IntKind.wrap IntKind.i64 (a + (64 : Int))) - Int.toNat a)) l_1))))))) ∧ (((b, ()) = (b, ())) ∧ ((iH (mR b) l_1 (mixV v (List.drop ((0 : Nat) + Int.toNat a)
 (List.take ((0 : Nat) + Int.toNat a + (Int.toNat (IntKind.wrap IntKind.i64 (a + (64 : Int))) - Int.toNat a)) l_1))) (IntKind.wrap IntKind.i64 (a + (64 : Int)))) ∧ (Int.toNat ((↑(List.length l_1) : Int) - IntKind.wrap IntKind.i64 (a + (64 : Int))) < Int.toNat ((↑(List.length l_1) : Int) - a)))))))) ((((((0 : Nat) = (0 : Nat)) ∧ ((8 : Nat) = List.length (St8.l v))) ∧ (((0 : Nat) = (0 : Nat)) ∧ ((0 : Nat) = (0 : Nat)))) ∧ (((v = v) ∧ (iO v [] (0 : Int))) ∧ (∀ v_1 : St8, (∀ l_2 : List UInt8, (∀ a_1 : Int, (((v_1 = v) ∧ (iO v l_2 a_1)) → bcase (decide (a_1 < (8 : Int))) (((((0 : Int) ≤ a_1) ∧ (a_1 < (↑(8 : Nat) : Int))) ∧ (((1 : Nat) ≤ (1048576 : Nat)) ∧ (((Dg (dg (wv [UInt32.toUInt64 (List.getD (St8.l v_1) ((0 : Nat) + Int.toNat a_1) (0 : UInt32))]))) ∧ (((0 : Int) ≤ (4 : Int)) ∧ ((4 : Int) ≤ (1048576 : Int)))) ∧ ((((0 : Nat) + List.length l_2 = List.length l_2) ∧ (List.length (List.drop (0 : Nat) (List.take (List.length l_2) l_2) ++ List.reverse
 (bytesN (nv (dg (wv [UInt32.toUInt64 (List.getD (St8.l v_1) ((0 : Nat) + Int.toNat a_1) (0 : UInt32))]))) (Int.toNat (4 : Int)))) ≤ appLim)) ∧ (((((0 : Nat) = (0 : Nat)) ∧ ((8 : Nat) = List.length (St8.l v_1))) ∧ (((0 : Nat) = (0 : Nat)) ∧ (List.length (List.drop (0 : Nat) (List.take (List.length l_2) l_2) ++ List.reverse (bytesN (nv (dg (wv [UInt32.toUInt64 (List.getD (St8.l v_1) ((0 : Nat) + Int.toNat a_1) (0 : UInt32))]))) (Int.toNat (4 : Int)))) = List.length (List.drop (0 : Nat) (List.take (List.length l_2) l_2) ++ List.reverse (bytesN (nv (dg (wv [UInt32.toUInt64 (List.getD (St8.l v_1) ((0 : Nat) + Int.toNat a_1) (0 : UInt32))]))) (Int.toNat (4 : Int))))))) ∧ ((() = ()) ∧ (((v_1 = v) ∧ (iO v (List.drop (0 : Nat) (List.take (List.length l_2) l_2) ++ List.reverse (bytesN (nv (dg (wv [UInt32.toUInt64 (List.getD (St8.l v_1) ((0 : Nat) + Int.toNat a_1) (0 : UInt32))]))) (Int.toNat (4 : Int)))) (IntKind.wrap IntKind.i64 (a_1 + (1 : Int))))) ∧
 (Int.toNat ((8 : Int) - IntKind.wrap IntKind.i64 (a_1 + (1 : Int))) < Int.toNat ((8 : Int) - a_1)))))))))) ((Q (SV.lst (LV.bytes (List.drop (0 : Nat) (List.take ((0 : Nat) + List.length l_2) l_2))))))))))))))))))))))))))))) := by kernel_rfl
end Go.Proofs.YtficbeeoafiiaaaGreatDoor.H5
/- Layer 5: the program's sum and the reference's are one. -/
set_option maxRecDepth 10000
namespace Go.Proofs.YtficbeeoafiiaaaGreatDoor.H5
open Go.Sym Go.Dig R1
noncomputable def digV0 (b : List UInt8) : List UInt8 := sum0 (absT beg b) (absR b) (UInt64.ofInt (b.length : Int))
theorem dig_ex : ∃ f : List UInt8 → List UInt8, f = digV0 := ⟨_, rfl⟩
noncomputable def digV : List UInt8 → List UInt8 := Classical.choose dig_ex
theorem digV_eq : digV = digV0 := Classical.choose_spec dig_ex
noncomputable def sDSum : SpecF := fspec (α := List UInt8 × Unit) (fun a => some (a.1.length ≤ 1073741824)) (fun a => digV a.1)
theorem absR_len (r : List UInt8) : (absR r).length < 64 := by rw [absR, List.length_drop]; omega
theorem ok_DSumF : SpecOK Tryz.prog 1000000 Sym.sNo := Sym.sNo_ok _ _
theorem be4_eq (x : UInt32) : (bytesN (nv (dg (wv [x.toUInt64]))) 4).reverse = be4 x 4 := by
  have h1 : wv [x.toUInt64] = x.toNat := by simp [wv]
  have hx := x.toNat_lt
  rw [nv_dg, h1]
  have e : ∀ k d : Nat, d = 2 ^ k → UInt8.ofNat (x.toNat / d) = (shr32 x k).toUInt8 := by
    intro k d hd
    apply UInt8.toNat_inj.1
    subst hd
    have : x.toNat / 2 ^ k ≤ x.toNat := Nat.div_le_self _ _
    rw [shr32, UInt32.toNat_toUInt8, UInt32.toNat_ofNat', UInt8.toNat_ofNat']
    omega
  show [UInt8.ofNat (x.toNat / 256 ^ 3), UInt8.ofNat (x.toNat / 256 ^ 2), UInt8.ofNat (x.toNat / 256 ^ 1), UInt8.ofNat (x.toNat / 256 ^ 0)] = _
  rw [e 24 _ (by decide), e 16 _ (by decide), e 8 _ (by decide), e 0 _ (by decide)]
  rfl
theorem be8_eq (x : UInt64) : (bytesN x.toNat 8).reverse = be8 x 8 := by
  have hx := x.toNat_lt
  have e : ∀ k d : Nat, d = 2 ^ k → UInt8.ofNat (x.toNat / d) = (shr64 x k).toUInt8 := by
    intro k d hd
    apply UInt8.toNat_inj.1
    subst hd
    have : x.toNat / 2 ^ k ≤ x.toNat := Nat.div_le_self _ _
    rw [shr64, UInt64.toNat_toUInt8, UInt64.toNat_ofNat', UInt8.toNat_ofNat']
    omega
  show [UInt8.ofNat (x.toNat / 256 ^ 7), UInt8.ofNat (x.toNat / 256 ^ 6), UInt8.ofNat (x.toNat / 256 ^ 5), UInt8.ofNat (x.toNat / 256 ^ 4), UInt8.ofNat (x.toNat / 256 ^ 3), UInt8.ofNat (x.toNat / 256 ^ 2), UInt8.ofNat (x.toNat / 256 ^ 1), UInt8.ofNat (x.toNat / 256 ^ 0)] = _
  rw [e 56 _ (by decide), e 48 _ (by decide), e 40 _ (by decide), e 32 _ (by decide), e 24 _ (by decide), e 16 _ (by decide), e 8 _ (by decide), e 0 _ (by decide)]
  rfl
theorem len8 (n : Nat) (h : n ≤ 1073741824) : (UInt64.ofInt (n : Int) * 8).toNat = 8 * n := by
  rw [UInt64.toNat_mul, ofInt64]
  have : (8 : UInt64).toNat = 8 := rfl
  rw [this]; omega
theorem absN_congr (s : St8) (m b : List UInt8) : ∀ i, (∀ j, j < i → cut m (64 * j) = cut b (64 * j)) → absN s m i = absN s b i
  | 0, _ => rfl
  | i + 1, h => by rw [absN, absN, absN_congr s m b i (fun j hj => h j (by omega)), h i (by omega)]
theorem absN_add (s : St8) (m : List UInt8) (q : Nat) : ∀ i, absN s m (q + i) = absN (absN s m q) (m.drop (64 * q)) i
  | 0 => rfl
  | i + 1 => by
    rw [← Nat.add_assoc, absN, absN, absN_add s m q i]
    congr 1
    simp only [cut, List.drop_drop]
    congr 2; omega
theorem cut_append {b r : List UInt8} {j : Nat} (h : 64 * j + 64 ≤ b.length) : cut (b ++ r) (64 * j) = cut b (64 * j) := by
  simp only [cut]
  rw [List.drop_append_of_le_length (by omega), List.take_append_of_le_length (by rw [List.length_drop]; omega)]
theorem mR_drop (b : List UInt8) (h : b.length ≤ 1073741824) : (mR b).drop (64 * (b.length / 64)) = padded (absR b) (UInt64.ofInt (b.length : Int)) := by
  have ez : zn (absR b).length = zn b.length := by
    rw [absR, List.length_drop]
    have : (b.length - 64 * (b.length / 64)) % 64 = b.length % 64 := by omega
    simp only [zn, this]
  unfold mR padded padZ
  rw [ez, ← be8_eq, len8 _ h, List.append_assoc, List.append_assoc, List.append_assoc, List.append_assoc, List.drop_append_of_le_length (by omega)]
  rfl
theorem mR_len (b : List UInt8) : (mR b).length = b.length + 9 + zn b.length := by
  rw [mR, List.length_append, padZ_len, List.length_reverse, bytesN_len]; omega
theorem ref_eq (b : List UInt8) (h : b.length ≤ 1073741824) : outN (absN beg (mR b) ((mR b).length / 64)) 8 = digV0 b := by
  unfold digV0 sum0
  have e : (mR b).length / 64 = b.length / 64 + (padded (absR b) (UInt64.ofInt (b.length : Int))).length / 64 := by
    rw [← mR_drop b h, List.length_drop, mR_len]; omega
  rw [e, absN_add, mR_drop b h]
  congr 2
  unfold absT mR padZ
  rw [List.append_assoc, List.append_assoc]
  exact absN_congr _ _ _ _ fun j hj => cut_append (by omega)
theorem spS5_ok : SpecsOK Tryz.prog spS5 := .consF ok_Blk <| .consF ok_BegR <| .cons ok_ToBig <| .cons ok_Int <| .cons ok_Words (.nil _)
noncomputable def sRSum : SpecF := sDSum
theorem ok_RSum : SpecOK Tryz.prog 25 sRSum := by
  unfold sRSum sDSum
  rw [digV_eq]
  refine fn_okL (by kernel_rfl) tt_ok spS5_ok 9 Tryz.func25 (by decide +kernel) (by kernel_rfl) ?_
  rintro ⟨b, _⟩ hb
  replace hb : b.length ≤ 1073741824 := hb
  have hz := zn_lt b.length
  refine ⟨[], lRSum b, fun x => x = .lst (.bytes (digV0 b)), LnVD.of (vcRSum b _) ?_, svf⟩
  rw [List.nil_append, full]
  refine ⟨by simp only [appLim]; omega, ⟨by omega, by simp only [appLim, List.length_append, List.length_singleton]; omega⟩, ⟨rfl, rfl⟩, ⟨0, by omega, by simp [padZ]⟩, ?_⟩
  intro t hZ
  have lt : t.length ≤ b.length + 65 := by obtain ⟨k, hk, rfl⟩ := hZ; rw [padZ_len]; omega
  have em : Int.tmod (t.length : Int) 64 = ((t.length % 64 : Nat) : Int) := by rw [tmod_nn (by omega)]; omega
  rw [em, bcase_iff, full]
  refine ⟨fun hc => ?_, fun hc => ?_⟩
  · have hc' : ¬ t.length % 64 = 56 := by
      intro e; rw [e] at hc; exact absurd hc (by decide)
    obtain ⟨z1, z2⟩ := iZ_step hZ hc'
    refine ⟨⟨by omega, by simp only [appLim, List.length_append, List.length_singleton]; omega⟩, ⟨rfl, rfl⟩, rfl, z1, ?_⟩
    rw [List.length_append, List.length_singleton]
    omega
  · have hc' : t.length % 64 = 56 := by
      have := bne_eq_false_iff_eq.1 hc
      omega
    have ht := iZ_done hZ hc'
    have ew : IntKind.wrap .i64 (8 * (b.length : Int)) = ((8 * b.length : Nat) : Int) := by rw [wr (by omega)]; omega
    have em' : t ++ List.reverse (bytesN (nv (dg (Int.toNat ((8 * b.length : Nat) : Int)))) (Int.toNat 8)) = mR b := by
      rw [ht, Int.toNat_natCast, nv_dg]; rfl
    rw [ew, em']
    have lm := mR_len b
    have hDg : Dg (dg (Int.toNat ((8 * b.length : Nat) : Int))) := by
      rw [Int.toNat_natCast]
      have : 8 * b.length < 16777216 ^ 2 := by omega
      exact Dg.dg (Nat.le_trans (dg_length_lt this) (by decide))
    refine ⟨⟨by omega, by omega⟩, ⟨hDg, by omega, by omega⟩, ⟨by omega, by rw [lm]; simp only [appLim]; omega⟩, ⟨⟨rfl, rfl⟩, rfl, rfl⟩, ⟨0, rfl, rfl, by omega, rfl⟩, ?_⟩
    intro m v a hH
    obtain ⟨k, rfl, rfl, hk, rfl⟩ := hH
    rw [bcase_dec]
    have l64 : (mR b).length % 64 = 0 := by rw [lm, zn]; omega
    refine ⟨fun ha => ?_, fun ha => ?_⟩
    · have w1 : IntKind.wrap .i64 (64 * (k : Int) + 64) = ((64 * k + 64 : Nat) : Int) := by rw [wr (by omega)]; omega
      have w2 : Int.toNat (64 * (k : Int)) = 64 * k := by omega
      have ec : List.drop (0 + 64 * k) (List.take (0 + 64 * k + (64 * k + 64 - 64 * k)) (mR b)) = cut (mR b) (64 * k) := by
        rw [Nat.zero_add, List.drop_take]
        congr 1; omega
      rw [w1, w2, Int.toNat_natCast, ec]
      refine ⟨⟨by omega, by omega, by omega⟩, ?_, ⟨⟨rfl, rfl⟩, rfl, rfl⟩, rfl, ⟨k + 1, rfl, by omega, by omega, rfl⟩, by omega⟩
      rw [List.length_take, List.length_drop]; omega
    · refine ⟨⟨⟨rfl, rfl⟩, rfl, rfl⟩, ⟨rfl, by omega, by omega, rfl⟩, ?_⟩
      rintro v l a ⟨rfl, hO⟩
      have o0 := hO.1
      have hl : l.length ≤ 32 := by
        have lo : ∀ (s : St8) (n : Nat), (outN s n).length = 4 * n := by
          intro s n
          induction n with
          | zero => rfl
          | succ n ih => rw [outN, List.length_append, ih, be4_len]; omega
        have := hO.2.1
        rw [hO.2.2, lo]; omega
      rw [bcase_dec, full, show Int.toNat 4 = 4 from rfl, be4_eq]
      refine ⟨fun h8 => ?_, fun h8 => ?_⟩
      · refine ⟨⟨o0, h8⟩, by omega, ⟨Dg.dg (Nat.le_trans (dg_length_lt (k := 20) (Nat.lt_trans (wv_lt _) (show (2 : Nat) ^ (64 * 1) < 16777216 ^ 20 by decide))) (by decide)), by omega, by omega⟩, ⟨by omega, ?_⟩, ⟨⟨rfl, rfl⟩, rfl, rfl⟩, rfl, ⟨rfl, ?_⟩, ?_⟩
        · rw [List.length_append]
          have : (be4 (List.getD (St8.l (absN beg (mR b) k)) (0 + Int.toNat a) 0) 4).length = 4 := be4_len _ _
          simp only [appLim]; omega
        · rw [wr (by omega)]
          refine ⟨by omega, by omega, ?_⟩
          rw [show (a + 1).toNat = a.toNat + 1 by omega, outN, ← hO.2.2, Nat.zero_add]
        · rw [wr (by omega)]; omega
      · have e : l = digV0 b := by
          rw [hO.2.2, show a.toNat = 8 by have := hO.2.1; omega, ← ref_eq b hb, show (mR b).length / 64 = k by omega]
        show SV.lst (.bytes (List.drop 0 (List.take (0 + l.length) l))) = _
        rw [Nat.zero_add, full, e]
end Go.Proofs.YtficbeeoafiiaaaGreatDoor.H5
/- Layer 5: the example. -/
set_option maxRecDepth 100000
namespace Go.Proofs.YtficbeeoafiiaaaGreatDoor.H5
open Go.Sym Go.Dig R1
def blkA : List UInt8 := [97, 98, 99, 128, 0, 0, 0, 0, 0, 0, 0, 0, 0, 0, 0, 0, 0, 0, 0, 0, 0, 0, 0, 0, 0, 0, 0, 0, 0, 0, 0, 0, 0, 0, 0, 0, 0, 0, 0, 0, 0, 0, 0, 0, 0, 0, 0, 0, 0, 0, 0, 0, 0, 0, 0, 0, 0, 0, 0, 0, 0, 0, 0, 24]
deriving instance DecidableEq for St8
theorem mixA : mix0 beg blkA = ⟨3128432319, 2399260650, 1094795486, 1571693091, 2953011619, 2518121116, 3021012833, 4060091821⟩ := by decide +kernel
theorem abc : digV [97, 98, 99] = [186, 120, 22, 191, 143, 1, 207, 234, 65, 65, 64, 222, 93, 174, 34, 35, 176, 3, 97, 163, 150, 23, 122, 156, 180, 16, 255, 97, 242, 0, 21, 173] := by
  rw [digV_eq]
  have e : sum0 (absT beg [97, 98, 99]) (absR [97, 98, 99]) (UInt64.ofInt 3) = outN (mixV beg blkA) 8 := by
    unfold sum0
    rw [show padded (absR [97, 98, 99]) (UInt64.ofInt 3) = blkA by decide +kernel]
    rfl
  show sum0 (absT beg [97, 98, 99]) (absR [97, 98, 99]) (UInt64.ofInt 3) = _
  rw [e, mixV_eq, mixA]
  decide +kernel
end Go.Proofs.YtficbeeoafiiaaaGreatDoor.H5
/- Layer 5's laws: what the bodies come to. -/
set_option maxRecDepth 10000
namespace Go.Proofs.YtficbeeoafiiaaaGreatDoor.H5
open Go.Sym Go.Dig R1
noncomputable def spA5 : Specs := [(1000002, Sym.sNo)]
--STOP digV
def sAwake5 : SpecF := fspec (α := Unit) total (fun _ => true)
noncomputable def spL5 : Specs := [(1000002, Sym.sNo), (25, sRSum), (8, sSame), (1000001, Sym.sNo)]
end Go.Proofs.YtficbeeoafiiaaaGreatDoor.H5
/- Layer 5's laws hold. -/
set_option maxRecDepth 10000
namespace Go.Proofs.YtficbeeoafiiaaaGreatDoor.H5
open Go.Sym Go.Dig R1
theorem outN_len (s : St8) : ∀ n, (outN s n).length = 4 * n
  | 0 => rfl
  | n + 1 => by rw [outN, List.length_append, outN_len s n, be4_len]; omega
theorem digV_len (b : List UInt8) : (digV b).length = 32 := by
  rw [digV_eq]
  exact outN_len _ 8
theorem spA5_ok : SpecsOK Tryz.prog spA5 := .cons ok_DSumF (.nil _)
theorem ok_Awake5 : SpecOK Tryz.prog 1000001 Sym.sNo := Sym.sNo_ok _ _
theorem spL5_ok : SpecsOK Tryz.prog spL5 := .cons ok_DSumF <| .cons ok_RSum <| .cons ok_Same <| .cons ok_Awake5 (.nil _)
abbrev sSums5 : SpecF := fspec (α := List UInt8 × Unit) total fun _ => true
theorem ok_Sums5 : SpecOK Tryz.prog 1000000 Sym.sNo := Sym.sNo_ok _ _
end Go.Proofs.YtficbeeoafiiaaaGreatDoor.H5
/- Layer 5's law of pieces: what the body comes to. -/
set_option maxRecDepth 10000
namespace Go.Proofs.YtficbeeoafiiaaaGreatDoor.H5
open Go.Sym Go.Dig R1
instance : Enc (List (List UInt8)) where
  enc l := .lol l
  dec | .lol l => some l
      | _ => none
  ok := by
    intro s a h at_ w v r
    split at h
    · simp only [Option.some.injEq] at h; subst h; exact r
    · cases h
  nn _ := rfl
/-- A hash at a loop's head; where it has no list, it has one of no bytes. -/
structure PHn where
  v : HashV
instance : LEnc PHn where
  kind := none
  ins := [(8, .u8)]
  enc nx a := (.ptr nx 0, [a.v.cells (nx + 1), [.own (.bytes a.v.l)]])
  dec nx s M := match s, M with
    | .ptr b 0, some cs :: some [.own (.bytes l)] :: M' => if b = nx then (match dHashC l cs with | some (r, k) => if k = nx + 1 then some (none, ⟨r⟩, M') else none | none => none) else none
    | _, _ => none
  all P := ∀ v, P ⟨v⟩
  all_ok h a := h a.v
  ok := by
    intro nx s M p a M' h hp
    split at h
    · split at h
      · rename_i hb
        split at h
        · rename_i r k hd
          split at h
          · rename_i hk
            simp only [Option.some.injEq, Prod.mk.injEq] at h
            obtain ⟨_, rfl, rfl⟩ := h
            subst hb; subst hk
            obtain ⟨e1, e2⟩ := dHashC_ok hd
            subst e2
            exact ⟨by rw [e1]; rfl, fun r => r⟩
          · cases h
        · cases h
      · cases h
    · cases h
noncomputable def hv (t : List UInt8) : HashV := ⟨absT beg t, absR t, 0, (absR t).length, UInt64.ofInt (t.length : Int)⟩
def iP (l : List (List UInt8)) (v g : HashV) (all : List UInt8) (i : Int) : Prop := 0 ≤ i ∧ i ≤ l.length ∧ all = (l.take i.toNat).flatten ∧ v = hv all ∧ g = hv [] ∧ (all.length : Int) ≤ 1000 * i
noncomputable def spP5 : Specs := [(42, .fresh sNewH), (43, .memf sWriteO), (44, .fresh sHSumO), (1000000, Sym.sNo), (1000002, Sym.sNo), (8, sSame), (1000001, Sym.sNo)]
def lPie (l : List (List UInt8)) (n : Int) : Plan := { loops := [(0, { β := List UInt8 × List (List UInt8) × Int × Unit, α := PHn × PHn × OwnB × Int × Unit, same := [1, 23, 24], keep := [5, 6, 7, 25], inv := fun _ _ x => iP l x.1.v x.2.1.v x.2.2.1.l x.2.2.2.1, meas := fun _ x => (n - x.2.2.2.1).toNat })] }
end Go.Proofs.YtficbeeoafiiaaaGreatDoor.H5
/- Layer 5's law of pieces: what the body comes to. -/
set_option maxRecDepth 10000
namespace Go.Proofs.YtficbeeoafiiaaaGreatDoor.H5
open Go.Sym Go.Dig R1
--STOP digV, iP, hv, rOf, nOf, absT, absR, sumV, sumO, beg, List.flatten
end Go.Proofs.YtficbeeoafiiaaaGreatDoor.H5
/- Layer 5's law of pieces holds. -/
set_option maxRecDepth 10000
namespace Go.Proofs.YtficbeeoafiiaaaGreatDoor.H5
open Go.Sym Go.Dig R1
theorem fz (l : List UInt8) : List.drop 0 (List.take (0 + l.length) l) = l := by rw [Nat.zero_add, List.take_length]; rfl
theorem tz (l : List UInt8) : List.take l.length (List.drop 0 l) = l := by rw [List.drop_zero, List.take_length]
theorem abs_add (t p : List UInt8) : absT (absT beg t) (absR t ++ p) = absT beg (t ++ p) ∧ absR (absR t ++ p) = absR (t ++ p) := by
  have e0 : (t ++ p).drop (64 * (t.length / 64)) = absR t ++ p := by
    rw [List.drop_append_of_le_length (by omega)]; rfl
  have e1 : (t ++ p).length / 64 = t.length / 64 + (absR t ++ p).length / 64 := by
    rw [← e0, List.length_drop, List.length_append]; omega
  constructor
  · unfold absT
    rw [e1, absN_add, e0]
    congr 1
    exact (absN_congr _ _ _ _ fun j hj => cut_append (by omega)).symm
  · show (absR t ++ p).drop _ = (t ++ p).drop _
    rw [e1, ← e0, List.drop_drop]
    congr 1; omega
theorem hs (t p : List UInt8) : absT (hv t).s (rOf (hv t) p) = absT beg (t ++ p) := (abs_add t p).1
theorem hs' (t p : List UInt8) : absT (absT beg t) (rOf (hv t) p) = absT beg (t ++ p) := (abs_add t p).1
theorem hr (t p : List UInt8) : absR (rOf (hv t) p) = absR (t ++ p) := (abs_add t p).2
theorem hn (t p : List UInt8) : nOf (hv t) p = UInt64.ofInt ((t ++ p).length : Int) := by
  show UInt64.ofInt (t.length : Int) + UInt64.ofInt (p.length : Int) = _
  apply UInt64.toNat_inj.1
  rw [UInt64.toNat_add, ofInt64, ofInt64, ofInt64, List.length_append]
  omega
theorem hk (t : List UInt8) : HashV.mk (absT beg t) (absR t) 0 (absR t).length (UInt64.ofInt (t.length : Int)) = hv t := rfl
theorem hd (t : List UInt8) : sumO (OH.some (RoH.mk (absT beg t) (absR t) (UInt64.ofInt (t.length : Int)))) = digV t := by
  rw [digV_eq]
  unfold sumO digV0
  rw [sumV_eq]
theorem rl (t p : List UInt8) : (rOf (hv t) p).length = (absR t).length + p.length := by
  show ((absR t).drop 0 ++ p).length = _
  rw [List.length_append]; rfl
theorem hv0 : HashV.mk beg [] 0 0 0 = hv [] := by
  show _ = HashV.mk (absT beg []) (absR []) 0 (absR []).length (UInt64.ofInt (([] : List UInt8).length : Int))
  rfl
theorem spP5_ok : SpecsOK Tryz.prog spP5 := .consF ok_NewH <| .consN ok_WriteO <| .consF ok_HSumO <| .cons ok_Len <| .cons ok_DSumF <| .cons ok_Same <| .cons ok_Awake5 (.nil _)
theorem take_flat {l : List (List UInt8)} {i : Nat} (h : i < l.length) : (l.take (i + 1)).flatten = (l.take i).flatten ++ l.getD i [] := by
  rw [List.take_add_one, List.flatten_append, List.getD_eq_getElem?_getD, List.getElem?_eq_getElem h]
  simp
abbrev sPie : SpecF := fspec (α := List (List UInt8) × List UInt8 × Unit) total fun _ => true
theorem ok_Pie : SpecOK Tryz.prog 1000000 Sym.sNo := Sym.sNo_ok _ _
end Go.Proofs.YtficbeeoafiiaaaGreatDoor.H5
