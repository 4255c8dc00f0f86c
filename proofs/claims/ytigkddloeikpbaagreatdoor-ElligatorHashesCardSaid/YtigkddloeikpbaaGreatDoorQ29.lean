/- A symbolic machine for Go functions, and what the functions that the law reaches come to: BdK, BdL, BdM, BdN, BdO, BdP, BdQ, BdR, BdS, ExA, ExB, ExC, ExF, ExG, ExH, ExD, ExE, ExI, ExJ, ExK, ExL. -/
import Derived.Test.YtigkddloeikpbaaGreatDoorQ28
import Derived.Test.YtigkddloeikpbaaGreatDoorQ4
import Derived.Test.YtigkddloeikpbaaGreatDoorQ6
import Derived.Test.YtigkddloeikpbaaGreatDoorQ16
/- The reference of layer 6: a block is the program's. -/
set_option maxRecDepth 10000
namespace Go.Proofs.YtigkddloeikpbaaGreatDoor.H6
open Go.Sym Go.Dig R1
theorem turn_eq (x : UInt64) : turnF x 1 = (shr64 x 1 ||| shl64 x 63) ∧ turnF x 8 = (shr64 x 8 ||| shl64 x 56) ∧ turnF x 19 = (shr64 x 19 ||| shl64 x 45) ∧ turnF x 61 = (shr64 x 61 ||| shl64 x 3) ∧ turnF x 14 = (shr64 x 14 ||| shl64 x 50) ∧ turnF x 18 = (shr64 x 18 ||| shl64 x 46) ∧ turnF x 41 = (shr64 x 41 ||| shl64 x 23) ∧ turnF x 28 = (shr64 x 28 ||| shl64 x 36) ∧ turnF x 34 = (shr64 x 34 ||| shl64 x 30) ∧ turnF x 39 = (shr64 x 39 ||| shl64 x 25) := by
  have e : ∀ (n : Int) (k : Nat), (UInt64.ofInt (IntKind.wrap .i64 (0 - n)) &&& 63).toNat = 64 - k → (64 - (UInt64.ofInt (IntKind.wrap .i64 (0 - n)) &&& 63)).toNat = k → turnF x n = (shr64 x k ||| shl64 x (64 - k)) := by
    intro n k h1 h2
    unfold turnF rotl
    rw [h1, h2, UInt64.or_comm]
  exact ⟨e 1 1 (by decide +kernel) (by decide +kernel), e 8 8 (by decide +kernel) (by decide +kernel), e 19 19 (by decide +kernel) (by decide +kernel), e 61 61 (by decide +kernel) (by decide +kernel), e 14 14 (by decide +kernel) (by decide +kernel), e 18 18 (by decide +kernel) (by decide +kernel), e 41 41 (by decide +kernel) (by decide +kernel), e 28 28 (by decide +kernel) (by decide +kernel), e 34 34 (by decide +kernel) (by decide +kernel), e 39 39 (by decide +kernel) (by decide +kernel)⟩
theorem ok_TurnR : SpecOK Tryz.prog 103 sTurnR := by
  refine fn_okL (by kernel_rfl) tt_ok (.nil _) 3 Tryz.func103 (by decide +kernel) (by kernel_rfl) ?_
  rintro ⟨x, n, _⟩ hn
  obtain ⟨e1, e2, e3, e4, e5, e6, e7, e8, e9, e10⟩ := turn_eq x
  replace hn : nOK n := hn
  simp only [nOK, List.mem_cons, List.not_mem_nil, or_false] at hn
  rcases hn with rfl | rfl | rfl | rfl | rfl | rfl | rfl | rfl | rfl | rfl
  · exact ⟨_, {}, fun t => t = _, LnVD.of (vcTurnR1 x _) (congrArg SV.u64 e1.symm), svf⟩
  · exact ⟨_, {}, fun t => t = _, LnVD.of (vcTurnR8 x _) (congrArg SV.u64 e2.symm), svf⟩
  · exact ⟨_, {}, fun t => t = _, LnVD.of (vcTurnR19 x _) (congrArg SV.u64 e3.symm), svf⟩
  · exact ⟨_, {}, fun t => t = _, LnVD.of (vcTurnR61 x _) (congrArg SV.u64 e4.symm), svf⟩
  · exact ⟨_, {}, fun t => t = _, LnVD.of (vcTurnR14 x _) (congrArg SV.u64 e5.symm), svf⟩
  · exact ⟨_, {}, fun t => t = _, LnVD.of (vcTurnR18 x _) (congrArg SV.u64 e6.symm), svf⟩
  · exact ⟨_, {}, fun t => t = _, LnVD.of (vcTurnR41 x _) (congrArg SV.u64 e7.symm), svf⟩
  · exact ⟨_, {}, fun t => t = _, LnVD.of (vcTurnR28 x _) (congrArg SV.u64 e8.symm), svf⟩
  · exact ⟨_, {}, fun t => t = _, LnVD.of (vcTurnR34 x _) (congrArg SV.u64 e9.symm), svf⟩
  · exact ⟨_, {}, fun t => t = _, LnVD.of (vcTurnR39 x _) (congrArg SV.u64 e10.symm), svf⟩
theorem ok_Const : SpecOK Tryz.prog 102 sConst := by
  refine fn_okL (by kernel_rfl) tt_ok (.nil _) 9 Tryz.func102 (by decide +kernel) (by kernel_rfl) ?_
  rintro ⟨⟩ _
  exact ⟨_, {}, fun t => t = _, LnVD.of (vcConst _) rfl, svf⟩
theorem ok_BegR : FSpecOK Tryz.prog 94 sBegR := by
  refine fn_okF (by kernel_rfl) tt_ok (.nil _) 9 Tryz.func94 (by decide +kernel) (by kernel_rfl) ?_
  rintro ⟨⟩ _
  exact ⟨[], {}, fun x => x = _, LfVD.of (vcBegR _) rfl, fun x h at_ n w v r => by have h' : x = _ := h; subst h'; exact r⟩
theorem spR5_ok : SpecsOK Tryz.prog spR5 := .cons ok_TurnR <| .cons ok_Const (.nil _)

theorem shl8or (x : UInt64) (c : UInt8) : shl64 x 8 ||| c.toUInt64 = x * 256 + c.toUInt64 := by
  apply UInt64.toNat_inj.1
  have hc : c.toUInt64.toNat < 256 := by rw [UInt8.toNat_toUInt64]; exact c.toNat_lt
  have hx := x.toNat_lt
  rw [UInt64.toNat_or, UInt64.toNat_add, UInt64.toNat_mul]
  have e1 : (shl64 x 8).toNat = (x.toNat % 72057594037927936) <<< 8 := by
    rw [shl64, UInt64.toNat_ofNat', Nat.shiftLeft_eq]; omega
  rw [e1, ← Nat.shiftLeft_add_eq_or_of_lt hc, Nat.shiftLeft_eq]
  have : (256 : UInt64).toNat = 256 := rfl
  rw [this]; omega
theorem getD_set_ne {l : List UInt64} {i j : Nat} {x : UInt64} (h : i ≠ j) : (l.set i x).getD j 0 = l.getD j 0 := by
  simp only [List.getD_eq_getElem?_getD, List.getElem?_set, if_neg h]
theorem getD_set_eq {l : List UInt64} {i : Nat} {x : UInt64} (h : i < l.length) : (l.set i x).getD i 0 = x := by
  simp only [List.getD_eq_getElem?_getD, List.getElem?_set, if_pos h, if_true, Option.getD_some]
theorem take_succ_getD {l : List UInt64} {i : Nat} (h : i < l.length) : l.take (i + 1) = l.take i ++ [l.getD i 0] := by
  rw [List.take_add_one, List.getD_eq_getElem?_getD, List.getElem?_eq_getElem h]; rfl
theorem getD_take {l : List UInt64} {i n : Nat} (h : i < n) : (l.take n).getD i 0 = l.getD i 0 := by
  simp only [List.getD_eq_getElem?_getD, List.getElem?_take, if_pos h]
theorem take_set_le {l : List UInt64} {i n : Nat} {x : UInt64} (h : i ≤ n) : (l.set n x).take i = l.take i := by
  apply List.ext_getElem?
  intro k
  simp only [List.getElem?_take, List.getElem?_set]
  by_cases hk : k < i
  · rw [if_pos hk, if_pos hk, if_neg (by omega)]
  · rw [if_neg hk, if_neg hk]
theorem wB_zero (b : List UInt8) : ∀ n i, n ≤ 8 * i → (wB b n).getD i 0 = 0
  | 0, i, _ => by
    rw [wB, List.getD_eq_getElem?_getD, List.getElem?_replicate]
    split <;> rfl
  | n + 1, i, h => by rw [wB, getD_set_ne (by omega)]; exact wB_zero b n i (by omega)
theorem wB_take (b : List UInt8) (i : Nat) : ∀ j, j ≤ 8 → (wB b (8 * i + j)).take i = (wB b (8 * i)).take i
  | 0, _ => rfl
  | j + 1, h => by rw [← Nat.add_assoc, wB, take_set_le (by omega)]; exact wB_take b i j (by omega)
theorem iw_done {b : List UInt8} {w : List UInt64} {i : Int} {x : UInt64} {j : Int} (h : iw b w i) (hi : i < 16) (hx : ix b i x j) (hj : ¬ j < 8) : iw b (w ++ [x]) (IntKind.wrap .i64 (i + 1)) := by
  obtain ⟨h0, h1, rfl⟩ := h
  obtain ⟨k0, k1, rfl⟩ := hx
  rw [wr (by omega)]
  refine ⟨by omega, by omega, ?_⟩
  have ej : j = 8 := by omega
  subst ej
  rw [show (i + 1).toNat = i.toNat + 1 by omega, take_succ_getD (by rw [wB_len]; omega), show 8 * (i.toNat + 1) = 8 * i.toNat + 8 by omega, wB_take b _ 8 (by omega)]
  rfl
theorem ix_step {b : List UInt8} {i : Int} {x : UInt64} {j : Int} (h0 : 0 ≤ i) (hi : i < 16) (hx : ix b i x j) (hj : j < 8) :
    ix b i (x * UInt64.ofNat (Int.toNat 256) + UInt8.toUInt64 (List.getD b (Int.toNat (IntKind.wrap IntKind.i64 (IntKind.wrap IntKind.i64 (8 * i) + j))) 0)) (IntKind.wrap IntKind.i64 (j + 1)) := by
  obtain ⟨k0, k1, rfl⟩ := hx
  rw [wr (x := 8 * i) (by omega), wr (x := 8 * i + j) (by omega), wr (x := j + 1) (by omega)]
  refine ⟨by omega, by omega, ?_⟩
  rw [show (j + 1).toNat = j.toNat + 1 by omega, ← Nat.add_assoc, wB]
  rw [show (8 * i.toNat + j.toNat) / 8 = i.toNat by omega, getD_set_eq (by rw [wB_len]; omega), shl8or, show (8 * i + j).toNat = 8 * i.toNat + j.toNat by omega]
  rfl
theorem ix_start {b : List UInt8} {i : Int} : ix b i (UInt64.ofNat (Int.toNat 0)) 0 := by
  refine ⟨by omega, by omega, ?_⟩
  rw [wB_zero b _ _ (by simp)]; rfl
theorem it_start {b : List UInt8} {w : List UInt64} {i : Int} (h : iw b w i) (hi : ¬ i < 16) : it b w 16 := by
  obtain ⟨h0, h1, rfl⟩ := h
  refine ⟨by omega, by omega, ?_⟩
  rw [show i.toNat = 16 by omega]; rfl
theorem wX_take (b : List UInt8) (n : Nat) (h : n < 64) : (wX b (n + 1)).take (n + 17) = (wX b n).take (n + 16) ++ [(wX b n).getD n 0 + sig0 ((wX b n).getD (n + 1) 0) + (wX b n).getD (n + 9) 0 + sig1 ((wX b n).getD (n + 14) 0)] := by
  rw [wX, take_succ_getD (by rw [List.length_set, wX_len]; omega), take_set_le (by omega), getD_set_eq (by rw [wX_len]; omega)]
theorem it_step {b : List UInt8} {w : List UInt64} {t : Int} (h : it b w t) (ht : t < 80) : it b (w ++ [(turnF (List.getD w (0 + Int.toNat (IntKind.wrap IntKind.i64 (t - 2))) 0) 19 ^^^ turnF (List.getD w (0 + Int.toNat (IntKind.wrap IntKind.i64 (t - 2))) 0) 61 ^^^ shr64 (List.getD w (0 + Int.toNat (IntKind.wrap IntKind.i64 (t - 2))) 0) (UInt64.toNat (UInt64.ofNat (Int.toNat 6)))) +
            List.getD w (0 + Int.toNat (IntKind.wrap IntKind.i64 (t - 7))) 0 +
          (turnF (List.getD w (0 + Int.toNat (IntKind.wrap IntKind.i64 (t - 15))) 0) 1 ^^^ turnF (List.getD w (0 + Int.toNat (IntKind.wrap IntKind.i64 (t - 15))) 0) 8 ^^^ shr64 (List.getD w (0 + Int.toNat (IntKind.wrap IntKind.i64 (t - 15))) 0) (UInt64.toNat (UInt64.ofNat (Int.toNat 7)))) +
        List.getD w (0 + Int.toNat (IntKind.wrap IntKind.i64 (t - 16))) 0]) (IntKind.wrap IntKind.i64 (t + 1)) := by
  obtain ⟨h0, h1, rfl⟩ := h
  rw [wr (x := t - 2) (by omega), wr (x := t - 7) (by omega), wr (x := t - 15) (by omega), wr (x := t - 16) (by omega), wr (x := t + 1) (by omega)]
  obtain ⟨n, rfl⟩ : ∃ n : Nat, t = ((n + 16 : Nat) : Int) := ⟨(t - 16).toNat, by omega⟩
  refine ⟨by omega, by omega, ?_⟩
  rw [show (((n + 16 : Nat) : Int) + 1).toNat = n + 17 by omega, show (((n + 16 : Nat) : Int)).toNat = n + 16 by omega, show n + 17 - 16 = n + 1 by omega, show n + 16 - 16 = n by omega]
  rw [show 0 + (((n + 16 : Nat) : Int) - 2).toNat = n + 14 by omega, show 0 + (((n + 16 : Nat) : Int) - 7).toNat = n + 9 by omega, show 0 + (((n + 16 : Nat) : Int) - 15).toNat = n + 1 by omega, show 0 + (((n + 16 : Nat) : Int) - 16).toNat = n by omega]
  rw [getD_take (by omega), getD_take (by omega), getD_take (by omega), getD_take (by omega), wX_take b n (by omega)]
  congr 2
  have e0 : ∀ a : UInt64, turnF a 1 ^^^ turnF a 8 ^^^ shr64 a (UInt64.toNat (UInt64.ofNat (Int.toNat 7))) = sig0 a := fun a => rfl
  have e1 : ∀ a : UInt64, turnF a 19 ^^^ turnF a 61 ^^^ shr64 a (UInt64.toNat (UInt64.ofNat (Int.toNat 6))) = sig1 a := fun a => rfl
  rw [e0, e1]
  ac_rfl
theorem ir_start {b : List UInt8} {w : List UInt64} {t : Int} (s : St8) (h : it b w t) (ht : ¬ t < 80) : ir (wX b 64) s w s 0 := by
  obtain ⟨h0, h1, rfl⟩ := h
  have : t.toNat = 80 := by omega
  refine ⟨?_, by omega, by omega, rfl⟩
  rw [this]
  exact List.take_of_length_le (by rw [wX_len]; omega)
theorem ir_step {w0 w : List UInt64} {s v : St8} {t : Int} (h : ir w0 s w v t) (ht : t < 80) : ir w0 s w (round v (kTab.getD t.toNat 0) (w.getD (0 + t.toNat) 0)) (IntKind.wrap .i64 (t + 1)) := by
  obtain ⟨rfl, h0, h1, rfl⟩ := h
  rw [wr (by omega)]
  refine ⟨rfl, by omega, by omega, ?_⟩
  rw [show (t + 1).toNat = t.toNat + 1 by omega, rounds, Nat.zero_add]
  rfl
instance (n : Int) : Decidable (nOK n) := by unfold nOK; infer_instance
noncomputable def sBlk : SpecF := fspec (α := L8 × List UInt8 × Unit) (fun a => some (a.2.1.length = 128)) (fun a => L8.mk (mixV a.1.v a.2.1))
theorem cut_whole {b : List UInt8} (h : b.length = 128) : b.take 128 = b := List.take_of_length_le (by omega)
theorem ok_Blk : FSpecOK Tryz.prog 95 sBlk := by
  refine fn_okF (by kernel_rfl) tt_ok spR5_ok 9 Tryz.func95 (by decide +kernel) (by kernel_rfl) ?_
  rintro ⟨⟨s⟩, b, _⟩ hb
  replace hb : b.length = 128 := hb
  refine ⟨[], lBlk s b, fun x => x = .lst (.words (mixV s b).l), LfVD.of (vcBlk s b _) ?_, fun x h at_ n w v r => by have h' : x = _ := h; subst h'; exact r⟩
  refine ⟨⟨rfl, rfl⟩, ⟨by omega, by omega, rfl⟩, ?_⟩
  intro w i hw
  rw [bcase_dec]
  refine ⟨fun hi => ?_, fun hi => ?_⟩
  · have h0 := hw.1
    refine ⟨⟨rfl, rfl⟩, ⟨rfl, rfl, ix_start⟩, ?_⟩
    rintro w1 i1 x j ⟨hO, rfl, hx⟩
    injection hO with hO; subst hO
    rw [bcase_dec]
    refine ⟨fun hj => ?_, fun hj => ?_⟩
    · have j0 := hx.1
      refine ⟨⟨by rw [wr (x := 8 * i1) (by omega), wr (by omega)]; omega, by rw [wr (x := 8 * i1) (by omega), wr (by omega), hb]; omega⟩, ⟨rfl, rfl⟩, rfl, ⟨rfl, rfl, ix_step h0 hi hx hj⟩, ?_⟩
      rw [wr (by omega)]; omega
    · have lw : w1.length ≤ 16 := by rw [hw.2.2, List.length_take]; omega
      rw [show List.drop 0 (List.take w1.length w1) = w1 by rw [List.take_length]; rfl]
      refine ⟨⟨by omega, by rw [List.length_append]; simp only [appLim, List.length_singleton]; omega⟩, ⟨rfl, rfl⟩, rfl, iw_done hw hi hx hj, ?_⟩
      rw [wr (by omega)]; omega
  · refine ⟨⟨rfl, rfl⟩, it_start hw hi, ?_⟩
    intro w1 t ht
    have lw : w1.length = t.toNat := by have := ht.1; have := ht.2.1; rw [ht.2.2, List.length_take, wX_len]; omega
    rw [bcase_dec, show List.drop 0 (List.take w1.length w1) = w1 by rw [List.take_length]; rfl]
    refine ⟨fun h => ?_, fun h => ?_⟩
    · have t0 := ht.1
      have rg : ∀ k : Int, 0 < k ∧ k ≤ 16 → 0 ≤ IntKind.wrap .i64 (t - k) ∧ IntKind.wrap .i64 (t - k) < (w1.length : Int) := fun k hk => by rw [wr (by omega), lw]; omega
      refine ⟨rg 15 (by omega), by decide +kernel, rg 15 (by omega), by decide +kernel, rg 15 (by omega), rg 2 (by omega), by decide +kernel, rg 2 (by omega), by decide +kernel, rg 2 (by omega), rg 7 (by omega), rg 16 (by omega), ⟨by omega, ?_⟩, ⟨rfl, rfl⟩, rfl, it_step ht h, ?_⟩
      · rw [List.length_append]; simp only [appLim, List.length_singleton]; omega
      · rw [wr (by omega)]; omega
    · refine ⟨by show (8 : Nat) ≤ appLim; decide, ⟨⟨rfl, rfl⟩, rfl, rfl⟩, ir_start s ht h, ?_⟩
      intro w2 v a hR
      rw [bcase_dec]
      refine ⟨fun ha => ?_, fun ha => ?_⟩
      · have a0 := hR.2.1
        have k1 : 0 ≤ a ∧ a < (kTab.length : Int) := ⟨a0, ha⟩
        have k2 : 0 ≤ a ∧ a < (w2.length : Int) := ⟨a0, by rw [hR.1, wX_len]; exact ha⟩
        repeat (first | refine ⟨by decide +kernel, ?_⟩ | refine ⟨k1, ?_⟩ | refine ⟨k2, ?_⟩)
        refine ⟨⟨⟨rfl, rfl⟩, rfl, rfl⟩, rfl, ir_step hR ha, ?_⟩
        rw [wr (by omega)]; omega
      · have hl : s.l.length = 8 := rfl
        rw [hl]
        repeat (refine ⟨by decide +kernel, ?_⟩)
        have e : mixV s b = s.plus v := by
          obtain ⟨_, r0, r1, rfl⟩ := hR
          rw [mixV_eq, show a.toNat = 80 by omega]; rfl
        rw [e]
        show _ = _
        kernel_rfl
end Go.Proofs.YtigkddloeikpbaaGreatDoor.H6
/- The reference of layer 6: the sum: what the body comes to. -/
set_option maxRecDepth 10000
namespace Go.Proofs.YtigkddloeikpbaaGreatDoor.H6
open Go.Sym Go.Dig R1
noncomputable def spS5 : Specs := [(95, .fresh sBlk), (94, .fresh sBegR), (68, sToBig), (37, sInt), (42, sWords)]
def mR (b : List UInt8) : List UInt8 := padZ b (zn b.length) ++ [0, 0, 0, 0, 0, 0, 0, 0] ++ (bytesN (8 * b.length) 8).reverse
def iH (m0 : List UInt8) (m : List UInt8) (h : St8) (i : Int) : Prop := ∃ k : Nat, m = m0 ∧ i = 128 * (k : Int) ∧ 128 * k ≤ m0.length ∧ h = absN beg m0 k
--STOP iZ, iH, iO, outN, St8.l, mixV, absN, beg, bytesN, nv, Dg, wv, padZ, zn, mR
def lRSum (b : List UInt8) : Plan := { loops := [
  (0, { β := List UInt8 × Unit, α := OwnB × Unit, same := [0], keep := [3], inv := fun _ _ x => iZ b x.1.l, meas := fun _ x => zn b.length + b.length + 1 - x.1.l.length }),
  (2, { β := List UInt8 × Unit, α := OwnB × O8 × Int × Unit, same := [0], keep := [3, 4, 5], inv := fun _ _ x => iH (mR b) x.1.l x.2.1.v x.2.2.1, meas := fun _ x => ((x.1.l.length : Int) - x.2.2.1).toNat }),
  (4, { β := Unit, α := O8 × OwnB × Int × Unit, same := [], keep := [4, 6, 7], inv := fun _ a x => x.1.v = a.1.v ∧ iO a.1.v x.2.1.l x.2.2.1, meas := fun _ x => (8 - x.2.2.1).toNat })] }
theorem vcRSum (b : List UInt8) (Q : SV → Prop) : LnRaw tt spS5 9 [] (lRSum b) Tryz.f69 Q (b, ()) =
 ((List.length ([] ++ b) ≤ appLim) ∧
 ((((0 : Nat) + List.length ([] ++ b) = List.length ([] ++ b)) ∧
 (List.length
 (List.drop (0 : Nat) (List.take (List.length ([] ++ b)) ([] ++ b)) ++ [UInt8.ofNat (Int.toNat (128 : Int))]) ≤
 appLim)) ∧
 ((((0 : Nat) = (0 : Nat)) ∧
 (List.length
 (List.drop (0 : Nat) (List.take (List.length ([] ++ b)) ([] ++ b)) ++ [UInt8.ofNat (Int.toNat (128 : Int))]) =
 List.length
 (List.drop (0 : Nat) (List.take (List.length ([] ++ b)) ([] ++ b)) ++ [UInt8.ofNat (Int.toNat (128 : Int))]))) ∧
 ((iZ b (List.drop (0 : Nat) (List.take (List.length ([] ++ b)) ([] ++ b)) ++ [UInt8.ofNat (Int.toNat (128 : Int))])) ∧
 (∀ l : List UInt8,
 ((iZ b l) →
 bcase (Int.tmod (↑(List.length l) : Int) (128 : Int) != (112 : Int))
 (((((0 : Nat) + List.length l = List.length l) ∧
 (List.length (List.drop (0 : Nat) (List.take (List.length l) l) ++ [UInt8.ofNat (Int.toNat (0 : Int))]) ≤ appLim)) ∧
 ((((0 : Nat) = (0 : Nat)) ∧
 (List.length (List.drop (0 : Nat) (List.take (List.length l) l) ++ [UInt8.ofNat (Int.toNat (0 : Int))]) =
 List.length (List.drop (0 : Nat) (List.take (List.length l) l) ++ [UInt8.ofNat (Int.toNat (0 : Int))]))) ∧
 (((b, ()) = (b, ())) ∧
 ((iZ b (List.drop (0 : Nat) (List.take (List.length l) l) ++ [UInt8.ofNat (Int.toNat (0 : Int))])) ∧
 (zn (List.length b) + List.length b + (1 : Nat) -
 List.length (List.drop (0 : Nat) (List.take (List.length l) l) ++ [UInt8.ofNat (Int.toNat (0 : Int))]) <
 zn (List.length b) + List.length b + (1 : Nat) - List.length l))))))
 (((((0 : Nat) + List.length l = List.length l) ∧
 (List.length
 (List.drop (0 : Nat) (List.take (List.length l) l) ++
 [UInt8.ofNat (Int.toNat (0 : Int)), UInt8.ofNat (Int.toNat (0 : Int)), UInt8.ofNat (Int.toNat (0 : Int)),
 UInt8.ofNat (Int.toNat (0 : Int)), UInt8.ofNat (Int.toNat (0 : Int)), UInt8.ofNat (Int.toNat (0 : Int)),
 UInt8.ofNat (Int.toNat (0 : Int)), UInt8.ofNat (Int.toNat (0 : Int))]) ≤
 appLim)) ∧
 ((((0 : Int) ≤ IntKind.wrap IntKind.i64 ((8 : Int) * (↑(List.length b) : Int))) ∧
 (IntKind.wrap IntKind.i64 ((8 : Int) * (↑(List.length b) : Int)) < (9223372036854775808 : Int))) ∧
 (((Dg (dg (Int.toNat (IntKind.wrap IntKind.i64 ((8 : Int) * (↑(List.length b) : Int)))))) ∧
 (((0 : Int) ≤ (8 : Int)) ∧
 ((8 : Int) ≤ (1048576 : Int)))) ∧
 ((((0 : Nat) +
 List.length
 (List.drop (0 : Nat) (List.take (List.length l) l) ++
 [UInt8.ofNat (Int.toNat (0 : Int)), UInt8.ofNat (Int.toNat (0 : Int)), UInt8.ofNat (Int.toNat (0 : Int)),
 UInt8.ofNat (Int.toNat (0 : Int)), UInt8.ofNat (Int.toNat (0 : Int)), UInt8.ofNat (Int.toNat (0 : Int)),
 UInt8.ofNat (Int.toNat (0 : Int)), UInt8.ofNat (Int.toNat (0 : Int))]) =
 List.length
 (List.drop (0 : Nat) (List.take (List.length l) l) ++
 [UInt8.ofNat (Int.toNat (0 : Int)), UInt8.ofNat (Int.toNat (0 : Int)), UInt8.ofNat (Int.toNat (0 : Int)),
 UInt8.ofNat (Int.toNat (0 : Int)), UInt8.ofNat (Int.toNat (0 : Int)), UInt8.ofNat (Int.toNat (0 : Int)),
 UInt8.ofNat (Int.toNat (0 : Int)), UInt8.ofNat (Int.toNat (0 : Int))])) ∧
 (List.length
 (List.drop (0 : Nat)
 (List.take
 (List.length
 (List.drop (0 : Nat) (List.take (List.length l) l) ++
 [UInt8.ofNat (Int.toNat (0 : Int)), UInt8.ofNat (Int.toNat (0 : Int)), UInt8.ofNat (Int.toNat (0 : Int)),
 UInt8.ofNat (Int.toNat (0 : Int)), UInt8.ofNat (Int.toNat (0 : Int)), UInt8.ofNat (Int.toNat (0 : Int)),
 UInt8.ofNat (Int.toNat (0 : Int)), UInt8.ofNat (Int.toNat (0 : Int))]))
 (List.drop (0 : Nat) (List.take (List.length l) l) ++
 [UInt8.ofNat (Int.toNat (0 : Int)), UInt8.ofNat (Int.toNat (0 : Int)), UInt8.ofNat (Int.toNat (0 : Int)),
 UInt8.ofNat (Int.toNat (0 : Int)), UInt8.ofNat (Int.toNat (0 : Int)), UInt8.ofNat (Int.toNat (0 : Int)),
 UInt8.ofNat (Int.toNat (0 : Int)), UInt8.ofNat (Int.toNat (0 : Int))])) ++
 List.reverse
 (bytesN (nv (dg (Int.toNat (IntKind.wrap IntKind.i64 ((8 : Int) * (↑(List.length b) : Int))))))
 (Int.toNat (8 : Int)))) ≤
 appLim)) ∧
 (((((0 : Nat) = (0 : Nat)) ∧
 (List.length
 (List.drop (0 : Nat)
 (List.take
 (List.length
 (List.drop (0 : Nat) (List.take (List.length l) l) ++
 [UInt8.ofNat (Int.toNat (0 : Int)), UInt8.ofNat (Int.toNat (0 : Int)), UInt8.ofNat (Int.toNat (0 : Int)),
 UInt8.ofNat (Int.toNat (0 : Int)), UInt8.ofNat (Int.toNat (0 : Int)), UInt8.ofNat (Int.toNat (0 : Int)),
 UInt8.ofNat (Int.toNat (0 : Int)), UInt8.ofNat (Int.toNat (0 : Int))]))
 (List.drop (0 : Nat) (List.take (List.length l) l) ++
 [UInt8.ofNat (Int.toNat (0 : Int)), UInt8.ofNat (Int.toNat (0 : Int)), UInt8.ofNat (Int.toNat (0 : Int)),
 UInt8.ofNat (Int.toNat (0 : Int)), UInt8.ofNat (Int.toNat (0 : Int)), UInt8.ofNat (Int.toNat (0 : Int)),
 UInt8.ofNat (Int.toNat (0 : Int)), UInt8.ofNat (Int.toNat (0 : Int))])) ++
 List.reverse
 (bytesN (nv (dg (Int.toNat (IntKind.wrap IntKind.i64 ((8 : Int) * (↑(List.length b) : Int))))))
 (Int.toNat (8 : Int)))) =
 List.length
 (List.drop (0 : Nat)
 (List.take
 (List.length
 (List.drop (0 : Nat) (List.take (List.length l) l) ++
 [UInt8.ofNat (Int.toNat (0 : Int)), UInt8.ofNat (Int.toNat (0 : Int)), UInt8.ofNat (Int.toNat (0 : Int)),
 UInt8.ofNat (Int.toNat (0 : Int)), UInt8.ofNat (Int.toNat (0 : Int)), UInt8.ofNat (Int.toNat (0 : Int)),
 UInt8.ofNat (Int.toNat (0 : Int)), UInt8.ofNat (Int.toNat (0 : Int))]))
 (List.drop (0 : Nat) (List.take (List.length l) l) ++
 [UInt8.ofNat (Int.toNat (0 : Int)), UInt8.ofNat (Int.toNat (0 : Int)), UInt8.ofNat (Int.toNat (0 : Int)),
 UInt8.ofNat (Int.toNat (0 : Int)), UInt8.ofNat (Int.toNat (0 : Int)), UInt8.ofNat (Int.toNat (0 : Int)),
 UInt8.ofNat (Int.toNat (0 : Int)), UInt8.ofNat (Int.toNat (0 : Int))])) ++
 List.reverse
 (bytesN (nv (dg (Int.toNat (IntKind.wrap IntKind.i64 ((8 : Int) * (↑(List.length b) : Int))))))
 (Int.toNat (8 : Int)))))) ∧
 (((0 : Nat) = (0 : Nat)) ∧
 (List.length (St8.l beg) = List.length (St8.l beg)))) ∧
 ((iH (mR b)
 (List.drop (0 : Nat)
 (List.take
 (List.length
 (List.drop (0 : Nat) (List.take (List.length l) l) ++
 [UInt8.ofNat (Int.toNat (0 : Int)), UInt8.ofNat (Int.toNat (0 : Int)), UInt8.ofNat (Int.toNat (0 : Int)),
 UInt8.ofNat (Int.toNat (0 : Int)), UInt8.ofNat (Int.toNat (0 : Int)), UInt8.ofNat (Int.toNat (0 : Int)),
 UInt8.ofNat (Int.toNat (0 : Int)), UInt8.ofNat (Int.toNat (0 : Int))]))
 (List.drop (0 : Nat) (List.take (List.length l) l) ++
 [UInt8.ofNat (Int.toNat (0 : Int)), UInt8.ofNat (Int.toNat (0 : Int)), UInt8.ofNat (Int.toNat (0 : Int)),
 UInt8.ofNat (Int.toNat (0 : Int)), UInt8.ofNat (Int.toNat (0 : Int)), UInt8.ofNat (Int.toNat (0 : Int)),
 UInt8.ofNat (Int.toNat (0 : Int)), UInt8.ofNat (Int.toNat (0 : Int))])) ++
 List.reverse
 (bytesN (nv (dg (Int.toNat (IntKind.wrap IntKind.i64 ((8 : Int) * (↑(List.length b) : Int))))))
 (Int.toNat (8 : Int))))
 beg (0 : Int)) ∧
 (∀ l_1 : List UInt8,
 (∀ v : St8,
 (∀ a : Int,
 ((iH (mR b) l_1 v a) →
 bcase (decide (a < (↑(List.length l_1) : Int)))
 (((((0 : Int) ≤ a) ∧
 ((a ≤ IntKind.wrap IntKind.i64 (a + (128 : Int))) ∧
 (IntKind.wrap IntKind.i64 (a + (128 : Int)) ≤ (↑(List.length l_1) : Int)))) ∧
 ((List.length
 (List.drop ((0 : Nat) + Int.toNat a)
 (List.take ((0 : Nat) + Int.toNat a + (Int.toNat (IntKind.wrap IntKind.i64 (a + (128 : Int))) - Int.toNat a))
 l_1)) =
 (128 : Nat)) ∧
 (((((0 : Nat) = (0 : Nat)) ∧
 (List.length l_1 = List.length l_1)) ∧
 (((0 : Nat) = (0 : Nat)) ∧
 (List.length
 (St8.l
 (mixV v
 (List.drop ((0 : Nat) + Int.toNat a)
 (List.take ((0 : Nat) + Int.toNat a + (Int.toNat (IntKind.wrap IntKind.i64 (a + (128 : Int))) - Int.toNat a))
 l_1)))) =
 List.length
 (St8.l
 (mixV v
 (List.drop ((0 : Nat) + Int.toNat a)
 (List.take ((0 : Nat) + Int.toNat a + (Int.toNat (IntKind.wrap IntKind.i64 (a + (128 : Int))) - Int.toNat a))
 l_1))))))) ∧
 (((b, ()) = (b, ())) ∧
 ((iH (mR b) l_1
 (mixV v
 (List.drop ((0 : Nat) + Int.toNat a)
 (List.take ((0 : Nat) + Int.toNat a + (Int.toNat (IntKind.wrap IntKind.i64 (a + (128 : Int))) - Int.toNat a))
 l_1)))
 (IntKind.wrap IntKind.i64 (a + (128 : Int)))) ∧
 (Int.toNat ((↑(List.length l_1) : Int) - IntKind.wrap IntKind.i64 (a + (128 : Int))) <
 Int.toNat ((↑(List.length l_1) : Int) - a))))))))
 ((((((0 : Nat) = (0 : Nat)) ∧
 ((8 : Nat) = List.length (St8.l v))) ∧
 (((0 : Nat) = (0 : Nat)) ∧
 ((0 : Nat) = (0 : Nat)))) ∧
 (((v = v) ∧
 (iO v [] (0 : Int))) ∧
 (∀ v_1 : St8,
 (∀ l_2 : List UInt8,
 (∀ a_1 : Int,
 (((v_1 = v) ∧
 (iO v l_2 a_1)) →
 bcase (decide (a_1 < (8 : Int)))
 (((((0 : Int) ≤ a_1) ∧
 (a_1 < (↑(8 : Nat) : Int))) ∧
 (((1 : Nat) ≤ (1048576 : Nat)) ∧
 (((Dg (dg (wv [List.getD (St8.l v_1) ((0 : Nat) + Int.toNat a_1) (0 : UInt64)]))) ∧
 (((0 : Int) ≤ (8 : Int)) ∧
 ((8 : Int) ≤ (1048576 : Int)))) ∧
 ((((0 : Nat) + List.length l_2 = List.length l_2) ∧
 (List.length
 (List.drop (0 : Nat) (List.take (List.length l_2) l_2) ++
 List.reverse
 (bytesN (nv (dg (wv [List.getD (St8.l v_1) ((0 : Nat) + Int.toNat a_1) (0 : UInt64)])))
 (Int.toNat (8 : Int)))) ≤
 appLim)) ∧
 (((((0 : Nat) = (0 : Nat)) ∧
 ((8 : Nat) = List.length (St8.l v_1))) ∧
 (((0 : Nat) = (0 : Nat)) ∧
 (List.length
 (List.drop (0 : Nat) (List.take (List.length l_2) l_2) ++
 List.reverse
 (bytesN (nv (dg (wv [List.getD (St8.l v_1) ((0 : Nat) + Int.toNat a_1) (0 : UInt64)])))
 (Int.toNat (8 : Int)))) =
 List.length
 (List.drop (0 : Nat) (List.take (List.length l_2) l_2) ++
 List.reverse
 (bytesN (nv (dg (wv [List.getD (St8.l v_1) ((0 : Nat) + Int.toNat a_1) (0 : UInt64)]))) (Int.toNat (8 : Int))))))) ∧
 ((() = ()) ∧
 (((v_1 = v) ∧
 (iO v
 (List.drop (0 : Nat) (List.take (List.length l_2) l_2) ++
 List.reverse
 (bytesN (nv (dg (wv [List.getD (St8.l v_1) ((0 : Nat) + Int.toNat a_1) (0 : UInt64)]))) (Int.toNat (8 : Int))))
 (IntKind.wrap IntKind.i64 (a_1 + (1 : Int))))) ∧
 (Int.toNat ((8 : Int) - IntKind.wrap IntKind.i64 (a_1 + (1 : Int))) < Int.toNat ((8 : Int) - a_1))))))))))
 ((Q (SV.lst (LV.bytes (List.drop (0 : Nat) (List.take ((0 : Nat) + List.length l_2) l_2)))))))))))))))))))))))))))))) := by kernel_rfl
end Go.Proofs.YtigkddloeikpbaaGreatDoor.H6
/- Layer 6: the program's sum and the reference's are one. -/
set_option maxRecDepth 10000
namespace Go.Proofs.YtigkddloeikpbaaGreatDoor.H6
open Go.Sym Go.Dig R1
noncomputable def digV0 (b : List UInt8) : List UInt8 := sum0 (absT beg b) (absR b) (UInt64.ofInt (b.length : Int))
theorem dig_ex : ∃ f : List UInt8 → List UInt8, f = digV0 := ⟨_, rfl⟩
noncomputable def digV : List UInt8 → List UInt8 := Classical.choose dig_ex
theorem digV_eq : digV = digV0 := Classical.choose_spec dig_ex
noncomputable def sDSum : SpecF := fspec (α := List UInt8 × Unit) (fun a => some (a.1.length ≤ 1073741824)) (fun a => digV a.1)
theorem absR_len (r : List UInt8) : (absR r).length < 128 := by rw [absR, List.length_drop]; omega
theorem ok_DSumF : SpecOK Tryz.prog 1000000 Sym.sNo := Sym.sNo_ok _ _
theorem be8_eq (x : UInt64) : (bytesN x.toNat 8).reverse = be8 x 8 := by
  have hx := x.toNat_lt
  have e : ∀ k d : Nat, d = 2 ^ k → UInt8.ofNat (x.toNat / d) = (shr64 x k).toUInt8 := by
    intro k d hd
    apply UInt8.toNat_inj.1
    subst hd
    have : x.toNat / 2 ^ k ≤ x.toNat := Nat.div_le_self _ _
    rw [shr64, UInt64.toNat_toUInt8, UInt64.toNat_ofNat', UInt8.toNat_ofNat']
    omega
  show [UInt8.ofNat (x.toNat / 256 ^ 7), UInt8.ofNat (x.toNat / 256 ^ 6), UInt8.ofNat (x.toNat / 256 ^ 5), UInt8.ofNat (x.toNat / 256 ^ 4), UInt8.ofNat (x.toNat / 256 ^ 3), UInt8.ofNat (x.toNat / 256 ^ 2), UInt8.ofNat (x.toNat / 256 ^ 1), UInt8.ofNat (x.toNat / 256 ^ 0)] = _
  rw [e 56 _ (by decide), e 48 _ (by decide), e 40 _ (by decide), e 32 _ (by decide), e 24 _ (by decide), e 16 _ (by decide), e 8 _ (by decide), e 0 _ (by decide)]
  rfl
theorem be8w (x : UInt64) : (bytesN (nv (dg (wv [x]))) 8).reverse = be8 x 8 := by
  rw [nv_dg, show wv [x] = x.toNat by simp [wv]]; exact be8_eq x
theorem len8 (n : Nat) (h : n ≤ 1073741824) : (UInt64.ofInt (n : Int) * 8).toNat = 8 * n := by
  rw [UInt64.toNat_mul, ofInt64]
  have : (8 : UInt64).toNat = 8 := rfl
  rw [this]; omega
theorem absN_congr (s : St8) (m b : List UInt8) : ∀ i, (∀ j, j < i → cut m (128 * j) = cut b (128 * j)) → absN s m i = absN s b i
  | 0, _ => rfl
  | i + 1, h => by rw [absN, absN, absN_congr s m b i (fun j hj => h j (by omega)), h i (by omega)]
theorem absN_add (s : St8) (m : List UInt8) (q : Nat) : ∀ i, absN s m (q + i) = absN (absN s m q) (m.drop (128 * q)) i
  | 0 => rfl
  | i + 1 => by
    rw [← Nat.add_assoc, absN, absN, absN_add s m q i]
    congr 1
    simp only [cut, List.drop_drop]
    congr 2; omega
theorem cut_append {b r : List UInt8} {j : Nat} (h : 128 * j + 128 ≤ b.length) : cut (b ++ r) (128 * j) = cut b (128 * j) := by
  simp only [cut]
  rw [List.drop_append_of_le_length (by omega), List.take_append_of_le_length (by rw [List.length_drop]; omega)]
theorem mR_drop (b : List UInt8) (h : b.length ≤ 1073741824) : (mR b).drop (128 * (b.length / 128)) = padded (absR b) (UInt64.ofInt (b.length : Int)) := by
  have ez : zn (absR b).length = zn b.length := by
    rw [absR, List.length_drop]
    have : (b.length - 128 * (b.length / 128)) % 128 = b.length % 128 := by omega
    simp only [zn, this]
  unfold mR padded padZ
  rw [ez, ← be8_eq, len8 _ h]
  simp only [List.append_assoc]
  rw [List.drop_append_of_le_length (by omega)]
  rfl
theorem mR_len (b : List UInt8) : (mR b).length = b.length + 17 + zn b.length := by
  rw [mR, List.length_append, List.length_append, padZ_len, List.length_reverse, bytesN_len]; simp only [List.length_cons, List.length_nil]; omega
theorem ref_eq (b : List UInt8) (h : b.length ≤ 1073741824) : outN (absN beg (mR b) ((mR b).length / 128)) 8 = digV0 b := by
  unfold digV0 sum0
  have e : (mR b).length / 128 = b.length / 128 + (padded (absR b) (UInt64.ofInt (b.length : Int))).length / 128 := by
    rw [← mR_drop b h, List.length_drop, mR_len]; omega
  rw [e, absN_add, mR_drop b h]
  congr 2
  unfold absT mR padZ
  simp only [List.append_assoc]
  exact absN_congr _ _ _ _ fun j hj => cut_append (by omega)
theorem spS5_ok : SpecsOK Tryz.prog spS5 := .consF ok_Blk <| .consF ok_BegR <| .cons ok_ToBig <| .cons ok_Int <| .cons ok_Words (.nil _)
noncomputable def sRSum : SpecF := sDSum
theorem ok_RSum : SpecOK Tryz.prog 69 sRSum := by
  unfold sRSum sDSum
  rw [digV_eq]
  refine fn_okL (by kernel_rfl) tt_ok spS5_ok 9 Tryz.func69 (by decide +kernel) (by kernel_rfl) ?_
  rintro ⟨b, _⟩ hb
  replace hb : b.length ≤ 1073741824 := hb
  have hz := zn_lt b.length
  refine ⟨[], lRSum b, fun x => x = .lst (.bytes (digV0 b)), LnVD.of (vcRSum b _) ?_, svf⟩
  rw [List.nil_append, full]
  refine ⟨by simp only [appLim]; omega, ⟨by omega, by simp only [appLim, List.length_append, List.length_singleton]; omega⟩, ⟨rfl, rfl⟩, ⟨0, by omega, by simp [padZ]⟩, ?_⟩
  intro t hZ
  have lt : t.length ≤ b.length + 129 := by obtain ⟨k, hk, rfl⟩ := hZ; rw [padZ_len]; omega
  have em : Int.tmod (t.length : Int) 128 = ((t.length % 128 : Nat) : Int) := by rw [tmod_nn (by omega)]; omega
  rw [em, bcase_iff, full]
  refine ⟨fun hc => ?_, fun hc => ?_⟩
  · have hc' : ¬ t.length % 128 = 112 := by
      intro e; rw [e] at hc; exact absurd hc (by decide)
    obtain ⟨z1, z2⟩ := iZ_step hZ hc'
    refine ⟨⟨by omega, by simp only [appLim, List.length_append, List.length_singleton]; omega⟩, ⟨rfl, rfl⟩, rfl, z1, ?_⟩
    rw [List.length_append, List.length_singleton]
    omega
  · have hc' : t.length % 128 = 112 := by
      have := bne_eq_false_iff_eq.1 hc
      omega
    have ht := iZ_done hZ hc'
    have ew : IntKind.wrap .i64 (8 * (b.length : Int)) = ((8 * b.length : Nat) : Int) := by rw [wr (by omega)]; omega
    have em' : t ++ [UInt8.ofNat (Int.toNat (0 : Int)), UInt8.ofNat (Int.toNat (0 : Int)), UInt8.ofNat (Int.toNat (0 : Int)), UInt8.ofNat (Int.toNat (0 : Int)), UInt8.ofNat (Int.toNat (0 : Int)), UInt8.ofNat (Int.toNat (0 : Int)), UInt8.ofNat (Int.toNat (0 : Int)), UInt8.ofNat (Int.toNat (0 : Int))] ++ List.reverse (bytesN (nv (dg (Int.toNat ((8 * b.length : Nat) : Int)))) (Int.toNat 8)) = mR b := by
      rw [ht, Int.toNat_natCast, nv_dg]; rfl
    rw [ew, full, em']
    have lm := mR_len b
    have hDg : Dg (dg (Int.toNat ((8 * b.length : Nat) : Int))) := by
      rw [Int.toNat_natCast]
      have : 8 * b.length < 16777216 ^ 2 := by omega
      exact Dg.dg (Nat.le_trans (dg_length_lt this) (by decide))
    refine ⟨⟨by omega, by simp only [appLim, List.length_append, List.length_cons, List.length_nil]; omega⟩, ⟨by omega, by omega⟩, ⟨hDg, by omega, by omega⟩, ⟨by omega, by rw [lm]; simp only [appLim]; omega⟩, ⟨⟨rfl, rfl⟩, rfl, rfl⟩, ⟨0, rfl, rfl, by omega, rfl⟩, ?_⟩
    intro m v a hH
    obtain ⟨k, rfl, rfl, hk, rfl⟩ := hH
    rw [bcase_dec]
    have l64 : (mR b).length % 128 = 0 := by rw [lm, zn]; omega
    refine ⟨fun ha => ?_, fun ha => ?_⟩
    · have w1 : IntKind.wrap .i64 (128 * (k : Int) + 128) = ((128 * k + 128 : Nat) : Int) := by rw [wr (by omega)]; omega
      have w2 : Int.toNat (128 * (k : Int)) = 128 * k := by omega
      have ec : List.drop (0 + 128 * k) (List.take (0 + 128 * k + (128 * k + 128 - 128 * k)) (mR b)) = cut (mR b) (128 * k) := by
        rw [Nat.zero_add, List.drop_take]
        congr 1; omega
      rw [w1, w2, Int.toNat_natCast, ec]
      refine ⟨⟨by omega, by omega, by omega⟩, ?_, ⟨⟨rfl, rfl⟩, rfl, rfl⟩, rfl, ⟨k + 1, rfl, by omega, by omega, rfl⟩, by omega⟩
      rw [List.length_take, List.length_drop]; omega
    · refine ⟨⟨⟨rfl, rfl⟩, rfl, rfl⟩, ⟨rfl, by omega, by omega, rfl⟩, ?_⟩
      rintro v l a ⟨rfl, hO⟩
      have o0 := hO.1
      have hl : l.length ≤ 64 := by
        have lo : ∀ (s : St8) (n : Nat), (outN s n).length = 8 * n := by
          intro s n
          induction n with
          | zero => rfl
          | succ n ih => rw [outN, List.length_append, ih, be8_len]; omega
        have := hO.2.1
        rw [hO.2.2, lo]; omega
      rw [bcase_dec, full, show Int.toNat 8 = 8 from rfl, be8w]
      refine ⟨fun h8 => ?_, fun h8 => ?_⟩
      · refine ⟨⟨o0, h8⟩, by omega, ⟨Dg.dg (Nat.le_trans (dg_length_lt (k := 20) (Nat.lt_trans (wv_lt _) (show (2 : Nat) ^ (64 * 1) < 16777216 ^ 20 by decide))) (by decide)), by omega, by omega⟩, ⟨by omega, ?_⟩, ⟨⟨rfl, rfl⟩, rfl, rfl⟩, rfl, ⟨rfl, ?_⟩, ?_⟩
        · rw [List.length_append]
          have : (be8 (List.getD (St8.l (absN beg (mR b) k)) (0 + Int.toNat a) 0) 8).length = 8 := be8_len _ _
          simp only [appLim]; omega
        · rw [wr (by omega)]
          refine ⟨by omega, by omega, ?_⟩
          rw [show (a + 1).toNat = a.toNat + 1 by omega, outN, ← hO.2.2, Nat.zero_add]
        · rw [wr (by omega)]; omega
      · have e : l = digV0 b := by
          rw [hO.2.2, show a.toNat = 8 by have := hO.2.1; omega, ← ref_eq b hb, show (mR b).length / 128 = k by omega]
        show SV.lst (.bytes (List.drop 0 (List.take (0 + l.length) l))) = _
        rw [Nat.zero_add, full, e]
end Go.Proofs.YtigkddloeikpbaaGreatDoor.H6
/- Layer 6: the example. -/
set_option maxRecDepth 100000
namespace Go.Proofs.YtigkddloeikpbaaGreatDoor.H6
open Go.Sym Go.Dig R1
def blkA : List UInt8 := [97, 98, 99, 128, 0, 0, 0, 0, 0, 0, 0, 0, 0, 0, 0, 0, 0, 0, 0, 0, 0, 0, 0, 0, 0, 0, 0, 0, 0, 0, 0, 0, 0, 0, 0, 0, 0, 0, 0, 0, 0, 0, 0, 0, 0, 0, 0, 0, 0, 0, 0, 0, 0, 0, 0, 0, 0, 0, 0, 0, 0, 0, 0, 0, 0, 0, 0, 0, 0, 0, 0, 0, 0, 0, 0, 0, 0, 0, 0, 0, 0, 0, 0, 0, 0, 0, 0, 0, 0, 0, 0, 0, 0, 0, 0, 0, 0, 0, 0, 0, 0, 0, 0, 0, 0, 0, 0, 0, 0, 0, 0, 0, 0, 0, 0, 0, 0, 0, 0, 0, 0, 0, 0, 0, 0, 0, 0, 24]
deriving instance DecidableEq for St8
theorem mixA : mix0 beg blkA = ⟨15974045371385084602, 14718171817514647857, 1362051152550133410, 765311659573367706, 2419164356178592168, 3943530547489205181, 4993722480620005390, 3069987439919277215⟩ := by decide +kernel
theorem abc : digV [97, 98, 99] = [221, 175, 53, 161, 147, 97, 122, 186, 204, 65, 115, 73, 174, 32, 65, 49, 18, 230, 250, 78, 137, 169, 126, 162, 10, 158, 238, 230, 75, 85, 211, 154, 33, 146, 153, 42, 39, 79, 193, 168, 54, 186, 60, 35, 163, 254, 235, 189, 69, 77, 68, 35, 100, 60, 232, 14, 42, 154, 201, 79, 165, 76, 164, 159] := by
  rw [digV_eq]
  have e : sum0 (absT beg [97, 98, 99]) (absR [97, 98, 99]) (UInt64.ofInt 3) = outN (mixV beg blkA) 8 := by
    unfold sum0
    rw [show padded (absR [97, 98, 99]) (UInt64.ofInt 3) = blkA by decide +kernel]
    rfl
  show sum0 (absT beg [97, 98, 99]) (absR [97, 98, 99]) (UInt64.ofInt 3) = _
  rw [e, mixV_eq, mixA]
  decide +kernel
end Go.Proofs.YtigkddloeikpbaaGreatDoor.H6
/- Layer 6's laws: what the bodies come to. -/
set_option maxRecDepth 10000
namespace Go.Proofs.YtigkddloeikpbaaGreatDoor.H6
open Go.Sym Go.Dig R1
noncomputable def spA6 : Specs := [(1000000, Sym.sNo)]
--STOP digV
def sAwake6 : SpecF := fspec (α := Unit) total (fun _ => true)
noncomputable def spL6 : Specs := [(1000000, Sym.sNo), (69, sRSum), (12, sSame), (1000002, Sym.sNo)]
end Go.Proofs.YtigkddloeikpbaaGreatDoor.H6
/- Layer 6's laws hold. -/
set_option maxRecDepth 10000
namespace Go.Proofs.YtigkddloeikpbaaGreatDoor.H6
open Go.Sym Go.Dig R1
theorem outN_len (s : St8) : ∀ n, (outN s n).length = 8 * n
  | 0 => rfl
  | n + 1 => by rw [outN, List.length_append, outN_len s n, be8_len]; omega
theorem digV_len (b : List UInt8) : (digV b).length = 64 := by
  rw [digV_eq]
  exact outN_len _ 8
theorem spA6_ok : SpecsOK Tryz.prog spA6 := .cons ok_DSumF (.nil _)
theorem ok_Awake6 : SpecOK Tryz.prog 1000001 Sym.sNo := Sym.sNo_ok _ _
theorem spL6_ok : SpecsOK Tryz.prog spL6 := .cons ok_DSumF <| .cons ok_RSum <| .cons ok_Same <| .cons ok_Awake6 (.nil _)
abbrev sSums6 : SpecF := fspec (α := List UInt8 × Unit) total fun _ => true
theorem ok_Sums6 : SpecOK Tryz.prog 1000000 Sym.sNo := Sym.sNo_ok _ _
end Go.Proofs.YtigkddloeikpbaaGreatDoor.H6
/- Layer 6's law of pieces: what the body comes to. -/
set_option maxRecDepth 10000
namespace Go.Proofs.YtigkddloeikpbaaGreatDoor.H6
open Go.Sym Go.Dig R1
instance : Enc (List (List UInt8)) where
  enc l := .lol l
  dec | .lol l => some l
      | _ => none
  ok := by
    intro s a h at_ w v r
    split at h
    · simp only [Option.some.injEq] at h; subst h; exact r
    · cases h
  nn _ := rfl
/-- A hash at a loop's head; where it has no list, it has one of no bytes. -/
structure PHn where
  v : HashV
instance : LEnc PHn where
  kind := none
  ins := [(8, .u8)]
  enc nx a := (.ptr nx 0, [a.v.cells (nx + 1), [.own (.bytes a.v.l)]])
  dec nx s M := match s, M with
    | .ptr b 0, some cs :: some [.own (.bytes l)] :: M' => if b = nx then (match dHashC l cs with | some (r, k) => if k = nx + 1 then some (none, ⟨r⟩, M') else none | none => none) else none
    | _, _ => none
  all P := ∀ v, P ⟨v⟩
  all_ok h a := h a.v
  ok := by
    intro nx s M p a M' h hp
    split at h
    · split at h
      · rename_i hb
        split at h
        · rename_i r k hd
          split at h
          · rename_i hk
            simp only [Option.some.injEq, Prod.mk.injEq] at h
            obtain ⟨_, rfl, rfl⟩ := h
            subst hb; subst hk
            obtain ⟨e1, e2⟩ := dHashC_ok hd
            subst e2
            exact ⟨by rw [e1]; rfl, fun r => r⟩
          · cases h
        · cases h
      · cases h
    · cases h
noncomputable def hv (t : List UInt8) : HashV := ⟨absT beg t, absR t, 0, (absR t).length, UInt64.ofInt (t.length : Int)⟩
def iP (l : List (List UInt8)) (v g : HashV) (all : List UInt8) (i : Int) : Prop := 0 ≤ i ∧ i ≤ l.length ∧ all = (l.take i.toNat).flatten ∧ v = hv all ∧ g = hv [] ∧ (all.length : Int) ≤ 1000 * i
noncomputable def spP6 : Specs := [(87, .fresh sNewH), (88, .memf sWriteO), (89, .fresh sHSumO), (1000000, Sym.sNo), (1000001, Sym.sNo), (12, sSame), (1000002, Sym.sNo)]
def lPie (l : List (List UInt8)) (n : Int) : Plan := { loops := [(0, { β := List UInt8 × List (List UInt8) × Int × Unit, α := PHn × PHn × OwnB × Int × Unit, same := [1, 23, 24], keep := [5, 6, 7, 25], inv := fun _ _ x => iP l x.1.v x.2.1.v x.2.2.1.l x.2.2.2.1, meas := fun _ x => (n - x.2.2.2.1).toNat })] }
end Go.Proofs.YtigkddloeikpbaaGreatDoor.H6
/- Layer 6's law of pieces: what the body comes to. -/
set_option maxRecDepth 10000
namespace Go.Proofs.YtigkddloeikpbaaGreatDoor.H6
open Go.Sym Go.Dig R1
--STOP digV, iP, hv, rOf, nOf, absT, absR, sumV, sumO, beg, List.flatten
end Go.Proofs.YtigkddloeikpbaaGreatDoor.H6
/- Layer 6's law of pieces holds. -/
set_option maxRecDepth 10000
namespace Go.Proofs.YtigkddloeikpbaaGreatDoor.H6
open Go.Sym Go.Dig R1
theorem fz (l : List UInt8) : List.drop 0 (List.take (0 + l.length) l) = l := by rw [Nat.zero_add, List.take_length]; rfl
theorem tz (l : List UInt8) : List.take l.length (List.drop 0 l) = l := by rw [List.drop_zero, List.take_length]
theorem abs_add (t p : List UInt8) : absT (absT beg t) (absR t ++ p) = absT beg (t ++ p) ∧ absR (absR t ++ p) = absR (t ++ p) := by
  have e0 : (t ++ p).drop (128 * (t.length / 128)) = absR t ++ p := by
    rw [List.drop_append_of_le_length (by omega)]; rfl
  have e1 : (t ++ p).length / 128 = t.length / 128 + (absR t ++ p).length / 128 := by
    rw [← e0, List.length_drop, List.length_append]; omega
  constructor
  · unfold absT
    rw [e1, absN_add, e0]
    congr 1
    exact (absN_congr _ _ _ _ fun j hj => cut_append (by omega)).symm
  · show (absR t ++ p).drop _ = (t ++ p).drop _
    rw [e1, ← e0, List.drop_drop]
    congr 1; omega
theorem hs (t p : List UInt8) : absT (hv t).s (rOf (hv t) p) = absT beg (t ++ p) := (abs_add t p).1
theorem hs' (t p : List UInt8) : absT (absT beg t) (rOf (hv t) p) = absT beg (t ++ p) := (abs_add t p).1
theorem hr (t p : List UInt8) : absR (rOf (hv t) p) = absR (t ++ p) := (abs_add t p).2
theorem hn (t p : List UInt8) : nOf (hv t) p = UInt64.ofInt ((t ++ p).length : Int) := by
  show UInt64.ofInt (t.length : Int) + UInt64.ofInt (p.length : Int) = _
  apply UInt64.toNat_inj.1
  rw [UInt64.toNat_add, ofInt64, ofInt64, ofInt64, List.length_append]
  omega
theorem hk (t : List UInt8) : HashV.mk (absT beg t) (absR t) 0 (absR t).length (UInt64.ofInt (t.length : Int)) = hv t := rfl
theorem hd (t : List UInt8) : sumO (OH.some (RoH.mk (absT beg t) (absR t) (UInt64.ofInt (t.length : Int)))) = digV t := by
  rw [digV_eq]
  unfold sumO digV0
  rw [sumV_eq]
theorem rl (t p : List UInt8) : (rOf (hv t) p).length = (absR t).length + p.length := by
  show ((absR t).drop 0 ++ p).length = _
  rw [List.length_append]; rfl
theorem hv0 : HashV.mk beg [] 0 0 0 = hv [] := by
  show _ = HashV.mk (absT beg []) (absR []) 0 (absR []).length (UInt64.ofInt (([] : List UInt8).length : Int))
  rfl
theorem spP6_ok : SpecsOK Tryz.prog spP6 := .consF ok_NewH <| .consN ok_WriteO <| .consF ok_HSumO <| .cons ok_Len <| .cons ok_DSumF <| .cons ok_Same <| .cons ok_Awake6 (.nil _)
theorem take_flat {l : List (List UInt8)} {i : Nat} (h : i < l.length) : (l.take (i + 1)).flatten = (l.take i).flatten ++ l.getD i [] := by
  rw [List.take_add_one, List.flatten_append, List.getD_eq_getElem?_getD, List.getElem?_eq_getElem h]
  simp
abbrev sPie : SpecF := fspec (α := List (List UInt8) × List UInt8 × Unit) total fun _ => true
theorem ok_Pie : SpecOK Tryz.prog 1000000 Sym.sNo := Sym.sNo_ok _ _
end Go.Proofs.YtigkddloeikpbaaGreatDoor.H6
/- Layer 9: messages as many bytes: what is said of the functions. -/
set_option maxRecDepth 10000
namespace Go.Proofs.YtigkddloeikpbaaGreatDoor.H9
open Go.Sym Go.Dig R1 H6
/-! A copy. -/
structure VSl where
  ad : Option Addr
  c : Nat
instance : Enc VSl where
  enc a := .val (.slice a.ad 0 a.c)
  dec | .val (.slice ad 0 c) => some ⟨ad, c⟩
      | _ => none
  ok := by
    intro s a h at_ w v r
    split at h
    · simp only [Option.some.injEq] at h; subst h; exact r
    · cases h
  nn _ := rfl
def sCloneV : SpecF := fspec (α := VSl × Unit) (β := List UInt8) total fun _ => []
def sCloneP : SpecF := fspec (α := List UInt8 × Unit) (β := List UInt8) (fun a => some (0 < a.1.length ∧ a.1.length ≤ appLim)) (fun a => a.1)
def sClone : SpecF := fspec (α := List UInt8 × Unit) (β := List UInt8) (fun a => some (a.1.length ≤ appLim)) (fun a => a.1)
/-! The sum of parts. -/
def iSm (l : List (List UInt8)) (v : HashV) (i : Int) : Prop := 0 ≤ i ∧ i ≤ l.length ∧ v = hv (l.take i.toNat).flatten
def lSm (l : List (List UInt8)) : Plan := { loops := [(0, { β := List (List UInt8) × Int × Unit, α := PHn × Int × Unit, same := [7, 8], keep := [3, 9], inv := fun _ _ x => iSm l x.1.v x.2.1, meas := fun _ x => (l.length - x.2.1).toNat })] }
noncomputable def spSm : Specs := [(87, .fresh sNewH), (88, .memf sWriteO), (89, .fresh sHSumO)]
noncomputable def sSm : SpecF := fspec (α := List (List UInt8) × Unit) (fun a => some (a.1.length ≤ 1000000 ∧ ∀ p ∈ a.1, p.length ≤ 1000000)) (fun a => digV a.1.flatten)
/-! The blocks, as a function that tells them. -/
structure BlkC where
  b : List UInt8
  e : List UInt8
instance : RetL BlkC := ⟨fun d => [.fn 90 [.ro [.lst (.bytes d.b)] 0, .ro [.lst (.bytes d.e)] 0]]⟩
def sBlocks : SpecF := fspec (α := List UInt8 × List UInt8 × Unit) total fun a => (⟨a.1, a.2.1⟩ : BlkC)
/-- A value that is no data. -/
structure ValV where
  v : Value
instance : Enc ValV where
  enc a := .val a.v
  dec | .val v => some ⟨v⟩
      | _ => none
  ok := by
    intro s a h at_ w v r
    cases s <;> simp only at h <;> first | (cases h; done) | (simp only [Option.some.injEq] at h; subst h; exact r)
  nn _ := rfl
/-- A list that is read through a pointer. -/
structure RoL where
  v : List UInt8
instance : Enc RoL where
  enc a := .ro [.lst (.bytes a.v)] 0
  dec | .ro [.lst (.bytes l)] 0 => some ⟨l⟩
      | _ => none
  ok := by
    intro s a h at_ w v r
    split at h
    · simp only [Option.some.injEq] at h; subst h; exact r
    · cases h
  nn _ := rfl
/-- A number in a block. -/
structure BoxI where
  v : Int
instance : LEnc BoxI where
  kind := none
  enc nx a := (.ptr nx 0, [[.i64 a.v]])
  dec nx s M := match s, M with
    | .ptr b 0, some [.i64 n] :: M' => if b = nx then some (none, ⟨n⟩, M') else none
    | _, _ => none
  all P := ∀ v, P ⟨v⟩
  all_ok h a := h a.v
  ok := by
    intro nx s M p a M' h hp
    split at h
    · split at h
      · rename_i hb
        simp only [Option.some.injEq, Prod.mk.injEq] at h
        obtain ⟨_, rfl, rfl⟩ := h
        subst hb
        exact ⟨rfl, fun r => r⟩
      · cases h
    · cases h
/-- A block whose cell is no list yet. -/
structure PNil where
instance : LEnc PNil where
  kind := none
  enc nx _ := (.ptr nx 0, [[.val (.slice none 0 0)]])
  dec nx s M := match s, M with
    | .ptr b 0, some [.val (.slice none 0 0)] :: M' => if b = nx then some (none, ⟨⟩, M') else none
    | _, _ => none
  all P := P ⟨⟩
  all_ok h _ := h
  ok := by
    intro nx s M p a M' h hp
    split at h
    · split at h
      · rename_i hb
        simp only [Option.some.injEq, Prod.mk.injEq] at h
        obtain ⟨_, _, rfl⟩ := h
        subst hb
        exact ⟨rfl, fun r => r⟩
      · cases h
    · cases h
/-- The last block, and (in the caller's cell) what has come. -/
structure OutLast where
  out : List UInt8
  last : List UInt8
instance : LEnc OutLast where
  kind := none
  frz := true
  enc _ a := (.lst (.bytes a.last), [[.own (.bytes a.out)]])
  dec _ s M := match s, M with
    | .lst (.bytes l), some [.own (.bytes o)] :: M' => some (none, ⟨o, l⟩, M')
    | _, _ => none
  all P := ∀ o l, P ⟨o, l⟩
  all_ok h a := h a.out a.last
  ok := by
    intro nx s M p a M' h hp
    split at h
    · simp only [Option.some.injEq, Prod.mk.injEq] at h
      obtain ⟨_, rfl, rfl⟩ := h
      exact ⟨rfl, fun r => r⟩
    · cases h
/-- What has come, and a list that is written. -/
structure OutMix where
  out : List UInt8
  l : List UInt8
instance : LEnc OutMix where
  kind := none
  enc nx a := (.sl (nx + 1) 0 a.l.length, [[.own (.bytes a.out)], [.own (.bytes a.l)]])
  dec nx s M := match s, M with
    | .sl b lo len, some [.own (.bytes o)] :: some [.own (.bytes l)] :: M' => if b = nx + 1 then some (some (lo = 0 ∧ len = l.length), ⟨o, l⟩, M') else none
    | _, _ => none
  all P := ∀ o l, P ⟨o, l⟩
  all_ok h a := h a.out a.l
  ok := by
    intro nx s M p a M' h hp
    split at h
    · split at h
      · rename_i hb
        simp only [Option.some.injEq, Prod.mk.injEq] at h
        obtain ⟨rfl, rfl, rfl⟩ := h
        obtain ⟨rfl, rfl⟩ := hp
        subst hb
        exact ⟨rfl, fun r => r⟩
      · cases h
    · cases h
/-! The blocks, as such. -/
def xorL (a b : List UInt8) : List UInt8 := List.zipWith (· ^^^ ·) a b
noncomputable def ch0 (b e : List UInt8) : Nat → List UInt8
  | 0 => List.replicate 64 0
  | i + 1 => digV (xorL b (ch0 b e i) ++ [UInt8.ofNat (i + 1)] ++ e)
theorem ch_ex : ∃ f : List UInt8 → List UInt8 → Nat → List UInt8, f = ch0 := ⟨_, rfl⟩
noncomputable def chE : List UInt8 → List UInt8 → Nat → List UInt8 := Classical.choose ch_ex
theorem chE_eq : chE = ch0 := Classical.choose_spec ch_ex
noncomputable def outE (b e : List UInt8) : Nat → List UInt8
  | 0 => []
  | i + 1 => outE b e i ++ chE b e (i + 1)
end Go.Proofs.YtigkddloeikpbaaGreatDoor.H9
/- Layer 9: copies, sums of parts, blocks: what the bodies come to. -/
set_option maxRecDepth 10000
namespace Go.Proofs.YtigkddloeikpbaaGreatDoor.H9
open Go.Sym Go.Dig R1 H6
--STOP digV, iSm, hv, rOf, nOf, absT, absR, sumO, beg, List.flatten
theorem vcCloneP (b : List UInt8) (Q : SV → Prop) : LfRaw tt [] 9 [(1, 1, .b false)] {} Tryz.f61 Q (b, ()) =
 (((0 : Nat) < List.length b) ∧
 ((false = false) ∧
 ((((0 : Nat) + (0 : Nat) = (0 : Nat)) ∧
 (List.length ([] ++ b) ≤ appLim)) ∧
 (Q (SV.lst (LV.bytes (List.drop (0 : Nat) (List.take ((0 : Nat) + List.length ([] ++ b)) ([] ++ b))))))))) := by kernel_rfl
theorem vcCloneN (c : Nat) (Q : SV → Prop) : LfRaw tt [] 9 [] {} Tryz.f61 Q ((⟨none, c⟩ : VSl), ()) = Q (.val (.slice none 0 0)) := by kernel_rfl
theorem vcCloneS (a : Addr) (c : Nat) (Q : SV → Prop) : LfRaw tt [] 9 [] {} Tryz.f61 Q ((⟨some a, c⟩ : VSl), ()) =
 ((((0 : Nat) + (0 : Nat) = (0 : Nat)) ∧
 ((0 : Nat) ≤ appLim)) ∧
 (Q (SV.lst (LV.bytes [])))) := by kernel_rfl
theorem vcSm (l : List (List UInt8)) (Q : SV → Prop) : LfRaw tt spSm 9 [] (lSm l) Tryz.f62 Q (l, ()) =
 ((iSm l (HashV.mk beg [] (0 : Nat) (0 : Nat) (0 : UInt64)) (0 : Int)) ∧
 (∀ v : HashV,
 (∀ a : Int,
 ((iSm l v a) →
 bcase (decide (a < (↑(List.length l) : Int)))
 (((((0 : Int) ≤ a) ∧
 (a < (↑(List.length l) : Int))) ∧
 (((HashV.lo v + HashV.len v = List.length (HashV.l v)) ∧
 ((List.length (rOf v (List.getD l (Int.toNat a) [])) ≤ appLim) ∧
 (True))) ∧
 (((l, (↑(List.length l) : Int), ()) = (l, (↑(List.length l) : Int), ())) ∧
 ((iSm l
 (HashV.mk (absT (HashV.s v) (rOf v (List.getD l (Int.toNat a) []))) (absR (rOf v (List.getD l (Int.toNat a) [])))
 (0 : Nat) (List.length (absR (rOf v (List.getD l (Int.toNat a) [])))) (nOf v (List.getD l (Int.toNat a) [])))
 (IntKind.wrap IntKind.i64 (a + (1 : Int)))) ∧
 (Int.toNat ((↑(List.length l) : Int) - IntKind.wrap IntKind.i64 (a + (1 : Int))) <
 Int.toNat ((↑(List.length l) : Int) - a)))))))
 (((List.length (List.drop (HashV.lo v) (List.take (HashV.lo v + HashV.len v) (HashV.l v))) ≤ (65536 : Nat)) ∧
 (Q
 (SV.lst
 (LV.bytes
 (List.drop (0 : Nat)
 (List.take
 ((0 : Nat) +
 List.length
 (sumO
 (OH.some
 (RoH.mk (HashV.s v) (List.drop (HashV.lo v) (List.take (HashV.lo v + HashV.len v) (HashV.l v)))
 (HashV.n v)))))
 (sumO
 (OH.some
 (RoH.mk (HashV.s v) (List.drop (HashV.lo v) (List.take (HashV.lo v + HashV.len v) (HashV.l v)))
 (HashV.n v))))))))))))))) := by kernel_rfl
theorem vcBlocks (b e : List UInt8) (Q : SV → Prop) : LnRaw tt [] 3 [] {} Tryz.f63 Q (b, e, ()) = Q (.fn 90 [.ro [.lst (.bytes b)] 0, .ro [.lst (.bytes e)] 0]) := by kernel_rfl
end Go.Proofs.YtigkddloeikpbaaGreatDoor.H9
/- Layer 9: copies, sums of parts, blocks: the bodies hold. -/
set_option maxRecDepth 10000
namespace Go.Proofs.YtigkddloeikpbaaGreatDoor.H9
open Go.Sym Go.Dig R1 H6
theorem fl {l : List UInt8} : List.drop 0 (List.take (0 + l.length) l) = l := fz l
theorem tf {l : List UInt8} : List.drop 0 (List.take l.length l) = l := by rw [List.take_length]; rfl
theorem ok_CloneP : FSpecOK Tryz.prog 61 sCloneP := by
  refine fn_okF (by kernel_rfl) tt_ok (.nil _) 9 Tryz.func61 (by decide +kernel) (by kernel_rfl) ?_
  rintro ⟨b, _⟩ ⟨h1, h2⟩
  replace h1 : 0 < b.length := h1
  replace h2 : b.length ≤ appLim := h2
  refine ⟨_, {}, fun x => x = .lst (.bytes b), LfVD.of (vcCloneP b _) ?_, fun x h at_ n w v r => by have h' : x = _ := h; subst h'; exact r⟩
  simp only [List.nil_append, fl]
  exact ⟨h1, trivial, ⟨trivial, h2⟩, trivial⟩
theorem ok_CloneV : FSpecOK Tryz.prog 61 sCloneV := by
  refine fn_okF (by kernel_rfl) tt_ok (.nil _) 9 Tryz.func61 (by decide +kernel) (by kernel_rfl) ?_
  rintro ⟨⟨ad, c⟩, _⟩ _
  cases ad with
  | none =>
    refine ⟨[], {}, fun x => x = .val (.slice none 0 0), LfVD.of (vcCloneN c _) rfl, fun x h at_ n w v r => ?_⟩
    have h' : x = _ := h
    subst h'
    have hv : v = .slice none 0 0 := r
    exact .inl ⟨rfl, hv⟩
  | some a => exact ⟨[], {}, fun x => x = .lst (.bytes []), LfVD.of (vcCloneS a c _) ⟨⟨rfl, by decide⟩, rfl⟩, fun x h at_ n w v r => by have h' : x = _ := h; subst h'; exact r⟩
theorem ok_Clone : FSpecOK Tryz.prog 61 sClone := by
  intro at_ w svs vs pr r hat hout hgl hs hp hr
  unfold sClone fspec at hs
  split at hs
  · rename_i a ha
    obtain ⟨b, _⟩ := a
    simp only [Option.some.injEq, Prod.mk.injEq] at hs
    obtain ⟨rfl, rfl⟩ := hs
    have hp' : b.length ≤ appLim := hp
    by_cases h0 : 0 < b.length
    · refine ok_CloneP at_ w svs vs (some (0 < b.length ∧ b.length ≤ appLim)) _ hat hout hgl ?_ ⟨h0, hp'⟩ hr
      unfold sCloneP fspec
      rw [ha]
    · have hb : b = [] := List.eq_nil_of_length_eq_zero (by omega)
      subst hb
      have hr' := Args.ok ha hr
      obtain ⟨v, hv⟩ : ∃ v, vs = [v] := by
        have := hr'.length
        match vs, this with
        | [v], _ => exact ⟨v, rfl⟩
      subst hv
      have hv1 : Rel at_ w (.lst (.bytes [])) v := by
        have hr' : RelL at_ w [.lst (.bytes [])] [v] := hr'
        simp only [RelL] at hr'
        obtain ⟨u, us, e, h1, _⟩ := hr'
        simp only [List.cons.injEq] at e
        rw [e.1]; exact h1
      simp only [Rel] at hv1
      obtain ⟨ad, c, rfl, _, _⟩ := hv1
      refine ok_CloneV at_ w [.val (.slice ad 0 c)] [.slice ad 0 c] none _ hat hout hgl rfl trivial ?_
      exact RelL.cons (by simp only [Rel]) RelL.nil
  · cases hs
theorem spSm_ok : SpecsOK Tryz.prog spSm := .consF ok_NewH <| .consN ok_WriteO <| .consF ok_HSumO (.nil _)
theorem flat_le : ∀ (l : List (List UInt8)) (n : Nat), (∀ p ∈ l, p.length ≤ n) → l.flatten.length ≤ n * l.length
  | [], n, _ => by simp
  | p :: l, n, h => by
    have h1 := flat_le l n fun q hq => h q (List.mem_cons_of_mem _ hq)
    have h2 := h p List.mem_cons_self
    rw [List.flatten_cons, List.length_append, List.length_cons, Nat.mul_succ]
    omega
theorem hvd (t : List UInt8) : List.drop (hv t).lo (List.take ((hv t).lo + (hv t).len) (hv t).l) = absR t := fz (absR t)
theorem hd' (t : List UInt8) : sumO (OH.some (RoH.mk (hv t).s (absR t) (hv t).n)) = digV t := hd t
theorem ok_Sm : FSpecOK Tryz.prog 62 sSm := by
  unfold sSm
  refine fn_okF (by kernel_rfl) tt_ok spSm_ok 9 Tryz.func62 (by decide +kernel) (by kernel_rfl) ?_
  rintro ⟨l, _⟩ ⟨hl, hp⟩
  replace hl : l.length ≤ 1000000 := hl
  replace hp : ∀ p ∈ l, p.length ≤ 1000000 := hp
  refine ⟨[], lSm l, fun x => x = .lst (.bytes (digV l.flatten)), LfVD.of (vcSm l _) ?_, fun x h at_ n w v r => by have h' : x = _ := h; subst h'; exact r⟩
  refine ⟨⟨by omega, by omega, hv0⟩, ?_⟩
  rintro v i ⟨h0, h1, rfl⟩
  have hfl : ∀ m : Nat, (l.take m).flatten.length ≤ 1000000 * l.length := by
    intro m
    refine Nat.le_trans (flat_le _ 1000000 fun q hq => hp q (List.mem_of_mem_take hq)) (Nat.mul_le_mul_left _ ?_)
    rw [List.length_take]; omega
  rw [bcase_dec]
  refine ⟨fun hi => ?_, fun hi => ?_⟩
  · have ef : (l.take (i.toNat + 1)).flatten = (l.take i.toNat).flatten ++ l.getD i.toNat [] := take_flat (by omega)
    have hm : (l.getD i.toNat []).length ≤ 1000000 := by
      rw [List.getD_eq_getElem?_getD, List.getElem?_eq_getElem (show i.toNat < l.length by omega)]
      exact hp _ (List.getElem_mem _)
    have l1 := absR_len (l.take i.toNat).flatten
    refine ⟨⟨h0, hi⟩, ⟨Nat.zero_add _, ?_, trivial⟩, rfl, ⟨?_, ?_, ?_⟩, ?_⟩
    · rw [rl]; simp only [appLim]; omega
    · rw [wr (by omega)]; omega
    · rw [wr (by omega)]; omega
    · simp only [hs, hr, hn, hk]
      rw [wr (by omega), show (i + 1).toNat = i.toNat + 1 by omega, ef]
    · rw [wr (by omega)]; omega
  · have et : l.take i.toNat = l := List.take_of_length_le (by omega)
    have l1 := absR_len l.flatten
    simp only [et, hvd, hd', fz]
    exact ⟨by omega, trivial⟩
theorem ok_Blocks : SpecOK Tryz.prog 63 sBlocks := by
  refine fn_okL (by kernel_rfl) tt_ok (.nil _) 3 Tryz.func63 (by decide +kernel) (by kernel_rfl) ?_
  rintro ⟨b, e, _⟩ _
  exact ⟨[], {}, fun x => x = .fn 90 [.ro [.lst (.bytes b)] 0, .ro [.lst (.bytes e)] 0], LnVD.of (vcBlocks b e _) rfl, svf⟩
end Go.Proofs.YtigkddloeikpbaaGreatDoor.H9
/- Layer 9: the blocks as such; the reference: what is said of it. -/
set_option maxRecDepth 10000
namespace Go.Proofs.YtigkddloeikpbaaGreatDoor.H9
open Go.Sym Go.Dig R1 H6
theorem chE_zero (b e : List UInt8) : chE b e 0 = List.replicate 64 0 := by rw [chE_eq]; rfl
theorem chE_succ (b e : List UInt8) (i : Nat) : chE b e (i + 1) = digV (xorL b (chE b e i) ++ [UInt8.ofNat (i + 1)] ++ e) := by rw [chE_eq]; rfl
theorem chE_len (b e : List UInt8) : ∀ i, (chE b e i).length = 64
  | 0 => by rw [chE_zero]; decide
  | i + 1 => by rw [chE_succ]; exact digV_len _
theorem outE_len (b e : List UInt8) : ∀ i, (outE b e i).length = 64 * i
  | 0 => rfl
  | i + 1 => by rw [outE, List.length_append, outE_len b e i, chE_len]; omega
theorem outE_pre (b e : List UInt8) (i : Nat) : ∀ m, ∃ r, outE b e (i + m) = outE b e i ++ r
  | 0 => ⟨[], by simp⟩
  | m + 1 => by
    obtain ⟨r, h⟩ := outE_pre b e i m
    exact ⟨r ++ chE b e (i + m + 1), by rw [← Nat.add_assoc, outE, h, List.append_assoc]⟩
theorem outE_take {b e : List UInt8} {i n : Nat} (hi : i ≤ 255) (hn : n ≤ 64 * i) : (outE b e i).take n = (outE b e 255).take n := by
  obtain ⟨r, h⟩ := outE_pre b e i (255 - i)
  rw [show i + (255 - i) = 255 by omega] at h
  rw [h, List.take_append_of_le_length (by rw [outE_len]; omega)]
theorem xorL_len (a b : List UInt8) : (xorL a b).length = min a.length b.length := by simp [xorL]
theorem xorL_step {a b : List UInt8} {k : Nat} (ha : k < a.length) (hb : k < b.length) : xorL (a.take (k + 1)) (b.take (k + 1)) = xorL (a.take k) (b.take k) ++ [a.getD k 0 ^^^ b.getD k 0] := by
  unfold xorL
  rw [List.take_succ_eq_append_getElem ha, List.take_succ_eq_append_getElem hb, List.zipWith_append (by simp; omega)]
  simp [List.getD_eq_getElem?_getD, ha, hb]
def endV (t : List UInt8) : List UInt8 := t ++ [UInt8.ofInt (t.length : Int)]
noncomputable def begV (msg tag : List UInt8) (n : Int) : List UInt8 := digV (List.replicate 128 0 ++ msg ++ [UInt8.ofInt (Int.fdiv n 256), UInt8.ofInt n, 0] ++ endV tag)
theorem ex_ex : ∃ f : List UInt8 → List UInt8 → Int → List UInt8, f = fun msg tag n => (outE (begV msg tag n) (endV tag) 255).take n.toNat := ⟨_, rfl⟩
/-- As many bytes as are asked for. -/
noncomputable def expV : List UInt8 → List UInt8 → Int → List UInt8 := Classical.choose ex_ex
theorem expV_eq : expV = fun msg tag n => (outE (begV msg tag n) (endV tag) 255).take n.toNat := Classical.choose_spec ex_ex
/-! The reference. -/
def iRE (b e : List UInt8) (x7 x10 last : List UInt8) (i : Int) : Prop := x7 = e ∧ 1 ≤ i ∧ i ≤ 256 ∧ last = chE b e (i - 1).toNat ∧ x10 = outE b e (i - 1).toNat
def iRX (b last x7 x10 y7 y10 mix : List UInt8) (k : Int) : Prop := y7 = x7 ∧ y10 = x10 ∧ 0 ≤ k ∧ k ≤ 64 ∧ mix = xorL (b.take k.toNat) (last.take k.toNat)
def cRE3 : CSpec := { β := List UInt8 × List UInt8 × Int × Unit, γ := OwnB × Unit, α := OwnB × Unit, same := [0, 1, 2], pre := [7], keep := [7], inv := fun c g a => a.1.l = g.1.l ++ [UInt8.ofInt (c.2.1.length : Int)] }
def cRE4 : CSpec := { β := List UInt8 × Int × Unit, γ := OwnB × Unit, α := OwnB × OwnB × Unit, same := [0, 2], pre := [7], keep := [7, 8], inv := fun _ g a => a.1.l = g.1.l ∧ a.2.1.l = List.replicate 128 0 }
def cRE5 : CSpec := { β := List UInt8 × Int × Unit, γ := OwnB × OwnB × Unit, α := OwnB × OwnB × Unit, same := [0, 2], pre := [7, 8], keep := [7, 8], inv := fun c g a => a.1.l = g.1.l ∧ a.2.1.l = g.2.1.l ++ c.1 }
def cRE6 : CSpec := { β := Int × Unit, γ := OwnB × OwnB × Unit, α := OwnB × OwnB × Unit, same := [2], pre := [7, 8], keep := [7, 8], inv := fun c g a => a.1.l = g.1.l ∧ a.2.1.l = g.2.1.l ++ (bytesN c.1.toNat 2).reverse }
def cRE7 : CSpec := { β := Int × Unit, γ := OwnB × OwnB × Unit, α := OwnB × OwnB × Unit, same := [2], pre := [7, 8], keep := [7, 8], inv := fun _ g a => a.1.l = g.1.l ∧ a.2.1.l = g.2.1.l ++ [0] }
noncomputable def cRE8 : CSpec := { β := Int × Unit, γ := OwnB × OwnB × Unit, α := OwnB × List UInt8 × Unit, same := [2], pre := [7, 8], keep := [7, 9], inv := fun _ g a => a.1.l = g.1.l ∧ a.2.1 = digV (g.2.1.l ++ g.1.l) }
def cRE19 : CSpec := { β := Int × List UInt8 × List UInt8 × Int × Unit, γ := OwnB × OwnB × OwnB × Unit, α := OwnB × OwnB × OwnB × Unit, same := [2, 9, 11, 12], pre := [7, 10, 13], keep := [7, 10, 13], inv := fun c g a => a.1.l = g.1.l ∧ a.2.1.l = g.2.1.l ∧ a.2.2.1.l = g.2.2.1.l ++ [UInt8.ofInt c.2.2.2.1] }
noncomputable def cRE20 : CSpec := { β := Int × List UInt8 × Int × Unit, γ := OwnB × OwnB × OwnB × Unit, α := OwnB × OwnB × List UInt8 × Unit, same := [2, 9, 12], pre := [7, 10, 13], keep := [7, 10, 11], inv := fun _ g a => a.1.l = g.1.l ∧ a.2.1.l = g.2.1.l ∧ a.2.2.1 = digV (g.2.2.1.l ++ g.1.l) }
noncomputable def lRE (b e : List UInt8) : Plan := { cuts := [(3, cRE3), (4, cRE4), (5, cRE5), (6, cRE6), (7, cRE7), (8, cRE8), (19, cRE19), (20, cRE20)], loops := [
  (0, { β := Int × List UInt8 × Unit, α := OwnB × OwnB × List UInt8 × Int × Unit, same := [2, 9], keep := [7, 10, 11, 12], inv := fun _ _ x => iRE b e x.1.l x.2.1.l x.2.2.1 x.2.2.2.1, meas := fun c x => (c.1 - (x.2.1.l.length : Int)).toNat }),
  (2, { β := Int × List UInt8 × List UInt8 × Int × Unit, α := OwnB × OwnB × OwnB × Int × Unit, same := [2, 9, 11, 12], keep := [7, 10, 13, 14], inv := fun c a0 x => iRX b c.2.2.1 a0.1.l a0.2.1.l x.1.l x.2.1.l x.2.2.1.l x.2.2.2.1, meas := fun _ x => (64 - x.2.2.2.1).toNat })] }
noncomputable def spRE : Specs := [(37, sInt), (68, nToBig), (69, sRSum)]
noncomputable def sRExp : SpecF := fspec (α := List UInt8 × List UInt8 × Int × Unit) (fun a => some (a.1.length ≤ 1000000 ∧ a.2.1.length ≤ 1000000 ∧ 0 ≤ a.2.2.1 ∧ a.2.2.1 ≤ 16320)) (fun a => expV a.1 a.2.1 a.2.2.1)
noncomputable def sExp : SpecF := fspec (α := List UInt8 × List UInt8 × Int × Unit) (β := List UInt8 × Int × Unit) (fun a => some (a.1.length ≤ 1000000)) (fun a => if 0 ≤ a.2.2.1 ∧ a.2.2.1 ≤ 16320 ∧ a.2.1.length ≤ 255 then (expV a.1 a.2.1 a.2.2.1, 0, ()) else ([], 2, ()))
end Go.Proofs.YtigkddloeikpbaaGreatDoor.H9
/- Layer 9: the reference: what it comes to. -/
set_option maxRecDepth 10000
namespace Go.Proofs.YtigkddloeikpbaaGreatDoor.H9
open Go.Sym Go.Dig R1 H6
--STOP digV, chE, outE, xorL, iRE, iRX, bytesN, Sm
theorem vcRExp (b e msg tag : List UInt8) (n : Int) (Q : SV → Prop) : LnRaw tt spRE 9 [] (lRE b e) Tryz.f27 Q (msg, tag, n, ()) =
 ((List.length ([] ++ tag) ≤ appLim) ∧
 ((((0 : Nat) = (0 : Nat)) ∧
 (List.length ([] ++ tag) = List.length ([] ++ tag))) ∧
 (((((0 : Nat) + List.length ([] ++ tag) = List.length ([] ++ tag)) ∧
 (List.length
 (List.drop (0 : Nat) (List.take (List.length ([] ++ tag)) ([] ++ tag)) ++
 [UInt8.ofInt (↑(List.length tag) : Int)]) ≤
 appLim)) ∧
 ((((0 : Nat) = (0 : Nat)) ∧
 (List.length
 (List.drop (0 : Nat) (List.take (List.length ([] ++ tag)) ([] ++ tag)) ++
 [UInt8.ofInt (↑(List.length tag) : Int)]) =
 List.length
 (List.drop (0 : Nat) (List.take (List.length ([] ++ tag)) ([] ++ tag)) ++ [UInt8.ofInt (↑(List.length tag) : Int)]))) ∧
 (((msg, tag, n, ()) = (msg, tag, n, ())) ∧
 (List.drop (0 : Nat) (List.take (List.length ([] ++ tag)) ([] ++ tag)) ++ [UInt8.ofInt (↑(List.length tag) : Int)] =
 [] ++ tag ++ [UInt8.ofInt (↑(List.length tag) : Int)])))) ∧
 (∀ l : List UInt8,
 ((l = [] ++ tag ++ [UInt8.ofInt (↑(List.length tag) : Int)]) →
 ((((0 : Nat) = (0 : Nat)) ∧
 (List.length l = List.length l)) ∧
 (((((0 : Int) ≤ (128 : Int)) ∧
 (((128 : Int) = (128 : Int)) ∧
 ((128 : Int) ≤ (1099511627776 : Int)))) ∧
 (((((0 : Nat) = (0 : Nat)) ∧
 (List.length l = List.length l)) ∧
 (((0 : Nat) = (0 : Nat)) ∧
 (Int.toNat (128 : Int) = (128 : Nat)))) ∧
 (((msg, n, ()) = (msg, n, ())) ∧
 ((l = l) ∧
 ([(0 : UInt8), (0 : UInt8), (0 : UInt8), (0 : UInt8), (0 : UInt8), (0 : UInt8), (0 : UInt8), (0 : UInt8), (0 : UInt8),
 (0 : UInt8), (0 : UInt8), (0 : UInt8), (0 : UInt8), (0 : UInt8), (0 : UInt8), (0 : UInt8), (0 : UInt8), (0 : UInt8),
 (0 : UInt8), (0 : UInt8), (0 : UInt8), (0 : UInt8), (0 : UInt8), (0 : UInt8), (0 : UInt8), (0 : UInt8), (0 : UInt8),
 (0 : UInt8), (0 : UInt8), (0 : UInt8), (0 : UInt8), (0 : UInt8), (0 : UInt8), (0 : UInt8), (0 : UInt8), (0 : UInt8),
 (0 : UInt8), (0 : UInt8), (0 : UInt8), (0 : UInt8), (0 : UInt8), (0 : UInt8), (0 : UInt8), (0 : UInt8), (0 : UInt8),
 (0 : UInt8), (0 : UInt8), (0 : UInt8), (0 : UInt8), (0 : UInt8), (0 : UInt8), (0 : UInt8), (0 : UInt8), (0 : UInt8),
 (0 : UInt8), (0 : UInt8), (0 : UInt8), (0 : UInt8), (0 : UInt8), (0 : UInt8), (0 : UInt8), (0 : UInt8), (0 : UInt8),
 (0 : UInt8), (0 : UInt8), (0 : UInt8), (0 : UInt8), (0 : UInt8), (0 : UInt8), (0 : UInt8), (0 : UInt8), (0 : UInt8),
 (0 : UInt8), (0 : UInt8), (0 : UInt8), (0 : UInt8), (0 : UInt8), (0 : UInt8), (0 : UInt8), (0 : UInt8), (0 : UInt8),
 (0 : UInt8), (0 : UInt8), (0 : UInt8), (0 : UInt8), (0 : UInt8), (0 : UInt8), (0 : UInt8), (0 : UInt8), (0 : UInt8),
 (0 : UInt8), (0 : UInt8), (0 : UInt8), (0 : UInt8), (0 : UInt8), (0 : UInt8), (0 : UInt8), (0 : UInt8), (0 : UInt8),
 (0 : UInt8), (0 : UInt8), (0 : UInt8), (0 : UInt8), (0 : UInt8), (0 : UInt8), (0 : UInt8), (0 : UInt8), (0 : UInt8),
 (0 : UInt8), (0 : UInt8), (0 : UInt8), (0 : UInt8), (0 : UInt8), (0 : UInt8), (0 : UInt8), (0 : UInt8), (0 : UInt8),
 (0 : UInt8), (0 : UInt8), (0 : UInt8), (0 : UInt8), (0 : UInt8), (0 : UInt8), (0 : UInt8), (0 : UInt8), (0 : UInt8),
 (0 : UInt8), (0 : UInt8)] =
 [(0 : UInt8), (0 : UInt8), (0 : UInt8), (0 : UInt8), (0 : UInt8), (0 : UInt8), (0 : UInt8), (0 : UInt8), (0 : UInt8),
 (0 : UInt8), (0 : UInt8), (0 : UInt8), (0 : UInt8), (0 : UInt8), (0 : UInt8), (0 : UInt8), (0 : UInt8), (0 : UInt8),
 (0 : UInt8), (0 : UInt8), (0 : UInt8), (0 : UInt8), (0 : UInt8), (0 : UInt8), (0 : UInt8), (0 : UInt8), (0 : UInt8),
 (0 : UInt8), (0 : UInt8), (0 : UInt8), (0 : UInt8), (0 : UInt8), (0 : UInt8), (0 : UInt8), (0 : UInt8), (0 : UInt8),
 (0 : UInt8), (0 : UInt8), (0 : UInt8), (0 : UInt8), (0 : UInt8), (0 : UInt8), (0 : UInt8), (0 : UInt8), (0 : UInt8),
 (0 : UInt8), (0 : UInt8), (0 : UInt8), (0 : UInt8), (0 : UInt8), (0 : UInt8), (0 : UInt8), (0 : UInt8), (0 : UInt8),
 (0 : UInt8), (0 : UInt8), (0 : UInt8), (0 : UInt8), (0 : UInt8), (0 : UInt8), (0 : UInt8), (0 : UInt8), (0 : UInt8),
 (0 : UInt8), (0 : UInt8), (0 : UInt8), (0 : UInt8), (0 : UInt8), (0 : UInt8), (0 : UInt8), (0 : UInt8), (0 : UInt8),
 (0 : UInt8), (0 : UInt8), (0 : UInt8), (0 : UInt8), (0 : UInt8), (0 : UInt8), (0 : UInt8), (0 : UInt8), (0 : UInt8),
 (0 : UInt8), (0 : UInt8), (0 : UInt8), (0 : UInt8), (0 : UInt8), (0 : UInt8), (0 : UInt8), (0 : UInt8), (0 : UInt8),
 (0 : UInt8), (0 : UInt8), (0 : UInt8), (0 : UInt8), (0 : UInt8), (0 : UInt8), (0 : UInt8), (0 : UInt8), (0 : UInt8),
 (0 : UInt8), (0 : UInt8), (0 : UInt8), (0 : UInt8), (0 : UInt8), (0 : UInt8), (0 : UInt8), (0 : UInt8), (0 : UInt8),
 (0 : UInt8), (0 : UInt8), (0 : UInt8), (0 : UInt8), (0 : UInt8), (0 : UInt8), (0 : UInt8), (0 : UInt8), (0 : UInt8),
 (0 : UInt8), (0 : UInt8), (0 : UInt8), (0 : UInt8), (0 : UInt8), (0 : UInt8), (0 : UInt8), (0 : UInt8), (0 : UInt8),
 (0 : UInt8), (0 : UInt8)]))))) ∧
 (∀ l_1 : List UInt8,
 (∀ l_2 : List UInt8,
 (((l_1 = l) ∧
 (l_2 =
 [(0 : UInt8), (0 : UInt8), (0 : UInt8), (0 : UInt8), (0 : UInt8), (0 : UInt8), (0 : UInt8), (0 : UInt8), (0 : UInt8),
 (0 : UInt8), (0 : UInt8), (0 : UInt8), (0 : UInt8), (0 : UInt8), (0 : UInt8), (0 : UInt8), (0 : UInt8), (0 : UInt8),
 (0 : UInt8), (0 : UInt8), (0 : UInt8), (0 : UInt8), (0 : UInt8), (0 : UInt8), (0 : UInt8), (0 : UInt8), (0 : UInt8),
 (0 : UInt8), (0 : UInt8), (0 : UInt8), (0 : UInt8), (0 : UInt8), (0 : UInt8), (0 : UInt8), (0 : UInt8), (0 : UInt8),
 (0 : UInt8), (0 : UInt8), (0 : UInt8), (0 : UInt8), (0 : UInt8), (0 : UInt8), (0 : UInt8), (0 : UInt8), (0 : UInt8),
 (0 : UInt8), (0 : UInt8), (0 : UInt8), (0 : UInt8), (0 : UInt8), (0 : UInt8), (0 : UInt8), (0 : UInt8), (0 : UInt8),
 (0 : UInt8), (0 : UInt8), (0 : UInt8), (0 : UInt8), (0 : UInt8), (0 : UInt8), (0 : UInt8), (0 : UInt8), (0 : UInt8),
 (0 : UInt8), (0 : UInt8), (0 : UInt8), (0 : UInt8), (0 : UInt8), (0 : UInt8), (0 : UInt8), (0 : UInt8), (0 : UInt8),
 (0 : UInt8), (0 : UInt8), (0 : UInt8), (0 : UInt8), (0 : UInt8), (0 : UInt8), (0 : UInt8), (0 : UInt8), (0 : UInt8),
 (0 : UInt8), (0 : UInt8), (0 : UInt8), (0 : UInt8), (0 : UInt8), (0 : UInt8), (0 : UInt8), (0 : UInt8), (0 : UInt8),
 (0 : UInt8), (0 : UInt8), (0 : UInt8), (0 : UInt8), (0 : UInt8), (0 : UInt8), (0 : UInt8), (0 : UInt8), (0 : UInt8),
 (0 : UInt8), (0 : UInt8), (0 : UInt8), (0 : UInt8), (0 : UInt8), (0 : UInt8), (0 : UInt8), (0 : UInt8), (0 : UInt8),
 (0 : UInt8), (0 : UInt8), (0 : UInt8), (0 : UInt8), (0 : UInt8), (0 : UInt8), (0 : UInt8), (0 : UInt8), (0 : UInt8),
 (0 : UInt8), (0 : UInt8), (0 : UInt8), (0 : UInt8), (0 : UInt8), (0 : UInt8), (0 : UInt8), (0 : UInt8), (0 : UInt8),
 (0 : UInt8), (0 : UInt8)])) →
 (((((0 : Nat) = (0 : Nat)) ∧
 (List.length l_1 = List.length l_1)) ∧
 (((0 : Nat) = (0 : Nat)) ∧
 (List.length l_2 = List.length l_2))) ∧
 (((((0 : Nat) + List.length l_2 = List.length l_2) ∧
 (List.length (List.drop (0 : Nat) (List.take (List.length l_2) l_2) ++ msg) ≤ appLim)) ∧
 (((((0 : Nat) = (0 : Nat)) ∧
 (List.length l_1 = List.length l_1)) ∧
 (((0 : Nat) = (0 : Nat)) ∧
 (List.length (List.drop (0 : Nat) (List.take (List.length l_2) l_2) ++ msg) =
 List.length (List.drop (0 : Nat) (List.take (List.length l_2) l_2) ++ msg)))) ∧
 (((msg, n, ()) = (msg, n, ())) ∧
 ((l_1 = l_1) ∧
 (List.drop (0 : Nat) (List.take (List.length l_2) l_2) ++ msg = l_2 ++ msg))))) ∧
 (∀ l_3 : List UInt8,
 (∀ l_4 : List UInt8,
 (((l_3 = l_1) ∧
 (l_4 = l_2 ++ msg)) →
 (((((0 : Nat) = (0 : Nat)) ∧
 (List.length l_3 = List.length l_3)) ∧
 (((0 : Nat) = (0 : Nat)) ∧
 (List.length l_4 = List.length l_4))) ∧
 (((((0 : Int) ≤ n) ∧
 (n < (9223372036854775808 : Int))) ∧
 (((Sm (Int.toNat n)) ∧
 (((0 : Int) ≤ (2 : Int)) ∧
 ((2 : Int) ≤ (1048576 : Int)))) ∧
 ((((0 : Nat) + List.length l_4 = List.length l_4) ∧
 (List.length
 (List.drop (0 : Nat) (List.take (List.length l_4) l_4) ++
 List.reverse (bytesN (Int.toNat n) (Int.toNat (2 : Int)))) ≤
 appLim)) ∧
 (((((0 : Nat) = (0 : Nat)) ∧
 (List.length l_3 = List.length l_3)) ∧
 (((0 : Nat) = (0 : Nat)) ∧
 (List.length
 (List.drop (0 : Nat) (List.take (List.length l_4) l_4) ++
 List.reverse (bytesN (Int.toNat n) (Int.toNat (2 : Int)))) =
 List.length
 (List.drop (0 : Nat) (List.take (List.length l_4) l_4) ++ List.reverse (bytesN (Int.toNat n) (Int.toNat (2 : Int))))))) ∧
 (((n, ()) = (n, ())) ∧
 ((l_3 = l_3) ∧
 (List.drop (0 : Nat) (List.take (List.length l_4) l_4) ++ List.reverse (bytesN (Int.toNat n) (Int.toNat (2 : Int))) =
 l_4 ++ List.reverse (bytesN (Int.toNat n) (2 : Nat))))))))) ∧
 (∀ l_5 : List UInt8,
 (∀ l_6 : List UInt8,
 (((l_5 = l_3) ∧
 (l_6 = l_4 ++ List.reverse (bytesN (Int.toNat n) (2 : Nat)))) →
 (((((0 : Nat) = (0 : Nat)) ∧
 (List.length l_5 = List.length l_5)) ∧
 (((0 : Nat) = (0 : Nat)) ∧
 (List.length l_6 = List.length l_6))) ∧
 (((((0 : Nat) + List.length l_6 = List.length l_6) ∧
 (List.length (List.drop (0 : Nat) (List.take (List.length l_6) l_6) ++ [UInt8.ofNat (Int.toNat (0 : Int))]) ≤ appLim)) ∧
 (((((0 : Nat) = (0 : Nat)) ∧
 (List.length l_5 = List.length l_5)) ∧
 (((0 : Nat) = (0 : Nat)) ∧
 (List.length (List.drop (0 : Nat) (List.take (List.length l_6) l_6) ++ [UInt8.ofNat (Int.toNat (0 : Int))]) =
 List.length (List.drop (0 : Nat) (List.take (List.length l_6) l_6) ++ [UInt8.ofNat (Int.toNat (0 : Int))])))) ∧
 (((n, ()) = (n, ())) ∧
 ((l_5 = l_5) ∧
 (List.drop (0 : Nat) (List.take (List.length l_6) l_6) ++ [UInt8.ofNat (Int.toNat (0 : Int))] = l_6 ++ [(0 : UInt8)]))))) ∧
 (∀ l_7 : List UInt8,
 (∀ l_8 : List UInt8,
 (((l_7 = l_5) ∧
 (l_8 = l_6 ++ [(0 : UInt8)])) →
 (((((0 : Nat) = (0 : Nat)) ∧
 (List.length l_7 = List.length l_7)) ∧
 (((0 : Nat) = (0 : Nat)) ∧
 (List.length l_8 = List.length l_8))) ∧
 (((((0 : Nat) + List.length l_8 = List.length l_8) ∧
 (List.length
 (List.drop (0 : Nat) (List.take (List.length l_8) l_8) ++
 List.drop (0 : Nat) (List.take ((0 : Nat) + List.length l_7) l_7)) ≤
 appLim)) ∧
 ((List.length
 (List.drop (0 : Nat)
 (List.take
 ((0 : Nat) +
 List.length
 (List.drop (0 : Nat) (List.take (List.length l_8) l_8) ++
 List.drop (0 : Nat) (List.take ((0 : Nat) + List.length l_7) l_7)))
 (List.drop (0 : Nat) (List.take (List.length l_8) l_8) ++
 List.drop (0 : Nat) (List.take ((0 : Nat) + List.length l_7) l_7)))) ≤
 (1073741824 : Nat)) ∧
 ((((0 : Nat) = (0 : Nat)) ∧
 (List.length l_7 = List.length l_7)) ∧
 (((n, ()) = (n, ())) ∧
 ((l_7 = l_7) ∧
 (digV
 (List.drop (0 : Nat)
 (List.take
 ((0 : Nat) +
 List.length
 (List.drop (0 : Nat) (List.take (List.length l_8) l_8) ++
 List.drop (0 : Nat) (List.take ((0 : Nat) + List.length l_7) l_7)))
 (List.drop (0 : Nat) (List.take (List.length l_8) l_8) ++
 List.drop (0 : Nat) (List.take ((0 : Nat) + List.length l_7) l_7)))) =
 digV (l_8 ++ l_7))))))) ∧
 (∀ l_9 : List UInt8,
 (∀ a : List UInt8,
 (((l_9 = l_7) ∧
 (a = digV (l_8 ++ l_7))) →
 ((((0 : Int) ≤ (64 : Int)) ∧
 (((64 : Int) = (64 : Int)) ∧
 ((64 : Int) ≤ (1099511627776 : Int)))) ∧
 (((((0 : Nat) = (0 : Nat)) ∧
 (List.length l_9 = List.length l_9)) ∧
 (((0 : Nat) = (0 : Nat)) ∧
 ((0 : Nat) = (0 : Nat)))) ∧
 ((iRE b e l_9 []
 [(0 : UInt8), (0 : UInt8), (0 : UInt8), (0 : UInt8), (0 : UInt8), (0 : UInt8), (0 : UInt8), (0 : UInt8), (0 : UInt8),
 (0 : UInt8), (0 : UInt8), (0 : UInt8), (0 : UInt8), (0 : UInt8), (0 : UInt8), (0 : UInt8), (0 : UInt8), (0 : UInt8),
 (0 : UInt8), (0 : UInt8), (0 : UInt8), (0 : UInt8), (0 : UInt8), (0 : UInt8), (0 : UInt8), (0 : UInt8), (0 : UInt8),
 (0 : UInt8), (0 : UInt8), (0 : UInt8), (0 : UInt8), (0 : UInt8), (0 : UInt8), (0 : UInt8), (0 : UInt8), (0 : UInt8),
 (0 : UInt8), (0 : UInt8), (0 : UInt8), (0 : UInt8), (0 : UInt8), (0 : UInt8), (0 : UInt8), (0 : UInt8), (0 : UInt8),
 (0 : UInt8), (0 : UInt8), (0 : UInt8), (0 : UInt8), (0 : UInt8), (0 : UInt8), (0 : UInt8), (0 : UInt8), (0 : UInt8),
 (0 : UInt8), (0 : UInt8), (0 : UInt8), (0 : UInt8), (0 : UInt8), (0 : UInt8), (0 : UInt8), (0 : UInt8), (0 : UInt8),
 (0 : UInt8)]
 (1 : Int)) ∧
 (∀ l_10 : List UInt8,
 (∀ l_11 : List UInt8,
 (∀ a_1 : List UInt8,
 (∀ a_2 : Int,
 ((iRE b e l_10 l_11 a_1 a_2) →
 bcase (decide ((↑(List.length l_11) : Int) < n))
 ((((((0 : Nat) = (0 : Nat)) ∧
 (List.length l_10 = List.length l_10)) ∧
 ((((0 : Nat) = (0 : Nat)) ∧
 (List.length l_11 = List.length l_11)) ∧
 (((0 : Nat) = (0 : Nat)) ∧
 ((0 : Nat) = (0 : Nat))))) ∧
 ((iRX b a_1 l_10 l_11 l_10 l_11 [] (0 : Int)) ∧
 (∀ l_12 : List UInt8,
 (∀ l_13 : List UInt8,
 (∀ l_14 : List UInt8,
 (∀ a_3 : Int,
 ((iRX b a_1 l_10 l_11 l_12 l_13 l_14 a_3) →
 bcase (decide (a_3 < (64 : Int)))
 (((((0 : Int) ≤ a_3) ∧
 (a_3 < (↑(List.length a) : Int))) ∧
 ((((0 : Int) ≤ a_3) ∧
 (a_3 < (↑(List.length a_1) : Int))) ∧
 ((((0 : Nat) + List.length l_14 = List.length l_14) ∧
 (List.length
 (List.drop (0 : Nat) (List.take (List.length l_14) l_14) ++
 [List.getD a (Int.toNat a_3) (0 : UInt8) ^^^ List.getD a_1 (Int.toNat a_3) (0 : UInt8)]) ≤
 appLim)) ∧
 (((((0 : Nat) = (0 : Nat)) ∧
 (List.length l_12 = List.length l_12)) ∧
 ((((0 : Nat) = (0 : Nat)) ∧
 (List.length l_13 = List.length l_13)) ∧
 (((0 : Nat) = (0 : Nat)) ∧
 (List.length
 (List.drop (0 : Nat) (List.take (List.length l_14) l_14) ++
 [List.getD a (Int.toNat a_3) (0 : UInt8) ^^^ List.getD a_1 (Int.toNat a_3) (0 : UInt8)]) =
 List.length
 (List.drop (0 : Nat) (List.take (List.length l_14) l_14) ++
 [List.getD a (Int.toNat a_3) (0 : UInt8) ^^^ List.getD a_1 (Int.toNat a_3) (0 : UInt8)]))))) ∧
 (((n, a, a_1, a_2, ()) = (n, a, a_1, a_2, ())) ∧
 ((iRX b a_1 l_10 l_11 l_12 l_13
 (List.drop (0 : Nat) (List.take (List.length l_14) l_14) ++
 [List.getD a (Int.toNat a_3) (0 : UInt8) ^^^ List.getD a_1 (Int.toNat a_3) (0 : UInt8)])
 (IntKind.wrap IntKind.i64 (a_3 + (1 : Int)))) ∧
 (Int.toNat ((64 : Int) - IntKind.wrap IntKind.i64 (a_3 + (1 : Int))) < Int.toNat ((64 : Int) - a_3)))))))))
 ((((((0 : Nat) = (0 : Nat)) ∧
 (List.length l_12 = List.length l_12)) ∧
 ((((0 : Nat) = (0 : Nat)) ∧
 (List.length l_13 = List.length l_13)) ∧
 (((0 : Nat) = (0 : Nat)) ∧
 (List.length l_14 = List.length l_14)))) ∧
 (((((0 : Nat) + List.length l_14 = List.length l_14) ∧
 (List.length (List.drop (0 : Nat) (List.take (List.length l_14) l_14) ++ [UInt8.ofInt a_2]) ≤ appLim)) ∧
 (((((0 : Nat) = (0 : Nat)) ∧
 (List.length l_12 = List.length l_12)) ∧
 ((((0 : Nat) = (0 : Nat)) ∧
 (List.length l_13 = List.length l_13)) ∧
 (((0 : Nat) = (0 : Nat)) ∧
 (List.length (List.drop (0 : Nat) (List.take (List.length l_14) l_14) ++ [UInt8.ofInt a_2]) =
 List.length (List.drop (0 : Nat) (List.take (List.length l_14) l_14) ++ [UInt8.ofInt a_2]))))) ∧
 (((n, a, a_1, a_2, ()) = (n, a, a_1, a_2, ())) ∧
 ((l_12 = l_12) ∧
 ((l_13 = l_13) ∧
 (List.drop (0 : Nat) (List.take (List.length l_14) l_14) ++ [UInt8.ofInt a_2] = l_14 ++ [UInt8.ofInt a_2])))))) ∧
 (∀ l_15 : List UInt8,
 (∀ l_16 : List UInt8,
 (∀ l_17 : List UInt8,
 (((l_15 = l_12) ∧
 ((l_16 = l_13) ∧
 (l_17 = l_14 ++ [UInt8.ofInt a_2]))) →
 (((((0 : Nat) = (0 : Nat)) ∧
 (List.length l_15 = List.length l_15)) ∧
 ((((0 : Nat) = (0 : Nat)) ∧
 (List.length l_16 = List.length l_16)) ∧
 (((0 : Nat) = (0 : Nat)) ∧
 (List.length l_17 = List.length l_17)))) ∧
 (((((0 : Nat) + List.length l_17 = List.length l_17) ∧
 (List.length
 (List.drop (0 : Nat) (List.take (List.length l_17) l_17) ++
 List.drop (0 : Nat) (List.take ((0 : Nat) + List.length l_15) l_15)) ≤
 appLim)) ∧
 ((List.length
 (List.drop (0 : Nat)
 (List.take
 ((0 : Nat) +
 List.length
 (List.drop (0 : Nat) (List.take (List.length l_17) l_17) ++
 List.drop (0 : Nat) (List.take ((0 : Nat) + List.length l_15) l_15)))
 (List.drop (0 : Nat) (List.take (List.length l_17) l_17) ++
 List.drop (0 : Nat) (List.take ((0 : Nat) + List.length l_15) l_15)))) ≤
 (1073741824 : Nat)) ∧
 (((((0 : Nat) = (0 : Nat)) ∧
 (List.length l_15 = List.length l_15)) ∧
 (((0 : Nat) = (0 : Nat)) ∧
 (List.length l_16 = List.length l_16))) ∧
 (((n, a, a_2, ()) = (n, a, a_2, ())) ∧
 ((l_15 = l_15) ∧
 ((l_16 = l_16) ∧
 (digV
 (List.drop (0 : Nat)
 (List.take
 ((0 : Nat) +
 List.length
 (List.drop (0 : Nat) (List.take (List.length l_17) l_17) ++
 List.drop (0 : Nat) (List.take ((0 : Nat) + List.length l_15) l_15)))
 (List.drop (0 : Nat) (List.take (List.length l_17) l_17) ++
 List.drop (0 : Nat) (List.take ((0 : Nat) + List.length l_15) l_15)))) =
 digV (l_17 ++ l_15)))))))) ∧
 (∀ l_18 : List UInt8,
 (∀ l_19 : List UInt8,
 (∀ a_4 : List UInt8,
 (((l_18 = l_15) ∧
 ((l_19 = l_16) ∧
 (a_4 = digV (l_17 ++ l_15)))) →
 ((((0 : Nat) + List.length l_19 = List.length l_19) ∧
 (List.length (List.drop (0 : Nat) (List.take (List.length l_19) l_19) ++ a_4) ≤ appLim)) ∧
 (((((0 : Nat) = (0 : Nat)) ∧
 (List.length l_18 = List.length l_18)) ∧
 (((0 : Nat) = (0 : Nat)) ∧
 (List.length (List.drop (0 : Nat) (List.take (List.length l_19) l_19) ++ a_4) =
 List.length (List.drop (0 : Nat) (List.take (List.length l_19) l_19) ++ a_4)))) ∧
 (((n, a, ()) = (n, a, ())) ∧
 ((iRE b e l_18 (List.drop (0 : Nat) (List.take (List.length l_19) l_19) ++ a_4) a_4
 (IntKind.wrap IntKind.i64 (a_2 + (1 : Int)))) ∧
 (Int.toNat (n - (↑(List.length (List.drop (0 : Nat) (List.take (List.length l_19) l_19) ++ a_4)) : Int)) <
 Int.toNat (n - (↑(List.length l_11) : Int))))))))))))))))))))))))))))
 (((((0 : Int) ≤ (0 : Int)) ∧
 (((0 : Int) ≤ n) ∧
 (n ≤ (↑(List.length l_11) : Int)))) ∧
 (Q
 (SV.lst
 (LV.bytes
 (List.drop ((0 : Nat) + Int.toNat (0 : Int))
 (List.take ((0 : Nat) + Int.toNat (0 : Int) + (Int.toNat n - Int.toNat (0 : Int))) l_11))))))))))))))))))))))))))))))))))))))))))))) := by kernel_rfl
end Go.Proofs.YtigkddloeikpbaaGreatDoor.H9
/- Layer 9: the reference holds. -/
set_option maxRecDepth 10000
namespace Go.Proofs.YtigkddloeikpbaaGreatDoor.H9
open Go.Sym Go.Dig R1 H6
theorem spRE_ok : SpecsOK Tryz.prog spRE := .cons ok_Int <| .cons ok_nToBig <| .cons ok_RSum (.nil _)
theorem ofInt_nat (m : Nat) : UInt8.ofInt (m : Int) = UInt8.ofNat m := by
  rw [← UInt8.toNat_inj, ofInt8, UInt8.toNat_ofNat']
  omega
theorem two_bytes {n : Int} (h0 : 0 ≤ n) : (bytesN n.toNat 2).reverse = [UInt8.ofInt (Int.fdiv n 256), UInt8.ofInt n] := by
  obtain ⟨m, rfl⟩ : ∃ m : Nat, n = m := ⟨n.toNat, by omega⟩
  have e1 : Int.fdiv (m : Int) 256 = ((m / 256 : Nat) : Int) := by
    rw [Int.fdiv_eq_ediv_of_nonneg _ (by decide)]
    rfl
  rw [e1, Int.toNat_natCast]
  simp only [bytesN, List.range, List.range.loop, List.map, List.reverse, List.reverseAux]
  rw [ofInt_nat, ofInt_nat, Nat.pow_one, Nat.pow_zero, Nat.div_one]
theorem endV_len (t : List UInt8) : (endV t).length = t.length + 1 := by rw [endV, List.length_append]; rfl
theorem begV_len (msg tag : List UInt8) (n : Int) : (begV msg tag n).length = 64 := digV_len _
/-- The next block. -/
theorem ch_next {b e : List UInt8} {i : Int} (hb : b.length = 64) (hi : 1 ≤ i) {mix : List UInt8} (hm : mix = xorL b (chE b e (i - 1).toNat)) : digV (mix ++ [UInt8.ofInt i] ++ e) = chE b e i.toNat := by
  have e1 : i.toNat = (i - 1).toNat + 1 := by omega
  have e2 : UInt8.ofInt i = UInt8.ofNat i.toNat := by rw [← ofInt_nat, Int.toNat_of_nonneg (by omega)]
  rw [hm, e2, e1, chE_succ]
theorem out_next {b e : List UInt8} {i : Int} (hi : 1 ≤ i) : outE b e (i - 1).toNat ++ chE b e i.toNat = outE b e i.toNat := by
  have e1 : i.toNat = (i - 1).toNat + 1 := by omega
  rw [e1, outE]
theorem ok_RExp : SpecOK Tryz.prog 27 sRExp := by
  unfold sRExp
  rw [expV_eq]
  refine fn_okL (by kernel_rfl) tt_ok spRE_ok 9 Tryz.func27 (by decide +kernel) (by kernel_rfl) ?_
  rintro ⟨msg, tag, n, _⟩ hp
  obtain ⟨h1, h2, h3, h4⟩ : msg.length ≤ 1000000 ∧ tag.length ≤ 1000000 ∧ 0 ≤ n ∧ n ≤ 16320 := hp
  refine ⟨[], lRE (begV msg tag n) (endV tag), fun x => x = .lst (.bytes ((outE (begV msg tag n) (endV tag) 255).take n.toNat)), LnVD.of (vcRExp (begV msg tag n) (endV tag) msg tag n _) ?_, svf⟩
  have lb := begV_len msg tag n
  have le := endV_len tag
  have al : ∀ k : Nat, k ≤ 10000000 → k ≤ appLim := fun k hk => Nat.le_trans hk (by decide)
  simp only [tf, List.nil_append, true_and, and_true, Nat.zero_add]
  refine ⟨al _ (by omega), al _ (by show (endV tag).length ≤ _; omega), fun l hl => ⟨⟨⟨by decide, by decide⟩, by decide⟩, fun l1 l2 ⟨g1, g2⟩ => ?_⟩⟩
  have z2 : l2 = List.replicate 128 0 := g2
  have y2 : l2.length = 128 := by rw [z2, List.length_replicate]
  refine ⟨al _ (by rw [List.length_append]; omega), fun l3 l4 ⟨g3, g4⟩ => ⟨⟨⟨h3, by omega⟩, ⟨Nat.le_trans (dg_len_i64 (by omega)) (by decide), by decide, by decide⟩, al _ ?_, rfl⟩, fun l5 l6 ⟨g5, g6⟩ => ⟨⟨al _ ?_, rfl⟩, fun l7 l8 ⟨g7, g8⟩ => ⟨⟨al _ ?_, ?_⟩, fun l9 a ⟨g9, ga⟩ => ?_⟩⟩⟩⟩
  · rw [List.length_append, g4, List.length_append, List.length_reverse, bytesN_len]
    show l2.length + msg.length + 2 ≤ _
    omega
  · rw [List.length_append, g6, List.length_append, g4, List.length_append, List.length_reverse, bytesN_len]
    show l2.length + msg.length + 2 + 1 ≤ _
    omega
  · rw [List.length_append, g8, List.length_append, g6, List.length_append, g4, List.length_append, List.length_reverse, bytesN_len, g7, g5, g3, g1, hl]
    show l2.length + msg.length + 2 + 1 + (endV tag).length ≤ _
    omega
  · rw [List.length_append, g8, List.length_append, g6, List.length_append, g4, List.length_append, List.length_reverse, bytesN_len, g7, g5, g3, g1, hl]
    show l2.length + msg.length + 2 + 1 + (endV tag).length ≤ _
    omega
  have e9 : l9 = endV tag := by rw [g9, g7, g5, g3, g1, hl]; rfl
  have ea : a = begV msg tag n := by
    rw [ga, g8, g6, g4, g7, g5, g3, g1, hl, z2, two_bytes h3]
    unfold begV endV
    simp only [List.append_assoc, List.cons_append, List.nil_append]
  subst e9
  subst ea
  refine ⟨⟨by decide, by decide⟩, ⟨rfl, by omega, by omega, (chE_zero _ _).symm, rfl⟩, fun m7 m10 last i ⟨i7, i1, i2, i3, i4⟩ => ?_⟩
  have ll : last.length = 64 := by rw [i3, chE_len]
  have lm : m10.length = 64 * (i - 1).toNat := by rw [i4, outE_len]
  rw [bcase_dec]
  refine ⟨fun hc => ⟨⟨rfl, rfl, by omega, by omega, by simp [xorL]⟩, fun p7 p10 mix k ⟨j7, j10, j1, j2, j3⟩ => ?_⟩, fun hc => ?_⟩
  · have lmix : mix.length = k.toNat := by
      rw [j3, xorL_len, List.length_take, List.length_take]
      omega
    rw [bcase_dec]
    refine ⟨fun hk => ⟨⟨j1, by omega⟩, ⟨j1, by omega⟩, al _ (by rw [List.length_append, lmix]; show k.toNat + 1 ≤ _; omega), ⟨j7, j10, by rw [wr (by omega)]; omega, by rw [wr (by omega)]; omega, ?_⟩, by rw [wr (by omega)]; omega⟩, fun hk => ⟨al _ (by rw [List.length_append, lmix]; show k.toNat + 1 ≤ _; omega), fun q7 q10 q13 ⟨f1, f2, f3⟩ => ?_⟩⟩
    · rw [wr (by omega), show (k + 1).toNat = k.toNat + 1 by omega, xorL_step (by omega) (by omega), j3]
    · have k64 : k.toNat = 64 := by omega
      have em : mix = xorL (begV msg tag n) (chE (begV msg tag n) (endV tag) (i - 1).toNat) := by
        rw [j3, k64, List.take_of_length_le (by omega), List.take_of_length_le (by omega), i3]
      have lq : (q13 ++ q7).length = 64 + 1 + (tag.length + 1) := by
        rw [List.length_append, f3, List.length_append, lmix, k64, f1, j7, i7, le]
        rfl
      refine ⟨⟨al _ (by omega), by omega⟩, fun r7 r10 d ⟨c1, c2, c3⟩ => ?_⟩
      have ed : d = chE (begV msg tag n) (endV tag) i.toNat := by
        rw [c3, f3, f1, j7, i7]
        exact ch_next lb i1 em
      have e7 : r7 = endV tag := by rw [c1, f1, j7, i7]
      have e10 : r10 = outE (begV msg tag n) (endV tag) (i - 1).toNat := by rw [c2, f2, j10, i4]
      have eo : r10 ++ d = outE (begV msg tag n) (endV tag) i.toNat := by rw [e10, ed, out_next i1]
      have lo : (r10 ++ d).length = 64 * i.toNat := by rw [eo, outE_len]
      refine ⟨al _ (by omega), ⟨e7, by rw [wr (by omega)]; omega, by rw [wr (by omega)]; omega, by rw [wr (by omega), ed]; congr 1; omega, by rw [wr (by omega), eo]; congr 1; omega⟩, by omega⟩
  · refine ⟨⟨by omega, h3, by omega⟩, ?_⟩
    have e0 : Int.toNat 0 + (n.toNat - Int.toNat 0) = n.toNat := by
      show 0 + (n.toNat - 0) = _
      omega
    rw [e0, i4, outE_take (by omega) (by omega)]
    rfl
end Go.Proofs.YtigkddloeikpbaaGreatDoor.H9
/- Layer 9: as many bytes as are asked for: what is said of it. -/
set_option maxRecDepth 10000
namespace Go.Proofs.YtigkddloeikpbaaGreatDoor.H9
open Go.Sym Go.Dig R1 H6
noncomputable def spEx : Specs := [(61, .fresh sClone), (62, .memf (toN sSm)), (63, sBlocks)]
def lEx : Plan := { cuts := [(5, { β := Unit, γ := BoxI × OwnB × List UInt8 × Unit, α := BoxI × List UInt8 × List UInt8 × PNil × Unit, same := [], pre := [5, 8, 9], keep := [5, 8, 9, 10], inv := fun _ g a => a.1.v = g.1.v ∧ a.2.1 = g.2.1.l ∧ a.2.2.1 = g.2.2.1 })] }
/-- What Expand keeps while its blocks are told: how many bytes, how many have come. -/
structure ExS where
  n : Int
  len : Nat
def ExS.pk (s : ExS) : List (Option Blk) := [some [.i64 s.n], some [.sl 2 0 s.len]]
def ExS.pd : List (Option Blk) → Option ExS
  | [some [.i64 n], some [.sl 2 0 len]] => some ⟨n, len⟩
  | _ => none
theorem ExS.pok {M : List (Option Blk)} {s : ExS} (h : ExS.pd M = some s) : M = s.pk := by
  unfold ExS.pd at h
  split at h
  · simp only [Option.some.injEq] at h; subst h; rfl
  · cases h
def iEx (b e : List UInt8) (n : Int) (s : ExS) (x : OutLast) (i : Int) : Prop := s.n = n ∧ s.len = x.out.length ∧ 1 ≤ i ∧ i ≤ 256 ∧ x.last = chE b e (i - 1).toNat ∧ x.out = outE b e (i - 1).toNat ∧ (i - 1) * 64 < n
def iMx (b last : List UInt8) (s0 s : ExS) (o0 o : OutMix) (k : Int) : Prop := s = s0 ∧ o.out = o0.out ∧ 0 ≤ k ∧ k ≤ last.length ∧ o.l = xorL (b.take k.toNat) (last.take k.toNat) ++ b.drop k.toNat
noncomputable def rtEx (b e : List UInt8) (n : Int) : RTab := [(90, { fn := Tryz.f90, loops := [
  (0, { β := ValV × RoL × RoL × Unit, α := OutLast × Int × Unit, pk := ExS.pk, pd := ExS.pd, pok := ExS.pok, same := [0, 1, 2], keep := [4, 5], ins := [(1, [(0, .u8)])], inv := fun _ _ x => iEx b e n x.1 x.2.1 x.2.2.1, meas := fun _ x => (256 - x.2.1).toNat }),
  (2, { β := ValV × RoL × RoL × Int × List UInt8 × Int × Unit, α := OutMix × Int × Unit, pk := ExS.pk, pd := ExS.pd, pok := ExS.pok, same := [0, 1, 2, 5, 18, 19], keep := [6, 20], ins := [(1, [(0, .u8)])], inv := fun c a0 x => iMx b c.2.2.2.2.1 a0.1 x.1 a0.2.1 x.2.1 x.2.2.1, meas := fun c x => (c.2.2.2.2.2.1 - x.2.1).toNat })] })]
end Go.Proofs.YtigkddloeikpbaaGreatDoor.H9
/- Layer 9: as many bytes as are asked for: what it comes to. -/
set_option maxRecDepth 10000
namespace Go.Proofs.YtigkddloeikpbaaGreatDoor.H9
open Go.Sym Go.Dig R1 H6
--STOP digV, chE, outE, xorL, iEx, iMx, List.flatten
theorem vcExp1 (b e msg tag : List UInt8) (n : Int) (Q : SV → Prop) : RnRaw tt spEx 9 [(1, 1, .b true)] {} [] Tryz.f22 Q (msg, tag, n, ()) =
 ((decide (n < (0 : Int)) = true) ∧
 (Q (SV.tup [SV.val (Value.slice none (0 : Nat) (0 : Nat)), SV.i64 (2 : Int)]))) := by kernel_rfl
theorem vcExp2 (b e msg tag : List UInt8) (n : Int) (Q : SV → Prop) : RnRaw tt spEx 9 [(1, 1, .b false), (1, 4, .b true)] {} [] Tryz.f22 Q (msg, tag, n, ()) =
 ((decide (n < (0 : Int)) = false) ∧
 ((decide (n > (16320 : Int)) = true) ∧
 (Q (SV.tup [SV.val (Value.slice none (0 : Nat) (0 : Nat)), SV.i64 (2 : Int)])))) := by kernel_rfl
theorem vcExp3 (b e msg tag : List UInt8) (n : Int) (Q : SV → Prop) : RnRaw tt spEx 9 [(1, 1, .b false), (1, 4, .b false), (1, 9, .b true)] {} [] Tryz.f22 Q (msg, tag, n, ()) =
 ((decide (n < (0 : Int)) = false) ∧
 ((decide (n > (16320 : Int)) = false) ∧
 ((decide ((↑(List.length tag) : Int) > (255 : Int)) = true) ∧
 (Q (SV.tup [SV.val (Value.slice none (0 : Nat) (0 : Nat)), SV.i64 (2 : Int)]))))) := by kernel_rfl
theorem vcExp (b e msg tag : List UInt8) (n : Int) (Q : SV → Prop) : RnRaw tt spEx 9 [(1, 1, .b false), (1, 4, .b false), (1, 9, .b false)] lEx (rtEx b e n) Tryz.f22 Q (msg, tag, n, ()) =
 ((decide (n < (0 : Int)) = false) ∧
 ((decide (n > (16320 : Int)) = false) ∧
 ((decide ((↑(List.length tag) : Int) > (255 : Int)) = false) ∧
 ((List.length tag ≤ appLim) ∧
 ((((0 : Nat) + List.length tag = List.length tag) ∧
 (List.length (List.drop (0 : Nat) (List.take (List.length tag) tag) ++ [UInt8.ofInt (↑(List.length tag) : Int)]) ≤ appLim)) ∧
 ((((0 : Int) ≤ (128 : Int)) ∧
 (((128 : Int) = (128 : Int)) ∧
 ((128 : Int) ≤ (1099511627776 : Int)))) ∧
 ((((4 : Nat) ≤ (1000000 : Nat)) ∧
 (∀ p : List UInt8,
 ((List.Mem p
 [[(0 : UInt8), (0 : UInt8), (0 : UInt8), (0 : UInt8), (0 : UInt8), (0 : UInt8), (0 : UInt8), (0 : UInt8), (0 : UInt8),
 (0 : UInt8), (0 : UInt8), (0 : UInt8), (0 : UInt8), (0 : UInt8), (0 : UInt8), (0 : UInt8), (0 : UInt8),
 (0 : UInt8), (0 : UInt8), (0 : UInt8), (0 : UInt8), (0 : UInt8), (0 : UInt8), (0 : UInt8), (0 : UInt8),
 (0 : UInt8), (0 : UInt8), (0 : UInt8), (0 : UInt8), (0 : UInt8), (0 : UInt8), (0 : UInt8), (0 : UInt8),
 (0 : UInt8), (0 : UInt8), (0 : UInt8), (0 : UInt8), (0 : UInt8), (0 : UInt8), (0 : UInt8), (0 : UInt8),
 (0 : UInt8), (0 : UInt8), (0 : UInt8), (0 : UInt8), (0 : UInt8), (0 : UInt8), (0 : UInt8), (0 : UInt8),
 (0 : UInt8), (0 : UInt8), (0 : UInt8), (0 : UInt8), (0 : UInt8), (0 : UInt8), (0 : UInt8), (0 : UInt8),
 (0 : UInt8), (0 : UInt8), (0 : UInt8), (0 : UInt8), (0 : UInt8), (0 : UInt8), (0 : UInt8), (0 : UInt8),
 (0 : UInt8), (0 : UInt8), (0 : UInt8), (0 : UInt8), (0 : UInt8), (0 : UInt8), (0 : UInt8), (0 : UInt8),
 (0 : UInt8), (0 : UInt8), (0 : UInt8), (0 : UInt8), (0 : UInt8), (0 : UInt8), (0 : UInt8), (0 : UInt8),
 (0 : UInt8), (0 : UInt8), (0 : UInt8), (0 : UInt8), (0 : UInt8), (0 : UInt8), (0 : UInt8), (0 : UInt8),
 (0 : UInt8), (0 : UInt8), (0 : UInt8), (0 : UInt8), (0 : UInt8), (0 : UInt8), (0 : UInt8), (0 : UInt8),
 (0 : UInt8), (0 : UInt8), (0 : UInt8), (0 : UInt8), (0 : UInt8), (0 : UInt8), (0 : UInt8), (0 : UInt8),
 (0 : UInt8), (0 : UInt8), (0 : UInt8), (0 : UInt8), (0 : UInt8), (0 : UInt8), (0 : UInt8), (0 : UInt8),
 (0 : UInt8), (0 : UInt8), (0 : UInt8), (0 : UInt8), (0 : UInt8), (0 : UInt8), (0 : UInt8), (0 : UInt8),
 (0 : UInt8), (0 : UInt8), (0 : UInt8), (0 : UInt8), (0 : UInt8), (0 : UInt8), (0 : UInt8)],
 msg,
 [UInt8.ofInt (Int.fdiv n ((2 : Int) ^ min (UInt64.toNat (UInt64.ofNat (Int.toNat (8 : Int)))) (64 : Nat))),
 UInt8.ofInt n, UInt8.ofNat (Int.toNat (0 : Int))],
 List.drop (0 : Nat)
 (List.take
 ((0 : Nat) +
 List.length
 (List.drop (0 : Nat) (List.take (List.length tag) tag) ++ [UInt8.ofInt (↑(List.length tag) : Int)]))
 (List.drop (0 : Nat) (List.take (List.length tag) tag) ++ [UInt8.ofInt (↑(List.length tag) : Int)]))]) →
 (List.length p ≤ (1000000 : Nat))))) ∧
 ((((0 : Nat) = (0 : Nat)) ∧
 (List.length (List.drop (0 : Nat) (List.take (List.length tag) tag) ++ [UInt8.ofInt (↑(List.length tag) : Int)]) =
 List.length (List.drop (0 : Nat) (List.take (List.length tag) tag) ++ [UInt8.ofInt (↑(List.length tag) : Int)]))) ∧
 (((() = ()) ∧
 ((n = n) ∧
 ((List.drop (0 : Nat)
 (List.take
 ((0 : Nat) +
 List.length (List.drop (0 : Nat) (List.take (List.length tag) tag) ++ [UInt8.ofInt (↑(List.length tag) : Int)]))
 (List.drop (0 : Nat) (List.take (List.length tag) tag) ++ [UInt8.ofInt (↑(List.length tag) : Int)])) =
 List.drop (0 : Nat) (List.take (List.length tag) tag) ++ [UInt8.ofInt (↑(List.length tag) : Int)]) ∧
 (digV
 (List.flatten
 [[(0 : UInt8), (0 : UInt8), (0 : UInt8), (0 : UInt8), (0 : UInt8), (0 : UInt8), (0 : UInt8), (0 : UInt8),
 (0 : UInt8), (0 : UInt8), (0 : UInt8), (0 : UInt8), (0 : UInt8), (0 : UInt8), (0 : UInt8), (0 : UInt8),
 (0 : UInt8), (0 : UInt8), (0 : UInt8), (0 : UInt8), (0 : UInt8), (0 : UInt8), (0 : UInt8), (0 : UInt8),
 (0 : UInt8), (0 : UInt8), (0 : UInt8), (0 : UInt8), (0 : UInt8), (0 : UInt8), (0 : UInt8), (0 : UInt8),
 (0 : UInt8), (0 : UInt8), (0 : UInt8), (0 : UInt8), (0 : UInt8), (0 : UInt8), (0 : UInt8), (0 : UInt8),
 (0 : UInt8), (0 : UInt8), (0 : UInt8), (0 : UInt8), (0 : UInt8), (0 : UInt8), (0 : UInt8), (0 : UInt8),
 (0 : UInt8), (0 : UInt8), (0 : UInt8), (0 : UInt8), (0 : UInt8), (0 : UInt8), (0 : UInt8), (0 : UInt8),
 (0 : UInt8), (0 : UInt8), (0 : UInt8), (0 : UInt8), (0 : UInt8), (0 : UInt8), (0 : UInt8), (0 : UInt8),
 (0 : UInt8), (0 : UInt8), (0 : UInt8), (0 : UInt8), (0 : UInt8), (0 : UInt8), (0 : UInt8), (0 : UInt8),
 (0 : UInt8), (0 : UInt8), (0 : UInt8), (0 : UInt8), (0 : UInt8), (0 : UInt8), (0 : UInt8), (0 : UInt8),
 (0 : UInt8), (0 : UInt8), (0 : UInt8), (0 : UInt8), (0 : UInt8), (0 : UInt8), (0 : UInt8), (0 : UInt8),
 (0 : UInt8), (0 : UInt8), (0 : UInt8), (0 : UInt8), (0 : UInt8), (0 : UInt8), (0 : UInt8), (0 : UInt8),
 (0 : UInt8), (0 : UInt8), (0 : UInt8), (0 : UInt8), (0 : UInt8), (0 : UInt8), (0 : UInt8), (0 : UInt8),
 (0 : UInt8), (0 : UInt8), (0 : UInt8), (0 : UInt8), (0 : UInt8), (0 : UInt8), (0 : UInt8), (0 : UInt8),
 (0 : UInt8), (0 : UInt8), (0 : UInt8), (0 : UInt8), (0 : UInt8), (0 : UInt8), (0 : UInt8), (0 : UInt8),
 (0 : UInt8), (0 : UInt8), (0 : UInt8), (0 : UInt8), (0 : UInt8), (0 : UInt8), (0 : UInt8), (0 : UInt8)],
 msg,
 [UInt8.ofInt (Int.fdiv n ((2 : Int) ^ min (UInt64.toNat (UInt64.ofNat (Int.toNat (8 : Int)))) (64 : Nat))),
 UInt8.ofInt n, UInt8.ofNat (Int.toNat (0 : Int))],
 List.drop (0 : Nat)
 (List.take
 ((0 : Nat) +
 List.length
 (List.drop (0 : Nat) (List.take (List.length tag) tag) ++ [UInt8.ofInt (↑(List.length tag) : Int)]))
 (List.drop (0 : Nat) (List.take (List.length tag) tag) ++ [UInt8.ofInt (↑(List.length tag) : Int)]))]) =
 digV
 (List.flatten
 [[(0 : UInt8), (0 : UInt8), (0 : UInt8), (0 : UInt8), (0 : UInt8), (0 : UInt8), (0 : UInt8), (0 : UInt8),
 (0 : UInt8), (0 : UInt8), (0 : UInt8), (0 : UInt8), (0 : UInt8), (0 : UInt8), (0 : UInt8), (0 : UInt8),
 (0 : UInt8), (0 : UInt8), (0 : UInt8), (0 : UInt8), (0 : UInt8), (0 : UInt8), (0 : UInt8), (0 : UInt8),
 (0 : UInt8), (0 : UInt8), (0 : UInt8), (0 : UInt8), (0 : UInt8), (0 : UInt8), (0 : UInt8), (0 : UInt8),
 (0 : UInt8), (0 : UInt8), (0 : UInt8), (0 : UInt8), (0 : UInt8), (0 : UInt8), (0 : UInt8), (0 : UInt8),
 (0 : UInt8), (0 : UInt8), (0 : UInt8), (0 : UInt8), (0 : UInt8), (0 : UInt8), (0 : UInt8), (0 : UInt8),
 (0 : UInt8), (0 : UInt8), (0 : UInt8), (0 : UInt8), (0 : UInt8), (0 : UInt8), (0 : UInt8), (0 : UInt8),
 (0 : UInt8), (0 : UInt8), (0 : UInt8), (0 : UInt8), (0 : UInt8), (0 : UInt8), (0 : UInt8), (0 : UInt8),
 (0 : UInt8), (0 : UInt8), (0 : UInt8), (0 : UInt8), (0 : UInt8), (0 : UInt8), (0 : UInt8), (0 : UInt8),
 (0 : UInt8), (0 : UInt8), (0 : UInt8), (0 : UInt8), (0 : UInt8), (0 : UInt8), (0 : UInt8), (0 : UInt8),
 (0 : UInt8), (0 : UInt8), (0 : UInt8), (0 : UInt8), (0 : UInt8), (0 : UInt8), (0 : UInt8), (0 : UInt8),
 (0 : UInt8), (0 : UInt8), (0 : UInt8), (0 : UInt8), (0 : UInt8), (0 : UInt8), (0 : UInt8), (0 : UInt8),
 (0 : UInt8), (0 : UInt8), (0 : UInt8), (0 : UInt8), (0 : UInt8), (0 : UInt8), (0 : UInt8), (0 : UInt8),
 (0 : UInt8), (0 : UInt8), (0 : UInt8), (0 : UInt8), (0 : UInt8), (0 : UInt8), (0 : UInt8), (0 : UInt8),
 (0 : UInt8), (0 : UInt8), (0 : UInt8), (0 : UInt8), (0 : UInt8), (0 : UInt8), (0 : UInt8), (0 : UInt8),
 (0 : UInt8), (0 : UInt8), (0 : UInt8), (0 : UInt8), (0 : UInt8), (0 : UInt8), (0 : UInt8), (0 : UInt8)],
 msg,
 [UInt8.ofInt (Int.fdiv n ((2 : Int) ^ min (UInt64.toNat (UInt64.ofNat (Int.toNat (8 : Int)))) (64 : Nat))),
 UInt8.ofInt n, UInt8.ofNat (Int.toNat (0 : Int))],
 List.drop (0 : Nat)
 (List.take
 ((0 : Nat) +
 List.length
 (List.drop (0 : Nat) (List.take (List.length tag) tag) ++ [UInt8.ofInt (↑(List.length tag) : Int)]))
 (List.drop (0 : Nat) (List.take (List.length tag) tag) ++ [UInt8.ofInt (↑(List.length tag) : Int)]))]))))) ∧
 (∀ v : Int,
 (∀ a : List UInt8,
 (∀ a_1 : List UInt8,
 (((v = n) ∧
 ((a = List.drop (0 : Nat) (List.take (List.length tag) tag) ++ [UInt8.ofInt (↑(List.length tag) : Int)]) ∧
 (a_1 =
 digV
 (List.flatten
 [[(0 : UInt8), (0 : UInt8), (0 : UInt8), (0 : UInt8), (0 : UInt8), (0 : UInt8), (0 : UInt8), (0 : UInt8),
 (0 : UInt8), (0 : UInt8), (0 : UInt8), (0 : UInt8), (0 : UInt8), (0 : UInt8), (0 : UInt8), (0 : UInt8),
 (0 : UInt8), (0 : UInt8), (0 : UInt8), (0 : UInt8), (0 : UInt8), (0 : UInt8), (0 : UInt8), (0 : UInt8),
 (0 : UInt8), (0 : UInt8), (0 : UInt8), (0 : UInt8), (0 : UInt8), (0 : UInt8), (0 : UInt8), (0 : UInt8),
 (0 : UInt8), (0 : UInt8), (0 : UInt8), (0 : UInt8), (0 : UInt8), (0 : UInt8), (0 : UInt8), (0 : UInt8),
 (0 : UInt8), (0 : UInt8), (0 : UInt8), (0 : UInt8), (0 : UInt8), (0 : UInt8), (0 : UInt8), (0 : UInt8),
 (0 : UInt8), (0 : UInt8), (0 : UInt8), (0 : UInt8), (0 : UInt8), (0 : UInt8), (0 : UInt8), (0 : UInt8),
 (0 : UInt8), (0 : UInt8), (0 : UInt8), (0 : UInt8), (0 : UInt8), (0 : UInt8), (0 : UInt8), (0 : UInt8),
 (0 : UInt8), (0 : UInt8), (0 : UInt8), (0 : UInt8), (0 : UInt8), (0 : UInt8), (0 : UInt8), (0 : UInt8),
 (0 : UInt8), (0 : UInt8), (0 : UInt8), (0 : UInt8), (0 : UInt8), (0 : UInt8), (0 : UInt8), (0 : UInt8),
 (0 : UInt8), (0 : UInt8), (0 : UInt8), (0 : UInt8), (0 : UInt8), (0 : UInt8), (0 : UInt8), (0 : UInt8),
 (0 : UInt8), (0 : UInt8), (0 : UInt8), (0 : UInt8), (0 : UInt8), (0 : UInt8), (0 : UInt8), (0 : UInt8),
 (0 : UInt8), (0 : UInt8), (0 : UInt8), (0 : UInt8), (0 : UInt8), (0 : UInt8), (0 : UInt8), (0 : UInt8),
 (0 : UInt8), (0 : UInt8), (0 : UInt8), (0 : UInt8), (0 : UInt8), (0 : UInt8), (0 : UInt8), (0 : UInt8),
 (0 : UInt8), (0 : UInt8), (0 : UInt8), (0 : UInt8), (0 : UInt8), (0 : UInt8), (0 : UInt8), (0 : UInt8),
 (0 : UInt8), (0 : UInt8), (0 : UInt8), (0 : UInt8), (0 : UInt8), (0 : UInt8), (0 : UInt8), (0 : UInt8)],
 msg,
 [UInt8.ofInt (Int.fdiv n ((2 : Int) ^ min (UInt64.toNat (UInt64.ofNat (Int.toNat (8 : Int)))) (64 : Nat))),
 UInt8.ofInt n, UInt8.ofNat (Int.toNat (0 : Int))],
 List.drop (0 : Nat)
 (List.take
 ((0 : Nat) +
 List.length
 (List.drop (0 : Nat) (List.take (List.length tag) tag) ++ [UInt8.ofInt (↑(List.length tag) : Int)]))
 (List.drop (0 : Nat) (List.take (List.length tag) tag) ++ [UInt8.ofInt (↑(List.length tag) : Int)]))])))) →
 bcase (decide (v > (0 : Int)))
 ((∀ l : Nat,
 ((((0 : Int) ≤ (↑(List.length a_1) : Int)) ∧
 (((↑(List.length a_1) : Int) = (↑(List.length a_1) : Int)) ∧
 ((↑(List.length a_1) : Int) ≤ (1099511627776 : Int)))) ∧
 ((iEx b e n (ExS.mk v (0 : Nat))
 (OutLast.mk []
 (List.drop (0 : Nat)
 (List.take ((0 : Nat) + Int.toNat (↑(List.length a_1) : Int))
 (List.replicate (Int.toNat (↑(List.length a_1) : Int)) (0 : UInt8)))))
 (1 : Int)) ∧
 (∀ s : ExS,
 (∀ o : List UInt8,
 (∀ l_1 : List UInt8,
 (∀ a_2 : Int,
 ((iEx b e n s (OutLast.mk o l_1) a_2) →
 bcase (decide (a_2 ≤ (255 : Int)))
 (((List.length a_1 ≤ appLim) ∧
 ((((0 : Nat) = (0 : Nat)) ∧
 (List.length a_1 = List.length a_1)) ∧
 ((iMx b l_1 s s (OutMix.mk o a_1) (OutMix.mk o a_1) (0 : Int)) ∧
 (∀ s_1 : ExS,
 (∀ o_1 : List UInt8,
 (∀ l_2 : List UInt8,
 (∀ a_3 : Int,
 ((iMx b l_1 s s_1 (OutMix.mk o a_1) (OutMix.mk o_1 l_2) a_3) →
 bcase (decide (a_3 < (↑(List.length l_1) : Int)))
 (((((0 : Int) ≤ a_3) ∧
 (a_3 < (↑(List.length l_1) : Int))) ∧
 ((((0 : Int) ≤ a_3) ∧
 (a_3 < (↑(List.length l_2) : Int))) ∧
 ((((0 : Int) ≤ a_3) ∧
 (a_3 < (↑(List.length l_2) : Int))) ∧
 ((((0 : Nat) = (0 : Nat)) ∧
 (List.length l_2 =
 List.length
 (List.set l_2 ((0 : Nat) + Int.toNat a_3)
 (List.getD l_2 ((0 : Nat) + Int.toNat a_3) (0 : UInt8) ^^^ List.getD l_1 (Int.toNat a_3) (0 : UInt8))))) ∧
 (((ValV.mk (Value.func (Fn.yield l) (Array.mk []) (Array.mk [])), RoL.mk a_1, RoL.mk a, a_2, l_1,
 (↑(List.length l_1) : Int), ()) =
 (ValV.mk (Value.func (Fn.yield l) (Array.mk []) (Array.mk [])), RoL.mk a_1, RoL.mk a, a_2, l_1,
 (↑(List.length l_1) : Int), ())) ∧
 ((iMx b l_1 s s_1 (OutMix.mk o a_1)
 (OutMix.mk o_1
 (List.set l_2 ((0 : Nat) + Int.toNat a_3)
 (List.getD l_2 ((0 : Nat) + Int.toNat a_3) (0 : UInt8) ^^^ List.getD l_1 (Int.toNat a_3) (0 : UInt8))))
 (IntKind.wrap IntKind.i64 (a_3 + (1 : Int)))) ∧
 (Int.toNat ((↑(List.length l_1) : Int) - IntKind.wrap IntKind.i64 (a_3 + (1 : Int))) <
 Int.toNat ((↑(List.length l_1) : Int) - a_3)))))))))
 (((((3 : Nat) ≤ (1000000 : Nat)) ∧
 (∀ p : List UInt8,
 ((List.Mem p [List.drop (0 : Nat) (List.take ((0 : Nat) + List.length l_2) l_2), [UInt8.ofInt a_2], a]) →
 (List.length p ≤ (1000000 : Nat))))) ∧
 ((l = l) ∧
 ((((0 : Nat) + ExS.len s_1 = List.length o_1) ∧
 (List.length
 (List.drop (0 : Nat) (List.take (List.length o_1) o_1) ++
 digV (List.flatten [List.drop (0 : Nat) (List.take ((0 : Nat) + List.length l_2) l_2), [UInt8.ofInt a_2], a])) ≤
 appLim)) ∧
 bcase (decide
 ((↑(List.length
 (List.drop (0 : Nat) (List.take (List.length o_1) o_1) ++
 digV
 (List.flatten
 [List.drop (0 : Nat) (List.take ((0 : Nat) + List.length l_2) l_2), [UInt8.ofInt a_2], a]))) :
 Int) ≥
 ExS.n s_1))
 ((((0 : Nat) = (0 : Nat)) ∧
 ((((0 : Int) ≤ (0 : Int)) ∧
 (((0 : Int) ≤ ExS.n s_1) ∧
 ((ExS.n s_1 ≤ ExS.n s_1) ∧
 (ExS.n s_1 ≤
 (↑(List.length
 (List.drop (0 : Nat) (List.take (List.length o_1) o_1) ++
 digV
 (List.flatten [List.drop (0 : Nat) (List.take ((0 : Nat) + List.length l_2) l_2), [UInt8.ofInt a_2], a]))) :
 Int))))) ∧
 (Q
 (SV.tup
 [SV.lst
 (LV.bytes
 (List.drop (Int.toNat (0 : Int))
 (List.take (Int.toNat (ExS.n s_1))
 (List.drop (0 : Nat)
 (List.take
 ((0 : Nat) +
 List.length
 (List.drop (0 : Nat) (List.take (List.length o_1) o_1) ++
 digV
 (List.flatten
 [List.drop (0 : Nat) (List.take ((0 : Nat) + List.length l_2) l_2), [UInt8.ofInt a_2], a])))
 (List.drop (0 : Nat) (List.take (List.length o_1) o_1) ++
 digV
 (List.flatten
 [List.drop (0 : Nat) (List.take ((0 : Nat) + List.length l_2) l_2), [UInt8.ofInt a_2],
 a]))))))),
 SV.i64 (0 : Int)])))))
 ((((ValV.mk (Value.func (Fn.yield l) (Array.mk []) (Array.mk [])), RoL.mk a_1, RoL.mk a, ()) =
 (ValV.mk (Value.func (Fn.yield l) (Array.mk []) (Array.mk [])), RoL.mk a_1, RoL.mk a, ())) ∧
 ((iEx b e n
 (ExS.mk (ExS.n s_1)
 (List.length
 (List.drop (0 : Nat) (List.take (List.length o_1) o_1) ++
 digV (List.flatten [List.drop (0 : Nat) (List.take ((0 : Nat) + List.length l_2) l_2), [UInt8.ofInt a_2], a]))))
 (OutLast.mk
 (List.drop (0 : Nat) (List.take (List.length o_1) o_1) ++
 digV (List.flatten [List.drop (0 : Nat) (List.take ((0 : Nat) + List.length l_2) l_2), [UInt8.ofInt a_2], a]))
 (digV (List.flatten [List.drop (0 : Nat) (List.take ((0 : Nat) + List.length l_2) l_2), [UInt8.ofInt a_2], a])))
 (IntKind.wrap IntKind.i64 (a_2 + (1 : Int)))) ∧
 (Int.toNat ((256 : Int) - IntKind.wrap IntKind.i64 (a_2 + (1 : Int))) < Int.toNat ((256 : Int) - a_2))))))))))))))))))
 (((((0 : Int) ≤ (0 : Int)) ∧
 (((0 : Int) ≤ ExS.n s) ∧
 ((ExS.n s ≤ ExS.n s) ∧
 (ExS.n s ≤ (↑(ExS.len s) : Int))))) ∧
 (Q
 (SV.tup
 [SV.lst
 (LV.bytes
 (List.drop (Int.toNat (0 : Int))
 (List.take (Int.toNat (ExS.n s)) (List.drop (0 : Nat) (List.take ((0 : Nat) + ExS.len s) o))))),
 SV.i64 (0 : Int)])))))))))))))
 (((((0 : Int) = (0 : Int)) ∧
 ((v = (0 : Int)) ∧
 (v = (0 : Int)))) ∧
 (Q (SV.tup [SV.val (Value.slice none (0 : Nat) (0 : Nat)), SV.i64 (0 : Int)]))))))))))))))))) := by kernel_rfl
end Go.Proofs.YtigkddloeikpbaaGreatDoor.H9
/- Layer 9: Expand holds. -/
set_option maxRecDepth 10000
namespace Go.Proofs.YtigkddloeikpbaaGreatDoor.H9
open Go.Sym Go.Dig R1 H6
theorem spEx_ok : SpecsOK Tryz.prog spEx := .consF ok_Clone <| .consN ok_Sm.toN <| .cons ok_Blocks (.nil _)
theorem drop_cons {l : List UInt8} {k : Nat} (h : k < l.length) : l.drop k = l.getD k 0 :: l.drop (k + 1) := by
  rw [List.drop_eq_getElem_cons h, List.getD_eq_getElem?_getD, List.getElem?_eq_getElem h]; rfl
theorem mix_step {b last : List UInt8} {k : Nat} (hb : k < b.length) (hl : k < last.length) :
    (xorL (b.take k) (last.take k) ++ b.drop k).set k ((xorL (b.take k) (last.take k) ++ b.drop k).getD k 0 ^^^ last.getD k 0) = xorL (b.take (k + 1)) (last.take (k + 1)) ++ b.drop (k + 1) := by
  have la : (xorL (b.take k) (last.take k)).length = k := by rw [xorL_len, List.length_take, List.length_take]; omega
  have e : (xorL (b.take k) (last.take k) ++ b.drop k).getD k 0 = b.getD k 0 := by
    rw [List.getD_eq_getElem?_getD, List.getElem?_append_right (by omega), la, Nat.sub_self, drop_cons hb]; rfl
  rw [e, List.set_append_right _ _ (by omega), la, Nat.sub_self, drop_cons hb, List.set_cons_zero, xorL_step hb hl, List.append_assoc]
  rfl
theorem mem3 {p a b c : List UInt8} {n : Nat} (ha : a.length ≤ n) (hb : b.length ≤ n) (hc : c.length ≤ n) (h : List.Mem p [a, b, c]) : p.length ≤ n := by
  have h' : p ∈ [a, b, c] := h
  simp only [List.mem_cons, List.not_mem_nil, or_false] at h'
  rcases h' with rfl | rfl | rfl <;> assumption
theorem mem4 {p a b c d : List UInt8} {n : Nat} (ha : a.length ≤ n) (hb : b.length ≤ n) (hc : c.length ≤ n) (hd : d.length ≤ n) (h : List.Mem p [a, b, c, d]) : p.length ≤ n := by
  have h' : p ∈ [a, b, c, d] := h
  simp only [List.mem_cons, List.not_mem_nil, or_false] at h'
  rcases h' with rfl | rfl | rfl | rfl <;> assumption
theorem flat3 (a b c : List UInt8) : List.flatten [a, b, c] = a ++ b ++ c := by simp
theorem flat4 (a b c d : List UInt8) : List.flatten [a, b, c, d] = a ++ b ++ c ++ d := by simp
def QE (l : List UInt8) (e : Int) (x : SV) : Prop := x = .tup [.lst (.bytes l), .i64 e] ∨ (l = [] ∧ x = .tup [.val (.slice none 0 0), .i64 e])
theorem QE_fin {l : List UInt8} {e : Int} (x : SV) (h : QE l e x) (at_ : At) (w : World) (v : Value) (r : Rel at_ w x v) : Rel at_ w (retSV (RetL.retL (l, e, ()))) v := by
  rcases h with rfl | ⟨rfl, rfl⟩
  · exact r
  · show Rel at_ w (.tup [.lst (.bytes []), .i64 e]) v
    simp only [Rel, RelL] at r ⊢
    obtain ⟨vs, h1, u, us, h2, h3, h4⟩ := r
    subst h3
    exact ⟨vs, h1, _, us, h2, ⟨none, 0, rfl, by decide, fun j u hj => by simp [LV.vals] at hj⟩, h4⟩
theorem ok_Exp : SpecOK Tryz.prog 22 sExp := by
  refine fn_okR (by kernel_rfl) tt_ok spEx_ok 9 Tryz.func22 (by decide +kernel) (by kernel_rfl) ?_
  rintro ⟨msg, tag, n, _⟩ hp
  replace hp : msg.length ≤ 1000000 := hp
  show ∃ D L RT, ∃ Q : SV → Prop, RTOK _ RT ∧ RnVD tt spEx 9 D L RT _ Q (msg, tag, n, ()) ∧ ∀ x, Q x → ∀ (at_ : At) (w : World) (v : Value), Rel at_ w x v → Rel at_ w (retSV (RetL.retL (if 0 ≤ n ∧ n ≤ 16320 ∧ tag.length ≤ 255 then (expV msg tag n, (0 : Int), ()) else ([], 2, ())))) v
  by_cases c1 : n < 0
  · rw [if_neg (by omega)]
    exact ⟨_, _, _, QE [] 2, .nil _, RnVD.of (vcExp1 [] [] msg tag n _) ⟨decide_eq_true c1, .inr ⟨rfl, rfl⟩⟩, QE_fin⟩
  by_cases c2 : n > 16320
  · rw [if_neg (by omega)]
    exact ⟨_, _, _, QE [] 2, .nil _, RnVD.of (vcExp2 [] [] msg tag n _) ⟨decide_eq_false c1, decide_eq_true c2, .inr ⟨rfl, rfl⟩⟩, QE_fin⟩
  by_cases c3 : (tag.length : Int) > 255
  · rw [if_neg (by omega)]
    exact ⟨_, _, _, QE [] 2, .nil _, RnVD.of (vcExp3 [] [] msg tag n _) ⟨decide_eq_false c1, decide_eq_false c2, decide_eq_true c3, .inr ⟨rfl, rfl⟩⟩, QE_fin⟩
  rw [if_pos (by omega), expV_eq]
  refine ⟨_, _, _, QE ((outE (begV msg tag n) (endV tag) 255).take n.toNat) 0, .one Tryz.func90 (by kernel_rfl) (by kernel_rfl) (show (Tryz.f90.name == "runtime.NumGoroutine") = false by decide +kernel), RnVD.of (vcExp (begV msg tag n) (endV tag) msg tag n _) ⟨decide_eq_false c1, decide_eq_false c2, decide_eq_false c3, ?_⟩, QE_fin⟩
  have lb := begV_len msg tag n
  have le := endV_len tag
  have al : ∀ k : Nat, k ≤ 10000000 → k ≤ appLim := fun k hk => Nat.le_trans hk (by decide)
  simp only [tf, true_and, and_true, Nat.zero_add]
  refine ⟨al _ (by omega), al _ (by show (endV tag).length ≤ _; omega), ⟨by decide, by decide⟩, ⟨by decide, fun p h => mem4 (by decide) hp (by simp) (show (endV tag).length ≤ _ by omega) h⟩, ?_⟩
  rintro v a beg ⟨rfl, ga, gb⟩
  have ea : a = endV tag := ga
  have eb : beg = begV msg tag v := by
    rw [gb, flat4]
    rfl
  subst ea
  subst eb
  rw [bcase_dec]
  refine ⟨fun hv l => ?_, fun hv => ?_⟩
  · refine ⟨⟨by omega, by rw [lb]; decide⟩, ⟨rfl, rfl, by omega, by omega, ?_, rfl, by omega⟩, ?_⟩
    · show List.drop 0 _ = _
      rw [lb]
      exact (chE_zero _ _).symm
    rintro s o last i ⟨i1, i2, i3, i4, i5, i6, i7⟩
    obtain ⟨sn, slen⟩ := s
    replace i1 : sn = v := i1
    replace i5 : last = chE (begV msg tag v) (endV tag) (i - 1).toNat := i5
    replace i6 : o = outE (begV msg tag v) (endV tag) (i - 1).toNat := i6
    have ll : last.length = 64 := by rw [i5, chE_len]
    have lo : o.length = 64 * (i - 1).toNat := by rw [i6, outE_len]
    rw [bcase_dec]
    refine ⟨fun hi => ⟨al _ (by omega), ⟨rfl, rfl, by omega, by omega, by simp [xorL]⟩, ?_⟩, fun hi => ?_⟩
    · rintro s1 o1 mix k ⟨j1, j2, j3, j4, j5⟩
      replace j2 : o1 = o := j2
      replace j5 : mix = xorL ((begV msg tag v).take k.toNat) (last.take k.toNat) ++ (begV msg tag v).drop k.toNat := j5
      have lmix : mix.length = 64 := by
        rw [j5, List.length_append, xorL_len, List.length_take, List.length_take, List.length_drop]
        omega
      rw [bcase_dec]
      refine ⟨fun hk => ⟨⟨j3, hk⟩, ⟨j3, by omega⟩, ⟨j3, by omega⟩, by rw [List.length_set], ⟨j1, j2, by rw [wr (by omega)]; omega, by rw [wr (by omega)]; omega, ?_⟩, by rw [wr (by omega)]; omega⟩, fun hk => ?_⟩
      · show mix.set k.toNat (mix.getD k.toNat 0 ^^^ last.getD k.toNat 0) = _
        rw [wr (by omega), show (k + 1).toNat = k.toNat + 1 by omega, ← mix_step (by omega) (by omega), j5]
      · have k64 : k.toNat = 64 := by omega
        have em : mix = xorL (begV msg tag v) (chE (begV msg tag v) (endV tag) (i - 1).toNat) := by
          rw [j5, k64, List.take_of_length_le (by omega), List.take_of_length_le (by omega), List.drop_of_length_le (by omega), List.append_nil, i5]
        have ed : digV (List.flatten [mix, [UInt8.ofInt i], endV tag]) = chE (begV msg tag v) (endV tag) i.toNat := by
          rw [flat3]
          exact ch_next lb i3 em
        have eo : o1 ++ digV (List.flatten [mix, [UInt8.ofInt i], endV tag]) = outE (begV msg tag v) (endV tag) i.toNat := by rw [ed, j2, i6, out_next i3]
        subst j1
        rw [eo, ed]
        have lout := outE_len (begV msg tag v) (endV tag) i.toNat
        refine ⟨⟨by decide, fun p h => mem3 (by omega) (by simp) (by omega) h⟩, ⟨by rw [j2]; exact i2, al _ (by omega)⟩, ?_⟩
        show bcase (decide (((outE (begV msg tag v) (endV tag) i.toNat).length : Int) ≥ sn)) _ _
        rw [bcase_dec]
        have hs : (ExS.n ⟨sn, slen⟩) = v := i1
        refine ⟨fun hc => ⟨⟨by decide, by rw [hs]; omega, Int.le_refl _, by rw [hs]; omega⟩, .inl ?_⟩, fun hc => ⟨⟨i1, rfl, by rw [wr (by omega)]; omega, by rw [wr (by omega)]; omega, by rw [wr (by omega)]; show chE _ _ _ = chE _ _ _; congr 1; omega, by rw [wr (by omega)]; show outE _ _ _ = outE _ _ _; congr 1; omega, by rw [wr (by omega)]; omega⟩, by rw [wr (by omega)]; omega⟩⟩
        rw [hs, outE_take (by omega) (by omega)]
        rfl
    · exfalso
      omega
  · have : v = 0 := by omega
    exact ⟨⟨this, this⟩, .inr ⟨by subst this; rfl, rfl⟩⟩
end Go.Proofs.YtigkddloeikpbaaGreatDoor.H9
/- Layer 9's laws: what is said of them. -/
set_option maxRecDepth 10000
namespace Go.Proofs.YtigkddloeikpbaaGreatDoor.H9
open Go.Sym Go.Dig R1 H6
/-- Bytes are asked for that may be. -/
def exOk (tag : List UInt8) (n : Int) : Prop := 0 ≤ n ∧ n ≤ 16320 ∧ tag.length ≤ 255
noncomputable def sExpG : SpecF := fspec (α := List UInt8 × List UInt8 × Int × Unit) (β := List UInt8 × Int × Unit) (fun a => some (a.1.length ≤ 1000000 ∧ exOk a.2.1 a.2.2.1)) (fun a => (expV a.1 a.2.1 a.2.2.1, 0, ()))
noncomputable def sExpB : SpecF := fspec (α := List UInt8 × List UInt8 × Int × Unit) (β := List UInt8 × Int × Unit) (fun a => some (a.1.length ≤ 1000000 ∧ ¬ exOk a.2.1 a.2.2.1)) (fun _ => ([], 2, ()))
theorem ok_ExpG : SpecOK Tryz.prog 22 sExpG := fspec_weaken ok_Exp id (fun _ _ _ _ h => h) (fun ⟨_, _, _, _⟩ => rfl) (fun a h => by have h' : _ ∧ _ := h; exact h'.1) (fun a h at_ w v r => by
  have h' : _ ∧ exOk _ _ := h
  simp only [id] at r
  rw [if_pos (show 0 ≤ a.2.2.1 ∧ a.2.2.1 ≤ 16320 ∧ a.2.1.length ≤ 255 from h'.2)] at r
  exact r)
theorem ok_ExpB : SpecOK Tryz.prog 22 sExpB := fspec_weaken ok_Exp id (fun _ _ _ _ h => h) (fun ⟨_, _, _, _⟩ => rfl) (fun a h => by have h' : _ ∧ _ := h; exact h'.1) (fun a h at_ w v r => by
  have h' : _ ∧ ¬ exOk _ _ := h
  simp only [id] at r
  rw [if_neg (show ¬ (0 ≤ a.2.2.1 ∧ a.2.2.1 ≤ 16320 ∧ a.2.1.length ≤ 255) from h'.2)] at r
  exact r)
noncomputable def spAw9 : Specs := [(1000000, Sym.sNo), (22, sExpG), (12, sSame)]
theorem z_ex : ∃ l : List UInt8, l = List.replicate 128 0 := ⟨_, rfl⟩
noncomputable def oZ : List UInt8 := Classical.choose z_ex
theorem oZ_eq : oZ = List.replicate 128 0 := Classical.choose_spec z_ex
noncomputable def cA1 : CSpec := { β := Unit, γ := Unit, α := OwnB × Unit, same := [], pre := [], keep := [1], inv := fun _ _ a => a.1.l = oZ }
noncomputable def cA2 : CSpec := { β := Unit, γ := OwnB × Unit, α := OwnB × Unit, same := [], pre := [1], keep := [2], inv := fun _ g a => a.1.l = digV (g.1.l ++ [0, 64, 0, 0]) }
noncomputable def cA3 : CSpec := { β := Unit, γ := OwnB × Unit, α := OwnB × OwnB × Unit, same := [], pre := [2], keep := [2, 3], inv := fun _ g a => a.1.l = g.1.l ∧ a.2.1.l = digV (g.1.l ++ [1, 0]) }
noncomputable def lAw9 : Plan := { cuts := [(1, cA1), (2, cA2), (3, cA3)] }
def sAwake9 : SpecF := fspec (α := Unit) total (fun _ => true)
noncomputable def spEB (b : Bool) : Specs := [(1000001, Sym.sNo), (22, cond b sExpG sExpB), (27, sRExp), (12, sSame)]
/-! Each block by the one ahead. -/
structure U16V where
  n : Nat
instance : Enc U16V where
  enc a := .val (.int .u16 (Int.ofNat a.n))
  dec | .val (.int .u16 (Int.ofNat n)) => some ⟨n⟩
      | _ => none
  ok := by
    intro s a h at_ w v r
    split at h
    · simp only [Option.some.injEq] at h; subst h; exact r
    · cases h
  nn _ := rfl
abbrev CC := List UInt8 × List UInt8 × U16V × Int × List UInt8 × Unit
def cC9 : CSpec := { β := CC, γ := Unit, α := OwnB × Unit, same := [0, 1, 2, 7, 8], pre := [], keep := [10], inv := fun c _ a => a.1.l = c.2.1 ++ [UInt8.ofInt (c.2.1.length : Int)] }
noncomputable def cC11 : CSpec := { β := CC, γ := OwnB × Unit, α := OwnB × PHn × Unit, same := [0, 1, 2, 7, 8], pre := [10], keep := [10, 11], inv := fun _ g a => a.1.l = g.1.l ∧ a.2.1.v = hv (oZ) }
noncomputable def cC12 : CSpec := { β := CC, γ := OwnB × PHn × Unit, α := OwnB × PHn × Unit, same := [0, 1, 2, 7, 8], pre := [10, 11], keep := [10, 11], inv := fun c g a => a.1.l = g.1.l ∧ a.2.1.v = hv (oZ ++ c.1) }
noncomputable def cC13 : CSpec := { β := CC, γ := OwnB × PHn × Unit, α := OwnB × PHn × Unit, same := [0, 1, 2, 7, 8], pre := [10, 11], keep := [10, 11], inv := fun c g a => a.1.l = g.1.l ∧ a.2.1.v = hv (oZ ++ c.1 ++ [UInt8.ofInt (Int.fdiv (Int.ofNat c.2.2.1.n) 256), UInt8.ofInt (Int.ofNat c.2.2.1.n), 0]) }
noncomputable def cC15 : CSpec := { β := CC, γ := OwnB × PHn × Unit, α := OwnB × OwnB × Unit, same := [0, 1, 2, 7, 8], pre := [10, 11], keep := [10, 12], inv := fun c g a => a.1.l = g.1.l ∧ a.2.1.l = digV (oZ ++ c.1 ++ [UInt8.ofInt (Int.fdiv (Int.ofNat c.2.2.1.n) 256), UInt8.ofInt (Int.ofNat c.2.2.1.n), 0] ++ g.1.l) }
def iCh (b e e' b' last : List UInt8) (k i : Int) : Prop := e' = e ∧ b' = b ∧ 0 ≤ i ∧ i % 64 = 0 ∧ i < k + 64 ∧ last = chE b e (i / 64).toNat
def iCx (e b last e' b' last' mix : List UInt8) (j : Int) : Prop := e' = e ∧ b' = b ∧ last' = last ∧ 0 ≤ j ∧ j ≤ 64 ∧ mix = xorL (b.take j.toNat) (last.take j.toNat) ++ b.drop j.toNat
def cC26 : CSpec := { β := Int × List UInt8 × Int × Unit, γ := OwnB × OwnB × OwnB × Unit, α := OwnB × OwnB × OwnB × Unit, same := [7, 8, 14], pre := [10, 12, 15], keep := [10, 12, 15], inv := fun c g a => a.1.l = g.1.l ∧ a.2.1.l = g.2.1.l ∧ a.2.2.1.l = g.2.2.1.l ++ [UInt8.ofInt (IntKind.wrap .i64 (IntKind.wrap .i64 (Int.tdiv c.2.2.1 64) + 1))] ++ g.1.l }
noncomputable def cC27 : CSpec := { β := Int × List UInt8 × Int × Unit, γ := OwnB × OwnB × OwnB × Unit, α := OwnB × OwnB × OwnB × Unit, same := [7, 8, 14], pre := [10, 12, 15], keep := [10, 12, 13], inv := fun _ g a => a.1.l = g.1.l ∧ a.2.1.l = g.2.1.l ∧ a.2.2.1.l = digV g.2.2.1.l }
noncomputable def lCh (b e : List UInt8) : Plan := { cuts := [(9, cC9), (11, cC11), (12, cC12), (13, cC13), (15, cC15), (26, cC26), (27, cC27)], loops := [
  (0, { β := Int × List UInt8 × Unit, α := OwnB × OwnB × OwnB × Int × Unit, same := [7, 8], keep := [10, 12, 13, 14], inv := fun c _ x => iCh b e x.1.l x.2.1.l x.2.2.1.l c.1 x.2.2.2.1, meas := fun c x => (c.1 + 64 - x.2.2.2.1).toNat }),
  (2, { β := Int × List UInt8 × Int × Int × Unit, α := OwnB × OwnB × OwnB × OwnB × Int × Unit, same := [7, 8, 14, 87], keep := [10, 12, 13, 15, 88], inv := fun _ a0 x => iCx a0.1.l a0.2.1.l a0.2.2.1.l x.1.l x.2.1.l x.2.2.1.l x.2.2.2.1.l x.2.2.2.2.1, meas := fun c x => (c.2.2.2.1 - x.2.2.2.2.1).toNat })] }
noncomputable def spCh : Specs := [(87, .fresh sNewH), (88, .memf sWriteO), (89, .fresh sHSumO), (1000000, Sym.sNo), (1000001, Sym.sNo), (22, sExpG), (12, sSame)]
end Go.Proofs.YtigkddloeikpbaaGreatDoor.H9
/- Layer 9's laws: what the bodies come to. -/
set_option maxRecDepth 10000
namespace Go.Proofs.YtigkddloeikpbaaGreatDoor.H9
open Go.Sym Go.Dig R1 H6
--STOP oZ, digV, expV, exOk, hv, chE, outE, xorL, iCh, iCx, rOf, nOf, absT, absR, sumO, beg
end Go.Proofs.YtigkddloeikpbaaGreatDoor.H9
/- Layer 9's laws hold. -/
set_option maxRecDepth 100000
namespace Go.Proofs.YtigkddloeikpbaaGreatDoor.H9
open Go.Sym Go.Dig R1 H6
theorem spAw9_ok : SpecsOK Tryz.prog spAw9 := .cons ok_DSumF <| .cons ok_ExpG <| .cons ok_Same (.nil _)
theorem oZ_len : oZ.length = 128 := by rw [oZ_eq, List.length_replicate]
theorem out_one (b e : List UInt8) : outE b e 1 = chE b e 1 := by show outE b e 0 ++ chE b e 1 = _; exact List.nil_append _
theorem xor_noughts {b : List UInt8} {n : Nat} (h : b.length = n) : xorL b (List.replicate n 0) = b := by
  unfold xorL
  apply List.ext_getElem
  · simp [h]
  · intro i h1 h2
    simp
theorem xor_nought {b : List UInt8} (h : b.length = 64) : xorL b (List.replicate 64 0) = b := xor_noughts h
theorem exp_first {l l' : List UInt8} (h1 : l = digV (oZ ++ [0, 64, 0, 0])) (h2 : l' = digV (l ++ [1, 0])) : expV [] [] 64 = l' := by
  rw [expV_eq]
  show (outE (begV [] [] 64) (endV []) 255).take 64 = l'
  rw [← outE_take (i := 1) (by decide) (by decide), out_one, chE_succ, chE_zero, xor_nought (begV_len _ _ _), List.take_of_length_le (by rw [digV_len]; decide), h2, h1]
  congr 1
  unfold begV endV
  rw [oZ_eq]
  simp only [List.append_assoc, List.append_nil, List.nil_append, List.cons_append]
  rfl
theorem expV_len {msg tag : List UInt8} {n : Int} (h1 : n ≤ 16320) : (expV msg tag n).length = n.toNat := by
  rw [expV_eq]
  show ((outE _ _ 255).take n.toNat).length = _
  rw [List.length_take, outE_len]; omega
theorem ok_Aw9 : SpecOK Tryz.prog 1000001 Sym.sNo := Sym.sNo_ok _ _
theorem spEB_ok (b : Bool) : SpecsOK Tryz.prog (spEB b) := by
  cases b
  · exact .cons ok_Aw9 <| .cons ok_ExpB <| .cons ok_RExp <| .cons ok_Same (.nil _)
  · exact .cons ok_Aw9 <| .cons ok_ExpG <| .cons ok_RExp <| .cons ok_Same (.nil _)
abbrev sEB : SpecF := fspec (α := List UInt8 × List UInt8 × Int × Unit) total fun _ => true
theorem ok_EB : SpecOK Tryz.prog 1000000 Sym.sNo := Sym.sNo_ok _ _
/-! Each block by the one ahead. -/
theorem spCh_ok : SpecsOK Tryz.prog spCh := .consF ok_NewH <| .consN ok_WriteO <| .consF ok_HSumO <| .cons ok_DSumF <| .cons ok_Aw9 <| .cons ok_ExpG <| .cons ok_Same (.nil _)
theorem out_cut (b e : List UInt8) (i : Nat) : ∀ m, i < m → List.take 64 (List.drop (64 * i) (outE b e m)) = chE b e (i + 1)
  | 0, h => absurd h (by omega)
  | m + 1, h => by
    by_cases hm : i = m
    · subst hm
      rw [outE, List.drop_append_of_le_length (by rw [outE_len]; omega), List.drop_of_length_le (by rw [outE_len]; omega), List.nil_append, List.take_of_length_le (by rw [chE_len]; omega)]
    · rw [outE, List.drop_append_of_le_length (by rw [outE_len]; omega), List.take_append_of_le_length (by rw [List.length_drop, outE_len]; omega)]
      exact out_cut b e i m (by omega)
theorem exp_cut {msg tag : List UInt8} {n : Int} {i : Int} {m : Int} (h0 : 0 ≤ i) (h1 : i % 64 = 0) (h2 : i < n) (h3 : n ≤ 16320) (hm0 : 0 ≤ m) (hm : m ≤ 64) (hmn : i + m ≤ n) :
    List.drop i.toNat (List.take (i + m).toNat (expV msg tag n)) = List.take m.toNat (chE (begV msg tag n) (endV tag) ((i / 64).toNat + 1)) := by
  have ei : i.toNat = 64 * (i / 64).toNat := by omega
  rw [expV_eq]
  show List.drop i.toNat (List.take (i + m).toNat ((outE _ _ 255).take n.toNat)) = _
  rw [List.take_take, Nat.min_eq_left (by omega), show (i + m).toNat = i.toNat + m.toNat by omega, List.drop_take, Nat.add_sub_cancel_left, ei, ← out_cut _ _ _ 255 (by omega), List.take_take, Nat.min_eq_left (by omega)]
end Go.Proofs.YtigkddloeikpbaaGreatDoor.H9
