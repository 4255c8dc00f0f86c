/- A symbolic machine for Go functions, and what the functions that the law reaches come to: DgK, DgL, DgM, DgN, DgO, DgP, DgQ, DgR, DgS, MaD, MaA, MaB, MaG, MaH, MaI, MaE, MaF, MaJ. -/
import Derived.Test.YtomoihkepkmgdaaDoorQ7
/- The reference of layer 5: a block is the program's. -/
set_option maxRecDepth 10000
namespace Go.Proofs.YtomoihkepkmgdaaDoor.H5
open Go.Sym Go.Dig R1
theorem turn_eq (x : UInt32) : turnF x 7 = (shr32 x 7 ||| shl32 x 25) ∧ turnF x 18 = (shr32 x 18 ||| shl32 x 14) ∧ turnF x 17 = (shr32 x 17 ||| shl32 x 15) ∧ turnF x 19 = (shr32 x 19 ||| shl32 x 13) ∧ turnF x 6 = (shr32 x 6 ||| shl32 x 26) ∧ turnF x 11 = (shr32 x 11 ||| shl32 x 21) ∧ turnF x 25 = (shr32 x 25 ||| shl32 x 7) ∧ turnF x 2 = (shr32 x 2 ||| shl32 x 30) ∧ turnF x 13 = (shr32 x 13 ||| shl32 x 19) ∧ turnF x 22 = (shr32 x 22 ||| shl32 x 10) := by
  have e : ∀ (n : Int) (k : Nat), (UInt64.ofInt (IntKind.wrap .i64 (0 - n)) &&& 31).toNat = 32 - k → (32 - (UInt64.ofInt (IntKind.wrap .i64 (0 - n)) &&& 31)).toNat = k → turnF x n = (shr32 x k ||| shl32 x (32 - k)) := by
    intro n k h1 h2
    unfold turnF rotl
    rw [h1, h2, UInt32.or_comm]
  exact ⟨e 7 7 (by decide +kernel) (by decide +kernel), e 18 18 (by decide +kernel) (by decide +kernel), e 17 17 (by decide +kernel) (by decide +kernel), e 19 19 (by decide +kernel) (by decide +kernel), e 6 6 (by decide +kernel) (by decide +kernel), e 11 11 (by decide +kernel) (by decide +kernel), e 25 25 (by decide +kernel) (by decide +kernel), e 2 2 (by decide +kernel) (by decide +kernel), e 13 13 (by decide +kernel) (by decide +kernel), e 22 22 (by decide +kernel) (by decide +kernel)⟩
theorem ok_TurnR : SpecOK Tryd.prog 78 sTurnR := by
  refine fn_okL (by kernel_rfl) tt_ok (.nil _) 3 Tryd.func78 (by decide +kernel) (by kernel_rfl) ?_
  rintro ⟨x, n, _⟩ hn
  obtain ⟨e1, e2, e3, e4, e5, e6, e7, e8, e9, e10⟩ := turn_eq x
  replace hn : nOK n := hn
  simp only [nOK, List.mem_cons, List.not_mem_nil, or_false] at hn
  rcases hn with rfl | rfl | rfl | rfl | rfl | rfl | rfl | rfl | rfl | rfl
  · exact ⟨_, {}, fun t => t = _, LnVD.of (vcTurnR7 x _) (congrArg SV.u32 e1.symm), svf⟩
  · exact ⟨_, {}, fun t => t = _, LnVD.of (vcTurnR18 x _) (congrArg SV.u32 e2.symm), svf⟩
  · exact ⟨_, {}, fun t => t = _, LnVD.of (vcTurnR17 x _) (congrArg SV.u32 e3.symm), svf⟩
  · exact ⟨_, {}, fun t => t = _, LnVD.of (vcTurnR19 x _) (congrArg SV.u32 e4.symm), svf⟩
  · exact ⟨_, {}, fun t => t = _, LnVD.of (vcTurnR6 x _) (congrArg SV.u32 e5.symm), svf⟩
  · exact ⟨_, {}, fun t => t = _, LnVD.of (vcTurnR11 x _) (congrArg SV.u32 e6.symm), svf⟩
  · exact ⟨_, {}, fun t => t = _, LnVD.of (vcTurnR25 x _) (congrArg SV.u32 e7.symm), svf⟩
  · exact ⟨_, {}, fun t => t = _, LnVD.of (vcTurnR2 x _) (congrArg SV.u32 e8.symm), svf⟩
  · exact ⟨_, {}, fun t => t = _, LnVD.of (vcTurnR13 x _) (congrArg SV.u32 e9.symm), svf⟩
  · exact ⟨_, {}, fun t => t = _, LnVD.of (vcTurnR22 x _) (congrArg SV.u32 e10.symm), svf⟩
theorem ok_Const : SpecOK Tryd.prog 77 sConst := by
  refine fn_okL (by kernel_rfl) tt_ok (.nil _) 9 Tryd.func77 (by decide +kernel) (by kernel_rfl) ?_
  rintro ⟨⟩ _
  exact ⟨_, {}, fun t => t = _, LnVD.of (vcConst _) rfl, svf⟩
theorem ok_BegR : FSpecOK Tryd.prog 59 sBegR := by
  refine fn_okF (by kernel_rfl) tt_ok (.nil _) 9 Tryd.func59 (by decide +kernel) (by kernel_rfl) ?_
  rintro ⟨⟩ _
  exact ⟨[], {}, fun x => x = _, LfVD.of (vcBegR _) rfl, fun x h at_ n w v r => by have h' : x = _ := h; subst h'; exact r⟩
theorem spR5_ok : SpecsOK Tryd.prog spR5 := .cons ok_TurnR <| .cons ok_Const (.nil _)

theorem shl8or (x : UInt32) (c : UInt8) : shl32 x 8 ||| c.toUInt32 = x * 256 + c.toUInt32 := by
  apply UInt32.toNat_inj.1
  have hc : c.toUInt32.toNat < 256 := by rw [UInt8.toNat_toUInt32]; exact c.toNat_lt
  have hx := x.toNat_lt
  rw [UInt32.toNat_or, UInt32.toNat_add, UInt32.toNat_mul]
  have e1 : (shl32 x 8).toNat = (x.toNat % 16777216) <<< 8 := by
    rw [shl32, UInt32.toNat_ofNat', Nat.shiftLeft_eq]; omega
  rw [e1, ← Nat.shiftLeft_add_eq_or_of_lt hc, Nat.shiftLeft_eq]
  have : (256 : UInt32).toNat = 256 := rfl
  rw [this]; omega
theorem getD_set_ne {l : List UInt32} {i j : Nat} {x : UInt32} (h : i ≠ j) : (l.set i x).getD j 0 = l.getD j 0 := by
  simp only [List.getD_eq_getElem?_getD, List.getElem?_set, if_neg h]
theorem getD_set_eq {l : List UInt32} {i : Nat} {x : UInt32} (h : i < l.length) : (l.set i x).getD i 0 = x := by
  simp only [List.getD_eq_getElem?_getD, List.getElem?_set, if_pos h, if_true, Option.getD_some]
theorem take_succ_getD {l : List UInt32} {i : Nat} (h : i < l.length) : l.take (i + 1) = l.take i ++ [l.getD i 0] := by
  rw [List.take_add_one, List.getD_eq_getElem?_getD, List.getElem?_eq_getElem h]; rfl
theorem getD_take {l : List UInt32} {i n : Nat} (h : i < n) : (l.take n).getD i 0 = l.getD i 0 := by
  simp only [List.getD_eq_getElem?_getD, List.getElem?_take, if_pos h]
theorem take_set_le {l : List UInt32} {i n : Nat} {x : UInt32} (h : i ≤ n) : (l.set n x).take i = l.take i := by
  apply List.ext_getElem?
  intro k
  simp only [List.getElem?_take, List.getElem?_set]
  by_cases hk : k < i
  · rw [if_pos hk, if_pos hk, if_neg (by omega)]
  · rw [if_neg hk, if_neg hk]
theorem wB_zero (b : List UInt8) : ∀ n i, n ≤ 4 * i → (wB b n).getD i 0 = 0
  | 0, i, _ => by
    rw [wB, List.getD_eq_getElem?_getD, List.getElem?_replicate]
    split <;> rfl
  | n + 1, i, h => by rw [wB, getD_set_ne (by omega)]; exact wB_zero b n i (by omega)
theorem wB_take (b : List UInt8) (i : Nat) : ∀ j, j ≤ 4 → (wB b (4 * i + j)).take i = (wB b (4 * i)).take i
  | 0, _ => rfl
  | j + 1, h => by rw [← Nat.add_assoc, wB, take_set_le (by omega)]; exact wB_take b i j (by omega)
theorem iw_done {b : List UInt8} {w : List UInt32} {i : Int} {x : UInt32} {j : Int} (h : iw b w i) (hi : i < 16) (hx : ix b i x j) (hj : ¬ j < 4) : iw b (w ++ [x]) (IntKind.wrap .i64 (i + 1)) := by
  obtain ⟨h0, h1, rfl⟩ := h
  obtain ⟨k0, k1, rfl⟩ := hx
  rw [wr (by omega)]
  refine ⟨by omega, by omega, ?_⟩
  have ej : j = 4 := by omega
  subst ej
  rw [show (i + 1).toNat = i.toNat + 1 by omega, take_succ_getD (by rw [wB_len]; omega), show 4 * (i.toNat + 1) = 4 * i.toNat + 4 by omega, wB_take b _ 4 (by omega)]
  rfl
theorem ix_step {b : List UInt8} {i : Int} {x : UInt32} {j : Int} (h0 : 0 ≤ i) (hi : i < 16) (hx : ix b i x j) (hj : j < 4) :
    ix b i (x * UInt32.ofNat (Int.toNat 256) + UInt8.toUInt32 (List.getD b (Int.toNat (IntKind.wrap IntKind.i64 (IntKind.wrap IntKind.i64 (4 * i) + j))) 0)) (IntKind.wrap IntKind.i64 (j + 1)) := by
  obtain ⟨k0, k1, rfl⟩ := hx
  rw [wr (x := 4 * i) (by omega), wr (x := 4 * i + j) (by omega), wr (x := j + 1) (by omega)]
  refine ⟨by omega, by omega, ?_⟩
  rw [show (j + 1).toNat = j.toNat + 1 by omega, ← Nat.add_assoc, wB]
  rw [show (4 * i.toNat + j.toNat) / 4 = i.toNat by omega, getD_set_eq (by rw [wB_len]; omega), shl8or, show (4 * i + j).toNat = 4 * i.toNat + j.toNat by omega]
  rfl
theorem ix_start {b : List UInt8} {i : Int} : ix b i (UInt32.ofNat (Int.toNat 0)) 0 := by
  refine ⟨by omega, by omega, ?_⟩
  rw [wB_zero b _ _ (by simp)]; rfl
theorem it_start {b : List UInt8} {w : List UInt32} {i : Int} (h : iw b w i) (hi : ¬ i < 16) : it b w 16 := by
  obtain ⟨h0, h1, rfl⟩ := h
  refine ⟨by omega, by omega, ?_⟩
  rw [show i.toNat = 16 by omega]; rfl
theorem wX_take (b : List UInt8) (n : Nat) (h : n < 48) : (wX b (n + 1)).take (n + 17) = (wX b n).take (n + 16) ++ [(wX b n).getD n 0 + sig0 ((wX b n).getD (n + 1) 0) + (wX b n).getD (n + 9) 0 + sig1 ((wX b n).getD (n + 14) 0)] := by
  rw [wX, take_succ_getD (by rw [List.length_set, wX_len]; omega), take_set_le (by omega), getD_set_eq (by rw [wX_len]; omega)]
theorem it_step {b : List UInt8} {w : List UInt32} {t : Int} (h : it b w t) (ht : t < 64) : it b (w ++ [(turnF (List.getD w (0 + Int.toNat (IntKind.wrap IntKind.i64 (t - 2))) 0) 17 ^^^ turnF (List.getD w (0 + Int.toNat (IntKind.wrap IntKind.i64 (t - 2))) 0) 19 ^^^ shr32 (List.getD w (0 + Int.toNat (IntKind.wrap IntKind.i64 (t - 2))) 0) (UInt64.toNat (UInt64.ofNat (Int.toNat 10)))) +
            List.getD w (0 + Int.toNat (IntKind.wrap IntKind.i64 (t - 7))) 0 +
          (turnF (List.getD w (0 + Int.toNat (IntKind.wrap IntKind.i64 (t - 15))) 0) 7 ^^^ turnF (List.getD w (0 + Int.toNat (IntKind.wrap IntKind.i64 (t - 15))) 0) 18 ^^^ shr32 (List.getD w (0 + Int.toNat (IntKind.wrap IntKind.i64 (t - 15))) 0) (UInt64.toNat (UInt64.ofNat (Int.toNat 3)))) +
        List.getD w (0 + Int.toNat (IntKind.wrap IntKind.i64 (t - 16))) 0]) (IntKind.wrap IntKind.i64 (t + 1)) := by
  obtain ⟨h0, h1, rfl⟩ := h
  rw [wr (x := t - 2) (by omega), wr (x := t - 7) (by omega), wr (x := t - 15) (by omega), wr (x := t - 16) (by omega), wr (x := t + 1) (by omega)]
  obtain ⟨n, rfl⟩ : ∃ n : Nat, t = ((n + 16 : Nat) : Int) := ⟨(t - 16).toNat, by omega⟩
  refine ⟨by omega, by omega, ?_⟩
  rw [show (((n + 16 : Nat) : Int) + 1).toNat = n + 17 by omega, show (((n + 16 : Nat) : Int)).toNat = n + 16 by omega, show n + 17 - 16 = n + 1 by omega, show n + 16 - 16 = n by omega]
  rw [show 0 + (((n + 16 : Nat) : Int) - 2).toNat = n + 14 by omega, show 0 + (((n + 16 : Nat) : Int) - 7).toNat = n + 9 by omega, show 0 + (((n + 16 : Nat) : Int) - 15).toNat = n + 1 by omega, show 0 + (((n + 16 : Nat) : Int) - 16).toNat = n by omega]
  rw [getD_take (by omega), getD_take (by omega), getD_take (by omega), getD_take (by omega), wX_take b n (by omega)]
  congr 2
  have e0 : ∀ a : UInt32, turnF a 7 ^^^ turnF a 18 ^^^ shr32 a (UInt64.toNat (UInt64.ofNat (Int.toNat 3))) = sig0 a := fun a => rfl
  have e1 : ∀ a : UInt32, turnF a 17 ^^^ turnF a 19 ^^^ shr32 a (UInt64.toNat (UInt64.ofNat (Int.toNat 10))) = sig1 a := fun a => rfl
  rw [e0, e1]
  ac_rfl
theorem ir_start {b : List UInt8} {w : List UInt32} {t : Int} (s : St8) (h : it b w t) (ht : ¬ t < 64) : ir (wX b 48) s w s 0 := by
  obtain ⟨h0, h1, rfl⟩ := h
  have : t.toNat = 64 := by omega
  refine ⟨?_, by omega, by omega, rfl⟩
  rw [this]
  exact List.take_of_length_le (by rw [wX_len]; omega)
theorem ir_step {w0 w : List UInt32} {s v : St8} {t : Int} (h : ir w0 s w v t) (ht : t < 64) : ir w0 s w (round v (kTab.getD t.toNat 0) (w.getD (0 + t.toNat) 0)) (IntKind.wrap .i64 (t + 1)) := by
  obtain ⟨rfl, h0, h1, rfl⟩ := h
  rw [wr (by omega)]
  refine ⟨rfl, by omega, by omega, ?_⟩
  rw [show (t + 1).toNat = t.toNat + 1 by omega, rounds, Nat.zero_add]
  rfl
instance (n : Int) : Decidable (nOK n) := by unfold nOK; infer_instance
noncomputable def sBlk : SpecF := fspec (α := L8 × List UInt8 × Unit) (fun a => some (a.2.1.length = 64)) (fun a => L8.mk (mixV a.1.v a.2.1))
theorem cut_whole {b : List UInt8} (h : b.length = 64) : b.take 64 = b := List.take_of_length_le (by omega)
theorem ok_Blk : FSpecOK Tryd.prog 60 sBlk := by
  refine fn_okF (by kernel_rfl) tt_ok spR5_ok 9 Tryd.func60 (by decide +kernel) (by kernel_rfl) ?_
  rintro ⟨⟨s⟩, b, _⟩ hb
  replace hb : b.length = 64 := hb
  refine ⟨[], lBlk s b, fun x => x = .lst (.halfs (mixV s b).l), LfVD.of (vcBlk s b _) ?_, fun x h at_ n w v r => by have h' : x = _ := h; subst h'; exact r⟩
  refine ⟨⟨rfl, rfl⟩, ⟨by omega, by omega, rfl⟩, ?_⟩
  intro w i hw
  rw [bcase_dec]
  refine ⟨fun hi => ?_, fun hi => ?_⟩
  · have h0 := hw.1
    refine ⟨⟨rfl, rfl⟩, ⟨rfl, rfl, ix_start⟩, ?_⟩
    rintro w1 i1 x j ⟨hO, rfl, hx⟩
    injection hO with hO; subst hO
    rw [bcase_dec]
    refine ⟨fun hj => ?_, fun hj => ?_⟩
    · have j0 := hx.1
      refine ⟨⟨by rw [wr (x := 4 * i1) (by omega), wr (by omega)]; omega, by rw [wr (x := 4 * i1) (by omega), wr (by omega), hb]; omega⟩, ⟨rfl, rfl⟩, rfl, ⟨rfl, rfl, ix_step h0 hi hx hj⟩, ?_⟩
      rw [wr (by omega)]; omega
    · have lw : w1.length ≤ 16 := by rw [hw.2.2, List.length_take]; omega
      rw [show List.drop 0 (List.take w1.length w1) = w1 by rw [List.take_length]; rfl]
      refine ⟨⟨by omega, by rw [List.length_append]; simp only [appLim, List.length_singleton]; omega⟩, ⟨rfl, rfl⟩, rfl, iw_done hw hi hx hj, ?_⟩
      rw [wr (by omega)]; omega
  · refine ⟨⟨rfl, rfl⟩, it_start hw hi, ?_⟩
    intro w1 t ht
    have lw : w1.length = t.toNat := by have := ht.1; have := ht.2.1; rw [ht.2.2, List.length_take, wX_len]; omega
    rw [bcase_dec, show List.drop 0 (List.take w1.length w1) = w1 by rw [List.take_length]; rfl]
    refine ⟨fun h => ?_, fun h => ?_⟩
    · have t0 := ht.1
      have rg : ∀ k : Int, 0 < k ∧ k ≤ 16 → 0 ≤ IntKind.wrap .i64 (t - k) ∧ IntKind.wrap .i64 (t - k) < (w1.length : Int) := fun k hk => by rw [wr (by omega), lw]; omega
      refine ⟨rg 15 (by omega), by decide +kernel, rg 15 (by omega), by decide +kernel, rg 15 (by omega), rg 2 (by omega), by decide +kernel, rg 2 (by omega), by decide +kernel, rg 2 (by omega), rg 7 (by omega), rg 16 (by omega), ⟨by omega, ?_⟩, ⟨rfl, rfl⟩, rfl, it_step ht h, ?_⟩
      · rw [List.length_append]; simp only [appLim, List.length_singleton]; omega
      · rw [wr (by omega)]; omega
    · refine ⟨by show (8 : Nat) ≤ appLim; decide, ⟨⟨rfl, rfl⟩, rfl, rfl⟩, ir_start s ht h, ?_⟩
      intro w2 v a hR
      rw [bcase_dec]
      refine ⟨fun ha => ?_, fun ha => ?_⟩
      · have a0 := hR.2.1
        have k1 : 0 ≤ a ∧ a < (kTab.length : Int) := ⟨a0, ha⟩
        have k2 : 0 ≤ a ∧ a < (w2.length : Int) := ⟨a0, by rw [hR.1, wX_len]; exact ha⟩
        repeat (first | refine ⟨by decide +kernel, ?_⟩ | refine ⟨k1, ?_⟩ | refine ⟨k2, ?_⟩)
        refine ⟨⟨⟨rfl, rfl⟩, rfl, rfl⟩, rfl, ir_step hR ha, ?_⟩
        rw [wr (by omega)]; omega
      · have hl : s.l.length = 8 := rfl
        rw [hl]
        repeat (refine ⟨by decide +kernel, ?_⟩)
        have e : mixV s b = s.plus v := by
          obtain ⟨_, r0, r1, rfl⟩ := hR
          rw [mixV_eq, show a.toNat = 64 by omega]; rfl
        rw [e]
        show _ = _
        kernel_rfl
end Go.Proofs.YtomoihkepkmgdaaDoor.H5
/- The reference of layer 5: the sum: what the body comes to. -/
set_option maxRecDepth 10000
namespace Go.Proofs.YtomoihkepkmgdaaDoor.H5
open Go.Sym Go.Dig R1
noncomputable def spS5 : Specs := [(60, .fresh sBlk), (59, .fresh sBegR), (40, sToBig), (41, sInt), (61, sWords)]
def mR (b : List UInt8) : List UInt8 := padZ b (zn b.length) ++ (bytesN (8 * b.length) 8).reverse
def iH (m0 : List UInt8) (m : List UInt8) (h : St8) (i : Int) : Prop := ∃ k : Nat, m = m0 ∧ i = 64 * (k : Int) ∧ 64 * k ≤ m0.length ∧ h = absN beg m0 k
--STOP iZ, iH, iO, outN, St8.l, mixV, absN, beg, bytesN, nv, Dg, wv, padZ, zn, mR
def lRSum (b : List UInt8) : Plan := { loops := [
  (0, { β := List UInt8 × Unit, α := OwnB × Unit, same := [0], keep := [3], inv := fun _ _ x => iZ b x.1.l, meas := fun _ x => zn b.length + b.length + 1 - x.1.l.length }),
  (2, { β := List UInt8 × Unit, α := OwnB × O8 × Int × Unit, same := [0], keep := [3, 4, 5], inv := fun _ _ x => iH (mR b) x.1.l x.2.1.v x.2.2.1, meas := fun _ x => ((x.1.l.length : Int) - x.2.2.1).toNat }),
  (4, { β := Unit, α := O8 × OwnB × Int × Unit, same := [], keep := [4, 6, 7], inv := fun _ a x => x.1.v = a.1.v ∧ iO a.1.v x.2.1.l x.2.2.1, meas := fun _ x => (8 - x.2.2.1).toNat })] }
theorem vcRSum (b : List UInt8) (Q : SV → Prop) : LnRaw tt spS5 9 [] (lRSum b) Tryd.f35 Q (b, ()) =
  ((List.length ([] ++ b) ≤ appLim) ∧
  ((((0 : Nat) + List.length ([] ++ b) = List.length ([] ++ b)) ∧
   (List.length
    (List.drop (0 : Nat) (List.take (List.length ([] ++ b)) ([] ++ b)) ++ [UInt8.ofNat (Int.toNat (128 : Int))]) ≤
  appLim)) ∧
  ((((0 : Nat) = (0 : Nat)) ∧
   (List.length
    (List.drop (0 : Nat) (List.take (List.length ([] ++ b)) ([] ++ b)) ++ [UInt8.ofNat (Int.toNat (128 : Int))]) =
  List.length
    (List.drop (0 : Nat) (List.take (List.length ([] ++ b)) ([] ++ b)) ++ [UInt8.ofNat (Int.toNat (128 : Int))]))) ∧
  ((iZ b (List.drop (0 : Nat) (List.take (List.length ([] ++ b)) ([] ++ b)) ++ [UInt8.ofNat (Int.toNat (128 : Int))])) ∧
  (∀ l : List UInt8,
  ((iZ b l) →
  bcase (Int.tmod (↑(List.length l) : Int) (64 : Int) != (56 : Int))
    (((((0 : Nat) + List.length l = List.length l) ∧
     (List.length (List.drop (0 : Nat) (List.take (List.length l) l) ++ [UInt8.ofNat (Int.toNat (0 : Int))]) ≤ appLim)) ∧
    ((((0 : Nat) = (0 : Nat)) ∧
     (List.length (List.drop (0 : Nat) (List.take (List.length l) l) ++ [UInt8.ofNat (Int.toNat (0 : Int))]) =
  List.length (List.drop (0 : Nat) (List.take (List.length l) l) ++ [UInt8.ofNat (Int.toNat (0 : Int))]))) ∧
    (((b, ()) = (b, ())) ∧
    ((iZ b (List.drop (0 : Nat) (List.take (List.length l) l) ++ [UInt8.ofNat (Int.toNat (0 : Int))])) ∧
    (zn (List.length b) + List.length b + (1 : Nat) -
    List.length (List.drop (0 : Nat) (List.take (List.length l) l) ++ [UInt8.ofNat (Int.toNat (0 : Int))]) <
  zn (List.length b) + List.length b + (1 : Nat) - List.length l))))))
    (((((0 : Int) ≤ IntKind.wrap IntKind.i64 ((8 : Int) * (↑(List.length b) : Int))) ∧
     (IntKind.wrap IntKind.i64 ((8 : Int) * (↑(List.length b) : Int)) < (9223372036854775808 : Int))) ∧
    (((Dg (dg (Int.toNat (IntKind.wrap IntKind.i64 ((8 : Int) * (↑(List.length b) : Int)))))) ∧
     (((0 : Int) ≤ (8 : Int)) ∧
     ((8 : Int) ≤ (1048576 : Int)))) ∧
    ((((0 : Nat) + List.length l = List.length l) ∧
     (List.length
    (List.drop (0 : Nat) (List.take (List.length l) l) ++
      List.reverse
        (bytesN (nv (dg (Int.toNat (IntKind.wrap IntKind.i64 ((8 : Int) * (↑(List.length b) : Int))))))
          (Int.toNat (8 : Int)))) ≤
  appLim)) ∧
    (((((0 : Nat) = (0 : Nat)) ∧
      (List.length
    (List.drop (0 : Nat) (List.take (List.length l) l) ++
      List.reverse
        (bytesN (nv (dg (Int.toNat (IntKind.wrap IntKind.i64 ((8 : Int) * (↑(List.length b) : Int))))))
          (Int.toNat (8 : Int)))) =
  List.length
    (List.drop (0 : Nat) (List.take (List.length l) l) ++
      List.reverse
        (bytesN (nv (dg (Int.toNat (IntKind.wrap IntKind.i64 ((8 : Int) * (↑(List.length b) : Int))))))
          (Int.toNat (8 : Int)))))) ∧
     (((0 : Nat) = (0 : Nat)) ∧
     (List.length (St8.l beg) = List.length (St8.l beg)))) ∧
    ((iH (mR b)
  (List.drop (0 : Nat) (List.take (List.length l) l) ++
    List.reverse
      (bytesN (nv (dg (Int.toNat (IntKind.wrap IntKind.i64 ((8 : Int) * (↑(List.length b) : Int))))))
        (Int.toNat (8 : Int))))
  beg (0 : Int)) ∧
    (∀ l_1 : List UInt8,
    (∀ v : St8,
    (∀ a : Int,
    ((iH (mR b) l_1 v a) →
    bcase (decide (a < (↑(List.length l_1) : Int)))
      (((((0 : Int) ≤ a) ∧
       ((a ≤ IntKind.wrap IntKind.i64 (a + (64 : Int))) ∧
       (IntKind.wrap IntKind.i64 (a + (64 : Int)) ≤ (↑(List.length l_1) : Int)))) ∧
      ((List.length
    (List.drop ((0 : Nat) + Int.toNat a)
      (List.take ((0 : Nat) + Int.toNat a + (Int.toNat (IntKind.wrap IntKind.i64 (a + (64 : Int))) - Int.toNat a))
        l_1)) =
  (64 : Nat)) ∧
      (((((0 : Nat) = (0 : Nat)) ∧
        (List.length l_1 = List.length l_1)) ∧
       (((0 : Nat) = (0 : Nat)) ∧
       (List.length
    (St8.l
      (mixV v
        (List.drop ((0 : Nat) + Int.toNat a)
          (List.take ((0 : Nat) + Int.toNat a + (Int.toNat (IntKind.wrap IntKind.i64 (a + (64 : Int))) - Int.toNat a))
            l_1)))) =
  List.length
    (St8.l
      (mixV v
        (List.drop ((0 : Nat) + Int.toNat a)
          (List.take ((0 : Nat) + Int.toNat a + (Int.toNat (IntKind.wrap IntKind.i64 (a + (64 : Int))) - Int.toNat a))
            l_1))))))) ∧
      (((b, ()) = (b, ())) ∧
      ((iH (mR b) l_1
  (mixV v
    (List.drop ((0 : Nat) + Int.toNat a)
      (List.take ((0 : Nat) + Int.toNat a + (Int.toNat (IntKind.wrap IntKind.i64 (a + (64 : Int))) - Int.toNat a))
        l_1)))
  (IntKind.wrap IntKind.i64 (a + (64 : Int)))) ∧
      (Int.toNat ((↑(List.length l_1) : Int) - IntKind.wrap IntKind.i64 (a + (64 : Int))) <
  Int.toNat ((↑(List.length l_1) : Int) - a))))))))
      ((((((0 : Nat) = (0 : Nat)) ∧
        ((8 : Nat) = List.length (St8.l v))) ∧
       (((0 : Nat) = (0 : Nat)) ∧
       ((0 : Nat) = (0 : Nat)))) ∧
      (((v = v) ∧
       (iO v [] (0 : Int))) ∧
      (∀ v_1 : St8,
      (∀ l_2 : List UInt8,
      (∀ a_1 : Int,
      (((v_1 = v) ∧
      (iO v l_2 a_1)) →
      bcase (decide (a_1 < (8 : Int)))
        (((((0 : Int) ≤ a_1) ∧
         (a_1 < (↑(8 : Nat) : Int))) ∧
        (((1 : Nat) ≤ (1048576 : Nat)) ∧
        (((Dg (dg (wv [UInt32.toUInt64 (List.getD (St8.l v_1) ((0 : Nat) + Int.toNat a_1) (0 : UInt32))]))) ∧
         (((0 : Int) ≤ (4 : Int)) ∧
         ((4 : Int) ≤ (1048576 : Int)))) ∧
        ((((0 : Nat) + List.length l_2 = List.length l_2) ∧
         (List.length
    (List.drop (0 : Nat) (List.take (List.length l_2) l_2) ++
      List.reverse
        (bytesN (nv (dg (wv [UInt32.toUInt64 (List.getD (St8.l v_1) ((0 : Nat) + Int.toNat a_1) (0 : UInt32))])))
          (Int.toNat (4 : Int)))) ≤
  appLim)) ∧
        (((((0 : Nat) = (0 : Nat)) ∧
          ((8 : Nat) = List.length (St8.l v_1))) ∧
         (((0 : Nat) = (0 : Nat)) ∧
         (List.length
    (List.drop (0 : Nat) (List.take (List.length l_2) l_2) ++
      List.reverse
        (bytesN (nv (dg (wv [UInt32.toUInt64 (List.getD (St8.l v_1) ((0 : Nat) + Int.toNat a_1) (0 : UInt32))])))
          (Int.toNat (4 : Int)))) =
  List.length
    (List.drop (0 : Nat) (List.take (List.length l_2) l_2) ++
      List.reverse
        (bytesN (nv (dg (wv [UInt32.toUInt64 (List.getD (St8.l v_1) ((0 : Nat) + Int.toNat a_1) (0 : UInt32))])))
          (Int.toNat (4 : Int))))))) ∧
        ((() = ()) ∧
        (((v_1 = v) ∧
         (iO v
  (List.drop (0 : Nat) (List.take (List.length l_2) l_2) ++
    List.reverse
      (bytesN (nv (dg (wv [UInt32.toUInt64 (List.getD (St8.l v_1) ((0 : Nat) + Int.toNat a_1) (0 : UInt32))])))
        (Int.toNat (4 : Int))))
  (IntKind.wrap IntKind.i64 (a_1 + (1 : Int))))) ∧
        (Int.toNat ((8 : Int) - IntKind.wrap IntKind.i64 (a_1 + (1 : Int))) < Int.toNat ((8 : Int) - a_1))))))))))
        ((Q (SV.lst (LV.bytes (List.drop (0 : Nat) (List.take ((0 : Nat) + List.length l_2) l_2))))))))))))))))))))))))))))) := by kernel_rfl
end Go.Proofs.YtomoihkepkmgdaaDoor.H5
/- Layer 5: the program's sum and the reference's are one. -/
set_option maxRecDepth 10000
namespace Go.Proofs.YtomoihkepkmgdaaDoor.H5
open Go.Sym Go.Dig R1
noncomputable def digV0 (b : List UInt8) : List UInt8 := sum0 (absT beg b) (absR b) (UInt64.ofInt (b.length : Int))
theorem dig_ex : ∃ f : List UInt8 → List UInt8, f = digV0 := ⟨_, rfl⟩
noncomputable def digV : List UInt8 → List UInt8 := Classical.choose dig_ex
theorem digV_eq : digV = digV0 := Classical.choose_spec dig_ex
noncomputable def sDSum : SpecF := fspec (α := List UInt8 × Unit) (fun a => some (a.1.length ≤ 1073741824)) (fun a => digV a.1)
theorem absR_len (r : List UInt8) : (absR r).length < 64 := by rw [absR, List.length_drop]; omega
theorem ok_DSumF : FSpecOK Tryd.prog 14 sDSum := by
  unfold sDSum
  rw [digV_eq]
  refine fn_okF (by kernel_rfl) tt_ok spD_ok 9 Tryd.func14 (by decide +kernel) (by kernel_rfl) ?_
  rintro ⟨b, _⟩ hb
  replace hb : b.length ≤ 1073741824 := hb
  have e : rOf (HashV.mk beg [] 0 0 0) b = b := rfl
  have e2 : nOf (HashV.mk beg [] 0 0 0) b = UInt64.ofInt (b.length : Int) := by unfold nOf; exact UInt64.zero_add _
  refine ⟨[], {}, fun x => x = .lst (.bytes (digV0 b)), LfVD.of (vcDSum b _) ?_, fun x h at_ n w v r => by have h' : x = _ := h; subst h'; exact r⟩
  have f : ∀ l : List UInt8, List.drop 0 (List.take (0 + l.length) l) = l := fun l => by rw [Nat.zero_add, List.take_length]; rfl
  rw [e, e2, f, f]
  have := absR_len b
  refine ⟨⟨rfl, by simp only [appLim]; omega, trivial⟩, by omega, ?_⟩
  show SV.lst (.bytes (sumO _)) = _
  unfold sumO digV0
  rw [sumV_eq]
theorem be4_eq (x : UInt32) : (bytesN (nv (dg (wv [x.toUInt64]))) 4).reverse = be4 x 4 := by
  have h1 : wv [x.toUInt64] = x.toNat := by simp [wv]
  have hx := x.toNat_lt
  rw [nv_dg, h1]
  have e : ∀ k d : Nat, d = 2 ^ k → UInt8.ofNat (x.toNat / d) = (shr32 x k).toUInt8 := by
    intro k d hd
    apply UInt8.toNat_inj.1
    subst hd
    have : x.toNat / 2 ^ k ≤ x.toNat := Nat.div_le_self _ _
    rw [shr32, UInt32.toNat_toUInt8, UInt32.toNat_ofNat', UInt8.toNat_ofNat']
    omega
  show [UInt8.ofNat (x.toNat / 256 ^ 3), UInt8.ofNat (x.toNat / 256 ^ 2), UInt8.ofNat (x.toNat / 256 ^ 1), UInt8.ofNat (x.toNat / 256 ^ 0)] = _
  rw [e 24 _ (by decide), e 16 _ (by decide), e 8 _ (by decide), e 0 _ (by decide)]
  rfl
theorem be8_eq (x : UInt64) : (bytesN x.toNat 8).reverse = be8 x 8 := by
  have hx := x.toNat_lt
  have e : ∀ k d : Nat, d = 2 ^ k → UInt8.ofNat (x.toNat / d) = (shr64 x k).toUInt8 := by
    intro k d hd
    apply UInt8.toNat_inj.1
    subst hd
    have : x.toNat / 2 ^ k ≤ x.toNat := Nat.div_le_self _ _
    rw [shr64, UInt64.toNat_toUInt8, UInt64.toNat_ofNat', UInt8.toNat_ofNat']
    omega
  show [UInt8.ofNat (x.toNat / 256 ^ 7), UInt8.ofNat (x.toNat / 256 ^ 6), UInt8.ofNat (x.toNat / 256 ^ 5), UInt8.ofNat (x.toNat / 256 ^ 4), UInt8.ofNat (x.toNat / 256 ^ 3), UInt8.ofNat (x.toNat / 256 ^ 2), UInt8.ofNat (x.toNat / 256 ^ 1), UInt8.ofNat (x.toNat / 256 ^ 0)] = _
  rw [e 56 _ (by decide), e 48 _ (by decide), e 40 _ (by decide), e 32 _ (by decide), e 24 _ (by decide), e 16 _ (by decide), e 8 _ (by decide), e 0 _ (by decide)]
  rfl
theorem len8 (n : Nat) (h : n ≤ 1073741824) : (UInt64.ofInt (n : Int) * 8).toNat = 8 * n := by
  rw [UInt64.toNat_mul, ofInt64]
  have : (8 : UInt64).toNat = 8 := rfl
  rw [this]; omega
theorem absN_congr (s : St8) (m b : List UInt8) : ∀ i, (∀ j, j < i → cut m (64 * j) = cut b (64 * j)) → absN s m i = absN s b i
  | 0, _ => rfl
  | i + 1, h => by rw [absN, absN, absN_congr s m b i (fun j hj => h j (by omega)), h i (by omega)]
theorem absN_add (s : St8) (m : List UInt8) (q : Nat) : ∀ i, absN s m (q + i) = absN (absN s m q) (m.drop (64 * q)) i
  | 0 => rfl
  | i + 1 => by
    rw [← Nat.add_assoc, absN, absN, absN_add s m q i]
    congr 1
    simp only [cut, List.drop_drop]
    congr 2; omega
theorem cut_append {b r : List UInt8} {j : Nat} (h : 64 * j + 64 ≤ b.length) : cut (b ++ r) (64 * j) = cut b (64 * j) := by
  simp only [cut]
  rw [List.drop_append_of_le_length (by omega), List.take_append_of_le_length (by rw [List.length_drop]; omega)]
theorem mR_drop (b : List UInt8) (h : b.length ≤ 1073741824) : (mR b).drop (64 * (b.length / 64)) = padded (absR b) (UInt64.ofInt (b.length : Int)) := by
  have ez : zn (absR b).length = zn b.length := by
    rw [absR, List.length_drop]
    have : (b.length - 64 * (b.length / 64)) % 64 = b.length % 64 := by omega
    simp only [zn, this]
  unfold mR padded padZ
  rw [ez, ← be8_eq, len8 _ h, List.append_assoc, List.append_assoc, List.append_assoc, List.append_assoc, List.drop_append_of_le_length (by omega)]
  rfl
theorem mR_len (b : List UInt8) : (mR b).length = b.length + 9 + zn b.length := by
  rw [mR, List.length_append, padZ_len, List.length_reverse, bytesN_len]; omega
theorem ref_eq (b : List UInt8) (h : b.length ≤ 1073741824) : outN (absN beg (mR b) ((mR b).length / 64)) 8 = digV0 b := by
  unfold digV0 sum0
  have e : (mR b).length / 64 = b.length / 64 + (padded (absR b) (UInt64.ofInt (b.length : Int))).length / 64 := by
    rw [← mR_drop b h, List.length_drop, mR_len]; omega
  rw [e, absN_add, mR_drop b h]
  congr 2
  unfold absT mR padZ
  rw [List.append_assoc, List.append_assoc]
  exact absN_congr _ _ _ _ fun j hj => cut_append (by omega)
theorem spS5_ok : SpecsOK Tryd.prog spS5 := .consF ok_Blk <| .consF ok_BegR <| .cons ok_ToBig <| .cons ok_Int <| .cons ok_Words (.nil _)
noncomputable def sRSum : SpecF := sDSum
theorem ok_RSum : SpecOK Tryd.prog 35 sRSum := by
  unfold sRSum sDSum
  rw [digV_eq]
  refine fn_okL (by kernel_rfl) tt_ok spS5_ok 9 Tryd.func35 (by decide +kernel) (by kernel_rfl) ?_
  rintro ⟨b, _⟩ hb
  replace hb : b.length ≤ 1073741824 := hb
  have hz := zn_lt b.length
  refine ⟨[], lRSum b, fun x => x = .lst (.bytes (digV0 b)), LnVD.of (vcRSum b _) ?_, svf⟩
  rw [List.nil_append, full]
  refine ⟨by simp only [appLim]; omega, ⟨by omega, by simp only [appLim, List.length_append, List.length_singleton]; omega⟩, ⟨rfl, rfl⟩, ⟨0, by omega, by simp [padZ]⟩, ?_⟩
  intro t hZ
  have lt : t.length ≤ b.length + 65 := by obtain ⟨k, hk, rfl⟩ := hZ; rw [padZ_len]; omega
  have em : Int.tmod (t.length : Int) 64 = ((t.length % 64 : Nat) : Int) := by rw [tmod_nn (by omega)]; omega
  rw [em, bcase_iff, full]
  refine ⟨fun hc => ?_, fun hc => ?_⟩
  · have hc' : ¬ t.length % 64 = 56 := by
      intro e; rw [e] at hc; exact absurd hc (by decide)
    obtain ⟨z1, z2⟩ := iZ_step hZ hc'
    refine ⟨⟨by omega, by simp only [appLim, List.length_append, List.length_singleton]; omega⟩, ⟨rfl, rfl⟩, rfl, z1, ?_⟩
    rw [List.length_append, List.length_singleton]
    omega
  · have hc' : t.length % 64 = 56 := by
      have := bne_eq_false_iff_eq.1 hc
      omega
    have ht := iZ_done hZ hc'
    have ew : IntKind.wrap .i64 (8 * (b.length : Int)) = ((8 * b.length : Nat) : Int) := by rw [wr (by omega)]; omega
    have em' : t ++ List.reverse (bytesN (nv (dg (Int.toNat ((8 * b.length : Nat) : Int)))) (Int.toNat 8)) = mR b := by
      rw [ht, Int.toNat_natCast, nv_dg]; rfl
    rw [ew, em']
    have lm := mR_len b
    have hDg : Dg (dg (Int.toNat ((8 * b.length : Nat) : Int))) := by
      rw [Int.toNat_natCast]
      have : 8 * b.length < 16777216 ^ 2 := by omega
      exact Dg.dg (Nat.le_trans (dg_length_lt this) (by decide))
    refine ⟨⟨by omega, by omega⟩, ⟨hDg, by omega, by omega⟩, ⟨by omega, by rw [lm]; simp only [appLim]; omega⟩, ⟨⟨rfl, rfl⟩, rfl, rfl⟩, ⟨0, rfl, rfl, by omega, rfl⟩, ?_⟩
    intro m v a hH
    obtain ⟨k, rfl, rfl, hk, rfl⟩ := hH
    rw [bcase_dec]
    have l64 : (mR b).length % 64 = 0 := by rw [lm, zn]; omega
    refine ⟨fun ha => ?_, fun ha => ?_⟩
    · have w1 : IntKind.wrap .i64 (64 * (k : Int) + 64) = ((64 * k + 64 : Nat) : Int) := by rw [wr (by omega)]; omega
      have w2 : Int.toNat (64 * (k : Int)) = 64 * k := by omega
      have ec : List.drop (0 + 64 * k) (List.take (0 + 64 * k + (64 * k + 64 - 64 * k)) (mR b)) = cut (mR b) (64 * k) := by
        rw [Nat.zero_add, List.drop_take]
        congr 1; omega
      rw [w1, w2, Int.toNat_natCast, ec]
      refine ⟨⟨by omega, by omega, by omega⟩, ?_, ⟨⟨rfl, rfl⟩, rfl, rfl⟩, rfl, ⟨k + 1, rfl, by omega, by omega, rfl⟩, by omega⟩
      rw [List.length_take, List.length_drop]; omega
    · refine ⟨⟨⟨rfl, rfl⟩, rfl, rfl⟩, ⟨rfl, by omega, by omega, rfl⟩, ?_⟩
      rintro v l a ⟨rfl, hO⟩
      have o0 := hO.1
      have hl : l.length ≤ 32 := by
        have lo : ∀ (s : St8) (n : Nat), (outN s n).length = 4 * n := by
          intro s n
          induction n with
          | zero => rfl
          | succ n ih => rw [outN, List.length_append, ih, be4_len]; omega
        have := hO.2.1
        rw [hO.2.2, lo]; omega
      rw [bcase_dec, full, show Int.toNat 4 = 4 from rfl, be4_eq]
      refine ⟨fun h8 => ?_, fun h8 => ?_⟩
      · refine ⟨⟨o0, h8⟩, by omega, ⟨Dg.dg (Nat.le_trans (dg_length_lt (k := 20) (Nat.lt_trans (wv_lt _) (show (2 : Nat) ^ (64 * 1) < 16777216 ^ 20 by decide))) (by decide)), by omega, by omega⟩, ⟨by omega, ?_⟩, ⟨⟨rfl, rfl⟩, rfl, rfl⟩, rfl, ⟨rfl, ?_⟩, ?_⟩
        · rw [List.length_append]
          have : (be4 (List.getD (St8.l (absN beg (mR b) k)) (0 + Int.toNat a) 0) 4).length = 4 := be4_len _ _
          simp only [appLim]; omega
        · rw [wr (by omega)]
          refine ⟨by omega, by omega, ?_⟩
          rw [show (a + 1).toNat = a.toNat + 1 by omega, outN, ← hO.2.2, Nat.zero_add]
        · rw [wr (by omega)]; omega
      · have e : l = digV0 b := by
          rw [hO.2.2, show a.toNat = 8 by have := hO.2.1; omega, ← ref_eq b hb, show (mR b).length / 64 = k by omega]
        show SV.lst (.bytes (List.drop 0 (List.take (0 + l.length) l))) = _
        rw [Nat.zero_add, full, e]
end Go.Proofs.YtomoihkepkmgdaaDoor.H5
/- Layer 5: the example. -/
set_option maxRecDepth 100000
namespace Go.Proofs.YtomoihkepkmgdaaDoor.H5
open Go.Sym Go.Dig R1
def blkA : List UInt8 := [97, 98, 99, 128, 0, 0, 0, 0, 0, 0, 0, 0, 0, 0, 0, 0, 0, 0, 0, 0, 0, 0, 0, 0, 0, 0, 0, 0, 0, 0, 0, 0, 0, 0, 0, 0, 0, 0, 0, 0, 0, 0, 0, 0, 0, 0, 0, 0, 0, 0, 0, 0, 0, 0, 0, 0, 0, 0, 0, 0, 0, 0, 0, 24]
deriving instance DecidableEq for St8
theorem mixA : mix0 beg blkA = ⟨3128432319, 2399260650, 1094795486, 1571693091, 2953011619, 2518121116, 3021012833, 4060091821⟩ := by decide +kernel
theorem abc : digV [97, 98, 99] = [186, 120, 22, 191, 143, 1, 207, 234, 65, 65, 64, 222, 93, 174, 34, 35, 176, 3, 97, 163, 150, 23, 122, 156, 180, 16, 255, 97, 242, 0, 21, 173] := by
  rw [digV_eq]
  have e : sum0 (absT beg [97, 98, 99]) (absR [97, 98, 99]) (UInt64.ofInt 3) = outN (mixV beg blkA) 8 := by
    unfold sum0
    rw [show padded (absR [97, 98, 99]) (UInt64.ofInt 3) = blkA by decide +kernel]
    rfl
  show sum0 (absT beg [97, 98, 99]) (absR [97, 98, 99]) (UInt64.ofInt 3) = _
  rw [e, mixV_eq, mixA]
  decide +kernel
end Go.Proofs.YtomoihkepkmgdaaDoor.H5
/- Layer 5's laws: what the bodies come to. -/
set_option maxRecDepth 10000
namespace Go.Proofs.YtomoihkepkmgdaaDoor.H5
open Go.Sym Go.Dig R1
noncomputable def spA5 : Specs := [(14, .fresh sDSum)]
--STOP digV
def sAwake5 : SpecF := fspec (α := Unit) total (fun _ => true)
noncomputable def spL5 : Specs := [(14, .fresh sDSum), (35, sRSum), (10, sSame), (1000001, Sym.sNo)]
end Go.Proofs.YtomoihkepkmgdaaDoor.H5
/- Layer 5's laws hold. -/
set_option maxRecDepth 10000
namespace Go.Proofs.YtomoihkepkmgdaaDoor.H5
open Go.Sym Go.Dig R1
theorem outN_len (s : St8) : ∀ n, (outN s n).length = 4 * n
  | 0 => rfl
  | n + 1 => by rw [outN, List.length_append, outN_len s n, be4_len]; omega
theorem digV_len (b : List UInt8) : (digV b).length = 32 := by
  rw [digV_eq]
  exact outN_len _ 8
theorem spA5_ok : SpecsOK Tryd.prog spA5 := .consF ok_DSumF (.nil _)
theorem ok_Awake5 : SpecOK Tryd.prog 1000001 Sym.sNo := Sym.sNo_ok _ _
theorem spL5_ok : SpecsOK Tryd.prog spL5 := .consF ok_DSumF <| .cons ok_RSum <| .cons ok_Same <| .cons ok_Awake5 (.nil _)
abbrev sSums5 : SpecF := fspec (α := List UInt8 × Unit) total fun _ => true
theorem ok_Sums5 : SpecOK Tryd.prog 1000000 Sym.sNo := Sym.sNo_ok _ _
end Go.Proofs.YtomoihkepkmgdaaDoor.H5
/- Layer 5's law of pieces: what the body comes to. -/
set_option maxRecDepth 10000
namespace Go.Proofs.YtomoihkepkmgdaaDoor.H5
open Go.Sym Go.Dig R1
instance : Enc (List (List UInt8)) where
  enc l := .lol l
  dec | .lol l => some l
      | _ => none
  ok := by
    intro s a h at_ w v r
    split at h
    · simp only [Option.some.injEq] at h; subst h; exact r
    · cases h
  nn _ := rfl
/-- A hash at a loop's head; where it has no list, it has one of no bytes. -/
structure PHn where
  v : HashV
instance : LEnc PHn where
  kind := none
  ins := [(8, .u8)]
  enc nx a := (.ptr nx 0, [a.v.cells (nx + 1), [.own (.bytes a.v.l)]])
  dec nx s M := match s, M with
    | .ptr b 0, some cs :: some [.own (.bytes l)] :: M' => if b = nx then (match dHashC l cs with | some (r, k) => if k = nx + 1 then some (none, ⟨r⟩, M') else none | none => none) else none
    | _, _ => none
  all P := ∀ v, P ⟨v⟩
  all_ok h a := h a.v
  ok := by
    intro nx s M p a M' h hp
    split at h
    · split at h
      · rename_i hb
        split at h
        · rename_i r k hd
          split at h
          · rename_i hk
            simp only [Option.some.injEq, Prod.mk.injEq] at h
            obtain ⟨_, rfl, rfl⟩ := h
            subst hb; subst hk
            obtain ⟨e1, e2⟩ := dHashC_ok hd
            subst e2
            exact ⟨by rw [e1]; rfl, fun r => r⟩
          · cases h
        · cases h
      · cases h
    · cases h
noncomputable def hv (t : List UInt8) : HashV := ⟨absT beg t, absR t, 0, (absR t).length, UInt64.ofInt (t.length : Int)⟩
def iP (l : List (List UInt8)) (v g : HashV) (all : List UInt8) (i : Int) : Prop := 0 ≤ i ∧ i ≤ l.length ∧ all = (l.take i.toNat).flatten ∧ v = hv all ∧ g = hv [] ∧ (all.length : Int) ≤ 1000 * i
noncomputable def spP5 : Specs := [(30, .fresh sNewH), (31, .memf sWriteO), (33, .fresh sHSumO), (1000000, Sym.sNo), (14, .fresh sDSum), (10, sSame), (1000001, Sym.sNo)]
def lPie (l : List (List UInt8)) (n : Int) : Plan := { loops := [(0, { β := List UInt8 × List (List UInt8) × Int × Unit, α := PHn × PHn × OwnB × Int × Unit, same := [1, 23, 24], keep := [5, 6, 7, 25], inv := fun _ _ x => iP l x.1.v x.2.1.v x.2.2.1.l x.2.2.2.1, meas := fun _ x => (n - x.2.2.2.1).toNat })] }
end Go.Proofs.YtomoihkepkmgdaaDoor.H5
/- Layer 5's law of pieces: what the body comes to. -/
set_option maxRecDepth 10000
namespace Go.Proofs.YtomoihkepkmgdaaDoor.H5
open Go.Sym Go.Dig R1
--STOP digV, iP, hv, rOf, nOf, absT, absR, sumV, sumO, beg, List.flatten
end Go.Proofs.YtomoihkepkmgdaaDoor.H5
/- Layer 5's law of pieces holds. -/
set_option maxRecDepth 10000
namespace Go.Proofs.YtomoihkepkmgdaaDoor.H5
open Go.Sym Go.Dig R1
theorem fz (l : List UInt8) : List.drop 0 (List.take (0 + l.length) l) = l := by rw [Nat.zero_add, List.take_length]; rfl
theorem tz (l : List UInt8) : List.take l.length (List.drop 0 l) = l := by rw [List.drop_zero, List.take_length]
theorem abs_add (t p : List UInt8) : absT (absT beg t) (absR t ++ p) = absT beg (t ++ p) ∧ absR (absR t ++ p) = absR (t ++ p) := by
  have e0 : (t ++ p).drop (64 * (t.length / 64)) = absR t ++ p := by
    rw [List.drop_append_of_le_length (by omega)]; rfl
  have e1 : (t ++ p).length / 64 = t.length / 64 + (absR t ++ p).length / 64 := by
    rw [← e0, List.length_drop, List.length_append]; omega
  constructor
  · unfold absT
    rw [e1, absN_add, e0]
    congr 1
    exact (absN_congr _ _ _ _ fun j hj => cut_append (by omega)).symm
  · show (absR t ++ p).drop _ = (t ++ p).drop _
    rw [e1, ← e0, List.drop_drop]
    congr 1; omega
theorem hs (t p : List UInt8) : absT (hv t).s (rOf (hv t) p) = absT beg (t ++ p) := (abs_add t p).1
theorem hs' (t p : List UInt8) : absT (absT beg t) (rOf (hv t) p) = absT beg (t ++ p) := (abs_add t p).1
theorem hr (t p : List UInt8) : absR (rOf (hv t) p) = absR (t ++ p) := (abs_add t p).2
theorem hn (t p : List UInt8) : nOf (hv t) p = UInt64.ofInt ((t ++ p).length : Int) := by
  show UInt64.ofInt (t.length : Int) + UInt64.ofInt (p.length : Int) = _
  apply UInt64.toNat_inj.1
  rw [UInt64.toNat_add, ofInt64, ofInt64, ofInt64, List.length_append]
  omega
theorem hk (t : List UInt8) : HashV.mk (absT beg t) (absR t) 0 (absR t).length (UInt64.ofInt (t.length : Int)) = hv t := rfl
theorem hd (t : List UInt8) : sumO (OH.some (RoH.mk (absT beg t) (absR t) (UInt64.ofInt (t.length : Int)))) = digV t := by
  rw [digV_eq]
  unfold sumO digV0
  rw [sumV_eq]
theorem rl (t p : List UInt8) : (rOf (hv t) p).length = (absR t).length + p.length := by
  show ((absR t).drop 0 ++ p).length = _
  rw [List.length_append]; rfl
theorem hv0 : HashV.mk beg [] 0 0 0 = hv [] := by
  show _ = HashV.mk (absT beg []) (absR []) 0 (absR []).length (UInt64.ofInt (([] : List UInt8).length : Int))
  rfl
theorem spP5_ok : SpecsOK Tryd.prog spP5 := .consF ok_NewH <| .consN ok_WriteO <| .consF ok_HSumO <| .cons ok_Len <| .consF ok_DSumF <| .cons ok_Same <| .cons ok_Awake5 (.nil _)
theorem take_flat {l : List (List UInt8)} {i : Nat} (h : i < l.length) : (l.take (i + 1)).flatten = (l.take i).flatten ++ l.getD i [] := by
  rw [List.take_add_one, List.flatten_append, List.getD_eq_getElem?_getD, List.getElem?_eq_getElem h]
  simp
abbrev sPie : SpecF := fspec (α := List (List UInt8) × List UInt8 × Unit) total fun _ => true
theorem ok_Pie : SpecOK Tryd.prog 1000000 Sym.sNo := Sym.sNo_ok _ _
end Go.Proofs.YtomoihkepkmgdaaDoor.H5
/- Layer 7: sums under keys: what is said of the functions. -/
set_option maxRecDepth 10000
namespace Go.Proofs.YtomoihkepkmgdaaDoor.H7
open Go.Sym Go.Dig R1 H5
noncomputable def kV (k : List UInt8) : List UInt8 := if 64 < k.length then digV k else k
def pad64 (l : List UInt8) : List UInt8 := l ++ List.replicate (64 - l.length) 0
def xB (w : UInt8) (l : List UInt8) : List UInt8 := l.map (· ^^^ w)
noncomputable def blkV0 (k : List UInt8) (w : UInt8) : List UInt8 := xB w (pad64 (kV k))
theorem blk_ex : ∃ f : List UInt8 → UInt8 → List UInt8, f = blkV0 := ⟨_, rfl⟩
noncomputable def blkV : List UInt8 → UInt8 → List UInt8 := Classical.choose blk_ex
theorem blkV_eq : blkV = blkV0 := Classical.choose_spec blk_ex
noncomputable def macV0 (k b : List UInt8) : List UInt8 := digV (blkV k 92 ++ digV (blkV k 54 ++ b))
theorem mac_ex : ∃ f : List UInt8 → List UInt8 → List UInt8, f = macV0 := ⟨_, rfl⟩
/-- A sum under a key. -/
noncomputable def macV : List UInt8 → List UInt8 → List UInt8 := Classical.choose mac_ex
theorem macV_eq : macV = macV0 := Classical.choose_spec mac_ex
/-! The block. -/
def iX (l0 : List UInt8) (w : UInt8) (o : List UInt8) (i : Int) : Prop := 0 ≤ i ∧ i ≤ 64 ∧ l0.length = 64 ∧ o = xB w (l0.take i.toNat) ++ l0.drop i.toNat
def lBlk (l0 : List UInt8) (w : UInt8) : Plan := { loops := [(0, { β := UInt8 × Int × Unit, α := OwnB × Int × Unit, same := [1, 17], keep := [5, 18], inv := fun _ _ x => iX l0 w x.1.l x.2.1, meas := fun _ x => (64 - x.2.1).toNat })] }
noncomputable def spBlk : Specs := [(14, .fresh sDSum)]
noncomputable def sBlk : SpecF := fspec (α := List UInt8 × UInt8 × Unit) (fun a => some (a.1.length ≤ 1073741824)) (fun a => blkV a.1 a.2.1)
/-! The sum. -/
def iM (k : List UInt8) (l : List (List UInt8)) (v : HashV) (i : Int) : Prop := 0 ≤ i ∧ i ≤ l.length ∧ v = hv (blkV k 54 ++ (l.take i.toNat).flatten)
def lMac (k : List UInt8) (l : List (List UInt8)) : Plan := { loops := [(0, { β := List UInt8 × List (List UInt8) × Int × Unit, α := PHn × Int × Unit, same := [0, 14, 15], keep := [5, 16], inv := fun _ _ x => iM k l x.1.v x.2.1, meas := fun _ x => (l.length - x.2.1).toNat })] }
noncomputable def spMac : Specs := [(30, .fresh sNewH), (31, .memf sWriteO), (33, .fresh sHSumO), (32, .fresh sBlk)]
noncomputable def sMac : SpecF := fspec (α := List UInt8 × List (List UInt8) × Unit) (fun a => some (a.1.length ≤ 1073741824 ∧ a.2.1.length ≤ 1000000 ∧ ∀ p ∈ a.2.1, p.length ≤ 1000000)) (fun a => macV a.1 a.2.1.flatten)
/-! Are two the same? -/
def iD (a b : List UInt8) (d : UInt8) (i : Int) : Prop := 0 ≤ i ∧ i ≤ a.length ∧ (d = 0 ↔ a.take i.toNat = b.take i.toNat)
def lSameM (a b : List UInt8) : Plan := { loops := [(0, { β := List UInt8 × List UInt8 × Int × Unit, α := UInt8 × Int × Unit, same := [0, 1, 13], keep := [5, 14], inv := fun _ _ x => iD a b x.1 x.2.1, meas := fun _ x => (a.length - x.2.1).toNat })] }
def sSameM : SpecF := fspec (α := List UInt8 × List UInt8 × Unit) (fun a => some (a.1.length ≤ 1073741824)) (fun a => decide (a.1 = a.2.1))
/-! The reference. -/
def iK (l0 o : List UInt8) : Prop := ∃ n, o = l0 ++ List.replicate n 0 ∧ o.length ≤ 64
def lRBlk (l0 : List UInt8) : Plan := { loops := [(0, { β := Unit, α := OwnB × Unit, same := [], keep := [3], inv := fun _ _ x => iK l0 x.1.l, meas := fun _ x => 64 - x.1.l.length })] }
noncomputable def spRB : Specs := [(35, sRSum)]
noncomputable def pkV0 (k : List UInt8) : List UInt8 := pad64 (kV k)
theorem pk_ex : ∃ f : List UInt8 → List UInt8, f = pkV0 := ⟨_, rfl⟩
noncomputable def pkV : List UInt8 → List UInt8 := Classical.choose pk_ex
theorem pkV_eq : pkV = pkV0 := Classical.choose_spec pk_ex
noncomputable def sRBlk : SpecF := fspec (α := List UInt8 × Unit) (fun a => some (a.1.length ≤ 1073741824)) (fun a => pkV a.1)
def iW (w : UInt8) (l o : List UInt8) (i : Int) : Prop := 0 ≤ i ∧ i ≤ l.length ∧ o = xB w (l.take i.toNat)
def lWith (l : List UInt8) (w : UInt8) : Plan := { loops := [(0, { β := List UInt8 × UInt8 × Unit, α := OwnB × Int × Unit, same := [0, 1], keep := [5, 6], inv := fun _ _ x => iW w l x.1.l x.2.1, meas := fun _ x => (l.length - x.2.1).toNat })] }
theorem xb_ex : ∃ f : UInt8 → List UInt8 → List UInt8, f = xB := ⟨_, rfl⟩
noncomputable def xBo : UInt8 → List UInt8 → List UInt8 := Classical.choose xb_ex
theorem xBo_eq : xBo = xB := Classical.choose_spec xb_ex
noncomputable def sWith : SpecF := fspec (α := List UInt8 × UInt8 × Unit) (fun a => some (a.1.length ≤ 1073741824)) (fun a => xBo a.2.1 a.1)
noncomputable def spRMac : Specs := [(34, sRBlk), (36, .fresh sWith), (35, sRSum)]
noncomputable def sRMac : SpecF := fspec (α := List UInt8 × List UInt8 × Unit) (fun a => some (a.1.length ≤ 1073741824 ∧ a.2.1.length ≤ 1000000000)) (fun a => macV a.1 a.2.1)
end Go.Proofs.YtomoihkepkmgdaaDoor.H7
/- Layer 7: sums under keys: what the bodies come to. -/
set_option maxRecDepth 10000
namespace Go.Proofs.YtomoihkepkmgdaaDoor.H7
open Go.Sym Go.Dig R1 H5
--STOP digV, iX, kV, pad64, xB, blkV, macV
--STOP iM, hv, rOf, nOf, absT, absR, sumV, sumO, beg, List.flatten
--STOP iD
--STOP iK
--STOP iW
--STOP pkV, xBo
theorem vcBlk (l0 k : List UInt8) (w : UInt8) (Q : SV → Prop) : LfRaw tt spBlk 9 [] (lBlk l0 w) Tryd.f32 Q (k, w, ()) =
  bcase (decide ((↑(List.length k) : Int) > (64 : Int)))
    (((List.length k ≤ (1073741824 : Nat)) ∧
    ((((0 : Int) ≤ (64 : Int)) ∧
     (((64 : Int) = (64 : Int)) ∧
     ((64 : Int) ≤ (1099511627776 : Int)))) ∧
    ((((0 : Nat) = (0 : Nat)) ∧
     (Int.toNat (64 : Int) =
  List.length
    ([] ++
        List.drop (0 : Nat)
          (List.take (Int.toNat (64 : Int))
            (List.drop (0 : Nat) (List.take ((0 : Nat) + List.length (digV k)) (digV k)))) ++
      List.drop
        ((0 : Nat) +
          List.length
            (List.drop (0 : Nat)
              (List.take (Int.toNat (64 : Int))
                (List.drop (0 : Nat) (List.take ((0 : Nat) + List.length (digV k)) (digV k))))))
        [(0 : UInt8), (0 : UInt8), (0 : UInt8), (0 : UInt8), (0 : UInt8), (0 : UInt8), (0 : UInt8), (0 : UInt8),
          (0 : UInt8), (0 : UInt8), (0 : UInt8), (0 : UInt8), (0 : UInt8), (0 : UInt8), (0 : UInt8), (0 : UInt8),
          (0 : UInt8), (0 : UInt8), (0 : UInt8), (0 : UInt8), (0 : UInt8), (0 : UInt8), (0 : UInt8), (0 : UInt8),
          (0 : UInt8), (0 : UInt8), (0 : UInt8), (0 : UInt8), (0 : UInt8), (0 : UInt8), (0 : UInt8), (0 : UInt8),
          (0 : UInt8), (0 : UInt8), (0 : UInt8), (0 : UInt8), (0 : UInt8), (0 : UInt8), (0 : UInt8), (0 : UInt8),
          (0 : UInt8), (0 : UInt8), (0 : UInt8), (0 : UInt8), (0 : UInt8), (0 : UInt8), (0 : UInt8), (0 : UInt8),
          (0 : UInt8), (0 : UInt8), (0 : UInt8), (0 : UInt8), (0 : UInt8), (0 : UInt8), (0 : UInt8), (0 : UInt8),
          (0 : UInt8), (0 : UInt8), (0 : UInt8), (0 : UInt8), (0 : UInt8), (0 : UInt8), (0 : UInt8), (0 : UInt8)]))) ∧
    ((iX l0 w
  ([] ++
      List.drop (0 : Nat)
        (List.take (Int.toNat (64 : Int))
          (List.drop (0 : Nat) (List.take ((0 : Nat) + List.length (digV k)) (digV k)))) ++
    List.drop
      ((0 : Nat) +
        List.length
          (List.drop (0 : Nat)
            (List.take (Int.toNat (64 : Int))
              (List.drop (0 : Nat) (List.take ((0 : Nat) + List.length (digV k)) (digV k))))))
      [(0 : UInt8), (0 : UInt8), (0 : UInt8), (0 : UInt8), (0 : UInt8), (0 : UInt8), (0 : UInt8), (0 : UInt8),
        (0 : UInt8), (0 : UInt8), (0 : UInt8), (0 : UInt8), (0 : UInt8), (0 : UInt8), (0 : UInt8), (0 : UInt8),
        (0 : UInt8), (0 : UInt8), (0 : UInt8), (0 : UInt8), (0 : UInt8), (0 : UInt8), (0 : UInt8), (0 : UInt8),
        (0 : UInt8), (0 : UInt8), (0 : UInt8), (0 : UInt8), (0 : UInt8), (0 : UInt8), (0 : UInt8), (0 : UInt8),
        (0 : UInt8), (0 : UInt8), (0 : UInt8), (0 : UInt8), (0 : UInt8), (0 : UInt8), (0 : UInt8), (0 : UInt8),
        (0 : UInt8), (0 : UInt8), (0 : UInt8), (0 : UInt8), (0 : UInt8), (0 : UInt8), (0 : UInt8), (0 : UInt8),
        (0 : UInt8), (0 : UInt8), (0 : UInt8), (0 : UInt8), (0 : UInt8), (0 : UInt8), (0 : UInt8), (0 : UInt8),
        (0 : UInt8), (0 : UInt8), (0 : UInt8), (0 : UInt8), (0 : UInt8), (0 : UInt8), (0 : UInt8), (0 : UInt8)])
  (0 : Int)) ∧
    (∀ l : List UInt8,
    (∀ a : Int,
    ((iX l0 w l a) →
    bcase (decide (a < (↑(Int.toNat (64 : Int)) : Int)))
      (((((0 : Int) ≤ a) ∧
       (a < (↑(List.length l) : Int))) ∧
      ((((0 : Int) ≤ a) ∧
       (a < (↑(List.length l) : Int))) ∧
      ((((0 : Nat) = (0 : Nat)) ∧
       (List.length l =
  List.length (List.set l ((0 : Nat) + Int.toNat a) (List.getD l ((0 : Nat) + Int.toNat a) (0 : UInt8) ^^^ w)))) ∧
      (((w, (↑(Int.toNat (64 : Int)) : Int), ()) = (w, (↑(Int.toNat (64 : Int)) : Int), ())) ∧
      ((iX l0 w (List.set l ((0 : Nat) + Int.toNat a) (List.getD l ((0 : Nat) + Int.toNat a) (0 : UInt8) ^^^ w))
  (IntKind.wrap IntKind.i64 (a + (1 : Int)))) ∧
      (Int.toNat ((64 : Int) - IntKind.wrap IntKind.i64 (a + (1 : Int))) < Int.toNat ((64 : Int) - a))))))))
      ((Q (SV.lst (LV.bytes (List.drop (0 : Nat) (List.take ((0 : Nat) + List.length l) l))))))))))))))
    (((((0 : Int) ≤ (64 : Int)) ∧
     (((64 : Int) = (64 : Int)) ∧
     ((64 : Int) ≤ (1099511627776 : Int)))) ∧
    ((((0 : Nat) = (0 : Nat)) ∧
     (Int.toNat (64 : Int) =
  List.length
    ([] ++ List.drop (0 : Nat) (List.take (Int.toNat (64 : Int)) k) ++
      List.drop ((0 : Nat) + List.length (List.drop (0 : Nat) (List.take (Int.toNat (64 : Int)) k)))
        [(0 : UInt8), (0 : UInt8), (0 : UInt8), (0 : UInt8), (0 : UInt8), (0 : UInt8), (0 : UInt8), (0 : UInt8),
          (0 : UInt8), (0 : UInt8), (0 : UInt8), (0 : UInt8), (0 : UInt8), (0 : UInt8), (0 : UInt8), (0 : UInt8),
          (0 : UInt8), (0 : UInt8), (0 : UInt8), (0 : UInt8), (0 : UInt8), (0 : UInt8), (0 : UInt8), (0 : UInt8),
          (0 : UInt8), (0 : UInt8), (0 : UInt8), (0 : UInt8), (0 : UInt8), (0 : UInt8), (0 : UInt8), (0 : UInt8),
          (0 : UInt8), (0 : UInt8), (0 : UInt8), (0 : UInt8), (0 : UInt8), (0 : UInt8), (0 : UInt8), (0 : UInt8),
          (0 : UInt8), (0 : UInt8), (0 : UInt8), (0 : UInt8), (0 : UInt8), (0 : UInt8), (0 : UInt8), (0 : UInt8),
          (0 : UInt8), (0 : UInt8), (0 : UInt8), (0 : UInt8), (0 : UInt8), (0 : UInt8), (0 : UInt8), (0 : UInt8),
          (0 : UInt8), (0 : UInt8), (0 : UInt8), (0 : UInt8), (0 : UInt8), (0 : UInt8), (0 : UInt8), (0 : UInt8)]))) ∧
    ((iX l0 w
  ([] ++ List.drop (0 : Nat) (List.take (Int.toNat (64 : Int)) k) ++
    List.drop ((0 : Nat) + List.length (List.drop (0 : Nat) (List.take (Int.toNat (64 : Int)) k)))
      [(0 : UInt8), (0 : UInt8), (0 : UInt8), (0 : UInt8), (0 : UInt8), (0 : UInt8), (0 : UInt8), (0 : UInt8),
        (0 : UInt8), (0 : UInt8), (0 : UInt8), (0 : UInt8), (0 : UInt8), (0 : UInt8), (0 : UInt8), (0 : UInt8),
        (0 : UInt8), (0 : UInt8), (0 : UInt8), (0 : UInt8), (0 : UInt8), (0 : UInt8), (0 : UInt8), (0 : UInt8),
        (0 : UInt8), (0 : UInt8), (0 : UInt8), (0 : UInt8), (0 : UInt8), (0 : UInt8), (0 : UInt8), (0 : UInt8),
        (0 : UInt8), (0 : UInt8), (0 : UInt8), (0 : UInt8), (0 : UInt8), (0 : UInt8), (0 : UInt8), (0 : UInt8),
        (0 : UInt8), (0 : UInt8), (0 : UInt8), (0 : UInt8), (0 : UInt8), (0 : UInt8), (0 : UInt8), (0 : UInt8),
        (0 : UInt8), (0 : UInt8), (0 : UInt8), (0 : UInt8), (0 : UInt8), (0 : UInt8), (0 : UInt8), (0 : UInt8),
        (0 : UInt8), (0 : UInt8), (0 : UInt8), (0 : UInt8), (0 : UInt8), (0 : UInt8), (0 : UInt8), (0 : UInt8)])
  (0 : Int)) ∧
    (∀ l : List UInt8,
    (∀ a : Int,
    ((iX l0 w l a) →
    bcase (decide (a < (↑(Int.toNat (64 : Int)) : Int)))
      (((((0 : Int) ≤ a) ∧
       (a < (↑(List.length l) : Int))) ∧
      ((((0 : Int) ≤ a) ∧
       (a < (↑(List.length l) : Int))) ∧
      ((((0 : Nat) = (0 : Nat)) ∧
       (List.length l =
  List.length (List.set l ((0 : Nat) + Int.toNat a) (List.getD l ((0 : Nat) + Int.toNat a) (0 : UInt8) ^^^ w)))) ∧
      (((w, (↑(Int.toNat (64 : Int)) : Int), ()) = (w, (↑(Int.toNat (64 : Int)) : Int), ())) ∧
      ((iX l0 w (List.set l ((0 : Nat) + Int.toNat a) (List.getD l ((0 : Nat) + Int.toNat a) (0 : UInt8) ^^^ w))
  (IntKind.wrap IntKind.i64 (a + (1 : Int)))) ∧
      (Int.toNat ((64 : Int) - IntKind.wrap IntKind.i64 (a + (1 : Int))) < Int.toNat ((64 : Int) - a))))))))
      ((Q (SV.lst (LV.bytes (List.drop (0 : Nat) (List.take ((0 : Nat) + List.length l) l))))))))))))) := by kernel_rfl
theorem vcMac (k : List UInt8) (l : List (List UInt8)) (Q : SV → Prop) : LfRaw tt spMac 9 [] (lMac k l) Tryd.f11 Q (k, l, ()) =
  ((List.length k ≤ (1073741824 : Nat)) ∧
  ((((0 : Nat) + (0 : Nat) = (0 : Nat)) ∧
   ((List.length
    (rOf (HashV.mk beg [] (0 : Nat) (0 : Nat) (0 : UInt64))
      (List.take (List.length (blkV k (UInt8.ofNat (Int.toNat (54 : Int)))))
        (List.drop (0 : Nat) (blkV k (UInt8.ofNat (Int.toNat (54 : Int))))))) ≤
  appLim) ∧
   ((0 : Nat) + List.length (blkV k (UInt8.ofNat (Int.toNat (54 : Int)))) ≤
  List.length (blkV k (UInt8.ofNat (Int.toNat (54 : Int))))))) ∧
  ((iM k l
  (HashV.mk
    (absT beg
      (rOf (HashV.mk beg [] (0 : Nat) (0 : Nat) (0 : UInt64))
        (List.take (List.length (blkV k (UInt8.ofNat (Int.toNat (54 : Int)))))
          (List.drop (0 : Nat) (blkV k (UInt8.ofNat (Int.toNat (54 : Int))))))))
    (absR
      (rOf (HashV.mk beg [] (0 : Nat) (0 : Nat) (0 : UInt64))
        (List.take (List.length (blkV k (UInt8.ofNat (Int.toNat (54 : Int)))))
          (List.drop (0 : Nat) (blkV k (UInt8.ofNat (Int.toNat (54 : Int))))))))
    (0 : Nat)
    (List.length
      (absR
        (rOf (HashV.mk beg [] (0 : Nat) (0 : Nat) (0 : UInt64))
          (List.take (List.length (blkV k (UInt8.ofNat (Int.toNat (54 : Int)))))
            (List.drop (0 : Nat) (blkV k (UInt8.ofNat (Int.toNat (54 : Int)))))))))
    (nOf (HashV.mk beg [] (0 : Nat) (0 : Nat) (0 : UInt64))
      (List.take (List.length (blkV k (UInt8.ofNat (Int.toNat (54 : Int)))))
        (List.drop (0 : Nat) (blkV k (UInt8.ofNat (Int.toNat (54 : Int))))))))
  (0 : Int)) ∧
  (∀ v : HashV,
  (∀ a : Int,
  ((iM k l v a) →
  bcase (decide (a < (↑(List.length l) : Int)))
    (((((0 : Int) ≤ a) ∧
     (a < (↑(List.length l) : Int))) ∧
    (((HashV.lo v + HashV.len v = List.length (HashV.l v)) ∧
     ((List.length (rOf v (List.getD l (Int.toNat a) [])) ≤ appLim) ∧
     (True))) ∧
    (((k, l, (↑(List.length l) : Int), ()) = (k, l, (↑(List.length l) : Int), ())) ∧
    ((iM k l
  (HashV.mk (absT (HashV.s v) (rOf v (List.getD l (Int.toNat a) []))) (absR (rOf v (List.getD l (Int.toNat a) [])))
    (0 : Nat) (List.length (absR (rOf v (List.getD l (Int.toNat a) [])))) (nOf v (List.getD l (Int.toNat a) [])))
  (IntKind.wrap IntKind.i64 (a + (1 : Int)))) ∧
    (Int.toNat ((↑(List.length l) : Int) - IntKind.wrap IntKind.i64 (a + (1 : Int))) <
  Int.toNat ((↑(List.length l) : Int) - a)))))))
    (((List.length k ≤ (1073741824 : Nat)) ∧
    ((((0 : Nat) + (0 : Nat) = (0 : Nat)) ∧
     ((List.length
    (rOf (HashV.mk beg [] (0 : Nat) (0 : Nat) (0 : UInt64))
      (List.take (List.length (blkV k (UInt8.ofNat (Int.toNat (92 : Int)))))
        (List.drop (0 : Nat) (blkV k (UInt8.ofNat (Int.toNat (92 : Int))))))) ≤
  appLim) ∧
     ((0 : Nat) + List.length (blkV k (UInt8.ofNat (Int.toNat (92 : Int)))) ≤
  List.length (blkV k (UInt8.ofNat (Int.toNat (92 : Int))))))) ∧
    ((List.length (List.drop (HashV.lo v) (List.take (HashV.lo v + HashV.len v) (HashV.l v))) ≤ (65536 : Nat)) ∧
    ((((0 : Nat) +
    List.length
      (absR
        (rOf (HashV.mk beg [] (0 : Nat) (0 : Nat) (0 : UInt64))
          (List.take (List.length (blkV k (UInt8.ofNat (Int.toNat (92 : Int)))))
            (List.drop (0 : Nat) (blkV k (UInt8.ofNat (Int.toNat (92 : Int)))))))) =
  List.length
    (absR
      (rOf (HashV.mk beg [] (0 : Nat) (0 : Nat) (0 : UInt64))
        (List.take (List.length (blkV k (UInt8.ofNat (Int.toNat (92 : Int)))))
          (List.drop (0 : Nat) (blkV k (UInt8.ofNat (Int.toNat (92 : Int))))))))) ∧
     ((List.length
    (rOf
      (HashV.mk
        (absT beg
          (rOf (HashV.mk beg [] (0 : Nat) (0 : Nat) (0 : UInt64))
            (List.take (List.length (blkV k (UInt8.ofNat (Int.toNat (92 : Int)))))
              (List.drop (0 : Nat) (blkV k (UInt8.ofNat (Int.toNat (92 : Int))))))))
        (absR
          (rOf (HashV.mk beg [] (0 : Nat) (0 : Nat) (0 : UInt64))
            (List.take (List.length (blkV k (UInt8.ofNat (Int.toNat (92 : Int)))))
              (List.drop (0 : Nat) (blkV k (UInt8.ofNat (Int.toNat (92 : Int))))))))
        (0 : Nat)
        (List.length
          (absR
            (rOf (HashV.mk beg [] (0 : Nat) (0 : Nat) (0 : UInt64))
              (List.take (List.length (blkV k (UInt8.ofNat (Int.toNat (92 : Int)))))
                (List.drop (0 : Nat) (blkV k (UInt8.ofNat (Int.toNat (92 : Int)))))))))
        (nOf (HashV.mk beg [] (0 : Nat) (0 : Nat) (0 : UInt64))
          (List.take (List.length (blkV k (UInt8.ofNat (Int.toNat (92 : Int)))))
            (List.drop (0 : Nat) (blkV k (UInt8.ofNat (Int.toNat (92 : Int))))))))
      (List.take
        (List.length
          (sumO
            (OH.some
              (RoH.mk (HashV.s v) (List.drop (HashV.lo v) (List.take (HashV.lo v + HashV.len v) (HashV.l v)))
                (HashV.n v)))))
        (List.drop (0 : Nat)
          (sumO
            (OH.some
              (RoH.mk (HashV.s v) (List.drop (HashV.lo v) (List.take (HashV.lo v + HashV.len v) (HashV.l v)))
                (HashV.n v))))))) ≤
  appLim) ∧
     ((0 : Nat) +
    List.length
      (sumO
        (OH.some
          (RoH.mk (HashV.s v) (List.drop (HashV.lo v) (List.take (HashV.lo v + HashV.len v) (HashV.l v)))
            (HashV.n v)))) ≤
  List.length
    (sumO
      (OH.some
        (RoH.mk (HashV.s v) (List.drop (HashV.lo v) (List.take (HashV.lo v + HashV.len v) (HashV.l v))) (HashV.n v))))))) ∧
    ((List.length
    (List.drop (0 : Nat)
      (List.take
        ((0 : Nat) +
          List.length
            (absR
              (rOf
                (HashV.mk
                  (absT beg
                    (rOf (HashV.mk beg [] (0 : Nat) (0 : Nat) (0 : UInt64))
                      (List.take (List.length (blkV k (UInt8.ofNat (Int.toNat (92 : Int)))))
                        (List.drop (0 : Nat) (blkV k (UInt8.ofNat (Int.toNat (92 : Int))))))))
                  (absR
                    (rOf (HashV.mk beg [] (0 : Nat) (0 : Nat) (0 : UInt64))
                      (List.take (List.length (blkV k (UInt8.ofNat (Int.toNat (92 : Int)))))
                        (List.drop (0 : Nat) (blkV k (UInt8.ofNat (Int.toNat (92 : Int))))))))
                  (0 : Nat)
                  (List.length
                    (absR
                      (rOf (HashV.mk beg [] (0 : Nat) (0 : Nat) (0 : UInt64))
                        (List.take (List.length (blkV k (UInt8.ofNat (Int.toNat (92 : Int)))))
                          (List.drop (0 : Nat) (blkV k (UInt8.ofNat (Int.toNat (92 : Int)))))))))
                  (nOf (HashV.mk beg [] (0 : Nat) (0 : Nat) (0 : UInt64))
                    (List.take (List.length (blkV k (UInt8.ofNat (Int.toNat (92 : Int)))))
                      (List.drop (0 : Nat) (blkV k (UInt8.ofNat (Int.toNat (92 : Int))))))))
                (List.take
                  (List.length
                    (sumO
                      (OH.some
                        (RoH.mk (HashV.s v) (List.drop (HashV.lo v) (List.take (HashV.lo v + HashV.len v) (HashV.l v)))
                          (HashV.n v)))))
                  (List.drop (0 : Nat)
                    (sumO
                      (OH.some
                        (RoH.mk (HashV.s v) (List.drop (HashV.lo v) (List.take (HashV.lo v + HashV.len v) (HashV.l v)))
                          (HashV.n v)))))))))
        (absR
          (rOf
            (HashV.mk
              (absT beg
                (rOf (HashV.mk beg [] (0 : Nat) (0 : Nat) (0 : UInt64))
                  (List.take (List.length (blkV k (UInt8.ofNat (Int.toNat (92 : Int)))))
                    (List.drop (0 : Nat) (blkV k (UInt8.ofNat (Int.toNat (92 : Int))))))))
              (absR
                (rOf (HashV.mk beg [] (0 : Nat) (0 : Nat) (0 : UInt64))
                  (List.take (List.length (blkV k (UInt8.ofNat (Int.toNat (92 : Int)))))
                    (List.drop (0 : Nat) (blkV k (UInt8.ofNat (Int.toNat (92 : Int))))))))
              (0 : Nat)
              (List.length
                (absR
                  (rOf (HashV.mk beg [] (0 : Nat) (0 : Nat) (0 : UInt64))
                    (List.take (List.length (blkV k (UInt8.ofNat (Int.toNat (92 : Int)))))
                      (List.drop (0 : Nat) (blkV k (UInt8.ofNat (Int.toNat (92 : Int)))))))))
              (nOf (HashV.mk beg [] (0 : Nat) (0 : Nat) (0 : UInt64))
                (List.take (List.length (blkV k (UInt8.ofNat (Int.toNat (92 : Int)))))
                  (List.drop (0 : Nat) (blkV k (UInt8.ofNat (Int.toNat (92 : Int))))))))
            (List.take
              (List.length
                (sumO
                  (OH.some
                    (RoH.mk (HashV.s v) (List.drop (HashV.lo v) (List.take (HashV.lo v + HashV.len v) (HashV.l v)))
                      (HashV.n v)))))
              (List.drop (0 : Nat)
                (sumO
                  (OH.some
                    (RoH.mk (HashV.s v) (List.drop (HashV.lo v) (List.take (HashV.lo v + HashV.len v) (HashV.l v)))
                      (HashV.n v)))))))))) ≤
  (65536 : Nat)) ∧
    (Q
  (SV.lst
    (LV.bytes
      (List.drop (0 : Nat)
        (List.take
          ((0 : Nat) +
            List.length
              (sumO
                (OH.some
                  (RoH.mk
                    (absT
                      (absT beg
                        (rOf (HashV.mk beg [] (0 : Nat) (0 : Nat) (0 : UInt64))
                          (List.take (List.length (blkV k (UInt8.ofNat (Int.toNat (92 : Int)))))
                            (List.drop (0 : Nat) (blkV k (UInt8.ofNat (Int.toNat (92 : Int))))))))
                      (rOf
                        (HashV.mk
                          (absT beg
                            (rOf (HashV.mk beg [] (0 : Nat) (0 : Nat) (0 : UInt64))
                              (List.take (List.length (blkV k (UInt8.ofNat (Int.toNat (92 : Int)))))
                                (List.drop (0 : Nat) (blkV k (UInt8.ofNat (Int.toNat (92 : Int))))))))
                          (absR
                            (rOf (HashV.mk beg [] (0 : Nat) (0 : Nat) (0 : UInt64))
                              (List.take (List.length (blkV k (UInt8.ofNat (Int.toNat (92 : Int)))))
                                (List.drop (0 : Nat) (blkV k (UInt8.ofNat (Int.toNat (92 : Int))))))))
                          (0 : Nat)
                          (List.length
                            (absR
                              (rOf (HashV.mk beg [] (0 : Nat) (0 : Nat) (0 : UInt64))
                                (List.take (List.length (blkV k (UInt8.ofNat (Int.toNat (92 : Int)))))
                                  (List.drop (0 : Nat) (blkV k (UInt8.ofNat (Int.toNat (92 : Int)))))))))
                          (nOf (HashV.mk beg [] (0 : Nat) (0 : Nat) (0 : UInt64))
                            (List.take (List.length (blkV k (UInt8.ofNat (Int.toNat (92 : Int)))))
                              (List.drop (0 : Nat) (blkV k (UInt8.ofNat (Int.toNat (92 : Int))))))))
                        (List.take
                          (List.length
                            (sumO
                              (OH.some
                                (RoH.mk (HashV.s v)
                                  (List.drop (HashV.lo v) (List.take (HashV.lo v + HashV.len v) (HashV.l v)))
                                  (HashV.n v)))))
                          (List.drop (0 : Nat)
                            (sumO
                              (OH.some
                                (RoH.mk (HashV.s v)
                                  (List.drop (HashV.lo v) (List.take (HashV.lo v + HashV.len v) (HashV.l v)))
                                  (HashV.n v))))))))
                    (List.drop (0 : Nat)
                      (List.take
                        ((0 : Nat) +
                          List.length
                            (absR
                              (rOf
                                (HashV.mk
                                  (absT beg
                                    (rOf (HashV.mk beg [] (0 : Nat) (0 : Nat) (0 : UInt64))
                                      (List.take (List.length (blkV k (UInt8.ofNat (Int.toNat (92 : Int)))))
                                        (List.drop (0 : Nat) (blkV k (UInt8.ofNat (Int.toNat (92 : Int))))))))
                                  (absR
                                    (rOf (HashV.mk beg [] (0 : Nat) (0 : Nat) (0 : UInt64))
                                      (List.take (List.length (blkV k (UInt8.ofNat (Int.toNat (92 : Int)))))
                                        (List.drop (0 : Nat) (blkV k (UInt8.ofNat (Int.toNat (92 : Int))))))))
                                  (0 : Nat)
                                  (List.length
                                    (absR
                                      (rOf (HashV.mk beg [] (0 : Nat) (0 : Nat) (0 : UInt64))
                                        (List.take (List.length (blkV k (UInt8.ofNat (Int.toNat (92 : Int)))))
                                          (List.drop (0 : Nat) (blkV k (UInt8.ofNat (Int.toNat (92 : Int)))))))))
                                  (nOf (HashV.mk beg [] (0 : Nat) (0 : Nat) (0 : UInt64))
                                    (List.take (List.length (blkV k (UInt8.ofNat (Int.toNat (92 : Int)))))
                                      (List.drop (0 : Nat) (blkV k (UInt8.ofNat (Int.toNat (92 : Int))))))))
                                (List.take
                                  (List.length
                                    (sumO
                                      (OH.some
                                        (RoH.mk (HashV.s v)
                                          (List.drop (HashV.lo v) (List.take (HashV.lo v + HashV.len v) (HashV.l v)))
                                          (HashV.n v)))))
                                  (List.drop (0 : Nat)
                                    (sumO
                                      (OH.some
                                        (RoH.mk (HashV.s v)
                                          (List.drop (HashV.lo v) (List.take (HashV.lo v + HashV.len v) (HashV.l v)))
                                          (HashV.n v)))))))))
                        (absR
                          (rOf
                            (HashV.mk
                              (absT beg
                                (rOf (HashV.mk beg [] (0 : Nat) (0 : Nat) (0 : UInt64))
                                  (List.take (List.length (blkV k (UInt8.ofNat (Int.toNat (92 : Int)))))
                                    (List.drop (0 : Nat) (blkV k (UInt8.ofNat (Int.toNat (92 : Int))))))))
                              (absR
                                (rOf (HashV.mk beg [] (0 : Nat) (0 : Nat) (0 : UInt64))
                                  (List.take (List.length (blkV k (UInt8.ofNat (Int.toNat (92 : Int)))))
                                    (List.drop (0 : Nat) (blkV k (UInt8.ofNat (Int.toNat (92 : Int))))))))
                              (0 : Nat)
                              (List.length
                                (absR
                                  (rOf (HashV.mk beg [] (0 : Nat) (0 : Nat) (0 : UInt64))
                                    (List.take (List.length (blkV k (UInt8.ofNat (Int.toNat (92 : Int)))))
                                      (List.drop (0 : Nat) (blkV k (UInt8.ofNat (Int.toNat (92 : Int)))))))))
                              (nOf (HashV.mk beg [] (0 : Nat) (0 : Nat) (0 : UInt64))
                                (List.take (List.length (blkV k (UInt8.ofNat (Int.toNat (92 : Int)))))
                                  (List.drop (0 : Nat) (blkV k (UInt8.ofNat (Int.toNat (92 : Int))))))))
                            (List.take
                              (List.length
                                (sumO
                                  (OH.some
                                    (RoH.mk (HashV.s v)
                                      (List.drop (HashV.lo v) (List.take (HashV.lo v + HashV.len v) (HashV.l v)))
                                      (HashV.n v)))))
                              (List.drop (0 : Nat)
                                (sumO
                                  (OH.some
                                    (RoH.mk (HashV.s v)
                                      (List.drop (HashV.lo v) (List.take (HashV.lo v + HashV.len v) (HashV.l v)))
                                      (HashV.n v))))))))))
                    (nOf
                      (HashV.mk
                        (absT beg
                          (rOf (HashV.mk beg [] (0 : Nat) (0 : Nat) (0 : UInt64))
                            (List.take (List.length (blkV k (UInt8.ofNat (Int.toNat (92 : Int)))))
                              (List.drop (0 : Nat) (blkV k (UInt8.ofNat (Int.toNat (92 : Int))))))))
                        (absR
                          (rOf (HashV.mk beg [] (0 : Nat) (0 : Nat) (0 : UInt64))
                            (List.take (List.length (blkV k (UInt8.ofNat (Int.toNat (92 : Int)))))
                              (List.drop (0 : Nat) (blkV k (UInt8.ofNat (Int.toNat (92 : Int))))))))
                        (0 : Nat)
                        (List.length
                          (absR
                            (rOf (HashV.mk beg [] (0 : Nat) (0 : Nat) (0 : UInt64))
                              (List.take (List.length (blkV k (UInt8.ofNat (Int.toNat (92 : Int)))))
                                (List.drop (0 : Nat) (blkV k (UInt8.ofNat (Int.toNat (92 : Int)))))))))
                        (nOf (HashV.mk beg [] (0 : Nat) (0 : Nat) (0 : UInt64))
                          (List.take (List.length (blkV k (UInt8.ofNat (Int.toNat (92 : Int)))))
                            (List.drop (0 : Nat) (blkV k (UInt8.ofNat (Int.toNat (92 : Int))))))))
                      (List.take
                        (List.length
                          (sumO
                            (OH.some
                              (RoH.mk (HashV.s v)
                                (List.drop (HashV.lo v) (List.take (HashV.lo v + HashV.len v) (HashV.l v)))
                                (HashV.n v)))))
                        (List.drop (0 : Nat)
                          (sumO
                            (OH.some
                              (RoH.mk (HashV.s v)
                                (List.drop (HashV.lo v) (List.take (HashV.lo v + HashV.len v) (HashV.l v)))
                                (HashV.n v)))))))))))
          (sumO
            (OH.some
              (RoH.mk
                (absT
                  (absT beg
                    (rOf (HashV.mk beg [] (0 : Nat) (0 : Nat) (0 : UInt64))
                      (List.take (List.length (blkV k (UInt8.ofNat (Int.toNat (92 : Int)))))
                        (List.drop (0 : Nat) (blkV k (UInt8.ofNat (Int.toNat (92 : Int))))))))
                  (rOf
                    (HashV.mk
                      (absT beg
                        (rOf (HashV.mk beg [] (0 : Nat) (0 : Nat) (0 : UInt64))
                          (List.take (List.length (blkV k (UInt8.ofNat (Int.toNat (92 : Int)))))
                            (List.drop (0 : Nat) (blkV k (UInt8.ofNat (Int.toNat (92 : Int))))))))
                      (absR
                        (rOf (HashV.mk beg [] (0 : Nat) (0 : Nat) (0 : UInt64))
                          (List.take (List.length (blkV k (UInt8.ofNat (Int.toNat (92 : Int)))))
                            (List.drop (0 : Nat) (blkV k (UInt8.ofNat (Int.toNat (92 : Int))))))))
                      (0 : Nat)
                      (List.length
                        (absR
                          (rOf (HashV.mk beg [] (0 : Nat) (0 : Nat) (0 : UInt64))
                            (List.take (List.length (blkV k (UInt8.ofNat (Int.toNat (92 : Int)))))
                              (List.drop (0 : Nat) (blkV k (UInt8.ofNat (Int.toNat (92 : Int)))))))))
                      (nOf (HashV.mk beg [] (0 : Nat) (0 : Nat) (0 : UInt64))
                        (List.take (List.length (blkV k (UInt8.ofNat (Int.toNat (92 : Int)))))
                          (List.drop (0 : Nat) (blkV k (UInt8.ofNat (Int.toNat (92 : Int))))))))
                    (List.take
                      (List.length
                        (sumO
                          (OH.some
                            (RoH.mk (HashV.s v)
                              (List.drop (HashV.lo v) (List.take (HashV.lo v + HashV.len v) (HashV.l v)))
                              (HashV.n v)))))
                      (List.drop (0 : Nat)
                        (sumO
                          (OH.some
                            (RoH.mk (HashV.s v)
                              (List.drop (HashV.lo v) (List.take (HashV.lo v + HashV.len v) (HashV.l v)))
                              (HashV.n v))))))))
                (List.drop (0 : Nat)
                  (List.take
                    ((0 : Nat) +
                      List.length
                        (absR
                          (rOf
                            (HashV.mk
                              (absT beg
                                (rOf (HashV.mk beg [] (0 : Nat) (0 : Nat) (0 : UInt64))
                                  (List.take (List.length (blkV k (UInt8.ofNat (Int.toNat (92 : Int)))))
                                    (List.drop (0 : Nat) (blkV k (UInt8.ofNat (Int.toNat (92 : Int))))))))
                              (absR
                                (rOf (HashV.mk beg [] (0 : Nat) (0 : Nat) (0 : UInt64))
                                  (List.take (List.length (blkV k (UInt8.ofNat (Int.toNat (92 : Int)))))
                                    (List.drop (0 : Nat) (blkV k (UInt8.ofNat (Int.toNat (92 : Int))))))))
                              (0 : Nat)
                              (List.length
                                (absR
                                  (rOf (HashV.mk beg [] (0 : Nat) (0 : Nat) (0 : UInt64))
                                    (List.take (List.length (blkV k (UInt8.ofNat (Int.toNat (92 : Int)))))
                                      (List.drop (0 : Nat) (blkV k (UInt8.ofNat (Int.toNat (92 : Int)))))))))
                              (nOf (HashV.mk beg [] (0 : Nat) (0 : Nat) (0 : UInt64))
                                (List.take (List.length (blkV k (UInt8.ofNat (Int.toNat (92 : Int)))))
                                  (List.drop (0 : Nat) (blkV k (UInt8.ofNat (Int.toNat (92 : Int))))))))
                            (List.take
                              (List.length
                                (sumO
                                  (OH.some
                                    (RoH.mk (HashV.s v)
                                      (List.drop (HashV.lo v) (List.take (HashV.lo v + HashV.len v) (HashV.l v)))
                                      (HashV.n v)))))
                              (List.drop (0 : Nat)
                                (sumO
                                  (OH.some
                                    (RoH.mk (HashV.s v)
                                      (List.drop (HashV.lo v) (List.take (HashV.lo v + HashV.len v) (HashV.l v)))
                                      (HashV.n v)))))))))
                    (absR
                      (rOf
                        (HashV.mk
                          (absT beg
                            (rOf (HashV.mk beg [] (0 : Nat) (0 : Nat) (0 : UInt64))
                              (List.take (List.length (blkV k (UInt8.ofNat (Int.toNat (92 : Int)))))
                                (List.drop (0 : Nat) (blkV k (UInt8.ofNat (Int.toNat (92 : Int))))))))
                          (absR
                            (rOf (HashV.mk beg [] (0 : Nat) (0 : Nat) (0 : UInt64))
                              (List.take (List.length (blkV k (UInt8.ofNat (Int.toNat (92 : Int)))))
                                (List.drop (0 : Nat) (blkV k (UInt8.ofNat (Int.toNat (92 : Int))))))))
                          (0 : Nat)
                          (List.length
                            (absR
                              (rOf (HashV.mk beg [] (0 : Nat) (0 : Nat) (0 : UInt64))
                                (List.take (List.length (blkV k (UInt8.ofNat (Int.toNat (92 : Int)))))
                                  (List.drop (0 : Nat) (blkV k (UInt8.ofNat (Int.toNat (92 : Int)))))))))
                          (nOf (HashV.mk beg [] (0 : Nat) (0 : Nat) (0 : UInt64))
                            (List.take (List.length (blkV k (UInt8.ofNat (Int.toNat (92 : Int)))))
                              (List.drop (0 : Nat) (blkV k (UInt8.ofNat (Int.toNat (92 : Int))))))))
                        (List.take
                          (List.length
                            (sumO
                              (OH.some
                                (RoH.mk (HashV.s v)
                                  (List.drop (HashV.lo v) (List.take (HashV.lo v + HashV.len v) (HashV.l v)))
                                  (HashV.n v)))))
                          (List.drop (0 : Nat)
                            (sumO
                              (OH.some
                                (RoH.mk (HashV.s v)
                                  (List.drop (HashV.lo v) (List.take (HashV.lo v + HashV.len v) (HashV.l v)))
                                  (HashV.n v))))))))))
                (nOf
                  (HashV.mk
                    (absT beg
                      (rOf (HashV.mk beg [] (0 : Nat) (0 : Nat) (0 : UInt64))
                        (List.take (List.length (blkV k (UInt8.ofNat (Int.toNat (92 : Int)))))
                          (List.drop (0 : Nat) (blkV k (UInt8.ofNat (Int.toNat (92 : Int))))))))
                    (absR
                      (rOf (HashV.mk beg [] (0 : Nat) (0 : Nat) (0 : UInt64))
                        (List.take (List.length (blkV k (UInt8.ofNat (Int.toNat (92 : Int)))))
                          (List.drop (0 : Nat) (blkV k (UInt8.ofNat (Int.toNat (92 : Int))))))))
                    (0 : Nat)
                    (List.length
                      (absR
                        (rOf (HashV.mk beg [] (0 : Nat) (0 : Nat) (0 : UInt64))
                          (List.take (List.length (blkV k (UInt8.ofNat (Int.toNat (92 : Int)))))
                            (List.drop (0 : Nat) (blkV k (UInt8.ofNat (Int.toNat (92 : Int)))))))))
                    (nOf (HashV.mk beg [] (0 : Nat) (0 : Nat) (0 : UInt64))
                      (List.take (List.length (blkV k (UInt8.ofNat (Int.toNat (92 : Int)))))
                        (List.drop (0 : Nat) (blkV k (UInt8.ofNat (Int.toNat (92 : Int))))))))
                  (List.take
                    (List.length
                      (sumO
                        (OH.some
                          (RoH.mk (HashV.s v)
                            (List.drop (HashV.lo v) (List.take (HashV.lo v + HashV.len v) (HashV.l v))) (HashV.n v)))))
                    (List.drop (0 : Nat)
                      (sumO
                        (OH.some
                          (RoH.mk (HashV.s v)
                            (List.drop (HashV.lo v) (List.take (HashV.lo v + HashV.len v) (HashV.l v)))
                            (HashV.n v))))))))))))))))))))))))))) := by kernel_rfl
theorem vcSameM (a b : List UInt8) (Q : SV → Prop) : LnRaw tt [] 9 [] (lSameM a b) Tryd.f13 Q (a, b, ()) =
  bcase ((↑(List.length a) : Int) != (↑(List.length b) : Int))
    ((Q (SV.bool false)))
    (((iD a b (UInt8.ofNat (Int.toNat (0 : Int))) (0 : Int)) ∧
    (∀ a_1 : UInt8,
    (∀ a_2 : Int,
    ((iD a b a_1 a_2) →
    bcase (decide (a_2 < (↑(List.length a) : Int)))
      (((((0 : Int) ≤ a_2) ∧
       (a_2 < (↑(List.length a) : Int))) ∧
      ((((0 : Int) ≤ a_2) ∧
       (a_2 < (↑(List.length b) : Int))) ∧
      (((a, b, (↑(List.length a) : Int), ()) = (a, b, (↑(List.length a) : Int), ())) ∧
      ((iD a b (a_1 ||| List.getD a (Int.toNat a_2) (0 : UInt8) ^^^ List.getD b (Int.toNat a_2) (0 : UInt8))
  (IntKind.wrap IntKind.i64 (a_2 + (1 : Int)))) ∧
      (Int.toNat ((↑(List.length a) : Int) - IntKind.wrap IntKind.i64 (a_2 + (1 : Int))) <
  Int.toNat ((↑(List.length a) : Int) - a_2)))))))
      ((Q (SV.bool (a_1 == UInt8.ofNat (Int.toNat (0 : Int))))))))))) := by kernel_rfl
theorem vcRBlk (l0 k : List UInt8) (Q : SV → Prop) : LnRaw tt spRB 9 [] (lRBlk l0) Tryd.f34 Q (k, ()) =
  bcase (decide ((↑(List.length k) : Int) > (64 : Int)))
    (((List.length k ≤ (1073741824 : Nat)) ∧
    ((List.length ([] ++ digV k) ≤ appLim) ∧
    ((((0 : Nat) = (0 : Nat)) ∧
     (List.length ([] ++ digV k) = List.length ([] ++ digV k))) ∧
    ((iK l0 ([] ++ digV k)) ∧
    (∀ l : List UInt8,
    ((iK l0 l) →
    bcase (decide ((↑(List.length l) : Int) < (64 : Int)))
      (((((0 : Nat) + List.length l = List.length l) ∧
       (List.length (List.drop (0 : Nat) (List.take (List.length l) l) ++ [UInt8.ofNat (Int.toNat (0 : Int))]) ≤ appLim)) ∧
      ((((0 : Nat) = (0 : Nat)) ∧
       (List.length (List.drop (0 : Nat) (List.take (List.length l) l) ++ [UInt8.ofNat (Int.toNat (0 : Int))]) =
  List.length (List.drop (0 : Nat) (List.take (List.length l) l) ++ [UInt8.ofNat (Int.toNat (0 : Int))]))) ∧
      ((() = ()) ∧
      ((iK l0 (List.drop (0 : Nat) (List.take (List.length l) l) ++ [UInt8.ofNat (Int.toNat (0 : Int))])) ∧
      ((64 : Nat) - List.length (List.drop (0 : Nat) (List.take (List.length l) l) ++ [UInt8.ofNat (Int.toNat (0 : Int))]) <
  (64 : Nat) - List.length l))))))
      ((Q (SV.lst (LV.bytes (List.drop (0 : Nat) (List.take ((0 : Nat) + List.length l) l)))))))))))))
    (((List.length ([] ++ k) ≤ appLim) ∧
    ((((0 : Nat) = (0 : Nat)) ∧
     (List.length ([] ++ k) = List.length ([] ++ k))) ∧
    ((iK l0 ([] ++ k)) ∧
    (∀ l : List UInt8,
    ((iK l0 l) →
    bcase (decide ((↑(List.length l) : Int) < (64 : Int)))
      (((((0 : Nat) + List.length l = List.length l) ∧
       (List.length (List.drop (0 : Nat) (List.take (List.length l) l) ++ [UInt8.ofNat (Int.toNat (0 : Int))]) ≤ appLim)) ∧
      ((((0 : Nat) = (0 : Nat)) ∧
       (List.length (List.drop (0 : Nat) (List.take (List.length l) l) ++ [UInt8.ofNat (Int.toNat (0 : Int))]) =
  List.length (List.drop (0 : Nat) (List.take (List.length l) l) ++ [UInt8.ofNat (Int.toNat (0 : Int))]))) ∧
      ((() = ()) ∧
      ((iK l0 (List.drop (0 : Nat) (List.take (List.length l) l) ++ [UInt8.ofNat (Int.toNat (0 : Int))])) ∧
      ((64 : Nat) - List.length (List.drop (0 : Nat) (List.take (List.length l) l) ++ [UInt8.ofNat (Int.toNat (0 : Int))]) <
  (64 : Nat) - List.length l))))))
      ((Q (SV.lst (LV.bytes (List.drop (0 : Nat) (List.take ((0 : Nat) + List.length l) l)))))))))))) := by kernel_rfl
theorem vcWith (l : List UInt8) (w : UInt8) (Q : SV → Prop) : LfRaw tt [] 9 [] (lWith l w) Tryd.f36 Q (l, w, ()) =
  ((((0 : Nat) = (0 : Nat)) ∧
   ((0 : Nat) = (0 : Nat))) ∧
  ((iW w l [] (0 : Int)) ∧
  (∀ l_1 : List UInt8,
  (∀ a : Int,
  ((iW w l l_1 a) →
  bcase (decide (a < (↑(List.length l) : Int)))
    (((((0 : Int) ≤ a) ∧
     (a < (↑(List.length l) : Int))) ∧
    ((((0 : Nat) + List.length l_1 = List.length l_1) ∧
     (List.length (List.drop (0 : Nat) (List.take (List.length l_1) l_1) ++ [List.getD l (Int.toNat a) (0 : UInt8) ^^^ w]) ≤
  appLim)) ∧
    ((((0 : Nat) = (0 : Nat)) ∧
     (List.length (List.drop (0 : Nat) (List.take (List.length l_1) l_1) ++ [List.getD l (Int.toNat a) (0 : UInt8) ^^^ w]) =
  List.length (List.drop (0 : Nat) (List.take (List.length l_1) l_1) ++ [List.getD l (Int.toNat a) (0 : UInt8) ^^^ w]))) ∧
    (((l, w, ()) = (l, w, ())) ∧
    ((iW w l (List.drop (0 : Nat) (List.take (List.length l_1) l_1) ++ [List.getD l (Int.toNat a) (0 : UInt8) ^^^ w])
  (IntKind.wrap IntKind.i64 (a + (1 : Int)))) ∧
    (Int.toNat ((↑(List.length l) : Int) - IntKind.wrap IntKind.i64 (a + (1 : Int))) <
  Int.toNat ((↑(List.length l) : Int) - a))))))))
    ((Q (SV.lst (LV.bytes (List.drop (0 : Nat) (List.take ((0 : Nat) + List.length l_1) l_1))))))))))) := by kernel_rfl
theorem vcRMac (k b : List UInt8) (Q : SV → Prop) : LnRaw tt spRMac 9 [] {} Tryd.f12 Q (k, b, ()) =
  ((List.length k ≤ (1073741824 : Nat)) ∧
  ((List.length (pkV k) ≤ (1073741824 : Nat)) ∧
  ((((0 : Nat) + List.length (xBo (UInt8.ofNat (Int.toNat (54 : Int))) (pkV k)) =
  List.length (xBo (UInt8.ofNat (Int.toNat (54 : Int))) (pkV k))) ∧
   (List.length
    (List.drop (0 : Nat)
        (List.take (List.length (xBo (UInt8.ofNat (Int.toNat (54 : Int))) (pkV k)))
          (xBo (UInt8.ofNat (Int.toNat (54 : Int))) (pkV k))) ++
      b) ≤
  appLim)) ∧
  ((List.length
    (List.drop (0 : Nat)
      (List.take
        ((0 : Nat) +
          List.length
            (List.drop (0 : Nat)
                (List.take (List.length (xBo (UInt8.ofNat (Int.toNat (54 : Int))) (pkV k)))
                  (xBo (UInt8.ofNat (Int.toNat (54 : Int))) (pkV k))) ++
              b))
        (List.drop (0 : Nat)
            (List.take (List.length (xBo (UInt8.ofNat (Int.toNat (54 : Int))) (pkV k)))
              (xBo (UInt8.ofNat (Int.toNat (54 : Int))) (pkV k))) ++
          b))) ≤
  (1073741824 : Nat)) ∧
  ((List.length (pkV k) ≤ (1073741824 : Nat)) ∧
  ((((0 : Nat) + List.length (xBo (UInt8.ofNat (Int.toNat (92 : Int))) (pkV k)) =
  List.length (xBo (UInt8.ofNat (Int.toNat (92 : Int))) (pkV k))) ∧
   (List.length
    (List.drop (0 : Nat)
        (List.take (List.length (xBo (UInt8.ofNat (Int.toNat (92 : Int))) (pkV k)))
          (xBo (UInt8.ofNat (Int.toNat (92 : Int))) (pkV k))) ++
      digV
        (List.drop (0 : Nat)
          (List.take
            ((0 : Nat) +
              List.length
                (List.drop (0 : Nat)
                    (List.take (List.length (xBo (UInt8.ofNat (Int.toNat (54 : Int))) (pkV k)))
                      (xBo (UInt8.ofNat (Int.toNat (54 : Int))) (pkV k))) ++
                  b))
            (List.drop (0 : Nat)
                (List.take (List.length (xBo (UInt8.ofNat (Int.toNat (54 : Int))) (pkV k)))
                  (xBo (UInt8.ofNat (Int.toNat (54 : Int))) (pkV k))) ++
              b)))) ≤
  appLim)) ∧
  ((List.length
    (List.drop (0 : Nat)
      (List.take
        ((0 : Nat) +
          List.length
            (List.drop (0 : Nat)
                (List.take (List.length (xBo (UInt8.ofNat (Int.toNat (92 : Int))) (pkV k)))
                  (xBo (UInt8.ofNat (Int.toNat (92 : Int))) (pkV k))) ++
              digV
                (List.drop (0 : Nat)
                  (List.take
                    ((0 : Nat) +
                      List.length
                        (List.drop (0 : Nat)
                            (List.take (List.length (xBo (UInt8.ofNat (Int.toNat (54 : Int))) (pkV k)))
                              (xBo (UInt8.ofNat (Int.toNat (54 : Int))) (pkV k))) ++
                          b))
                    (List.drop (0 : Nat)
                        (List.take (List.length (xBo (UInt8.ofNat (Int.toNat (54 : Int))) (pkV k)))
                          (xBo (UInt8.ofNat (Int.toNat (54 : Int))) (pkV k))) ++
                      b)))))
        (List.drop (0 : Nat)
            (List.take (List.length (xBo (UInt8.ofNat (Int.toNat (92 : Int))) (pkV k)))
              (xBo (UInt8.ofNat (Int.toNat (92 : Int))) (pkV k))) ++
          digV
            (List.drop (0 : Nat)
              (List.take
                ((0 : Nat) +
                  List.length
                    (List.drop (0 : Nat)
                        (List.take (List.length (xBo (UInt8.ofNat (Int.toNat (54 : Int))) (pkV k)))
                          (xBo (UInt8.ofNat (Int.toNat (54 : Int))) (pkV k))) ++
                      b))
                (List.drop (0 : Nat)
                    (List.take (List.length (xBo (UInt8.ofNat (Int.toNat (54 : Int))) (pkV k)))
                      (xBo (UInt8.ofNat (Int.toNat (54 : Int))) (pkV k))) ++
                  b)))))) ≤
  (1073741824 : Nat)) ∧
  (Q
  (SV.lst
    (LV.bytes
      (digV
        (List.drop (0 : Nat)
          (List.take
            ((0 : Nat) +
              List.length
                (List.drop (0 : Nat)
                    (List.take (List.length (xBo (UInt8.ofNat (Int.toNat (92 : Int))) (pkV k)))
                      (xBo (UInt8.ofNat (Int.toNat (92 : Int))) (pkV k))) ++
                  digV
                    (List.drop (0 : Nat)
                      (List.take
                        ((0 : Nat) +
                          List.length
                            (List.drop (0 : Nat)
                                (List.take (List.length (xBo (UInt8.ofNat (Int.toNat (54 : Int))) (pkV k)))
                                  (xBo (UInt8.ofNat (Int.toNat (54 : Int))) (pkV k))) ++
                              b))
                        (List.drop (0 : Nat)
                            (List.take (List.length (xBo (UInt8.ofNat (Int.toNat (54 : Int))) (pkV k)))
                              (xBo (UInt8.ofNat (Int.toNat (54 : Int))) (pkV k))) ++
                          b)))))
            (List.drop (0 : Nat)
                (List.take (List.length (xBo (UInt8.ofNat (Int.toNat (92 : Int))) (pkV k)))
                  (xBo (UInt8.ofNat (Int.toNat (92 : Int))) (pkV k))) ++
              digV
                (List.drop (0 : Nat)
                  (List.take
                    ((0 : Nat) +
                      List.length
                        (List.drop (0 : Nat)
                            (List.take (List.length (xBo (UInt8.ofNat (Int.toNat (54 : Int))) (pkV k)))
                              (xBo (UInt8.ofNat (Int.toNat (54 : Int))) (pkV k))) ++
                          b))
                    (List.drop (0 : Nat)
                        (List.take (List.length (xBo (UInt8.ofNat (Int.toNat (54 : Int))) (pkV k)))
                          (xBo (UInt8.ofNat (Int.toNat (54 : Int))) (pkV k))) ++
                      b))))))))))))))))) := by kernel_rfl
end Go.Proofs.YtomoihkepkmgdaaDoor.H7
/- Layer 7: sums under keys: the bodies hold. -/
set_option maxRecDepth 10000
namespace Go.Proofs.YtomoihkepkmgdaaDoor.H7
open Go.Sym Go.Dig R1 H5
theorem split_at {l : List UInt8} {i : Nat} (h : i < l.length) : ∃ a x b, l = a ++ x :: b ∧ a.length = i ∧ l.take i = a ∧ l.drop i = x :: b ∧ l.take (i+1) = a ++ [x] ∧ l.drop (i+1) = b ∧ l.getD i 0 = x := by
  refine ⟨l.take i, l[i], l.drop (i+1), ?_, by simp; omega, rfl, List.drop_eq_getElem_cons h, List.take_succ_eq_append_getElem h, rfl, by simp [h]⟩
  rw [← List.drop_eq_getElem_cons h, List.take_append_drop]
theorem set_mid (w : UInt8) (l : List UInt8) (i : Nat) (h : i < l.length) : (xB w (l.take i) ++ l.drop i).set i ((xB w (l.take i) ++ l.drop i).getD i 0 ^^^ w) = xB w (l.take (i+1)) ++ l.drop (i+1) := by
  obtain ⟨a, x, b, -, ha, e1, e2, e3, e4, -⟩ := split_at h
  unfold xB
  rw [e1, e2, e3, e4]
  have hl : (a.map (· ^^^ w)).length = i := by simpa using ha
  rw [List.set_append_right _ _ (by omega), List.getD_eq_getElem?_getD, List.getElem?_append_right (by omega), hl, Nat.sub_self, List.map_append]
  simp
theorem takes {a b : List UInt8} {i : Nat} (h : i < a.length) (h' : i < b.length) : a.take (i+1) = b.take (i+1) ↔ a.take i = b.take i ∧ a.getD i 0 = b.getD i 0 := by
  obtain ⟨a1, x, a2, -, ha, e1, e2, e3, e4, e5⟩ := split_at h
  obtain ⟨b1, y, b2, -, hb, f1, f2, f3, f4, f5⟩ := split_at h'
  rw [e1, f1, e3, f3, e5, f5]
  constructor
  · intro h
    obtain ⟨k1, k2⟩ := List.append_inj h (by omega)
    exact ⟨k1, by simpa using k2⟩
  · rintro ⟨rfl, rfl⟩; rfl
theorem xB_len (w : UInt8) (l : List UInt8) : (xB w l).length = l.length := List.length_map ..
theorem pad_len {l : List UInt8} (h : l.length ≤ 64) : (pad64 l).length = 64 := by rw [pad64, List.length_append, List.length_replicate]; omega
theorem kV_len (k : List UInt8) : (kV k).length ≤ 64 := by
  unfold kV
  split
  · rw [digV_len]; decide
  · omega
theorem blkV_len (k : List UInt8) (w : UInt8) : (blkV k w).length = 64 := by rw [blkV_eq, blkV0, xB_len, pad_len (kV_len k)]
theorem start {l : List UInt8} (h : l.length ≤ 64) : [] ++ List.drop 0 (List.take (Int.toNat 64) l) ++ List.drop (0 + (List.drop 0 (List.take (Int.toNat 64) l)).length) (List.replicate 64 0) = pad64 l := by
  rw [List.take_of_length_le (show l.length ≤ Int.toNat 64 from h), List.drop_zero, List.nil_append, Nat.zero_add, List.drop_replicate]
  rfl
theorem iX_step {l0 o : List UInt8} {w : UInt8} {i : Int} (h : iX l0 w o i) (hi : i < 64) : (0 ≤ i ∧ i < o.length) ∧ o.length = (o.set (0 + i.toNat) (o.getD (0 + i.toNat) 0 ^^^ w)).length ∧ iX l0 w (o.set (0 + i.toNat) (o.getD (0 + i.toNat) 0 ^^^ w)) (IntKind.wrap .i64 (i + 1)) := by
  obtain ⟨h0, h1, h2, rfl⟩ := h
  have hl : (xB w (l0.take i.toNat) ++ l0.drop i.toNat).length = 64 := by rw [List.length_append, xB_len, List.length_take, List.length_drop]; omega
  refine ⟨⟨h0, by omega⟩, (List.length_set ..).symm, ?_⟩
  rw [wr (by omega), Nat.zero_add, set_mid _ _ _ (by omega)]
  exact ⟨by omega, by omega, h2, by rw [show (i + 1).toNat = i.toNat + 1 by omega]⟩
theorem iX_end {l0 o : List UInt8} {w : UInt8} {i : Int} (h : iX l0 w o i) (hi : ¬ i < 64) : List.drop 0 (List.take (0 + o.length) o) = xB w l0 := by
  obtain ⟨h0, h1, h2, rfl⟩ := h
  rw [fz, List.take_of_length_le (by omega), List.drop_of_length_le (by omega), List.append_nil]
theorem spBlk_ok : SpecsOK Tryd.prog spBlk := .consF ok_DSumF (.nil _)
theorem fl {l : List UInt8} : List.drop 0 (List.take (0 + l.length) l) = l := fz l
theorem ok_Blk : FSpecOK Tryd.prog 32 sBlk := by
  unfold sBlk
  rw [blkV_eq]
  refine fn_okF (by kernel_rfl) tt_ok spBlk_ok 9 Tryd.func32 (by decide +kernel) (by kernel_rfl) ?_
  rintro ⟨k, w, _⟩ hk
  replace hk : k.length ≤ 1073741824 := hk
  refine ⟨[], lBlk (pad64 (kV k)) w, fun x => x = .lst (.bytes (blkV0 k w)), LfVD.of (vcBlk (pad64 (kV k)) k w _) ?_, fun x h at_ n w v r => by have h' : x = _ := h; subst h'; exact r⟩
  have k0 := pad_len (kV_len k)
  have hb : ∀ (l : List UInt8) (hl : l.length ≤ 64) (e : l = kV k), iX (pad64 (kV k)) w ([] ++ List.drop 0 (List.take (Int.toNat 64) l) ++ List.drop (0 + (List.drop 0 (List.take (Int.toNat 64) l)).length) (List.replicate 64 0)) 0 := by
    intro l hl e
    rw [start hl, ← e]
    rw [← e] at k0
    exact ⟨by omega, by omega, k0, by simp [xB]⟩
  rw [bcase_dec]
  refine ⟨fun h => ?_, fun h => ?_⟩
  · have e : digV k = kV k := by unfold kV; rw [if_pos (by omega)]
    have hl : (digV k).length ≤ 64 := by rw [digV_len]; decide
    rw [fl]
    refine ⟨hk, ⟨by decide, rfl, by decide⟩, ⟨rfl, ?_⟩, hb _ hl e, ?_⟩
    · have := congrArg List.length (start hl)
      rw [pad_len hl] at this
      exact this.symm
    · intro o i hX
      rw [bcase_dec]
      refine ⟨fun hi => ?_, fun hi => ?_⟩
      · replace hi : i < 64 := hi
        obtain ⟨s1, s2, s3⟩ := iX_step hX hi
        refine ⟨s1, s1, ⟨rfl, s2⟩, rfl, s3, ?_⟩
        rw [wr (by omega)]; omega
      · replace hi : ¬ i < 64 := hi
        rw [iX_end hX hi]; rfl
  · have e : k = kV k := by unfold kV; rw [if_neg (by omega)]
    have hl : k.length ≤ 64 := by omega
    refine ⟨⟨by decide, rfl, by decide⟩, ⟨rfl, ?_⟩, hb _ hl e, ?_⟩
    · have := congrArg List.length (start hl)
      rw [pad_len hl] at this
      exact this.symm
    · intro o i hX
      rw [bcase_dec]
      refine ⟨fun hi => ?_, fun hi => ?_⟩
      · replace hi : i < 64 := hi
        obtain ⟨s1, s2, s3⟩ := iX_step hX hi
        refine ⟨s1, s1, ⟨rfl, s2⟩, rfl, s3, ?_⟩
        rw [wr (by omega)]; omega
      · replace hi : ¬ i < 64 := hi
        rw [iX_end hX hi]; rfl
/-! The sum. -/
theorem spMac_ok : SpecsOK Tryd.prog spMac := .consF ok_NewH <| .consN ok_WriteO <| .consF ok_HSumO <| .consF ok_Blk (.nil _)
theorem c54 : UInt8.ofNat (Int.toNat (54 : Int)) = 54 := rfl
theorem c92 : UInt8.ofNat (Int.toNat (92 : Int)) = 92 := rfl
theorem hs0 (p : List UInt8) : absT beg (rOf (hv []) p) = absT beg p := hs [] p
theorem hr0 (p : List UInt8) : absR (rOf (hv []) p) = absR p := hr [] p
theorem hn0 (p : List UInt8) : nOf (hv []) p = UInt64.ofInt (p.length : Int) := hn [] p
theorem r0 (p : List UInt8) : rOf (hv []) p = p := rfl
theorem flat_le : ∀ (l : List (List UInt8)) (n : Nat), (∀ p ∈ l, p.length ≤ n) → l.flatten.length ≤ n * l.length
  | [], n, _ => by simp
  | p :: l, n, h => by
    have h1 := flat_le l n fun q hq => h q (List.mem_cons_of_mem _ hq)
    have h2 := h p List.mem_cons_self
    rw [List.flatten_cons, List.length_append, List.length_cons, Nat.mul_succ]
    omega
theorem hvd (t : List UInt8) : List.drop (hv t).lo (List.take ((hv t).lo + (hv t).len) (hv t).l) = absR t := fz (absR t)
theorem hd' (t : List UInt8) : sumO (OH.some (RoH.mk (hv t).s (absR t) (hv t).n)) = digV t := hd t
theorem ok_Mac : FSpecOK Tryd.prog 11 sMac := by
  unfold sMac
  rw [macV_eq]
  refine fn_okF (by kernel_rfl) tt_ok spMac_ok 9 Tryd.func11 (by decide +kernel) (by kernel_rfl) ?_
  rintro ⟨k, l, _⟩ ⟨hkl, hl, hp⟩
  replace hkl : k.length ≤ 1073741824 := hkl
  replace hl : l.length ≤ 1000000 := hl
  replace hp : ∀ p ∈ l, p.length ≤ 1000000 := hp
  refine ⟨[], lMac k l, fun x => x = .lst (.bytes (macV0 k l.flatten)), LfVD.of (vcMac k l _) ?_, fun x h at_ n w v r => by have h' : x = _ := h; subst h'; exact r⟩
  have b1 := blkV_len k 54
  have b2 := blkV_len k 92
  simp only [c54, c92, hv0, tz, hs0, hr0, hn0, hk, r0]
  refine ⟨hkl, ⟨trivial, by simp only [appLim]; omega, by omega⟩, ⟨by omega, by omega, by simp⟩, ?_⟩
  rintro v i ⟨h0, h1, rfl⟩
  have hfl : ∀ m : Nat, (l.take m).flatten.length ≤ 1000000 * l.length := by
    intro m
    refine Nat.le_trans (flat_le _ 1000000 fun q hq => hp q (List.mem_of_mem_take hq)) (Nat.mul_le_mul_left _ ?_)
    rw [List.length_take]; omega
  rw [bcase_dec]
  refine ⟨fun hi => ?_, fun hi => ?_⟩
  · have ef : (l.take (i.toNat + 1)).flatten = (l.take i.toNat).flatten ++ l.getD i.toNat [] := take_flat (by omega)
    have hm : (l.getD i.toNat []).length ≤ 1000000 := by
      rw [List.getD_eq_getElem?_getD, List.getElem?_eq_getElem (show i.toNat < l.length by omega)]
      exact hp _ (List.getElem_mem _)
    have l1 := absR_len (blkV k 54 ++ (l.take i.toNat).flatten)
    refine ⟨⟨h0, hi⟩, ⟨Nat.zero_add _, ?_, trivial⟩, trivial, ⟨?_, ?_, ?_⟩, ?_⟩
    · rw [rl]; simp only [appLim]; omega
    · rw [wr (by omega)]; omega
    · rw [wr (by omega)]; omega
    · simp only [hs, hr, hn, hk]
      rw [wr (by omega), show (i + 1).toNat = i.toNat + 1 by omega, ef, ← List.append_assoc]
    · rw [wr (by omega)]; omega
  · have et : l.take i.toNat = l := List.take_of_length_le (by omega)
    have l1 := absR_len (blkV k 54 ++ l.flatten)
    have l2 := absR_len (blkV k 92)
    have l3 := absR_len (blkV k 92 ++ digV (blkV k 54 ++ l.flatten))
    simp only [et, hvd, hd', hs, hr, hn, hk, hs', fz, hd]
    have ld := digV_len (blkV k 54 ++ l.flatten)
    refine ⟨hkl, ⟨trivial, by simp only [appLim]; omega, by omega⟩, by omega, ⟨Nat.zero_add _, ?_, by omega⟩, by omega, ?_⟩
    · rw [rl]; simp only [appLim]; omega
    · rfl
/-! Are two the same? -/
theorem ok_SameM : SpecOK Tryd.prog 13 sSameM := by
  refine fn_okL (by kernel_rfl) tt_ok (.nil _) 9 Tryd.func13 (by decide +kernel) (by kernel_rfl) ?_
  rintro ⟨a, b, _⟩ ha
  replace ha : a.length ≤ 1073741824 := ha
  refine ⟨[], lSameM a b, fun x => x = .bool (decide (a = b)), LnVD.of (vcSameM a b _) ?_, svf⟩
  rw [bcase_iff]
  refine ⟨fun h => ?_, fun h => ?_⟩
  · have h' := bne_iff_ne.1 h
    have : a ≠ b := fun e => h' (by rw [e])
    show SV.bool false = _
    rw [decide_eq_false this]
  · have e : a.length = b.length := by
      have : ¬ ((a.length : Int) ≠ (b.length : Int)) := fun k => by rw [bne_iff_ne.2 k] at h; cases h
      omega
    refine ⟨⟨by omega, by omega, by simp⟩, ?_⟩
    rintro d i ⟨h0, h1, h2⟩
    rw [bcase_dec]
    refine ⟨fun hi => ⟨⟨h0, hi⟩, ⟨h0, by omega⟩, rfl, ?_, ?_⟩, fun hi => ?_⟩
    · rw [wr (by omega)]
      refine ⟨by omega, by omega, ?_⟩
      rw [show (i + 1).toNat = i.toNat + 1 by omega, takes (by omega) (by omega), UInt8.or_eq_zero_iff, UInt8.xor_eq_zero_iff, h2]
    · rw [wr (by omega)]; omega
    · rw [List.take_of_length_le (by omega), List.take_of_length_le (by omega)] at h2
      show SV.bool (d == 0) = _
      congr 1
      rw [← Bool.coe_iff_coe, beq_iff_eq, decide_eq_true_iff]
      exact h2
/-! The reference. -/
theorem ap1 {l : List UInt8} {x : UInt8} : List.drop 0 (List.take l.length l) ++ [x] = l ++ [x] := by rw [List.take_length]; rfl
theorem iK_start {l : List UInt8} (h : l.length ≤ 64) : iK l ([] ++ l) := ⟨0, by simp, by simpa using h⟩
theorem iK_step {l0 o : List UInt8} (h : iK l0 o) (ho : o.length < 64) : iK l0 (o ++ [UInt8.ofNat (Int.toNat (0 : Int))]) := by
  obtain ⟨n, rfl, h2⟩ := h
  refine ⟨n + 1, by rw [List.replicate_succ', List.append_assoc]; rfl, ?_⟩
  rw [List.length_append]; exact ho
theorem iK_end {l0 o : List UInt8} (h : iK l0 o) (ho : ¬ o.length < 64) : o = pad64 l0 := by
  obtain ⟨n, rfl, h2⟩ := h
  rw [List.length_append, List.length_replicate] at h2 ho
  unfold pad64
  congr 2; omega
theorem spRB_ok : SpecsOK Tryd.prog spRB := .cons ok_RSum (.nil _)
theorem ok_RBlk : SpecOK Tryd.prog 34 sRBlk := by
  unfold sRBlk
  rw [pkV_eq]
  refine fn_okL (by kernel_rfl) tt_ok spRB_ok 9 Tryd.func34 (by decide +kernel) (by kernel_rfl) ?_
  rintro ⟨k, _⟩ hkl
  replace hkl : k.length ≤ 1073741824 := hkl
  refine ⟨[], lRBlk (kV k), fun x => x = .lst (.bytes (pkV0 k)), LnVD.of (vcRBlk (kV k) k _) ?_, svf⟩
  have hb : ∀ o : List UInt8, iK (kV k) o → bcase (decide ((o.length : Int) < 64)) ((0 + o.length = o.length ∧ (List.drop 0 (List.take o.length o) ++ [UInt8.ofNat (Int.toNat (0 : Int))]).length ≤ appLim) ∧ (0 = 0 ∧ (List.drop 0 (List.take o.length o) ++ [UInt8.ofNat (Int.toNat (0 : Int))]).length = (List.drop 0 (List.take o.length o) ++ [UInt8.ofNat (Int.toNat (0 : Int))]).length) ∧ () = () ∧ iK (kV k) (List.drop 0 (List.take o.length o) ++ [UInt8.ofNat (Int.toNat (0 : Int))]) ∧ 64 - (List.drop 0 (List.take o.length o) ++ [UInt8.ofNat (Int.toNat (0 : Int))]).length < 64 - o.length) (SV.lst (.bytes (List.drop 0 (List.take (0 + o.length) o))) = .lst (.bytes (pkV0 k))) := by
    intro o hK
    rw [bcase_dec, ap1]
    refine ⟨fun h => ⟨⟨Nat.zero_add _, ?_⟩, ⟨rfl, rfl⟩, rfl, iK_step hK (by omega), ?_⟩, fun h => ?_⟩
    · rw [List.length_append, List.length_singleton]; simp only [appLim]; omega
    · rw [List.length_append, List.length_singleton]; omega
    · rw [fl, iK_end hK (by omega)]; rfl
  rw [bcase_dec]
  refine ⟨fun h => ?_, fun h => ?_⟩
  · have e : kV k = digV k := by unfold kV; rw [if_pos (by omega)]
    have hl : (digV k).length ≤ 64 := by rw [digV_len]; decide
    refine ⟨hkl, by simp only [appLim, List.nil_append]; omega, ⟨rfl, rfl⟩, ?_, hb⟩
    rw [e]; exact iK_start hl
  · have e : kV k = k := by unfold kV; rw [if_neg (by omega)]
    refine ⟨by simp only [appLim, List.nil_append]; omega, ⟨rfl, rfl⟩, ?_, hb⟩
    rw [e]; exact iK_start (by omega)
theorem ok_With : FSpecOK Tryd.prog 36 sWith := by
  unfold sWith
  rw [xBo_eq]
  refine fn_okF (by kernel_rfl) tt_ok (.nil _) 9 Tryd.func36 (by decide +kernel) (by kernel_rfl) ?_
  rintro ⟨l, w, _⟩ hl
  replace hl : l.length ≤ 1073741824 := hl
  refine ⟨[], lWith l w, fun x => x = .lst (.bytes (xB w l)), LfVD.of (vcWith l w _) ?_, fun x h at_ n w v r => by have h' : x = _ := h; subst h'; exact r⟩
  refine ⟨⟨rfl, rfl⟩, ⟨by omega, by omega, rfl⟩, ?_⟩
  rintro o i ⟨h0, h1, rfl⟩
  have lo : (xB w (l.take i.toNat)).length = i.toNat := by rw [xB_len, List.length_take]; omega
  rw [bcase_dec, ap1, fl]
  refine ⟨fun hi => ⟨⟨h0, hi⟩, ⟨Nat.zero_add _, ?_⟩, ⟨rfl, rfl⟩, rfl, ⟨?_, ?_, ?_⟩, ?_⟩, fun hi => ?_⟩
  · rw [List.length_append, List.length_singleton]; simp only [appLim]; omega
  · rw [wr (by omega)]; omega
  · rw [wr (by omega)]; omega
  · obtain ⟨a, x, b, -, ha, e1, e2, e3, e4, e5⟩ := split_at (show i.toNat < l.length by omega)
    rw [wr (by omega), show (i + 1).toNat = i.toNat + 1 by omega, e1, e3, e5]
    simp [xB]
  · rw [wr (by omega)]; omega
  · rw [List.take_of_length_le (by omega)]
theorem spRMac_ok : SpecsOK Tryd.prog spRMac := .cons ok_RBlk <| .consF ok_With <| .cons ok_RSum (.nil _)
theorem xpk (k : List UInt8) (w : UInt8) : xBo w (pkV k) = blkV k w := by rw [xBo_eq, pkV_eq, blkV_eq]; rfl
theorem tf {l : List UInt8} : List.drop 0 (List.take l.length l) = l := by rw [List.take_length]; rfl
theorem ok_RMac : SpecOK Tryd.prog 12 sRMac := by
  unfold sRMac
  rw [macV_eq]
  refine fn_okL (by kernel_rfl) tt_ok spRMac_ok 9 Tryd.func12 (by decide +kernel) (by kernel_rfl) ?_
  rintro ⟨k, b, _⟩ ⟨hkl, hb⟩
  replace hkl : k.length ≤ 1073741824 := hkl
  replace hb : b.length ≤ 1000000000 := hb
  refine ⟨[], {}, fun x => x = .lst (.bytes (macV0 k b)), LnVD.of (vcRMac k b _) ?_, svf⟩
  have hp : (pkV k).length = 64 := by rw [pkV_eq]; exact pad_len (kV_len k)
  have b1 := blkV_len k 54
  have b2 := blkV_len k 92
  have ld := digV_len (blkV k 54 ++ b)
  simp only [c54, c92, xpk, fl, tf]
  simp only [List.length_append]
  refine ⟨hkl, by omega, ⟨by omega, ?_⟩, by omega, by omega, ⟨by omega, ?_⟩, by omega, rfl⟩
  all_goals simp only [appLim]
  all_goals omega
end Go.Proofs.YtomoihkepkmgdaaDoor.H7
/- Layer 7: the references' sums give a list of their own. -/
set_option maxRecDepth 10000
namespace Go.Proofs.YtomoihkepkmgdaaDoor.H5
open Go.Sym Go.Dig R1
theorem vcRSumF (b : List UInt8) (Q : SV → Prop) : LfRaw tt spS5 9 [] (lRSum b) Tryd.f35 Q (b, ()) =
  ((List.length ([] ++ b) ≤ appLim) ∧
  ((((0 : Nat) + List.length ([] ++ b) = List.length ([] ++ b)) ∧
   (List.length
    (List.drop (0 : Nat) (List.take (List.length ([] ++ b)) ([] ++ b)) ++ [UInt8.ofNat (Int.toNat (128 : Int))]) ≤
  appLim)) ∧
  ((((0 : Nat) = (0 : Nat)) ∧
   (List.length
    (List.drop (0 : Nat) (List.take (List.length ([] ++ b)) ([] ++ b)) ++ [UInt8.ofNat (Int.toNat (128 : Int))]) =
  List.length
    (List.drop (0 : Nat) (List.take (List.length ([] ++ b)) ([] ++ b)) ++ [UInt8.ofNat (Int.toNat (128 : Int))]))) ∧
  ((iZ b (List.drop (0 : Nat) (List.take (List.length ([] ++ b)) ([] ++ b)) ++ [UInt8.ofNat (Int.toNat (128 : Int))])) ∧
  (∀ l : List UInt8,
  ((iZ b l) →
  bcase (Int.tmod (↑(List.length l) : Int) (64 : Int) != (56 : Int))
    (((((0 : Nat) + List.length l = List.length l) ∧
     (List.length (List.drop (0 : Nat) (List.take (List.length l) l) ++ [UInt8.ofNat (Int.toNat (0 : Int))]) ≤ appLim)) ∧
    ((((0 : Nat) = (0 : Nat)) ∧
     (List.length (List.drop (0 : Nat) (List.take (List.length l) l) ++ [UInt8.ofNat (Int.toNat (0 : Int))]) =
  List.length (List.drop (0 : Nat) (List.take (List.length l) l) ++ [UInt8.ofNat (Int.toNat (0 : Int))]))) ∧
    (((b, ()) = (b, ())) ∧
    ((iZ b (List.drop (0 : Nat) (List.take (List.length l) l) ++ [UInt8.ofNat (Int.toNat (0 : Int))])) ∧
    (zn (List.length b) + List.length b + (1 : Nat) -
    List.length (List.drop (0 : Nat) (List.take (List.length l) l) ++ [UInt8.ofNat (Int.toNat (0 : Int))]) <
  zn (List.length b) + List.length b + (1 : Nat) - List.length l))))))
    (((((0 : Int) ≤ IntKind.wrap IntKind.i64 ((8 : Int) * (↑(List.length b) : Int))) ∧
     (IntKind.wrap IntKind.i64 ((8 : Int) * (↑(List.length b) : Int)) < (9223372036854775808 : Int))) ∧
    (((Dg (dg (Int.toNat (IntKind.wrap IntKind.i64 ((8 : Int) * (↑(List.length b) : Int)))))) ∧
     (((0 : Int) ≤ (8 : Int)) ∧
     ((8 : Int) ≤ (1048576 : Int)))) ∧
    ((((0 : Nat) + List.length l = List.length l) ∧
     (List.length
    (List.drop (0 : Nat) (List.take (List.length l) l) ++
      List.reverse
        (bytesN (nv (dg (Int.toNat (IntKind.wrap IntKind.i64 ((8 : Int) * (↑(List.length b) : Int))))))
          (Int.toNat (8 : Int)))) ≤
  appLim)) ∧
    (((((0 : Nat) = (0 : Nat)) ∧
      (List.length
    (List.drop (0 : Nat) (List.take (List.length l) l) ++
      List.reverse
        (bytesN (nv (dg (Int.toNat (IntKind.wrap IntKind.i64 ((8 : Int) * (↑(List.length b) : Int))))))
          (Int.toNat (8 : Int)))) =
  List.length
    (List.drop (0 : Nat) (List.take (List.length l) l) ++
      List.reverse
        (bytesN (nv (dg (Int.toNat (IntKind.wrap IntKind.i64 ((8 : Int) * (↑(List.length b) : Int))))))
          (Int.toNat (8 : Int)))))) ∧
     (((0 : Nat) = (0 : Nat)) ∧
     (List.length (St8.l beg) = List.length (St8.l beg)))) ∧
    ((iH (mR b)
  (List.drop (0 : Nat) (List.take (List.length l) l) ++
    List.reverse
      (bytesN (nv (dg (Int.toNat (IntKind.wrap IntKind.i64 ((8 : Int) * (↑(List.length b) : Int))))))
        (Int.toNat (8 : Int))))
  beg (0 : Int)) ∧
    (∀ l_1 : List UInt8,
    (∀ v : St8,
    (∀ a : Int,
    ((iH (mR b) l_1 v a) →
    bcase (decide (a < (↑(List.length l_1) : Int)))
      (((((0 : Int) ≤ a) ∧
       ((a ≤ IntKind.wrap IntKind.i64 (a + (64 : Int))) ∧
       (IntKind.wrap IntKind.i64 (a + (64 : Int)) ≤ (↑(List.length l_1) : Int)))) ∧
      ((List.length
    (List.drop ((0 : Nat) + Int.toNat a)
      (List.take ((0 : Nat) + Int.toNat a + (Int.toNat (IntKind.wrap IntKind.i64 (a + (64 : Int))) - Int.toNat a))
        l_1)) =
  (64 : Nat)) ∧
      (((((0 : Nat) = (0 : Nat)) ∧
        (List.length l_1 = List.length l_1)) ∧
       (((0 : Nat) = (0 : Nat)) ∧
       (List.length
    (St8.l
      (mixV v
        (List.drop ((0 : Nat) + Int.toNat a)
          (List.take ((0 : Nat) + Int.toNat a + (Int.toNat (IntKind.wrap IntKind.i64 (a + (64 : Int))) - Int.toNat a))
            l_1)))) =
  List.length
    (St8.l
      (mixV v
        (List.drop ((0 : Nat) + Int.toNat a)
          (List.take ((0 : Nat) + Int.toNat a + (Int.toNat (IntKind.wrap IntKind.i64 (a + (64 : Int))) - Int.toNat a))
            l_1))))))) ∧
      (((b, ()) = (b, ())) ∧
      ((iH (mR b) l_1
  (mixV v
    (List.drop ((0 : Nat) + Int.toNat a)
      (List.take ((0 : Nat) + Int.toNat a + (Int.toNat (IntKind.wrap IntKind.i64 (a + (64 : Int))) - Int.toNat a))
        l_1)))
  (IntKind.wrap IntKind.i64 (a + (64 : Int)))) ∧
      (Int.toNat ((↑(List.length l_1) : Int) - IntKind.wrap IntKind.i64 (a + (64 : Int))) <
  Int.toNat ((↑(List.length l_1) : Int) - a))))))))
      ((((((0 : Nat) = (0 : Nat)) ∧
        ((8 : Nat) = List.length (St8.l v))) ∧
       (((0 : Nat) = (0 : Nat)) ∧
       ((0 : Nat) = (0 : Nat)))) ∧
      (((v = v) ∧
       (iO v [] (0 : Int))) ∧
      (∀ v_1 : St8,
      (∀ l_2 : List UInt8,
      (∀ a_1 : Int,
      (((v_1 = v) ∧
      (iO v l_2 a_1)) →
      bcase (decide (a_1 < (8 : Int)))
        (((((0 : Int) ≤ a_1) ∧
         (a_1 < (↑(8 : Nat) : Int))) ∧
        (((1 : Nat) ≤ (1048576 : Nat)) ∧
        (((Dg (dg (wv [UInt32.toUInt64 (List.getD (St8.l v_1) ((0 : Nat) + Int.toNat a_1) (0 : UInt32))]))) ∧
         (((0 : Int) ≤ (4 : Int)) ∧
         ((4 : Int) ≤ (1048576 : Int)))) ∧
        ((((0 : Nat) + List.length l_2 = List.length l_2) ∧
         (List.length
    (List.drop (0 : Nat) (List.take (List.length l_2) l_2) ++
      List.reverse
        (bytesN (nv (dg (wv [UInt32.toUInt64 (List.getD (St8.l v_1) ((0 : Nat) + Int.toNat a_1) (0 : UInt32))])))
          (Int.toNat (4 : Int)))) ≤
  appLim)) ∧
        (((((0 : Nat) = (0 : Nat)) ∧
          ((8 : Nat) = List.length (St8.l v_1))) ∧
         (((0 : Nat) = (0 : Nat)) ∧
         (List.length
    (List.drop (0 : Nat) (List.take (List.length l_2) l_2) ++
      List.reverse
        (bytesN (nv (dg (wv [UInt32.toUInt64 (List.getD (St8.l v_1) ((0 : Nat) + Int.toNat a_1) (0 : UInt32))])))
          (Int.toNat (4 : Int)))) =
  List.length
    (List.drop (0 : Nat) (List.take (List.length l_2) l_2) ++
      List.reverse
        (bytesN (nv (dg (wv [UInt32.toUInt64 (List.getD (St8.l v_1) ((0 : Nat) + Int.toNat a_1) (0 : UInt32))])))
          (Int.toNat (4 : Int))))))) ∧
        ((() = ()) ∧
        (((v_1 = v) ∧
         (iO v
  (List.drop (0 : Nat) (List.take (List.length l_2) l_2) ++
    List.reverse
      (bytesN (nv (dg (wv [UInt32.toUInt64 (List.getD (St8.l v_1) ((0 : Nat) + Int.toNat a_1) (0 : UInt32))])))
        (Int.toNat (4 : Int))))
  (IntKind.wrap IntKind.i64 (a_1 + (1 : Int))))) ∧
        (Int.toNat ((8 : Int) - IntKind.wrap IntKind.i64 (a_1 + (1 : Int))) < Int.toNat ((8 : Int) - a_1))))))))))
        ((Q (SV.lst (LV.bytes (List.drop (0 : Nat) (List.take ((0 : Nat) + List.length l_2) l_2))))))))))))))))))))))))))))) := by kernel_rfl
theorem ok_RSumF : FSpecOK Tryd.prog 35 sDSum := by
  unfold sDSum
  rw [digV_eq]
  refine fn_okF (by kernel_rfl) tt_ok spS5_ok 9 Tryd.func35 (by decide +kernel) (by kernel_rfl) ?_
  rintro ⟨b, _⟩ hb
  replace hb : b.length ≤ 1073741824 := hb
  have hz := zn_lt b.length
  refine ⟨[], lRSum b, fun x => x = .lst (.bytes (digV0 b)), LfVD.of (vcRSumF b _) ?_, fun x h at_ n w v r => by have h' : x = _ := h; subst h'; exact r⟩
  rw [List.nil_append, full]
  refine ⟨by simp only [appLim]; omega, ⟨by omega, by simp only [appLim, List.length_append, List.length_singleton]; omega⟩, ⟨rfl, rfl⟩, ⟨0, by omega, by simp [padZ]⟩, ?_⟩
  intro t hZ
  have lt : t.length ≤ b.length + 65 := by obtain ⟨k, hk, rfl⟩ := hZ; rw [padZ_len]; omega
  have em : Int.tmod (t.length : Int) 64 = ((t.length % 64 : Nat) : Int) := by rw [tmod_nn (by omega)]; omega
  rw [em, bcase_iff, full]
  refine ⟨fun hc => ?_, fun hc => ?_⟩
  · have hc' : ¬ t.length % 64 = 56 := by
      intro e; rw [e] at hc; exact absurd hc (by decide)
    obtain ⟨z1, z2⟩ := iZ_step hZ hc'
    refine ⟨⟨by omega, by simp only [appLim, List.length_append, List.length_singleton]; omega⟩, ⟨rfl, rfl⟩, rfl, z1, ?_⟩
    rw [List.length_append, List.length_singleton]
    omega
  · have hc' : t.length % 64 = 56 := by
      have := bne_eq_false_iff_eq.1 hc
      omega
    have ht := iZ_done hZ hc'
    have ew : IntKind.wrap .i64 (8 * (b.length : Int)) = ((8 * b.length : Nat) : Int) := by rw [wr (by omega)]; omega
    have em' : t ++ List.reverse (bytesN (nv (dg (Int.toNat ((8 * b.length : Nat) : Int)))) (Int.toNat 8)) = mR b := by
      rw [ht, Int.toNat_natCast, nv_dg]; rfl
    rw [ew, em']
    have lm := mR_len b
    have hDg : Dg (dg (Int.toNat ((8 * b.length : Nat) : Int))) := by
      rw [Int.toNat_natCast]
      have : 8 * b.length < 16777216 ^ 2 := by omega
      exact Dg.dg (Nat.le_trans (dg_length_lt this) (by decide))
    refine ⟨⟨by omega, by omega⟩, ⟨hDg, by omega, by omega⟩, ⟨by omega, by rw [lm]; simp only [appLim]; omega⟩, ⟨⟨rfl, rfl⟩, rfl, rfl⟩, ⟨0, rfl, rfl, by omega, rfl⟩, ?_⟩
    intro m v a hH
    obtain ⟨k, rfl, rfl, hk, rfl⟩ := hH
    rw [bcase_dec]
    have l64 : (mR b).length % 64 = 0 := by rw [lm, zn]; omega
    refine ⟨fun ha => ?_, fun ha => ?_⟩
    · have w1 : IntKind.wrap .i64 (64 * (k : Int) + 64) = ((64 * k + 64 : Nat) : Int) := by rw [wr (by omega)]; omega
      have w2 : Int.toNat (64 * (k : Int)) = 64 * k := by omega
      have ec : List.drop (0 + 64 * k) (List.take (0 + 64 * k + (64 * k + 64 - 64 * k)) (mR b)) = cut (mR b) (64 * k) := by
        rw [Nat.zero_add, List.drop_take]
        congr 1; omega
      rw [w1, w2, Int.toNat_natCast, ec]
      refine ⟨⟨by omega, by omega, by omega⟩, ?_, ⟨⟨rfl, rfl⟩, rfl, rfl⟩, rfl, ⟨k + 1, rfl, by omega, by omega, rfl⟩, by omega⟩
      rw [List.length_take, List.length_drop]; omega
    · refine ⟨⟨⟨rfl, rfl⟩, rfl, rfl⟩, ⟨rfl, by omega, by omega, rfl⟩, ?_⟩
      rintro v l a ⟨rfl, hO⟩
      have o0 := hO.1
      have hl : l.length ≤ 32 := by
        have lo : ∀ (s : St8) (n : Nat), (outN s n).length = 4 * n := by
          intro s n
          induction n with
          | zero => rfl
          | succ n ih => rw [outN, List.length_append, ih, be4_len]; omega
        have := hO.2.1
        rw [hO.2.2, lo]; omega
      rw [bcase_dec, full, show Int.toNat 4 = 4 from rfl, be4_eq]
      refine ⟨fun h8 => ?_, fun h8 => ?_⟩
      · refine ⟨⟨o0, h8⟩, by omega, ⟨Dg.dg (Nat.le_trans (dg_length_lt (k := 20) (Nat.lt_trans (wv_lt _) (show (2 : Nat) ^ (64 * 1) < 16777216 ^ 20 by decide))) (by decide)), by omega, by omega⟩, ⟨by omega, ?_⟩, ⟨⟨rfl, rfl⟩, rfl, rfl⟩, rfl, ⟨rfl, ?_⟩, ?_⟩
        · rw [List.length_append]
          have : (be4 (List.getD (St8.l (absN beg (mR b) k)) (0 + Int.toNat a) 0) 4).length = 4 := be4_len _ _
          simp only [appLim]; omega
        · rw [wr (by omega)]
          refine ⟨by omega, by omega, ?_⟩
          rw [show (a + 1).toNat = a.toNat + 1 by omega, outN, ← hO.2.2, Nat.zero_add]
        · rw [wr (by omega)]; omega
      · have e : l = digV0 b := by
          rw [hO.2.2, show a.toNat = 8 by have := hO.2.1; omega, ← ref_eq b hb, show (mR b).length / 64 = k by omega]
        show SV.lst (.bytes (List.drop 0 (List.take (0 + l.length) l))) = _
        rw [Nat.zero_add, full, e]

end Go.Proofs.YtomoihkepkmgdaaDoor.H5
namespace Go.Proofs.YtomoihkepkmgdaaDoor.H7
open Go.Sym Go.Dig R1 H5
noncomputable def spRMacF : Specs := [(34, sRBlk), (36, .fresh sWith), (35, .fresh sDSum)]
theorem spRMacF_ok : SpecsOK Tryd.prog spRMacF := .cons ok_RBlk <| .consF ok_With <| .consF ok_RSumF (.nil _)
/-! Computed. -/
def absC (s : St8) (r : List UInt8) : Nat → St8
  | 0 => s
  | i + 1 => mix0 (absC s r i) (cut r (64 * i))
theorem absC_eq (s : St8) (r : List UInt8) : ∀ n, absN s r n = absC s r n
  | 0 => rfl
  | n + 1 => by rw [absN, absC, absC_eq s r n, mixV_eq]
def digC (b : List UInt8) : List UInt8 := outN (absC (absC beg b (b.length / 64)) (padded (absR b) (UInt64.ofInt (b.length : Int))) ((padded (absR b) (UInt64.ofInt (b.length : Int))).length / 64)) 8
theorem digC_eq (b : List UInt8) : digV b = digC b := by
  rw [digV_eq]
  unfold digV0 sum0 absT digC
  rw [absC_eq, absC_eq]
def kC (k : List UInt8) : List UInt8 := if 64 < k.length then digC k else k
def macC (k b : List UInt8) : List UInt8 := digC (xB 92 (pad64 (kC k)) ++ digC (xB 54 (pad64 (kC k)) ++ b))
theorem macC_eq (k b : List UInt8) : macV k b = macC k b := by
  rw [macV_eq]
  unfold macV0 macC
  rw [blkV_eq]
  unfold blkV0 kV kC
  rw [digC_eq, digC_eq, digC_eq]
end Go.Proofs.YtomoihkepkmgdaaDoor.H7
/- Layer 7: the reference's sum gives a list of its own. -/
set_option maxRecDepth 10000
namespace Go.Proofs.YtomoihkepkmgdaaDoor.H7
open Go.Sym Go.Dig R1 H5
--STOP pkV, xBo, digV
theorem vcRMacF (k b : List UInt8) (Q : SV → Prop) : LfRaw tt spRMacF 9 [] {} Tryd.f12 Q (k, b, ()) =
  ((List.length k ≤ (1073741824 : Nat)) ∧
  ((List.length (pkV k) ≤ (1073741824 : Nat)) ∧
  ((((0 : Nat) + List.length (xBo (UInt8.ofNat (Int.toNat (54 : Int))) (pkV k)) =
  List.length (xBo (UInt8.ofNat (Int.toNat (54 : Int))) (pkV k))) ∧
   (List.length
    (List.drop (0 : Nat)
        (List.take (List.length (xBo (UInt8.ofNat (Int.toNat (54 : Int))) (pkV k)))
          (xBo (UInt8.ofNat (Int.toNat (54 : Int))) (pkV k))) ++
      b) ≤
  appLim)) ∧
  ((List.length
    (List.drop (0 : Nat)
      (List.take
        ((0 : Nat) +
          List.length
            (List.drop (0 : Nat)
                (List.take (List.length (xBo (UInt8.ofNat (Int.toNat (54 : Int))) (pkV k)))
                  (xBo (UInt8.ofNat (Int.toNat (54 : Int))) (pkV k))) ++
              b))
        (List.drop (0 : Nat)
            (List.take (List.length (xBo (UInt8.ofNat (Int.toNat (54 : Int))) (pkV k)))
              (xBo (UInt8.ofNat (Int.toNat (54 : Int))) (pkV k))) ++
          b))) ≤
  (1073741824 : Nat)) ∧
  ((List.length (pkV k) ≤ (1073741824 : Nat)) ∧
  ((((0 : Nat) + List.length (xBo (UInt8.ofNat (Int.toNat (92 : Int))) (pkV k)) =
  List.length (xBo (UInt8.ofNat (Int.toNat (92 : Int))) (pkV k))) ∧
   (List.length
    (List.drop (0 : Nat)
        (List.take (List.length (xBo (UInt8.ofNat (Int.toNat (92 : Int))) (pkV k)))
          (xBo (UInt8.ofNat (Int.toNat (92 : Int))) (pkV k))) ++
      List.drop (0 : Nat)
        (List.take
          ((0 : Nat) +
            List.length
              (digV
                (List.drop (0 : Nat)
                  (List.take
                    ((0 : Nat) +
                      List.length
                        (List.drop (0 : Nat)
                            (List.take (List.length (xBo (UInt8.ofNat (Int.toNat (54 : Int))) (pkV k)))
                              (xBo (UInt8.ofNat (Int.toNat (54 : Int))) (pkV k))) ++
                          b))
                    (List.drop (0 : Nat)
                        (List.take (List.length (xBo (UInt8.ofNat (Int.toNat (54 : Int))) (pkV k)))
                          (xBo (UInt8.ofNat (Int.toNat (54 : Int))) (pkV k))) ++
                      b)))))
          (digV
            (List.drop (0 : Nat)
              (List.take
                ((0 : Nat) +
                  List.length
                    (List.drop (0 : Nat)
                        (List.take (List.length (xBo (UInt8.ofNat (Int.toNat (54 : Int))) (pkV k)))
                          (xBo (UInt8.ofNat (Int.toNat (54 : Int))) (pkV k))) ++
                      b))
                (List.drop (0 : Nat)
                    (List.take (List.length (xBo (UInt8.ofNat (Int.toNat (54 : Int))) (pkV k)))
                      (xBo (UInt8.ofNat (Int.toNat (54 : Int))) (pkV k))) ++
                  b)))))) ≤
  appLim)) ∧
  ((List.length
    (List.drop (0 : Nat)
      (List.take
        ((0 : Nat) +
          List.length
            (List.drop (0 : Nat)
                (List.take (List.length (xBo (UInt8.ofNat (Int.toNat (92 : Int))) (pkV k)))
                  (xBo (UInt8.ofNat (Int.toNat (92 : Int))) (pkV k))) ++
              List.drop (0 : Nat)
                (List.take
                  ((0 : Nat) +
                    List.length
                      (digV
                        (List.drop (0 : Nat)
                          (List.take
                            ((0 : Nat) +
                              List.length
                                (List.drop (0 : Nat)
                                    (List.take (List.length (xBo (UInt8.ofNat (Int.toNat (54 : Int))) (pkV k)))
                                      (xBo (UInt8.ofNat (Int.toNat (54 : Int))) (pkV k))) ++
                                  b))
                            (List.drop (0 : Nat)
                                (List.take (List.length (xBo (UInt8.ofNat (Int.toNat (54 : Int))) (pkV k)))
                                  (xBo (UInt8.ofNat (Int.toNat (54 : Int))) (pkV k))) ++
                              b)))))
                  (digV
                    (List.drop (0 : Nat)
                      (List.take
                        ((0 : Nat) +
                          List.length
                            (List.drop (0 : Nat)
                                (List.take (List.length (xBo (UInt8.ofNat (Int.toNat (54 : Int))) (pkV k)))
                                  (xBo (UInt8.ofNat (Int.toNat (54 : Int))) (pkV k))) ++
                              b))
                        (List.drop (0 : Nat)
                            (List.take (List.length (xBo (UInt8.ofNat (Int.toNat (54 : Int))) (pkV k)))
                              (xBo (UInt8.ofNat (Int.toNat (54 : Int))) (pkV k))) ++
                          b)))))))
        (List.drop (0 : Nat)
            (List.take (List.length (xBo (UInt8.ofNat (Int.toNat (92 : Int))) (pkV k)))
              (xBo (UInt8.ofNat (Int.toNat (92 : Int))) (pkV k))) ++
          List.drop (0 : Nat)
            (List.take
              ((0 : Nat) +
                List.length
                  (digV
                    (List.drop (0 : Nat)
                      (List.take
                        ((0 : Nat) +
                          List.length
                            (List.drop (0 : Nat)
                                (List.take (List.length (xBo (UInt8.ofNat (Int.toNat (54 : Int))) (pkV k)))
                                  (xBo (UInt8.ofNat (Int.toNat (54 : Int))) (pkV k))) ++
                              b))
                        (List.drop (0 : Nat)
                            (List.take (List.length (xBo (UInt8.ofNat (Int.toNat (54 : Int))) (pkV k)))
                              (xBo (UInt8.ofNat (Int.toNat (54 : Int))) (pkV k))) ++
                          b)))))
              (digV
                (List.drop (0 : Nat)
                  (List.take
                    ((0 : Nat) +
                      List.length
                        (List.drop (0 : Nat)
                            (List.take (List.length (xBo (UInt8.ofNat (Int.toNat (54 : Int))) (pkV k)))
                              (xBo (UInt8.ofNat (Int.toNat (54 : Int))) (pkV k))) ++
                          b))
                    (List.drop (0 : Nat)
                        (List.take (List.length (xBo (UInt8.ofNat (Int.toNat (54 : Int))) (pkV k)))
                          (xBo (UInt8.ofNat (Int.toNat (54 : Int))) (pkV k))) ++
                      b)))))))) ≤
  (1073741824 : Nat)) ∧
  (Q
  (SV.lst
    (LV.bytes
      (List.drop (0 : Nat)
        (List.take
          ((0 : Nat) +
            List.length
              (digV
                (List.drop (0 : Nat)
                  (List.take
                    ((0 : Nat) +
                      List.length
                        (List.drop (0 : Nat)
                            (List.take (List.length (xBo (UInt8.ofNat (Int.toNat (92 : Int))) (pkV k)))
                              (xBo (UInt8.ofNat (Int.toNat (92 : Int))) (pkV k))) ++
                          List.drop (0 : Nat)
                            (List.take
                              ((0 : Nat) +
                                List.length
                                  (digV
                                    (List.drop (0 : Nat)
                                      (List.take
                                        ((0 : Nat) +
                                          List.length
                                            (List.drop (0 : Nat)
                                                (List.take
                                                  (List.length (xBo (UInt8.ofNat (Int.toNat (54 : Int))) (pkV k)))
                                                  (xBo (UInt8.ofNat (Int.toNat (54 : Int))) (pkV k))) ++
                                              b))
                                        (List.drop (0 : Nat)
                                            (List.take (List.length (xBo (UInt8.ofNat (Int.toNat (54 : Int))) (pkV k)))
                                              (xBo (UInt8.ofNat (Int.toNat (54 : Int))) (pkV k))) ++
                                          b)))))
                              (digV
                                (List.drop (0 : Nat)
                                  (List.take
                                    ((0 : Nat) +
                                      List.length
                                        (List.drop (0 : Nat)
                                            (List.take (List.length (xBo (UInt8.ofNat (Int.toNat (54 : Int))) (pkV k)))
                                              (xBo (UInt8.ofNat (Int.toNat (54 : Int))) (pkV k))) ++
                                          b))
                                    (List.drop (0 : Nat)
                                        (List.take (List.length (xBo (UInt8.ofNat (Int.toNat (54 : Int))) (pkV k)))
                                          (xBo (UInt8.ofNat (Int.toNat (54 : Int))) (pkV k))) ++
                                      b)))))))
                    (List.drop (0 : Nat)
                        (List.take (List.length (xBo (UInt8.ofNat (Int.toNat (92 : Int))) (pkV k)))
                          (xBo (UInt8.ofNat (Int.toNat (92 : Int))) (pkV k))) ++
                      List.drop (0 : Nat)
                        (List.take
                          ((0 : Nat) +
                            List.length
                              (digV
                                (List.drop (0 : Nat)
                                  (List.take
                                    ((0 : Nat) +
                                      List.length
                                        (List.drop (0 : Nat)
                                            (List.take (List.length (xBo (UInt8.ofNat (Int.toNat (54 : Int))) (pkV k)))
                                              (xBo (UInt8.ofNat (Int.toNat (54 : Int))) (pkV k))) ++
                                          b))
                                    (List.drop (0 : Nat)
                                        (List.take (List.length (xBo (UInt8.ofNat (Int.toNat (54 : Int))) (pkV k)))
                                          (xBo (UInt8.ofNat (Int.toNat (54 : Int))) (pkV k))) ++
                                      b)))))
                          (digV
                            (List.drop (0 : Nat)
                              (List.take
                                ((0 : Nat) +
                                  List.length
                                    (List.drop (0 : Nat)
                                        (List.take (List.length (xBo (UInt8.ofNat (Int.toNat (54 : Int))) (pkV k)))
                                          (xBo (UInt8.ofNat (Int.toNat (54 : Int))) (pkV k))) ++
                                      b))
                                (List.drop (0 : Nat)
                                    (List.take (List.length (xBo (UInt8.ofNat (Int.toNat (54 : Int))) (pkV k)))
                                      (xBo (UInt8.ofNat (Int.toNat (54 : Int))) (pkV k))) ++
                                  b))))))))))
          (digV
            (List.drop (0 : Nat)
              (List.take
                ((0 : Nat) +
                  List.length
                    (List.drop (0 : Nat)
                        (List.take (List.length (xBo (UInt8.ofNat (Int.toNat (92 : Int))) (pkV k)))
                          (xBo (UInt8.ofNat (Int.toNat (92 : Int))) (pkV k))) ++
                      List.drop (0 : Nat)
                        (List.take
                          ((0 : Nat) +
                            List.length
                              (digV
                                (List.drop (0 : Nat)
                                  (List.take
                                    ((0 : Nat) +
                                      List.length
                                        (List.drop (0 : Nat)
                                            (List.take (List.length (xBo (UInt8.ofNat (Int.toNat (54 : Int))) (pkV k)))
                                              (xBo (UInt8.ofNat (Int.toNat (54 : Int))) (pkV k))) ++
                                          b))
                                    (List.drop (0 : Nat)
                                        (List.take (List.length (xBo (UInt8.ofNat (Int.toNat (54 : Int))) (pkV k)))
                                          (xBo (UInt8.ofNat (Int.toNat (54 : Int))) (pkV k))) ++
                                      b)))))
                          (digV
                            (List.drop (0 : Nat)
                              (List.take
                                ((0 : Nat) +
                                  List.length
                                    (List.drop (0 : Nat)
                                        (List.take (List.length (xBo (UInt8.ofNat (Int.toNat (54 : Int))) (pkV k)))
                                          (xBo (UInt8.ofNat (Int.toNat (54 : Int))) (pkV k))) ++
                                      b))
                                (List.drop (0 : Nat)
                                    (List.take (List.length (xBo (UInt8.ofNat (Int.toNat (54 : Int))) (pkV k)))
                                      (xBo (UInt8.ofNat (Int.toNat (54 : Int))) (pkV k))) ++
                                  b)))))))
                (List.drop (0 : Nat)
                    (List.take (List.length (xBo (UInt8.ofNat (Int.toNat (92 : Int))) (pkV k)))
                      (xBo (UInt8.ofNat (Int.toNat (92 : Int))) (pkV k))) ++
                  List.drop (0 : Nat)
                    (List.take
                      ((0 : Nat) +
                        List.length
                          (digV
                            (List.drop (0 : Nat)
                              (List.take
                                ((0 : Nat) +
                                  List.length
                                    (List.drop (0 : Nat)
                                        (List.take (List.length (xBo (UInt8.ofNat (Int.toNat (54 : Int))) (pkV k)))
                                          (xBo (UInt8.ofNat (Int.toNat (54 : Int))) (pkV k))) ++
                                      b))
                                (List.drop (0 : Nat)
                                    (List.take (List.length (xBo (UInt8.ofNat (Int.toNat (54 : Int))) (pkV k)))
                                      (xBo (UInt8.ofNat (Int.toNat (54 : Int))) (pkV k))) ++
                                  b)))))
                      (digV
                        (List.drop (0 : Nat)
                          (List.take
                            ((0 : Nat) +
                              List.length
                                (List.drop (0 : Nat)
                                    (List.take (List.length (xBo (UInt8.ofNat (Int.toNat (54 : Int))) (pkV k)))
                                      (xBo (UInt8.ofNat (Int.toNat (54 : Int))) (pkV k))) ++
                                  b))
                            (List.drop (0 : Nat)
                                (List.take (List.length (xBo (UInt8.ofNat (Int.toNat (54 : Int))) (pkV k)))
                                  (xBo (UInt8.ofNat (Int.toNat (54 : Int))) (pkV k))) ++
                              b))))))))))))))))))))) := by kernel_rfl
end Go.Proofs.YtomoihkepkmgdaaDoor.H7
/- Layer 7: the reference's sum holds. -/
set_option maxRecDepth 10000
namespace Go.Proofs.YtomoihkepkmgdaaDoor.H7
open Go.Sym Go.Dig R1 H5
theorem ok_RMacF : FSpecOK Tryd.prog 12 sRMac := by
  unfold sRMac
  rw [macV_eq]
  refine fn_okF (by kernel_rfl) tt_ok spRMacF_ok 9 Tryd.func12 (by decide +kernel) (by kernel_rfl) ?_
  rintro ⟨k, b, _⟩ ⟨hkl, hb⟩
  replace hkl : k.length ≤ 1073741824 := hkl
  replace hb : b.length ≤ 1000000000 := hb
  refine ⟨[], {}, fun x => x = .lst (.bytes (macV0 k b)), LfVD.of (vcRMacF k b _) ?_, fun x h at_ n w v r => by have h' : x = _ := h; subst h'; exact r⟩
  have hp : (pkV k).length = 64 := by rw [pkV_eq]; exact pad_len (kV_len k)
  have b1 := blkV_len k 54
  have b2 := blkV_len k 92
  have ld := digV_len (blkV k 54 ++ b)
  simp only [c54, c92, xpk, fl, tf]
  simp only [List.length_append]
  refine ⟨hkl, by omega, ⟨by omega, ?_⟩, by omega, by omega, ⟨by omega, ?_⟩, by omega, rfl⟩
  all_goals simp only [appLim]
  all_goals omega

end Go.Proofs.YtomoihkepkmgdaaDoor.H7
/- Layer 7's laws: what is said of them. -/
set_option maxRecDepth 10000
namespace Go.Proofs.YtomoihkepkmgdaaDoor.H7
open Go.Sym Go.Dig R1 H5
/-- A text. -/
structure StrV where
  s : ByteArray
instance : Enc StrV where
  enc a := .val (.string a.s)
  dec | .val (.string s) => some ⟨s⟩
      | _ => none
  ok := by
    intro s a h at_ w v r
    split at h
    · simp only [Option.some.injEq] at h; subst h; exact r
    · cases h
  nn _ := rfl
def str1 : ByteArray := ⟨#[119, 104, 97, 116, 32, 100, 111, 32, 121, 97, 32, 119, 97, 110, 116, 32]⟩
def str2 : ByteArray := ⟨#[102, 111, 114, 32, 110, 111, 116, 104, 105, 110, 103, 63]⟩
theorem by_ex : ∃ f : ByteArray → List UInt8, f = fun s => s.data.toList := ⟨_, rfl⟩
/-- A text's bytes. -/
noncomputable def bytesO : ByteArray → List UInt8 := Classical.choose by_ex
theorem bytesO_eq : bytesO = fun s => s.data.toList := Classical.choose_spec by_ex
noncomputable def sBytes7 : SpecF := fspec (α := StrV × Unit) (fun a => some (a.1.s = str1 ∨ a.1.s = str2)) (fun a => bytesO a.1.s)
noncomputable def spAw7 : Specs := [(29, .fresh sBytes7), (11, .fresh sMac)]
def sAwake7 : SpecF := fspec (α := Unit) total (fun _ => true)
noncomputable def spL7 : Specs := [(9, sAwake7), (11, .fresh sMac), (12, .fresh sRMac), (13, sSameM), (10, sSame), (14, .fresh sDSum)]
def iMS (l : List (List UInt8)) (all : List UInt8) (i : Int) : Prop := 0 ≤ i ∧ i ≤ l.length ∧ all = (l.take i.toNat).flatten ∧ (∀ p ∈ l.take i.toNat, p.length ≤ 500)
def lMS (l : List (List UInt8)) : Plan := { loops := [(0, { β := List UInt8 × List (List UInt8) × List UInt8 × List (List UInt8) × Int × Unit, α := OwnB × Int × Unit, same := [0, 1, 2, 20, 21], keep := [7, 22], inv := fun _ _ x => iMS l x.1.l x.2.1, meas := fun _ x => (l.length - x.2.1).toNat })] }
def iMK (k w o0 o : List UInt8) (i : Int) : Prop := 0 ≤ i ∧ i ≤ 256 ∧ o0 = w ∧ iK (kV k) o
def lMK (k w : List UInt8) : Plan := { loops := [(0, { β := List UInt8 × List UInt8 × UInt8 × Unit, α := OwnB × OwnB × Int × Unit, same := [0, 1, 2], keep := [7, 8, 9], inv := fun _ _ x => iMK k w x.1.l x.2.1.l x.2.2.1, meas := fun _ x => (256 - x.2.2.1).toNat })] }
end Go.Proofs.YtomoihkepkmgdaaDoor.H7
/- Layer 7's laws: what the bodies come to. -/
set_option maxRecDepth 10000
namespace Go.Proofs.YtomoihkepkmgdaaDoor.H7
open Go.Sym Go.Dig R1 H5
--STOP bytesO, digV, kV, macV, iMS, iMK, List.flatten, iK
theorem vcB1 (Q : SV → Prop) : LfRaw tt [] 40 [] {} Tryd.f29 Q ((⟨str1⟩ : StrV), ()) =
  (((1 : Nat) ≤ appLim) ∧
  ((((0 : Nat) + (1 : Nat) = (1 : Nat)) ∧
   ((2 : Nat) ≤ appLim)) ∧
  ((((0 : Nat) + (2 : Nat) = (2 : Nat)) ∧
   ((3 : Nat) ≤ appLim)) ∧
  ((((0 : Nat) + (3 : Nat) = (3 : Nat)) ∧
   ((4 : Nat) ≤ appLim)) ∧
  ((((0 : Nat) + (4 : Nat) = (4 : Nat)) ∧
   ((5 : Nat) ≤ appLim)) ∧
  ((((0 : Nat) + (5 : Nat) = (5 : Nat)) ∧
   ((6 : Nat) ≤ appLim)) ∧
  ((((0 : Nat) + (6 : Nat) = (6 : Nat)) ∧
   ((7 : Nat) ≤ appLim)) ∧
  ((((0 : Nat) + (7 : Nat) = (7 : Nat)) ∧
   ((8 : Nat) ≤ appLim)) ∧
  ((((0 : Nat) + (8 : Nat) = (8 : Nat)) ∧
   ((9 : Nat) ≤ appLim)) ∧
  ((((0 : Nat) + (9 : Nat) = (9 : Nat)) ∧
   ((10 : Nat) ≤ appLim)) ∧
  ((((0 : Nat) + (10 : Nat) = (10 : Nat)) ∧
   ((11 : Nat) ≤ appLim)) ∧
  ((((0 : Nat) + (11 : Nat) = (11 : Nat)) ∧
   ((12 : Nat) ≤ appLim)) ∧
  ((((0 : Nat) + (12 : Nat) = (12 : Nat)) ∧
   ((13 : Nat) ≤ appLim)) ∧
  ((((0 : Nat) + (13 : Nat) = (13 : Nat)) ∧
   ((14 : Nat) ≤ appLim)) ∧
  ((((0 : Nat) + (14 : Nat) = (14 : Nat)) ∧
   ((15 : Nat) ≤ appLim)) ∧
  ((((0 : Nat) + (15 : Nat) = (15 : Nat)) ∧
   ((16 : Nat) ≤ appLim)) ∧
  (Q
  (SV.lst
    (LV.bytes
      [str1[Int.toNat (0 : Int)], str1[Int.toNat (IntKind.wrap IntKind.i64 ((0 : Int) + (1 : Int)))],
        str1[Int.toNat (IntKind.wrap IntKind.i64 (IntKind.wrap IntKind.i64 ((0 : Int) + (1 : Int)) + (1 : Int)))],
        str1[Int.toNat
            (IntKind.wrap IntKind.i64
              (IntKind.wrap IntKind.i64 (IntKind.wrap IntKind.i64 ((0 : Int) + (1 : Int)) + (1 : Int)) + (1 : Int)))],
        str1[Int.toNat
            (IntKind.wrap IntKind.i64
              (IntKind.wrap IntKind.i64
                  (IntKind.wrap IntKind.i64 (IntKind.wrap IntKind.i64 ((0 : Int) + (1 : Int)) + (1 : Int)) +
                    (1 : Int)) +
                (1 : Int)))],
        str1[Int.toNat
            (IntKind.wrap IntKind.i64
              (IntKind.wrap IntKind.i64
                  (IntKind.wrap IntKind.i64
                      (IntKind.wrap IntKind.i64 (IntKind.wrap IntKind.i64 ((0 : Int) + (1 : Int)) + (1 : Int)) +
                        (1 : Int)) +
                    (1 : Int)) +
                (1 : Int)))],
        str1[Int.toNat
            (IntKind.wrap IntKind.i64
              (IntKind.wrap IntKind.i64
                  (IntKind.wrap IntKind.i64
                      (IntKind.wrap IntKind.i64
                          (IntKind.wrap IntKind.i64 (IntKind.wrap IntKind.i64 ((0 : Int) + (1 : Int)) + (1 : Int)) +
                            (1 : Int)) +
                        (1 : Int)) +
                    (1 : Int)) +
                (1 : Int)))],
        str1[Int.toNat
            (IntKind.wrap IntKind.i64
              (IntKind.wrap IntKind.i64
                  (IntKind.wrap IntKind.i64
                      (IntKind.wrap IntKind.i64
                          (IntKind.wrap IntKind.i64
                              (IntKind.wrap IntKind.i64 (IntKind.wrap IntKind.i64 ((0 : Int) + (1 : Int)) + (1 : Int)) +
                                (1 : Int)) +
                            (1 : Int)) +
                        (1 : Int)) +
                    (1 : Int)) +
                (1 : Int)))],
        str1[Int.toNat
            (IntKind.wrap IntKind.i64
              (IntKind.wrap IntKind.i64
                  (IntKind.wrap IntKind.i64
                      (IntKind.wrap IntKind.i64
                          (IntKind.wrap IntKind.i64
                              (IntKind.wrap IntKind.i64
                                  (IntKind.wrap IntKind.i64
                                      (IntKind.wrap IntKind.i64 ((0 : Int) + (1 : Int)) + (1 : Int)) +
                                    (1 : Int)) +
                                (1 : Int)) +
                            (1 : Int)) +
                        (1 : Int)) +
                    (1 : Int)) +
                (1 : Int)))],
        str1[Int.toNat
            (IntKind.wrap IntKind.i64
              (IntKind.wrap IntKind.i64
                  (IntKind.wrap IntKind.i64
                      (IntKind.wrap IntKind.i64
                          (IntKind.wrap IntKind.i64
                              (IntKind.wrap IntKind.i64
                                  (IntKind.wrap IntKind.i64
                                      (IntKind.wrap IntKind.i64
                                          (IntKind.wrap IntKind.i64 ((0 : Int) + (1 : Int)) + (1 : Int)) +
                                        (1 : Int)) +
                                    (1 : Int)) +
                                (1 : Int)) +
                            (1 : Int)) +
                        (1 : Int)) +
                    (1 : Int)) +
                (1 : Int)))],
        str1[Int.toNat
            (IntKind.wrap IntKind.i64
              (IntKind.wrap IntKind.i64
                  (IntKind.wrap IntKind.i64
                      (IntKind.wrap IntKind.i64
                          (IntKind.wrap IntKind.i64
                              (IntKind.wrap IntKind.i64
                                  (IntKind.wrap IntKind.i64
                                      (IntKind.wrap IntKind.i64
                                          (IntKind.wrap IntKind.i64
                                              (IntKind.wrap IntKind.i64 ((0 : Int) + (1 : Int)) + (1 : Int)) +
                                            (1 : Int)) +
                                        (1 : Int)) +
                                    (1 : Int)) +
                                (1 : Int)) +
                            (1 : Int)) +
                        (1 : Int)) +
                    (1 : Int)) +
                (1 : Int)))],
        str1[Int.toNat
            (IntKind.wrap IntKind.i64
              (IntKind.wrap IntKind.i64
                  (IntKind.wrap IntKind.i64
                      (IntKind.wrap IntKind.i64
                          (IntKind.wrap IntKind.i64
                              (IntKind.wrap IntKind.i64
                                  (IntKind.wrap IntKind.i64
                                      (IntKind.wrap IntKind.i64
                                          (IntKind.wrap IntKind.i64
                                              (IntKind.wrap IntKind.i64
                                                  (IntKind.wrap IntKind.i64 ((0 : Int) + (1 : Int)) + (1 : Int)) +
                                                (1 : Int)) +
                                            (1 : Int)) +
                                        (1 : Int)) +
                                    (1 : Int)) +
                                (1 : Int)) +
                            (1 : Int)) +
                        (1 : Int)) +
                    (1 : Int)) +
                (1 : Int)))],
        str1[Int.toNat
            (IntKind.wrap IntKind.i64
              (IntKind.wrap IntKind.i64
                  (IntKind.wrap IntKind.i64
                      (IntKind.wrap IntKind.i64
                          (IntKind.wrap IntKind.i64
                              (IntKind.wrap IntKind.i64
                                  (IntKind.wrap IntKind.i64
                                      (IntKind.wrap IntKind.i64
                                          (IntKind.wrap IntKind.i64
                                              (IntKind.wrap IntKind.i64
                                                  (IntKind.wrap IntKind.i64
                                                      (IntKind.wrap IntKind.i64 ((0 : Int) + (1 : Int)) + (1 : Int)) +
                                                    (1 : Int)) +
                                                (1 : Int)) +
                                            (1 : Int)) +
                                        (1 : Int)) +
                                    (1 : Int)) +
                                (1 : Int)) +
                            (1 : Int)) +
                        (1 : Int)) +
                    (1 : Int)) +
                (1 : Int)))],
        str1[Int.toNat
            (IntKind.wrap IntKind.i64
              (IntKind.wrap IntKind.i64
                  (IntKind.wrap IntKind.i64
                      (IntKind.wrap IntKind.i64
                          (IntKind.wrap IntKind.i64
                              (IntKind.wrap IntKind.i64
                                  (IntKind.wrap IntKind.i64
                                      (IntKind.wrap IntKind.i64
                                          (IntKind.wrap IntKind.i64
                                              (IntKind.wrap IntKind.i64
                                                  (IntKind.wrap IntKind.i64
                                                      (IntKind.wrap IntKind.i64
                                                          (IntKind.wrap IntKind.i64 ((0 : Int) + (1 : Int)) +
                                                            (1 : Int)) +
                                                        (1 : Int)) +
                                                    (1 : Int)) +
                                                (1 : Int)) +
                                            (1 : Int)) +
                                        (1 : Int)) +
                                    (1 : Int)) +
                                (1 : Int)) +
                            (1 : Int)) +
                        (1 : Int)) +
                    (1 : Int)) +
                (1 : Int)))],
        str1[Int.toNat
            (IntKind.wrap IntKind.i64
              (IntKind.wrap IntKind.i64
                  (IntKind.wrap IntKind.i64
                      (IntKind.wrap IntKind.i64
                          (IntKind.wrap IntKind.i64
                              (IntKind.wrap IntKind.i64
                                  (IntKind.wrap IntKind.i64
                                      (IntKind.wrap IntKind.i64
                                          (IntKind.wrap IntKind.i64
                                              (IntKind.wrap IntKind.i64
                                                  (IntKind.wrap IntKind.i64
                                                      (IntKind.wrap IntKind.i64
                                                          (IntKind.wrap IntKind.i64
                                                              (IntKind.wrap IntKind.i64 ((0 : Int) + (1 : Int)) +
                                                                (1 : Int)) +
                                                            (1 : Int)) +
                                                        (1 : Int)) +
                                                    (1 : Int)) +
                                                (1 : Int)) +
                                            (1 : Int)) +
                                        (1 : Int)) +
                                    (1 : Int)) +
                                (1 : Int)) +
                            (1 : Int)) +
                        (1 : Int)) +
                    (1 : Int)) +
                (1 : Int)))],
        str1[Int.toNat
            (IntKind.wrap IntKind.i64
              (IntKind.wrap IntKind.i64
                  (IntKind.wrap IntKind.i64
                      (IntKind.wrap IntKind.i64
                          (IntKind.wrap IntKind.i64
                              (IntKind.wrap IntKind.i64
                                  (IntKind.wrap IntKind.i64
                                      (IntKind.wrap IntKind.i64
                                          (IntKind.wrap IntKind.i64
                                              (IntKind.wrap IntKind.i64
                                                  (IntKind.wrap IntKind.i64
                                                      (IntKind.wrap IntKind.i64
                                                          (IntKind.wrap IntKind.i64
                                                              (IntKind.wrap IntKind.i64
                                                                  (IntKind.wrap IntKind.i64 ((0 : Int) + (1 : Int)) +
                                                                    (1 : Int)) +
                                                                (1 : Int)) +
                                                            (1 : Int)) +
                                                        (1 : Int)) +
                                                    (1 : Int)) +
                                                (1 : Int)) +
                                            (1 : Int)) +
                                        (1 : Int)) +
                                    (1 : Int)) +
                                (1 : Int)) +
                            (1 : Int)) +
                        (1 : Int)) +
                    (1 : Int)) +
                (1 : Int)))]]))))))))))))))))))) := by kernel_rfl
theorem vcB2 (Q : SV → Prop) : LfRaw tt [] 40 [] {} Tryd.f29 Q ((⟨str2⟩ : StrV), ()) =
  (((1 : Nat) ≤ appLim) ∧
  ((((0 : Nat) + (1 : Nat) = (1 : Nat)) ∧
   ((2 : Nat) ≤ appLim)) ∧
  ((((0 : Nat) + (2 : Nat) = (2 : Nat)) ∧
   ((3 : Nat) ≤ appLim)) ∧
  ((((0 : Nat) + (3 : Nat) = (3 : Nat)) ∧
   ((4 : Nat) ≤ appLim)) ∧
  ((((0 : Nat) + (4 : Nat) = (4 : Nat)) ∧
   ((5 : Nat) ≤ appLim)) ∧
  ((((0 : Nat) + (5 : Nat) = (5 : Nat)) ∧
   ((6 : Nat) ≤ appLim)) ∧
  ((((0 : Nat) + (6 : Nat) = (6 : Nat)) ∧
   ((7 : Nat) ≤ appLim)) ∧
  ((((0 : Nat) + (7 : Nat) = (7 : Nat)) ∧
   ((8 : Nat) ≤ appLim)) ∧
  ((((0 : Nat) + (8 : Nat) = (8 : Nat)) ∧
   ((9 : Nat) ≤ appLim)) ∧
  ((((0 : Nat) + (9 : Nat) = (9 : Nat)) ∧
   ((10 : Nat) ≤ appLim)) ∧
  ((((0 : Nat) + (10 : Nat) = (10 : Nat)) ∧
   ((11 : Nat) ≤ appLim)) ∧
  ((((0 : Nat) + (11 : Nat) = (11 : Nat)) ∧
   ((12 : Nat) ≤ appLim)) ∧
  (Q
  (SV.lst
    (LV.bytes
      [str2[Int.toNat (0 : Int)], str2[Int.toNat (IntKind.wrap IntKind.i64 ((0 : Int) + (1 : Int)))],
        str2[Int.toNat (IntKind.wrap IntKind.i64 (IntKind.wrap IntKind.i64 ((0 : Int) + (1 : Int)) + (1 : Int)))],
        str2[Int.toNat
            (IntKind.wrap IntKind.i64
              (IntKind.wrap IntKind.i64 (IntKind.wrap IntKind.i64 ((0 : Int) + (1 : Int)) + (1 : Int)) + (1 : Int)))],
        str2[Int.toNat
            (IntKind.wrap IntKind.i64
              (IntKind.wrap IntKind.i64
                  (IntKind.wrap IntKind.i64 (IntKind.wrap IntKind.i64 ((0 : Int) + (1 : Int)) + (1 : Int)) +
                    (1 : Int)) +
                (1 : Int)))],
        str2[Int.toNat
            (IntKind.wrap IntKind.i64
              (IntKind.wrap IntKind.i64
                  (IntKind.wrap IntKind.i64
                      (IntKind.wrap IntKind.i64 (IntKind.wrap IntKind.i64 ((0 : Int) + (1 : Int)) + (1 : Int)) +
                        (1 : Int)) +
                    (1 : Int)) +
                (1 : Int)))],
        str2[Int.toNat
            (IntKind.wrap IntKind.i64
              (IntKind.wrap IntKind.i64
                  (IntKind.wrap IntKind.i64
                      (IntKind.wrap IntKind.i64
                          (IntKind.wrap IntKind.i64 (IntKind.wrap IntKind.i64 ((0 : Int) + (1 : Int)) + (1 : Int)) +
                            (1 : Int)) +
                        (1 : Int)) +
                    (1 : Int)) +
                (1 : Int)))],
        str2[Int.toNat
            (IntKind.wrap IntKind.i64
              (IntKind.wrap IntKind.i64
                  (IntKind.wrap IntKind.i64
                      (IntKind.wrap IntKind.i64
                          (IntKind.wrap IntKind.i64
                              (IntKind.wrap IntKind.i64 (IntKind.wrap IntKind.i64 ((0 : Int) + (1 : Int)) + (1 : Int)) +
                                (1 : Int)) +
                            (1 : Int)) +
                        (1 : Int)) +
                    (1 : Int)) +
                (1 : Int)))],
        str2[Int.toNat
            (IntKind.wrap IntKind.i64
              (IntKind.wrap IntKind.i64
                  (IntKind.wrap IntKind.i64
                      (IntKind.wrap IntKind.i64
                          (IntKind.wrap IntKind.i64
                              (IntKind.wrap IntKind.i64
                                  (IntKind.wrap IntKind.i64
                                      (IntKind.wrap IntKind.i64 ((0 : Int) + (1 : Int)) + (1 : Int)) +
                                    (1 : Int)) +
                                (1 : Int)) +
                            (1 : Int)) +
                        (1 : Int)) +
                    (1 : Int)) +
                (1 : Int)))],
        str2[Int.toNat
            (IntKind.wrap IntKind.i64
              (IntKind.wrap IntKind.i64
                  (IntKind.wrap IntKind.i64
                      (IntKind.wrap IntKind.i64
                          (IntKind.wrap IntKind.i64
                              (IntKind.wrap IntKind.i64
                                  (IntKind.wrap IntKind.i64
                                      (IntKind.wrap IntKind.i64
                                          (IntKind.wrap IntKind.i64 ((0 : Int) + (1 : Int)) + (1 : Int)) +
                                        (1 : Int)) +
                                    (1 : Int)) +
                                (1 : Int)) +
                            (1 : Int)) +
                        (1 : Int)) +
                    (1 : Int)) +
                (1 : Int)))],
        str2[Int.toNat
            (IntKind.wrap IntKind.i64
              (IntKind.wrap IntKind.i64
                  (IntKind.wrap IntKind.i64
                      (IntKind.wrap IntKind.i64
                          (IntKind.wrap IntKind.i64
                              (IntKind.wrap IntKind.i64
                                  (IntKind.wrap IntKind.i64
                                      (IntKind.wrap IntKind.i64
                                          (IntKind.wrap IntKind.i64
                                              (IntKind.wrap IntKind.i64 ((0 : Int) + (1 : Int)) + (1 : Int)) +
                                            (1 : Int)) +
                                        (1 : Int)) +
                                    (1 : Int)) +
                                (1 : Int)) +
                            (1 : Int)) +
                        (1 : Int)) +
                    (1 : Int)) +
                (1 : Int)))],
        str2[Int.toNat
            (IntKind.wrap IntKind.i64
              (IntKind.wrap IntKind.i64
                  (IntKind.wrap IntKind.i64
                      (IntKind.wrap IntKind.i64
                          (IntKind.wrap IntKind.i64
                              (IntKind.wrap IntKind.i64
                                  (IntKind.wrap IntKind.i64
                                      (IntKind.wrap IntKind.i64
                                          (IntKind.wrap IntKind.i64
                                              (IntKind.wrap IntKind.i64
                                                  (IntKind.wrap IntKind.i64 ((0 : Int) + (1 : Int)) + (1 : Int)) +
                                                (1 : Int)) +
                                            (1 : Int)) +
                                        (1 : Int)) +
                                    (1 : Int)) +
                                (1 : Int)) +
                            (1 : Int)) +
                        (1 : Int)) +
                    (1 : Int)) +
                (1 : Int)))]]))))))))))))))) := by kernel_rfl
theorem vcAw7 (Q : SV → Prop) : LnRaw tt spAw7 9 [] {} Tryd.f9 Q () =
  ((ByteArray.mk
      #[(119 : UInt8), (104 : UInt8), (97 : UInt8), (116 : UInt8), (32 : UInt8), (100 : UInt8), (111 : UInt8),
        (32 : UInt8), (121 : UInt8), (97 : UInt8), (32 : UInt8), (119 : UInt8), (97 : UInt8), (110 : UInt8),
        (116 : UInt8), (32 : UInt8)] =
    str1 ∨
  ByteArray.mk
      #[(119 : UInt8), (104 : UInt8), (97 : UInt8), (116 : UInt8), (32 : UInt8), (100 : UInt8), (111 : UInt8),
        (32 : UInt8), (121 : UInt8), (97 : UInt8), (32 : UInt8), (119 : UInt8), (97 : UInt8), (110 : UInt8),
        (116 : UInt8), (32 : UInt8)] =
    str2) ∧
  ((ByteArray.mk
      #[(102 : UInt8), (111 : UInt8), (114 : UInt8), (32 : UInt8), (110 : UInt8), (111 : UInt8), (116 : UInt8),
        (104 : UInt8), (105 : UInt8), (110 : UInt8), (103 : UInt8), (63 : UInt8)] =
    str1 ∨
  ByteArray.mk
      #[(102 : UInt8), (111 : UInt8), (114 : UInt8), (32 : UInt8), (110 : UInt8), (111 : UInt8), (116 : UInt8),
        (104 : UInt8), (105 : UInt8), (110 : UInt8), (103 : UInt8), (63 : UInt8)] =
    str2) ∧
  ((((4 : Nat) ≤ (1073741824 : Nat)) ∧
   (((2 : Nat) ≤ (1000000 : Nat)) ∧
   (∀ p : List UInt8,
   ((List.Mem p
  [List.drop (0 : Nat)
      (List.take
        ((0 : Nat) +
          List.length
            (bytesO
              (ByteArray.mk
                #[(119 : UInt8), (104 : UInt8), (97 : UInt8), (116 : UInt8), (32 : UInt8), (100 : UInt8), (111 : UInt8),
                  (32 : UInt8), (121 : UInt8), (97 : UInt8), (32 : UInt8), (119 : UInt8), (97 : UInt8), (110 : UInt8),
                  (116 : UInt8), (32 : UInt8)])))
        (bytesO
          (ByteArray.mk
            #[(119 : UInt8), (104 : UInt8), (97 : UInt8), (116 : UInt8), (32 : UInt8), (100 : UInt8), (111 : UInt8),
              (32 : UInt8), (121 : UInt8), (97 : UInt8), (32 : UInt8), (119 : UInt8), (97 : UInt8), (110 : UInt8),
              (116 : UInt8), (32 : UInt8)]))),
    List.drop (0 : Nat)
      (List.take
        ((0 : Nat) +
          List.length
            (bytesO
              (ByteArray.mk
                #[(102 : UInt8), (111 : UInt8), (114 : UInt8), (32 : UInt8), (110 : UInt8), (111 : UInt8),
                  (116 : UInt8), (104 : UInt8), (105 : UInt8), (110 : UInt8), (103 : UInt8), (63 : UInt8)])))
        (bytesO
          (ByteArray.mk
            #[(102 : UInt8), (111 : UInt8), (114 : UInt8), (32 : UInt8), (110 : UInt8), (111 : UInt8), (116 : UInt8),
              (104 : UInt8), (105 : UInt8), (110 : UInt8), (103 : UInt8), (63 : UInt8)])))]) →
   (List.length p ≤ (1000000 : Nat)))))) ∧
  bcase ((↑(List.length
        (macV
          [UInt8.ofNat (Int.toNat (74 : Int)), UInt8.ofNat (Int.toNat (101 : Int)), UInt8.ofNat (Int.toNat (102 : Int)),
            UInt8.ofNat (Int.toNat (101 : Int))]
          (List.flatten
            [List.drop (0 : Nat)
                (List.take
                  ((0 : Nat) +
                    List.length
                      (bytesO
                        (ByteArray.mk
                          #[(119 : UInt8), (104 : UInt8), (97 : UInt8), (116 : UInt8), (32 : UInt8), (100 : UInt8),
                            (111 : UInt8), (32 : UInt8), (121 : UInt8), (97 : UInt8), (32 : UInt8), (119 : UInt8),
                            (97 : UInt8), (110 : UInt8), (116 : UInt8), (32 : UInt8)])))
                  (bytesO
                    (ByteArray.mk
                      #[(119 : UInt8), (104 : UInt8), (97 : UInt8), (116 : UInt8), (32 : UInt8), (100 : UInt8),
                        (111 : UInt8), (32 : UInt8), (121 : UInt8), (97 : UInt8), (32 : UInt8), (119 : UInt8),
                        (97 : UInt8), (110 : UInt8), (116 : UInt8), (32 : UInt8)]))),
              List.drop (0 : Nat)
                (List.take
                  ((0 : Nat) +
                    List.length
                      (bytesO
                        (ByteArray.mk
                          #[(102 : UInt8), (111 : UInt8), (114 : UInt8), (32 : UInt8), (110 : UInt8), (111 : UInt8),
                            (116 : UInt8), (104 : UInt8), (105 : UInt8), (110 : UInt8), (103 : UInt8), (63 : UInt8)])))
                  (bytesO
                    (ByteArray.mk
                      #[(102 : UInt8), (111 : UInt8), (114 : UInt8), (32 : UInt8), (110 : UInt8), (111 : UInt8),
                        (116 : UInt8), (104 : UInt8), (105 : UInt8), (110 : UInt8), (103 : UInt8),
                        (63 : UInt8)])))]))) :
    Int) ==
  (32 : Int))
    (((((0 : Int) ≤ (0 : Int)) ∧
     ((0 : Int) <
  (↑(List.length
        (macV
          [UInt8.ofNat (Int.toNat (74 : Int)), UInt8.ofNat (Int.toNat (101 : Int)), UInt8.ofNat (Int.toNat (102 : Int)),
            UInt8.ofNat (Int.toNat (101 : Int))]
          (List.flatten
            [List.drop (0 : Nat)
                (List.take
                  ((0 : Nat) +
                    List.length
                      (bytesO
                        (ByteArray.mk
                          #[(119 : UInt8), (104 : UInt8), (97 : UInt8), (116 : UInt8), (32 : UInt8), (100 : UInt8),
                            (111 : UInt8), (32 : UInt8), (121 : UInt8), (97 : UInt8), (32 : UInt8), (119 : UInt8),
                            (97 : UInt8), (110 : UInt8), (116 : UInt8), (32 : UInt8)])))
                  (bytesO
                    (ByteArray.mk
                      #[(119 : UInt8), (104 : UInt8), (97 : UInt8), (116 : UInt8), (32 : UInt8), (100 : UInt8),
                        (111 : UInt8), (32 : UInt8), (121 : UInt8), (97 : UInt8), (32 : UInt8), (119 : UInt8),
                        (97 : UInt8), (110 : UInt8), (116 : UInt8), (32 : UInt8)]))),
              List.drop (0 : Nat)
                (List.take
                  ((0 : Nat) +
                    List.length
                      (bytesO
                        (ByteArray.mk
                          #[(102 : UInt8), (111 : UInt8), (114 : UInt8), (32 : UInt8), (110 : UInt8), (111 : UInt8),
                            (116 : UInt8), (104 : UInt8), (105 : UInt8), (110 : UInt8), (103 : UInt8), (63 : UInt8)])))
                  (bytesO
                    (ByteArray.mk
                      #[(102 : UInt8), (111 : UInt8), (114 : UInt8), (32 : UInt8), (110 : UInt8), (111 : UInt8),
                        (116 : UInt8), (104 : UInt8), (105 : UInt8), (110 : UInt8), (103 : UInt8),
                        (63 : UInt8)])))]))) :
    Int))) ∧
    bcase (List.getD
    (macV
      [UInt8.ofNat (Int.toNat (74 : Int)), UInt8.ofNat (Int.toNat (101 : Int)), UInt8.ofNat (Int.toNat (102 : Int)),
        UInt8.ofNat (Int.toNat (101 : Int))]
      (List.flatten
        [List.drop (0 : Nat)
            (List.take
              ((0 : Nat) +
                List.length
                  (bytesO
                    (ByteArray.mk
                      #[(119 : UInt8), (104 : UInt8), (97 : UInt8), (116 : UInt8), (32 : UInt8), (100 : UInt8),
                        (111 : UInt8), (32 : UInt8), (121 : UInt8), (97 : UInt8), (32 : UInt8), (119 : UInt8),
                        (97 : UInt8), (110 : UInt8), (116 : UInt8), (32 : UInt8)])))
              (bytesO
                (ByteArray.mk
                  #[(119 : UInt8), (104 : UInt8), (97 : UInt8), (116 : UInt8), (32 : UInt8), (100 : UInt8),
                    (111 : UInt8), (32 : UInt8), (121 : UInt8), (97 : UInt8), (32 : UInt8), (119 : UInt8), (97 : UInt8),
                    (110 : UInt8), (116 : UInt8), (32 : UInt8)]))),
          List.drop (0 : Nat)
            (List.take
              ((0 : Nat) +
                List.length
                  (bytesO
                    (ByteArray.mk
                      #[(102 : UInt8), (111 : UInt8), (114 : UInt8), (32 : UInt8), (110 : UInt8), (111 : UInt8),
                        (116 : UInt8), (104 : UInt8), (105 : UInt8), (110 : UInt8), (103 : UInt8), (63 : UInt8)])))
              (bytesO
                (ByteArray.mk
                  #[(102 : UInt8), (111 : UInt8), (114 : UInt8), (32 : UInt8), (110 : UInt8), (111 : UInt8),
                    (116 : UInt8), (104 : UInt8), (105 : UInt8), (110 : UInt8), (103 : UInt8), (63 : UInt8)])))]))
    ((0 : Nat) + Int.toNat (0 : Int)) (0 : UInt8) ==
  UInt8.ofNat (Int.toNat (91 : Int)))
      (((((0 : Int) ≤ (1 : Int)) ∧
       ((1 : Int) <
  (↑(List.length
        (macV
          [UInt8.ofNat (Int.toNat (74 : Int)), UInt8.ofNat (Int.toNat (101 : Int)), UInt8.ofNat (Int.toNat (102 : Int)),
            UInt8.ofNat (Int.toNat (101 : Int))]
          (List.flatten
            [List.drop (0 : Nat)
                (List.take
                  ((0 : Nat) +
                    List.length
                      (bytesO
                        (ByteArray.mk
                          #[(119 : UInt8), (104 : UInt8), (97 : UInt8), (116 : UInt8), (32 : UInt8), (100 : UInt8),
                            (111 : UInt8), (32 : UInt8), (121 : UInt8), (97 : UInt8), (32 : UInt8), (119 : UInt8),
                            (97 : UInt8), (110 : UInt8), (116 : UInt8), (32 : UInt8)])))
                  (bytesO
                    (ByteArray.mk
                      #[(119 : UInt8), (104 : UInt8), (97 : UInt8), (116 : UInt8), (32 : UInt8), (100 : UInt8),
                        (111 : UInt8), (32 : UInt8), (121 : UInt8), (97 : UInt8), (32 : UInt8), (119 : UInt8),
                        (97 : UInt8), (110 : UInt8), (116 : UInt8), (32 : UInt8)]))),
              List.drop (0 : Nat)
                (List.take
                  ((0 : Nat) +
                    List.length
                      (bytesO
                        (ByteArray.mk
                          #[(102 : UInt8), (111 : UInt8), (114 : UInt8), (32 : UInt8), (110 : UInt8), (111 : UInt8),
                            (116 : UInt8), (104 : UInt8), (105 : UInt8), (110 : UInt8), (103 : UInt8), (63 : UInt8)])))
                  (bytesO
                    (ByteArray.mk
                      #[(102 : UInt8), (111 : UInt8), (114 : UInt8), (32 : UInt8), (110 : UInt8), (111 : UInt8),
                        (116 : UInt8), (104 : UInt8), (105 : UInt8), (110 : UInt8), (103 : UInt8),
                        (63 : UInt8)])))]))) :
    Int))) ∧
      bcase (List.getD
    (macV
      [UInt8.ofNat (Int.toNat (74 : Int)), UInt8.ofNat (Int.toNat (101 : Int)), UInt8.ofNat (Int.toNat (102 : Int)),
        UInt8.ofNat (Int.toNat (101 : Int))]
      (List.flatten
        [List.drop (0 : Nat)
            (List.take
              ((0 : Nat) +
                List.length
                  (bytesO
                    (ByteArray.mk
                      #[(119 : UInt8), (104 : UInt8), (97 : UInt8), (116 : UInt8), (32 : UInt8), (100 : UInt8),
                        (111 : UInt8), (32 : UInt8), (121 : UInt8), (97 : UInt8), (32 : UInt8), (119 : UInt8),
                        (97 : UInt8), (110 : UInt8), (116 : UInt8), (32 : UInt8)])))
              (bytesO
                (ByteArray.mk
                  #[(119 : UInt8), (104 : UInt8), (97 : UInt8), (116 : UInt8), (32 : UInt8), (100 : UInt8),
                    (111 : UInt8), (32 : UInt8), (121 : UInt8), (97 : UInt8), (32 : UInt8), (119 : UInt8), (97 : UInt8),
                    (110 : UInt8), (116 : UInt8), (32 : UInt8)]))),
          List.drop (0 : Nat)
            (List.take
              ((0 : Nat) +
                List.length
                  (bytesO
                    (ByteArray.mk
                      #[(102 : UInt8), (111 : UInt8), (114 : UInt8), (32 : UInt8), (110 : UInt8), (111 : UInt8),
                        (116 : UInt8), (104 : UInt8), (105 : UInt8), (110 : UInt8), (103 : UInt8), (63 : UInt8)])))
              (bytesO
                (ByteArray.mk
                  #[(102 : UInt8), (111 : UInt8), (114 : UInt8), (32 : UInt8), (110 : UInt8), (111 : UInt8),
                    (116 : UInt8), (104 : UInt8), (105 : UInt8), (110 : UInt8), (103 : UInt8), (63 : UInt8)])))]))
    ((0 : Nat) + Int.toNat (1 : Int)) (0 : UInt8) ==
  UInt8.ofNat (Int.toNat (220 : Int)))
        (((((0 : Int) ≤ (2 : Int)) ∧
         ((2 : Int) <
  (↑(List.length
        (macV
          [UInt8.ofNat (Int.toNat (74 : Int)), UInt8.ofNat (Int.toNat (101 : Int)), UInt8.ofNat (Int.toNat (102 : Int)),
            UInt8.ofNat (Int.toNat (101 : Int))]
          (List.flatten
            [List.drop (0 : Nat)
                (List.take
                  ((0 : Nat) +
                    List.length
                      (bytesO
                        (ByteArray.mk
                          #[(119 : UInt8), (104 : UInt8), (97 : UInt8), (116 : UInt8), (32 : UInt8), (100 : UInt8),
                            (111 : UInt8), (32 : UInt8), (121 : UInt8), (97 : UInt8), (32 : UInt8), (119 : UInt8),
                            (97 : UInt8), (110 : UInt8), (116 : UInt8), (32 : UInt8)])))
                  (bytesO
                    (ByteArray.mk
                      #[(119 : UInt8), (104 : UInt8), (97 : UInt8), (116 : UInt8), (32 : UInt8), (100 : UInt8),
                        (111 : UInt8), (32 : UInt8), (121 : UInt8), (97 : UInt8), (32 : UInt8), (119 : UInt8),
                        (97 : UInt8), (110 : UInt8), (116 : UInt8), (32 : UInt8)]))),
              List.drop (0 : Nat)
                (List.take
                  ((0 : Nat) +
                    List.length
                      (bytesO
                        (ByteArray.mk
                          #[(102 : UInt8), (111 : UInt8), (114 : UInt8), (32 : UInt8), (110 : UInt8), (111 : UInt8),
                            (116 : UInt8), (104 : UInt8), (105 : UInt8), (110 : UInt8), (103 : UInt8), (63 : UInt8)])))
                  (bytesO
                    (ByteArray.mk
                      #[(102 : UInt8), (111 : UInt8), (114 : UInt8), (32 : UInt8), (110 : UInt8), (111 : UInt8),
                        (116 : UInt8), (104 : UInt8), (105 : UInt8), (110 : UInt8), (103 : UInt8),
                        (63 : UInt8)])))]))) :
    Int))) ∧
        bcase (List.getD
    (macV
      [UInt8.ofNat (Int.toNat (74 : Int)), UInt8.ofNat (Int.toNat (101 : Int)), UInt8.ofNat (Int.toNat (102 : Int)),
        UInt8.ofNat (Int.toNat (101 : Int))]
      (List.flatten
        [List.drop (0 : Nat)
            (List.take
              ((0 : Nat) +
                List.length
                  (bytesO
                    (ByteArray.mk
                      #[(119 : UInt8), (104 : UInt8), (97 : UInt8), (116 : UInt8), (32 : UInt8), (100 : UInt8),
                        (111 : UInt8), (32 : UInt8), (121 : UInt8), (97 : UInt8), (32 : UInt8), (119 : UInt8),
                        (97 : UInt8), (110 : UInt8), (116 : UInt8), (32 : UInt8)])))
              (bytesO
                (ByteArray.mk
                  #[(119 : UInt8), (104 : UInt8), (97 : UInt8), (116 : UInt8), (32 : UInt8), (100 : UInt8),
                    (111 : UInt8), (32 : UInt8), (121 : UInt8), (97 : UInt8), (32 : UInt8), (119 : UInt8), (97 : UInt8),
                    (110 : UInt8), (116 : UInt8), (32 : UInt8)]))),
          List.drop (0 : Nat)
            (List.take
              ((0 : Nat) +
                List.length
                  (bytesO
                    (ByteArray.mk
                      #[(102 : UInt8), (111 : UInt8), (114 : UInt8), (32 : UInt8), (110 : UInt8), (111 : UInt8),
                        (116 : UInt8), (104 : UInt8), (105 : UInt8), (110 : UInt8), (103 : UInt8), (63 : UInt8)])))
              (bytesO
                (ByteArray.mk
                  #[(102 : UInt8), (111 : UInt8), (114 : UInt8), (32 : UInt8), (110 : UInt8), (111 : UInt8),
                    (116 : UInt8), (104 : UInt8), (105 : UInt8), (110 : UInt8), (103 : UInt8), (63 : UInt8)])))]))
    ((0 : Nat) + Int.toNat (2 : Int)) (0 : UInt8) ==
  UInt8.ofNat (Int.toNat (193 : Int)))
          (((((0 : Int) ≤ (3 : Int)) ∧
           ((3 : Int) <
  (↑(List.length
        (macV
          [UInt8.ofNat (Int.toNat (74 : Int)), UInt8.ofNat (Int.toNat (101 : Int)), UInt8.ofNat (Int.toNat (102 : Int)),
            UInt8.ofNat (Int.toNat (101 : Int))]
          (List.flatten
            [List.drop (0 : Nat)
                (List.take
                  ((0 : Nat) +
                    List.length
                      (bytesO
                        (ByteArray.mk
                          #[(119 : UInt8), (104 : UInt8), (97 : UInt8), (116 : UInt8), (32 : UInt8), (100 : UInt8),
                            (111 : UInt8), (32 : UInt8), (121 : UInt8), (97 : UInt8), (32 : UInt8), (119 : UInt8),
                            (97 : UInt8), (110 : UInt8), (116 : UInt8), (32 : UInt8)])))
                  (bytesO
                    (ByteArray.mk
                      #[(119 : UInt8), (104 : UInt8), (97 : UInt8), (116 : UInt8), (32 : UInt8), (100 : UInt8),
                        (111 : UInt8), (32 : UInt8), (121 : UInt8), (97 : UInt8), (32 : UInt8), (119 : UInt8),
                        (97 : UInt8), (110 : UInt8), (116 : UInt8), (32 : UInt8)]))),
              List.drop (0 : Nat)
                (List.take
                  ((0 : Nat) +
                    List.length
                      (bytesO
                        (ByteArray.mk
                          #[(102 : UInt8), (111 : UInt8), (114 : UInt8), (32 : UInt8), (110 : UInt8), (111 : UInt8),
                            (116 : UInt8), (104 : UInt8), (105 : UInt8), (110 : UInt8), (103 : UInt8), (63 : UInt8)])))
                  (bytesO
                    (ByteArray.mk
                      #[(102 : UInt8), (111 : UInt8), (114 : UInt8), (32 : UInt8), (110 : UInt8), (111 : UInt8),
                        (116 : UInt8), (104 : UInt8), (105 : UInt8), (110 : UInt8), (103 : UInt8),
                        (63 : UInt8)])))]))) :
    Int))) ∧
          (Q
  (SV.bool
    (List.getD
        (macV
          [UInt8.ofNat (Int.toNat (74 : Int)), UInt8.ofNat (Int.toNat (101 : Int)), UInt8.ofNat (Int.toNat (102 : Int)),
            UInt8.ofNat (Int.toNat (101 : Int))]
          (List.flatten
            [List.drop (0 : Nat)
                (List.take
                  ((0 : Nat) +
                    List.length
                      (bytesO
                        (ByteArray.mk
                          #[(119 : UInt8), (104 : UInt8), (97 : UInt8), (116 : UInt8), (32 : UInt8), (100 : UInt8),
                            (111 : UInt8), (32 : UInt8), (121 : UInt8), (97 : UInt8), (32 : UInt8), (119 : UInt8),
                            (97 : UInt8), (110 : UInt8), (116 : UInt8), (32 : UInt8)])))
                  (bytesO
                    (ByteArray.mk
                      #[(119 : UInt8), (104 : UInt8), (97 : UInt8), (116 : UInt8), (32 : UInt8), (100 : UInt8),
                        (111 : UInt8), (32 : UInt8), (121 : UInt8), (97 : UInt8), (32 : UInt8), (119 : UInt8),
                        (97 : UInt8), (110 : UInt8), (116 : UInt8), (32 : UInt8)]))),
              List.drop (0 : Nat)
                (List.take
                  ((0 : Nat) +
                    List.length
                      (bytesO
                        (ByteArray.mk
                          #[(102 : UInt8), (111 : UInt8), (114 : UInt8), (32 : UInt8), (110 : UInt8), (111 : UInt8),
                            (116 : UInt8), (104 : UInt8), (105 : UInt8), (110 : UInt8), (103 : UInt8), (63 : UInt8)])))
                  (bytesO
                    (ByteArray.mk
                      #[(102 : UInt8), (111 : UInt8), (114 : UInt8), (32 : UInt8), (110 : UInt8), (111 : UInt8),
                        (116 : UInt8), (104 : UInt8), (105 : UInt8), (110 : UInt8), (103 : UInt8), (63 : UInt8)])))]))
        ((0 : Nat) + Int.toNat (3 : Int)) (0 : UInt8) ==
      UInt8.ofNat (Int.toNat (70 : Int)))))))
          ((Q (SV.bool false)))))
        ((Q (SV.bool false)))))
      ((Q (SV.bool false)))))
    ((Q (SV.bool false)))))) := by kernel_rfl
theorem vcMS (k : List UInt8) (l : List (List UInt8)) (o : List UInt8) (Q : SV → Prop) : LnRaw tt spL7 9 [] (lMS l) Tryd.f3 Q (k, l, o, ()) =
  bcase (decide ((↑(List.length k) : Int) > (1000 : Int)))
    ((Q (SV.bool true)))
    (bcase (decide ((↑(List.length l) : Int) > (20 : Int)))
      ((Q (SV.bool true)))
      (((((0 : Nat) = (0 : Nat)) ∧
       ((0 : Nat) = (0 : Nat))) ∧
      ((iMS l [] (0 : Int)) ∧
      (∀ l_1 : List UInt8,
      (∀ a : Int,
      ((iMS l l_1 a) →
      bcase (decide (a < (↑(List.length l) : Int)))
        (((((0 : Int) ≤ a) ∧
         (a < (↑(List.length l) : Int))) ∧
        bcase (decide ((↑(List.length (List.getD l (Int.toNat a) [])) : Int) > (500 : Int)))
          ((Q (SV.bool true)))
          (((((0 : Nat) + List.length l_1 = List.length l_1) ∧
           (List.length (List.drop (0 : Nat) (List.take (List.length l_1) l_1) ++ List.getD l (Int.toNat a) []) ≤ appLim)) ∧
          ((((0 : Nat) = (0 : Nat)) ∧
           (List.length (List.drop (0 : Nat) (List.take (List.length l_1) l_1) ++ List.getD l (Int.toNat a) []) =
  List.length (List.drop (0 : Nat) (List.take (List.length l_1) l_1) ++ List.getD l (Int.toNat a) []))) ∧
          (((k, l, o, l, (↑(List.length l) : Int), ()) = (k, l, o, l, (↑(List.length l) : Int), ())) ∧
          ((iMS l (List.drop (0 : Nat) (List.take (List.length l_1) l_1) ++ List.getD l (Int.toNat a) [])
  (IntKind.wrap IntKind.i64 (a + (1 : Int)))) ∧
          (Int.toNat ((↑(List.length l) : Int) - IntKind.wrap IntKind.i64 (a + (1 : Int))) <
  Int.toNat ((↑(List.length l) : Int) - a)))))))))
        ((((List.length k ≤ (1073741824 : Nat)) ∧
         ((List.length l ≤ (1000000 : Nat)) ∧
         (∀ p : List UInt8,
         ((List.Mem p l) →
         (List.length p ≤ (1000000 : Nat)))))) ∧
        (((List.length k ≤ (1073741824 : Nat)) ∧
         (List.length (List.drop (0 : Nat) (List.take ((0 : Nat) + List.length l_1) l_1)) ≤ (1000000000 : Nat))) ∧
        ((List.length
    (List.drop (0 : Nat) (List.take ((0 : Nat) + List.length (macV k (List.flatten l))) (macV k (List.flatten l)))) ≤
  (4294967296 : Nat)) ∧
        bcase (decide
  (List.drop (0 : Nat) (List.take ((0 : Nat) + List.length (macV k (List.flatten l))) (macV k (List.flatten l))) =
    List.drop (0 : Nat)
      (List.take ((0 : Nat) + List.length (macV k (List.drop (0 : Nat) (List.take ((0 : Nat) + List.length l_1) l_1))))
        (macV k (List.drop (0 : Nat) (List.take ((0 : Nat) + List.length l_1) l_1))))))
          (((List.length k ≤ (1073741824 : Nat)) ∧
          ((List.length k ≤ (4294967296 : Nat)) ∧
          bcase (decide (k = o) == decide (k = o))
            (((List.length (List.drop (0 : Nat) (List.take ((0 : Nat) + List.length l_1) l_1)) ≤ (1073741824 : Nat)) ∧
            (Q
  (SV.bool
    (decide
      (List.drop (0 : Nat) (List.take ((0 : Nat) + List.length l_1) l_1) =
        List.drop (0 : Nat) (List.take ((0 : Nat) + List.length l_1) l_1)))))))
            ((Q (SV.bool false))))))
          ((Q (SV.bool false)))))))))))))) := by kernel_rfl
theorem vcMK (k b w : List UInt8) (n : UInt8) (Q : SV → Prop) : LnRaw tt spL7 9 [] (lMK k w) Tryd.f4 Q (k, b, n, ()) =
  bcase (decide ((↑(List.length k) : Int) > (1000 : Int)))
    ((Q (SV.bool true)))
    (bcase (decide ((↑(List.length b) : Int) > (1000 : Int)))
      ((Q (SV.bool true)))
      ((((List.length k ≤ (1073741824 : Nat)) ∧
       (((1 : Nat) ≤ (1000000 : Nat)) ∧
       (∀ p : List UInt8,
       ((List.Mem p [b]) →
       (List.length p ≤ (1000000 : Nat)))))) ∧
      ((((0 : Nat) + (0 : Nat) = (0 : Nat)) ∧
       (List.length ([] ++ k) ≤ appLim)) ∧
      bcase (decide ((↑(List.length k) : Int) > (64 : Int)))
        (((List.length k ≤ (1073741824 : Nat)) ∧
        (((((0 : Nat) = (0 : Nat)) ∧
          (List.length (macV k (List.flatten [b])) = List.length (macV k (List.flatten [b])))) ∧
         (((0 : Nat) = (0 : Nat)) ∧
         (List.length (digV k) = List.length (digV k)))) ∧
        ((iMK k w (macV k (List.flatten [b])) (digV k) (0 : Int)) ∧
        (∀ l : List UInt8,
        (∀ l_1 : List UInt8,
        (∀ a : Int,
        ((iMK k w l l_1 a) →
        bcase (decide (a < (↑(UInt8.toNat n) : Int)))
          (bcase (decide ((↑(List.length l_1) : Int) < (64 : Int)))
            (((((0 : Nat) + List.length l_1 = List.length l_1) ∧
             (List.length (List.drop (0 : Nat) (List.take (List.length l_1) l_1) ++ [UInt8.ofNat (Int.toNat (0 : Int))]) ≤ appLim)) ∧
            (((((0 : Nat) = (0 : Nat)) ∧
              (List.length l = List.length l)) ∧
             (((0 : Nat) = (0 : Nat)) ∧
             (List.length (List.drop (0 : Nat) (List.take (List.length l_1) l_1) ++ [UInt8.ofNat (Int.toNat (0 : Int))]) =
  List.length (List.drop (0 : Nat) (List.take (List.length l_1) l_1) ++ [UInt8.ofNat (Int.toNat (0 : Int))])))) ∧
            (((k, b, n, ()) = (k, b, n, ())) ∧
            ((iMK k w l (List.drop (0 : Nat) (List.take (List.length l_1) l_1) ++ [UInt8.ofNat (Int.toNat (0 : Int))])
  (IntKind.wrap IntKind.i64 (a + (1 : Int)))) ∧
            (Int.toNat ((256 : Int) - IntKind.wrap IntKind.i64 (a + (1 : Int))) < Int.toNat ((256 : Int) - a)))))))
            ((((List.length (List.drop (0 : Nat) (List.take ((0 : Nat) + List.length l_1) l_1)) ≤ (1073741824 : Nat)) ∧
             (((1 : Nat) ≤ (1000000 : Nat)) ∧
             (∀ p : List UInt8,
             ((List.Mem p [b]) →
             (List.length p ≤ (1000000 : Nat)))))) ∧
            ((List.length (List.drop (0 : Nat) (List.take ((0 : Nat) + List.length l) l)) ≤ (1073741824 : Nat)) ∧
            bcase (decide
  (List.drop (0 : Nat) (List.take ((0 : Nat) + List.length l) l) =
    List.drop (0 : Nat)
      (List.take
        ((0 : Nat) +
          List.length (macV (List.drop (0 : Nat) (List.take ((0 : Nat) + List.length l_1) l_1)) (List.flatten [b])))
        (macV (List.drop (0 : Nat) (List.take ((0 : Nat) + List.length l_1) l_1)) (List.flatten [b])))))
              (((((0 : Int) ≤ (0 : Int)) ∧
               (((0 : Int) ≤ IntKind.wrap IntKind.i64 (Int.tdiv (↑(List.length b) : Int) (2 : Int))) ∧
               (IntKind.wrap IntKind.i64 (Int.tdiv (↑(List.length b) : Int) (2 : Int)) ≤ (↑(List.length b) : Int)))) ∧
              ((((0 : Int) ≤ IntKind.wrap IntKind.i64 (Int.tdiv (↑(List.length b) : Int) (2 : Int))) ∧
               ((IntKind.wrap IntKind.i64 (Int.tdiv (↑(List.length b) : Int) (2 : Int)) ≤ (↑(List.length b) : Int)) ∧
               ((↑(List.length b) : Int) ≤ (↑(List.length b) : Int)))) ∧
              (((List.length k ≤ (1073741824 : Nat)) ∧
               (((3 : Nat) ≤ (1000000 : Nat)) ∧
               (∀ p : List UInt8,
               ((List.Mem p
  [List.drop (Int.toNat (0 : Int))
      (List.take (Int.toNat (IntKind.wrap IntKind.i64 (Int.tdiv (↑(List.length b) : Int) (2 : Int)))) b),
    [],
    List.drop (Int.toNat (IntKind.wrap IntKind.i64 (Int.tdiv (↑(List.length b) : Int) (2 : Int))))
      (List.take (Int.toNat (↑(List.length b) : Int)) b)]) →
               (List.length p ≤ (1000000 : Nat)))))) ∧
              ((List.length (List.drop (0 : Nat) (List.take ((0 : Nat) + List.length l) l)) ≤ (1073741824 : Nat)) ∧
              (Q
  (SV.bool
    (decide
      (List.drop (0 : Nat) (List.take ((0 : Nat) + List.length l) l) =
        List.drop (0 : Nat)
          (List.take
            ((0 : Nat) +
              List.length
                (macV k
                  (List.flatten
                    [List.drop (Int.toNat (0 : Int))
                        (List.take (Int.toNat (IntKind.wrap IntKind.i64 (Int.tdiv (↑(List.length b) : Int) (2 : Int))))
                          b),
                      [],
                      List.drop (Int.toNat (IntKind.wrap IntKind.i64 (Int.tdiv (↑(List.length b) : Int) (2 : Int))))
                        (List.take (Int.toNat (↑(List.length b) : Int)) b)])))
            (macV k
              (List.flatten
                [List.drop (Int.toNat (0 : Int))
                    (List.take (Int.toNat (IntKind.wrap IntKind.i64 (Int.tdiv (↑(List.length b) : Int) (2 : Int)))) b),
                  [],
                  List.drop (Int.toNat (IntKind.wrap IntKind.i64 (Int.tdiv (↑(List.length b) : Int) (2 : Int))))
                    (List.take (Int.toNat (↑(List.length b) : Int)) b)]))))))))))))
              ((Q (SV.bool false)))))))
          ((((List.length (List.drop (0 : Nat) (List.take ((0 : Nat) + List.length l_1) l_1)) ≤ (1073741824 : Nat)) ∧
           (((1 : Nat) ≤ (1000000 : Nat)) ∧
           (∀ p : List UInt8,
           ((List.Mem p [b]) →
           (List.length p ≤ (1000000 : Nat)))))) ∧
          ((List.length (List.drop (0 : Nat) (List.take ((0 : Nat) + List.length l) l)) ≤ (1073741824 : Nat)) ∧
          bcase (decide
  (List.drop (0 : Nat) (List.take ((0 : Nat) + List.length l) l) =
    List.drop (0 : Nat)
      (List.take
        ((0 : Nat) +
          List.length (macV (List.drop (0 : Nat) (List.take ((0 : Nat) + List.length l_1) l_1)) (List.flatten [b])))
        (macV (List.drop (0 : Nat) (List.take ((0 : Nat) + List.length l_1) l_1)) (List.flatten [b])))))
            (((((0 : Int) ≤ (0 : Int)) ∧
             (((0 : Int) ≤ IntKind.wrap IntKind.i64 (Int.tdiv (↑(List.length b) : Int) (2 : Int))) ∧
             (IntKind.wrap IntKind.i64 (Int.tdiv (↑(List.length b) : Int) (2 : Int)) ≤ (↑(List.length b) : Int)))) ∧
            ((((0 : Int) ≤ IntKind.wrap IntKind.i64 (Int.tdiv (↑(List.length b) : Int) (2 : Int))) ∧
             ((IntKind.wrap IntKind.i64 (Int.tdiv (↑(List.length b) : Int) (2 : Int)) ≤ (↑(List.length b) : Int)) ∧
             ((↑(List.length b) : Int) ≤ (↑(List.length b) : Int)))) ∧
            (((List.length k ≤ (1073741824 : Nat)) ∧
             (((3 : Nat) ≤ (1000000 : Nat)) ∧
             (∀ p : List UInt8,
             ((List.Mem p
  [List.drop (Int.toNat (0 : Int))
      (List.take (Int.toNat (IntKind.wrap IntKind.i64 (Int.tdiv (↑(List.length b) : Int) (2 : Int)))) b),
    [],
    List.drop (Int.toNat (IntKind.wrap IntKind.i64 (Int.tdiv (↑(List.length b) : Int) (2 : Int))))
      (List.take (Int.toNat (↑(List.length b) : Int)) b)]) →
             (List.length p ≤ (1000000 : Nat)))))) ∧
            ((List.length (List.drop (0 : Nat) (List.take ((0 : Nat) + List.length l) l)) ≤ (1073741824 : Nat)) ∧
            (Q
  (SV.bool
    (decide
      (List.drop (0 : Nat) (List.take ((0 : Nat) + List.length l) l) =
        List.drop (0 : Nat)
          (List.take
            ((0 : Nat) +
              List.length
                (macV k
                  (List.flatten
                    [List.drop (Int.toNat (0 : Int))
                        (List.take (Int.toNat (IntKind.wrap IntKind.i64 (Int.tdiv (↑(List.length b) : Int) (2 : Int))))
                          b),
                      [],
                      List.drop (Int.toNat (IntKind.wrap IntKind.i64 (Int.tdiv (↑(List.length b) : Int) (2 : Int))))
                        (List.take (Int.toNat (↑(List.length b) : Int)) b)])))
            (macV k
              (List.flatten
                [List.drop (Int.toNat (0 : Int))
                    (List.take (Int.toNat (IntKind.wrap IntKind.i64 (Int.tdiv (↑(List.length b) : Int) (2 : Int)))) b),
                  [],
                  List.drop (Int.toNat (IntKind.wrap IntKind.i64 (Int.tdiv (↑(List.length b) : Int) (2 : Int))))
                    (List.take (Int.toNat (↑(List.length b) : Int)) b)]))))))))))))
            ((Q (SV.bool false))))))))))))))
        ((((((0 : Nat) = (0 : Nat)) ∧
          (List.length (macV k (List.flatten [b])) = List.length (macV k (List.flatten [b])))) ∧
         (((0 : Nat) = (0 : Nat)) ∧
         (List.length ([] ++ k) = List.length ([] ++ k)))) ∧
        ((iMK k w (macV k (List.flatten [b])) ([] ++ k) (0 : Int)) ∧
        (∀ l : List UInt8,
        (∀ l_1 : List UInt8,
        (∀ a : Int,
        ((iMK k w l l_1 a) →
        bcase (decide (a < (↑(UInt8.toNat n) : Int)))
          (bcase (decide ((↑(List.length l_1) : Int) < (64 : Int)))
            (((((0 : Nat) + List.length l_1 = List.length l_1) ∧
             (List.length (List.drop (0 : Nat) (List.take (List.length l_1) l_1) ++ [UInt8.ofNat (Int.toNat (0 : Int))]) ≤ appLim)) ∧
            (((((0 : Nat) = (0 : Nat)) ∧
              (List.length l = List.length l)) ∧
             (((0 : Nat) = (0 : Nat)) ∧
             (List.length (List.drop (0 : Nat) (List.take (List.length l_1) l_1) ++ [UInt8.ofNat (Int.toNat (0 : Int))]) =
  List.length (List.drop (0 : Nat) (List.take (List.length l_1) l_1) ++ [UInt8.ofNat (Int.toNat (0 : Int))])))) ∧
            (((k, b, n, ()) = (k, b, n, ())) ∧
            ((iMK k w l (List.drop (0 : Nat) (List.take (List.length l_1) l_1) ++ [UInt8.ofNat (Int.toNat (0 : Int))])
  (IntKind.wrap IntKind.i64 (a + (1 : Int)))) ∧
            (Int.toNat ((256 : Int) - IntKind.wrap IntKind.i64 (a + (1 : Int))) < Int.toNat ((256 : Int) - a)))))))
            ((((List.length (List.drop (0 : Nat) (List.take ((0 : Nat) + List.length l_1) l_1)) ≤ (1073741824 : Nat)) ∧
             (((1 : Nat) ≤ (1000000 : Nat)) ∧
             (∀ p : List UInt8,
             ((List.Mem p [b]) →
             (List.length p ≤ (1000000 : Nat)))))) ∧
            ((List.length (List.drop (0 : Nat) (List.take ((0 : Nat) + List.length l) l)) ≤ (1073741824 : Nat)) ∧
            bcase (decide
  (List.drop (0 : Nat) (List.take ((0 : Nat) + List.length l) l) =
    List.drop (0 : Nat)
      (List.take
        ((0 : Nat) +
          List.length (macV (List.drop (0 : Nat) (List.take ((0 : Nat) + List.length l_1) l_1)) (List.flatten [b])))
        (macV (List.drop (0 : Nat) (List.take ((0 : Nat) + List.length l_1) l_1)) (List.flatten [b])))))
              (((((0 : Int) ≤ (0 : Int)) ∧
               (((0 : Int) ≤ IntKind.wrap IntKind.i64 (Int.tdiv (↑(List.length b) : Int) (2 : Int))) ∧
               (IntKind.wrap IntKind.i64 (Int.tdiv (↑(List.length b) : Int) (2 : Int)) ≤ (↑(List.length b) : Int)))) ∧
              ((((0 : Int) ≤ IntKind.wrap IntKind.i64 (Int.tdiv (↑(List.length b) : Int) (2 : Int))) ∧
               ((IntKind.wrap IntKind.i64 (Int.tdiv (↑(List.length b) : Int) (2 : Int)) ≤ (↑(List.length b) : Int)) ∧
               ((↑(List.length b) : Int) ≤ (↑(List.length b) : Int)))) ∧
              (((List.length k ≤ (1073741824 : Nat)) ∧
               (((3 : Nat) ≤ (1000000 : Nat)) ∧
               (∀ p : List UInt8,
               ((List.Mem p
  [List.drop (Int.toNat (0 : Int))
      (List.take (Int.toNat (IntKind.wrap IntKind.i64 (Int.tdiv (↑(List.length b) : Int) (2 : Int)))) b),
    [],
    List.drop (Int.toNat (IntKind.wrap IntKind.i64 (Int.tdiv (↑(List.length b) : Int) (2 : Int))))
      (List.take (Int.toNat (↑(List.length b) : Int)) b)]) →
               (List.length p ≤ (1000000 : Nat)))))) ∧
              ((List.length (List.drop (0 : Nat) (List.take ((0 : Nat) + List.length l) l)) ≤ (1073741824 : Nat)) ∧
              (Q
  (SV.bool
    (decide
      (List.drop (0 : Nat) (List.take ((0 : Nat) + List.length l) l) =
        List.drop (0 : Nat)
          (List.take
            ((0 : Nat) +
              List.length
                (macV k
                  (List.flatten
                    [List.drop (Int.toNat (0 : Int))
                        (List.take (Int.toNat (IntKind.wrap IntKind.i64 (Int.tdiv (↑(List.length b) : Int) (2 : Int))))
                          b),
                      [],
                      List.drop (Int.toNat (IntKind.wrap IntKind.i64 (Int.tdiv (↑(List.length b) : Int) (2 : Int))))
                        (List.take (Int.toNat (↑(List.length b) : Int)) b)])))
            (macV k
              (List.flatten
                [List.drop (Int.toNat (0 : Int))
                    (List.take (Int.toNat (IntKind.wrap IntKind.i64 (Int.tdiv (↑(List.length b) : Int) (2 : Int)))) b),
                  [],
                  List.drop (Int.toNat (IntKind.wrap IntKind.i64 (Int.tdiv (↑(List.length b) : Int) (2 : Int))))
                    (List.take (Int.toNat (↑(List.length b) : Int)) b)]))))))))))))
              ((Q (SV.bool false)))))))
          ((((List.length (List.drop (0 : Nat) (List.take ((0 : Nat) + List.length l_1) l_1)) ≤ (1073741824 : Nat)) ∧
           (((1 : Nat) ≤ (1000000 : Nat)) ∧
           (∀ p : List UInt8,
           ((List.Mem p [b]) →
           (List.length p ≤ (1000000 : Nat)))))) ∧
          ((List.length (List.drop (0 : Nat) (List.take ((0 : Nat) + List.length l) l)) ≤ (1073741824 : Nat)) ∧
          bcase (decide
  (List.drop (0 : Nat) (List.take ((0 : Nat) + List.length l) l) =
    List.drop (0 : Nat)
      (List.take
        ((0 : Nat) +
          List.length (macV (List.drop (0 : Nat) (List.take ((0 : Nat) + List.length l_1) l_1)) (List.flatten [b])))
        (macV (List.drop (0 : Nat) (List.take ((0 : Nat) + List.length l_1) l_1)) (List.flatten [b])))))
            (((((0 : Int) ≤ (0 : Int)) ∧
             (((0 : Int) ≤ IntKind.wrap IntKind.i64 (Int.tdiv (↑(List.length b) : Int) (2 : Int))) ∧
             (IntKind.wrap IntKind.i64 (Int.tdiv (↑(List.length b) : Int) (2 : Int)) ≤ (↑(List.length b) : Int)))) ∧
            ((((0 : Int) ≤ IntKind.wrap IntKind.i64 (Int.tdiv (↑(List.length b) : Int) (2 : Int))) ∧
             ((IntKind.wrap IntKind.i64 (Int.tdiv (↑(List.length b) : Int) (2 : Int)) ≤ (↑(List.length b) : Int)) ∧
             ((↑(List.length b) : Int) ≤ (↑(List.length b) : Int)))) ∧
            (((List.length k ≤ (1073741824 : Nat)) ∧
             (((3 : Nat) ≤ (1000000 : Nat)) ∧
             (∀ p : List UInt8,
             ((List.Mem p
  [List.drop (Int.toNat (0 : Int))
      (List.take (Int.toNat (IntKind.wrap IntKind.i64 (Int.tdiv (↑(List.length b) : Int) (2 : Int)))) b),
    [],
    List.drop (Int.toNat (IntKind.wrap IntKind.i64 (Int.tdiv (↑(List.length b) : Int) (2 : Int))))
      (List.take (Int.toNat (↑(List.length b) : Int)) b)]) →
             (List.length p ≤ (1000000 : Nat)))))) ∧
            ((List.length (List.drop (0 : Nat) (List.take ((0 : Nat) + List.length l) l)) ≤ (1073741824 : Nat)) ∧
            (Q
  (SV.bool
    (decide
      (List.drop (0 : Nat) (List.take ((0 : Nat) + List.length l) l) =
        List.drop (0 : Nat)
          (List.take
            ((0 : Nat) +
              List.length
                (macV k
                  (List.flatten
                    [List.drop (Int.toNat (0 : Int))
                        (List.take (Int.toNat (IntKind.wrap IntKind.i64 (Int.tdiv (↑(List.length b) : Int) (2 : Int))))
                          b),
                      [],
                      List.drop (Int.toNat (IntKind.wrap IntKind.i64 (Int.tdiv (↑(List.length b) : Int) (2 : Int))))
                        (List.take (Int.toNat (↑(List.length b) : Int)) b)])))
            (macV k
              (List.flatten
                [List.drop (Int.toNat (0 : Int))
                    (List.take (Int.toNat (IntKind.wrap IntKind.i64 (Int.tdiv (↑(List.length b) : Int) (2 : Int)))) b),
                  [],
                  List.drop (Int.toNat (IntKind.wrap IntKind.i64 (Int.tdiv (↑(List.length b) : Int) (2 : Int))))
                    (List.take (Int.toNat (↑(List.length b) : Int)) b)]))))))))))))
            ((Q (SV.bool false))))))))))))))))) := by kernel_rfl
end Go.Proofs.YtomoihkepkmgdaaDoor.H7
/- Layer 7's laws hold. -/
set_option maxRecDepth 100000
namespace Go.Proofs.YtomoihkepkmgdaaDoor.H7
open Go.Sym Go.Dig R1 H5
theorem ok_Bytes7 : FSpecOK Tryd.prog 29 sBytes7 := by
  unfold sBytes7
  rw [bytesO_eq]
  refine fn_okF (by kernel_rfl) tt_ok (.nil _) 40 Tryd.func29 (by decide +kernel) (by kernel_rfl) ?_
  rintro ⟨⟨s⟩, _⟩ h
  replace h : s = str1 ∨ s = str2 := h
  rcases h with rfl | rfl
  · refine ⟨[], {}, fun x => x = .lst (.bytes str1.data.toList), LfVD.of (vcB1 _) ?_, fun x h at_ n w v r => by have h' : x = _ := h; subst h'; exact r⟩
    repeat' apply And.intro
    all_goals first | decide +kernel | exact congrArg (fun l => SV.lst (.bytes l)) (by decide +kernel)
  · refine ⟨[], {}, fun x => x = .lst (.bytes str2.data.toList), LfVD.of (vcB2 _) ?_, fun x h at_ n w v r => by have h' : x = _ := h; subst h'; exact r⟩
    repeat' apply And.intro
    all_goals first | decide +kernel | exact congrArg (fun l => SV.lst (.bytes l)) (by decide +kernel)
theorem jefe : macV [UInt8.ofNat (Int.toNat (74 : Int)), UInt8.ofNat (Int.toNat (101 : Int)), UInt8.ofNat (Int.toNat (102 : Int)), UInt8.ofNat (Int.toNat (101 : Int))] (List.flatten [bytesO (ByteArray.mk #[(119 : UInt8), (104 : UInt8), (97 : UInt8), (116 : UInt8), (32 : UInt8), (100 : UInt8), (111 : UInt8), (32 : UInt8), (121 : UInt8), (97 : UInt8), (32 : UInt8), (119 : UInt8), (97 : UInt8), (110 : UInt8), (116 : UInt8), (32 : UInt8)]), bytesO (ByteArray.mk #[(102 : UInt8), (111 : UInt8), (114 : UInt8), (32 : UInt8), (110 : UInt8), (111 : UInt8), (116 : UInt8), (104 : UInt8), (105 : UInt8), (110 : UInt8), (103 : UInt8), (63 : UInt8)])]) = [91, 220, 193, 70, 191, 96, 117, 78, 106, 4, 36, 38, 8, 149, 117, 199, 90, 0, 63, 8, 157, 39, 57, 131, 157, 236, 88, 185, 100, 236, 56, 67] := by
  rw [macC_eq, bytesO_eq]
  decide +kernel
theorem spAw7_ok : SpecsOK Tryd.prog spAw7 := .consF ok_Bytes7 <| .consF ok_Mac (.nil _)
theorem by_len (s : ByteArray) : (bytesO s).length = s.size := by rw [bytesO_eq]; rfl
theorem ok_Awake7 : SpecOK Tryd.prog 9 sAwake7 := by
  refine fn_okL (by kernel_rfl) tt_ok spAw7_ok 9 Tryd.func9 (by decide +kernel) (by kernel_rfl) ?_
  rintro ⟨⟩ _
  refine ⟨_, {}, fun t => t = _, LnVD.of (vcAw7 _) ?_, svf⟩
  simp only [fl]
  rw [jefe]
  refine ⟨.inl rfl, .inr rfl, ⟨by decide, by decide, fun p hp => ?_⟩, ?_⟩
  · replace hp : p ∈ [bytesO str1, bytesO str2] := hp
    simp only [List.mem_cons, List.not_mem_nil, or_false] at hp
    rcases hp with rfl | rfl
    · rw [by_len]; decide +kernel
    · rw [by_len]; decide +kernel
  rw [bcase_iff]
  refine ⟨fun _ => ⟨by decide, ?_⟩, fun h => absurd h (by decide)⟩
  rw [bcase_iff]
  refine ⟨fun _ => ⟨by decide, ?_⟩, fun h => absurd h (by decide)⟩
  rw [bcase_iff]
  refine ⟨fun _ => ⟨by decide, ?_⟩, fun h => absurd h (by decide)⟩
  rw [bcase_iff]
  refine ⟨fun _ => ⟨by decide, ?_⟩, fun h => absurd h (by decide)⟩
  rfl
theorem spL7_ok : SpecsOK Tryd.prog spL7 := .cons ok_Awake7 <| .consF ok_Mac <| .consF ok_RMacF <| .cons ok_SameM <| .cons ok_Same <| .consF ok_DSumF (.nil _)
theorem macV_len (k b : List UInt8) : (macV k b).length = 32 := by rw [macV_eq]; exact digV_len _
abbrev sMS : SpecF := fspec (α := List UInt8 × List (List UInt8) × List UInt8 × Unit) total fun _ => true
theorem ok_MS : SpecOK Tryd.prog 3 sMS := by
  refine fn_okL (by kernel_rfl) tt_ok spL7_ok 9 Tryd.func3 (by decide +kernel) (by kernel_rfl) ?_
  rintro ⟨k, l, o, _⟩ _
  refine ⟨_, lMS l, fun t => t = _, LnVD.of (vcMS k l o _) ?_, svf⟩
  rw [bcase_dec]
  refine ⟨fun _ => rfl, fun hk => ?_⟩
  rw [bcase_dec]
  refine ⟨fun _ => rfl, fun hl => ?_⟩
  refine ⟨⟨rfl, rfl⟩, ⟨by omega, by omega, by simp, by simp⟩, ?_⟩
  rintro t i ⟨h0, h1, rfl, h3⟩
  have lt : ((l.take i.toNat).flatten).length ≤ 500 * (l.take i.toNat).length := flat_le _ _ h3
  have lt2 : (l.take i.toNat).length ≤ 20 := by rw [List.length_take]; omega
  rw [bcase_dec]
  refine ⟨fun hi => ⟨⟨h0, hi⟩, ?_⟩, fun hi => ?_⟩
  · rw [bcase_dec]
    refine ⟨fun _ => rfl, fun hp => ?_⟩
    have ef : (l.take (i.toNat + 1)).flatten = (l.take i.toNat).flatten ++ l.getD i.toNat [] := take_flat (by omega)
    simp only [tf]
    refine ⟨⟨Nat.zero_add _, ?_⟩, ⟨by trivial, by trivial⟩, by trivial, ⟨?_, ?_, ?_, ?_⟩, ?_⟩
    · rw [List.length_append]; simp only [appLim]; omega
    · rw [wr (by omega)]; omega
    · rw [wr (by omega)]; omega
    · rw [wr (by omega), show (i + 1).toNat = i.toNat + 1 by omega, ef]
    · rw [wr (by omega), show (i + 1).toNat = i.toNat + 1 by omega]
      intro p hpm
      rw [List.take_succ_eq_append_getElem (by omega), List.mem_append, List.mem_singleton] at hpm
      rcases hpm with hpm | rfl
      · exact h3 p hpm
      · rw [List.getD_eq_getElem?_getD, List.getElem?_eq_getElem (show i.toNat < l.length by omega)] at hp
        have : ¬ ((l[i.toNat].length : Int) > 500) := hp
        omega
    · rw [wr (by omega)]; omega
  · have et : l.take i.toNat = l := List.take_of_length_le (by omega)
    rw [et] at h3 lt lt2 ⊢
    have lm := macV_len k l.flatten
    simp only [fl]
    refine ⟨⟨by omega, by omega, fun p hp => Nat.le_trans (h3 p hp) (by decide)⟩, ⟨by omega, by omega⟩, by omega, ?_⟩
    rw [bcase_iff]
    refine ⟨fun _ => ⟨by omega, by omega, ?_⟩, fun hf => by simp at hf⟩
    rw [bcase_iff]
    refine ⟨fun _ => ⟨by omega, ?_⟩, fun hf => by simp at hf⟩
    rfl
theorem mac_pad {k o : List UInt8} (h : iK (kV k) o) (x : List UInt8) : macV o x = macV k x := by
  obtain ⟨n, e, hn⟩ := h
  have eo : kV o = o := by unfold kV; rw [if_neg (by omega)]
  have ep : pad64 o = pad64 (kV k) := by
    subst e
    rw [List.length_append, List.length_replicate] at hn
    unfold pad64
    rw [List.append_assoc, List.replicate_append_replicate, List.length_append, List.length_replicate]
    congr 2; omega
  rw [macV_eq]
  unfold macV0
  rw [blkV_eq]
  unfold blkV0
  rw [eo, ep]
theorem halves (b : List UInt8) : List.flatten [List.drop (Int.toNat 0) (List.take (Int.toNat ((b.length / 2 : Nat) : Int)) b), [], List.drop (Int.toNat ((b.length / 2 : Nat) : Int)) (List.take (Int.toNat (b.length : Int)) b)] = List.flatten [b] := by
  rw [Int.toNat_natCast, Int.toNat_natCast, List.take_length]
  show List.take (b.length / 2) b ++ ([] ++ (List.drop (b.length / 2) b ++ [])) = b ++ []
  rw [List.nil_append, List.append_nil, List.append_nil, List.take_append_drop]
theorem halves_le (b p : List UInt8) (hp : List.Mem p [List.drop (Int.toNat 0) (List.take (Int.toNat ((b.length / 2 : Nat) : Int)) b), [], List.drop (Int.toNat ((b.length / 2 : Nat) : Int)) (List.take (Int.toNat (b.length : Int)) b)]) : p.length ≤ b.length := by
  have hp' : p ∈ [List.drop (Int.toNat 0) (List.take (Int.toNat ((b.length / 2 : Nat) : Int)) b), [], List.drop (Int.toNat ((b.length / 2 : Nat) : Int)) (List.take (Int.toNat (b.length : Int)) b)] := hp
  simp only [List.mem_cons, List.not_mem_nil, or_false] at hp'
  rcases hp' with rfl | rfl | rfl
  · rw [List.length_drop, List.length_take]; omega
  · exact Nat.zero_le _
  · rw [List.length_drop, List.length_take]; omega
abbrev sMK : SpecF := fspec (α := List UInt8 × List UInt8 × UInt8 × Unit) total fun _ => true
theorem ok_MK : SpecOK Tryd.prog 4 sMK := by
  refine fn_okL (by kernel_rfl) tt_ok spL7_ok 9 Tryd.func4 (by decide +kernel) (by kernel_rfl) ?_
  rintro ⟨k, b, n, _⟩ _
  refine ⟨_, lMK k (macV k (List.flatten [b])), fun t => t = _, LnVD.of (vcMK k b (macV k (List.flatten [b])) n _) ?_, svf⟩
  rw [bcase_dec]
  refine ⟨fun _ => rfl, fun hk => ?_⟩
  rw [bcase_dec]
  refine ⟨fun _ => rfl, fun hb => ?_⟩
  have hp1 : ∀ p, List.Mem p [b] → p.length ≤ 1000000 := by
    intro p hp
    replace hp : p ∈ [b] := hp
    rw [List.mem_singleton] at hp
    subst hp; omega
  have eq2 : IntKind.wrap .i64 (Int.tdiv (b.length : Int) 2) = ((b.length / 2 : Nat) : Int) := by
    rw [tdiv_nn (by omega), wr (by omega)]; omega
  refine ⟨⟨by omega, by decide, hp1⟩, ⟨rfl, by simp only [appLim, List.nil_append]; omega⟩, ?_⟩
  rw [bcase_dec]
  have hd5 := digV_len k
  refine ⟨fun h => ⟨by omega, ⟨⟨rfl, rfl⟩, rfl, rfl⟩, ⟨by omega, by omega, rfl, ?_⟩, ?_⟩, fun h => ⟨⟨⟨rfl, rfl⟩, rfl, rfl⟩, ⟨by omega, by omega, rfl, ?_⟩, ?_⟩⟩
  · have e : kV k = digV k := by unfold kV; rw [if_pos (by omega)]
    rw [e]; exact ⟨0, by simp, by omega⟩
  rotate_left
  · have e : kV k = k := by unfold kV; rw [if_neg (by omega)]
    rw [e]; exact iK_start (by omega)
  all_goals
    rintro w0 o i ⟨h0, h1, rfl, hK⟩
    have ho64 : o.length ≤ 64 := by obtain ⟨_, _, h⟩ := hK; exact h
    have hn := n.toNat_lt
    simp only [fl, tf]
    rw [bcase_dec]
    refine ⟨fun hi => ?_, fun hi => ?_⟩
    · rw [bcase_dec]
      refine ⟨fun ho => ⟨⟨Nat.zero_add _, ?_⟩, ⟨⟨by trivial, by trivial⟩, by trivial, by trivial⟩, by trivial, ⟨?_, ?_, by trivial, iK_step hK (by omega)⟩, ?_⟩, fun ho => ?_⟩
      · rw [List.length_append, List.length_singleton]; simp only [appLim]; omega
      · rw [wr (by omega)]; omega
      · rw [wr (by omega)]; omega
      · rw [wr (by omega)]; omega
      · rw [mac_pad hK]
        have lm := macV_len k (List.flatten [b])
        refine ⟨⟨by omega, by decide, hp1⟩, by omega, ?_⟩
        rw [bcase_iff]
        refine ⟨fun _ => ?_, fun hf => by simp at hf⟩
        rw [eq2]
        refine ⟨⟨by omega, by omega, by omega⟩, ⟨by omega, by omega, by omega⟩, ⟨by omega, by decide, fun p hp => Nat.le_trans (halves_le b p hp) (by omega)⟩, by omega, ?_⟩
        rw [halves]
        show SV.bool (decide (macV k (List.flatten [b]) = macV k (List.flatten [b]))) = SV.bool true
        rw [decide_eq_true rfl]
    · rw [mac_pad hK]
      have lm := macV_len k (List.flatten [b])
      refine ⟨⟨by omega, by decide, hp1⟩, by omega, ?_⟩
      rw [bcase_iff]
      refine ⟨fun _ => ?_, fun hf => by simp at hf⟩
      rw [eq2]
      refine ⟨⟨by omega, by omega, by omega⟩, ⟨by omega, by omega, by omega⟩, ⟨by omega, by decide, fun p hp => Nat.le_trans (halves_le b p hp) (by omega)⟩, by omega, ?_⟩
      rw [halves]
      show SV.bool (decide (macV k (List.flatten [b]) = macV k (List.flatten [b]))) = SV.bool true
      rw [decide_eq_true rfl]
end Go.Proofs.YtomoihkepkmgdaaDoor.H7
