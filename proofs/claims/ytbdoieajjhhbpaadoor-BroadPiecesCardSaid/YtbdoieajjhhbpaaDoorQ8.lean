/- A symbolic machine for Go functions, and what the functions that the law reaches come to: BdK, BdL, BdM, BdN, BdO, BdP, BdQ, BdR, BdS. -/
import Derived.Test.YtbdoieajjhhbpaaDoorQ7
/- The reference of layer 6: a block is the program's. -/
set_option maxRecDepth 10000
namespace Go.Proofs.YtbdoieajjhhbpaaDoor.H6
open Go.Sym Go.Dig R1
theorem turn_eq (x : UInt64) : turnF x 1 = (shr64 x 1 ||| shl64 x 63) ∧ turnF x 8 = (shr64 x 8 ||| shl64 x 56) ∧ turnF x 19 = (shr64 x 19 ||| shl64 x 45) ∧ turnF x 61 = (shr64 x 61 ||| shl64 x 3) ∧ turnF x 14 = (shr64 x 14 ||| shl64 x 50) ∧ turnF x 18 = (shr64 x 18 ||| shl64 x 46) ∧ turnF x 41 = (shr64 x 41 ||| shl64 x 23) ∧ turnF x 28 = (shr64 x 28 ||| shl64 x 36) ∧ turnF x 34 = (shr64 x 34 ||| shl64 x 30) ∧ turnF x 39 = (shr64 x 39 ||| shl64 x 25) := by
  have e : ∀ (n : Int) (k : Nat), (UInt64.ofInt (IntKind.wrap .i64 (0 - n)) &&& 63).toNat = 64 - k → (64 - (UInt64.ofInt (IntKind.wrap .i64 (0 - n)) &&& 63)).toNat = k → turnF x n = (shr64 x k ||| shl64 x (64 - k)) := by
    intro n k h1 h2
    unfold turnF rotl
    rw [h1, h2, UInt64.or_comm]
  exact ⟨e 1 1 (by decide +kernel) (by decide +kernel), e 8 8 (by decide +kernel) (by decide +kernel), e 19 19 (by decide +kernel) (by decide +kernel), e 61 61 (by decide +kernel) (by decide +kernel), e 14 14 (by decide +kernel) (by decide +kernel), e 18 18 (by decide +kernel) (by decide +kernel), e 41 41 (by decide +kernel) (by decide +kernel), e 28 28 (by decide +kernel) (by decide +kernel), e 34 34 (by decide +kernel) (by decide +kernel), e 39 39 (by decide +kernel) (by decide +kernel)⟩
theorem ok_TurnR : SpecOK Tryd.prog 53 sTurnR := by
  refine fn_okL (by kernel_rfl) tt_ok (.nil _) 3 Tryd.func53 (by decide +kernel) (by kernel_rfl) ?_
  rintro ⟨x, n, _⟩ hn
  obtain ⟨e1, e2, e3, e4, e5, e6, e7, e8, e9, e10⟩ := turn_eq x
  replace hn : nOK n := hn
  simp only [nOK, List.mem_cons, List.not_mem_nil, or_false] at hn
  rcases hn with rfl | rfl | rfl | rfl | rfl | rfl | rfl | rfl | rfl | rfl
  · exact ⟨_, {}, fun t => t = _, LnVD.of (vcTurnR1 x _) (congrArg SV.u64 e1.symm), svf⟩
  · exact ⟨_, {}, fun t => t = _, LnVD.of (vcTurnR8 x _) (congrArg SV.u64 e2.symm), svf⟩
  · exact ⟨_, {}, fun t => t = _, LnVD.of (vcTurnR19 x _) (congrArg SV.u64 e3.symm), svf⟩
  · exact ⟨_, {}, fun t => t = _, LnVD.of (vcTurnR61 x _) (congrArg SV.u64 e4.symm), svf⟩
  · exact ⟨_, {}, fun t => t = _, LnVD.of (vcTurnR14 x _) (congrArg SV.u64 e5.symm), svf⟩
  · exact ⟨_, {}, fun t => t = _, LnVD.of (vcTurnR18 x _) (congrArg SV.u64 e6.symm), svf⟩
  · exact ⟨_, {}, fun t => t = _, LnVD.of (vcTurnR41 x _) (congrArg SV.u64 e7.symm), svf⟩
  · exact ⟨_, {}, fun t => t = _, LnVD.of (vcTurnR28 x _) (congrArg SV.u64 e8.symm), svf⟩
  · exact ⟨_, {}, fun t => t = _, LnVD.of (vcTurnR34 x _) (congrArg SV.u64 e9.symm), svf⟩
  · exact ⟨_, {}, fun t => t = _, LnVD.of (vcTurnR39 x _) (congrArg SV.u64 e10.symm), svf⟩
theorem ok_Const : SpecOK Tryd.prog 20 sConst := by
  refine fn_okL (by kernel_rfl) tt_ok (.nil _) 9 Tryd.func20 (by decide +kernel) (by kernel_rfl) ?_
  rintro ⟨⟩ _
  exact ⟨_, {}, fun t => t = _, LnVD.of (vcConst _) rfl, svf⟩
theorem ok_BegR : FSpecOK Tryd.prog 21 sBegR := by
  refine fn_okF (by kernel_rfl) tt_ok (.nil _) 9 Tryd.func21 (by decide +kernel) (by kernel_rfl) ?_
  rintro ⟨⟩ _
  exact ⟨[], {}, fun x => x = _, LfVD.of (vcBegR _) rfl, fun x h at_ n w v r => by have h' : x = _ := h; subst h'; exact r⟩
theorem spR5_ok : SpecsOK Tryd.prog spR5 := .cons ok_TurnR <| .cons ok_Const (.nil _)

theorem shl8or (x : UInt64) (c : UInt8) : shl64 x 8 ||| c.toUInt64 = x * 256 + c.toUInt64 := by
  apply UInt64.toNat_inj.1
  have hc : c.toUInt64.toNat < 256 := by rw [UInt8.toNat_toUInt64]; exact c.toNat_lt
  have hx := x.toNat_lt
  rw [UInt64.toNat_or, UInt64.toNat_add, UInt64.toNat_mul]
  have e1 : (shl64 x 8).toNat = (x.toNat % 72057594037927936) <<< 8 := by
    rw [shl64, UInt64.toNat_ofNat', Nat.shiftLeft_eq]; omega
  rw [e1, ← Nat.shiftLeft_add_eq_or_of_lt hc, Nat.shiftLeft_eq]
  have : (256 : UInt64).toNat = 256 := rfl
  rw [this]; omega
theorem getD_set_ne {l : List UInt64} {i j : Nat} {x : UInt64} (h : i ≠ j) : (l.set i x).getD j 0 = l.getD j 0 := by
  simp only [List.getD_eq_getElem?_getD, List.getElem?_set, if_neg h]
theorem getD_set_eq {l : List UInt64} {i : Nat} {x : UInt64} (h : i < l.length) : (l.set i x).getD i 0 = x := by
  simp only [List.getD_eq_getElem?_getD, List.getElem?_set, if_pos h, if_true, Option.getD_some]
theorem take_succ_getD {l : List UInt64} {i : Nat} (h : i < l.length) : l.take (i + 1) = l.take i ++ [l.getD i 0] := by
  rw [List.take_add_one, List.getD_eq_getElem?_getD, List.getElem?_eq_getElem h]; rfl
theorem getD_take {l : List UInt64} {i n : Nat} (h : i < n) : (l.take n).getD i 0 = l.getD i 0 := by
  simp only [List.getD_eq_getElem?_getD, List.getElem?_take, if_pos h]
theorem take_set_le {l : List UInt64} {i n : Nat} {x : UInt64} (h : i ≤ n) : (l.set n x).take i = l.take i := by
  apply List.ext_getElem?
  intro k
  simp only [List.getElem?_take, List.getElem?_set]
  by_cases hk : k < i
  · rw [if_pos hk, if_pos hk, if_neg (by omega)]
  · rw [if_neg hk, if_neg hk]
theorem wB_zero (b : List UInt8) : ∀ n i, n ≤ 8 * i → (wB b n).getD i 0 = 0
  | 0, i, _ => by
    rw [wB, List.getD_eq_getElem?_getD, List.getElem?_replicate]
    split <;> rfl
  | n + 1, i, h => by rw [wB, getD_set_ne (by omega)]; exact wB_zero b n i (by omega)
theorem wB_take (b : List UInt8) (i : Nat) : ∀ j, j ≤ 8 → (wB b (8 * i + j)).take i = (wB b (8 * i)).take i
  | 0, _ => rfl
  | j + 1, h => by rw [← Nat.add_assoc, wB, take_set_le (by omega)]; exact wB_take b i j (by omega)
theorem iw_done {b : List UInt8} {w : List UInt64} {i : Int} {x : UInt64} {j : Int} (h : iw b w i) (hi : i < 16) (hx : ix b i x j) (hj : ¬ j < 8) : iw b (w ++ [x]) (IntKind.wrap .i64 (i + 1)) := by
  obtain ⟨h0, h1, rfl⟩ := h
  obtain ⟨k0, k1, rfl⟩ := hx
  rw [wr (by omega)]
  refine ⟨by omega, by omega, ?_⟩
  have ej : j = 8 := by omega
  subst ej
  rw [show (i + 1).toNat = i.toNat + 1 by omega, take_succ_getD (by rw [wB_len]; omega), show 8 * (i.toNat + 1) = 8 * i.toNat + 8 by omega, wB_take b _ 8 (by omega)]
  rfl
theorem ix_step {b : List UInt8} {i : Int} {x : UInt64} {j : Int} (h0 : 0 ≤ i) (hi : i < 16) (hx : ix b i x j) (hj : j < 8) :
    ix b i (x * UInt64.ofNat (Int.toNat 256) + UInt8.toUInt64 (List.getD b (Int.toNat (IntKind.wrap IntKind.i64 (IntKind.wrap IntKind.i64 (8 * i) + j))) 0)) (IntKind.wrap IntKind.i64 (j + 1)) := by
  obtain ⟨k0, k1, rfl⟩ := hx
  rw [wr (x := 8 * i) (by omega), wr (x := 8 * i + j) (by omega), wr (x := j + 1) (by omega)]
  refine ⟨by omega, by omega, ?_⟩
  rw [show (j + 1).toNat = j.toNat + 1 by omega, ← Nat.add_assoc, wB]
  rw [show (8 * i.toNat + j.toNat) / 8 = i.toNat by omega, getD_set_eq (by rw [wB_len]; omega), shl8or, show (8 * i + j).toNat = 8 * i.toNat + j.toNat by omega]
  rfl
theorem ix_start {b : List UInt8} {i : Int} : ix b i (UInt64.ofNat (Int.toNat 0)) 0 := by
  refine ⟨by omega, by omega, ?_⟩
  rw [wB_zero b _ _ (by simp)]; rfl
theorem it_start {b : List UInt8} {w : List UInt64} {i : Int} (h : iw b w i) (hi : ¬ i < 16) : it b w 16 := by
  obtain ⟨h0, h1, rfl⟩ := h
  refine ⟨by omega, by omega, ?_⟩
  rw [show i.toNat = 16 by omega]; rfl
theorem wX_take (b : List UInt8) (n : Nat) (h : n < 64) : (wX b (n + 1)).take (n + 17) = (wX b n).take (n + 16) ++ [(wX b n).getD n 0 + sig0 ((wX b n).getD (n + 1) 0) + (wX b n).getD (n + 9) 0 + sig1 ((wX b n).getD (n + 14) 0)] := by
  rw [wX, take_succ_getD (by rw [List.length_set, wX_len]; omega), take_set_le (by omega), getD_set_eq (by rw [wX_len]; omega)]
theorem it_step {b : List UInt8} {w : List UInt64} {t : Int} (h : it b w t) (ht : t < 80) : it b (w ++ [(turnF (List.getD w (0 + Int.toNat (IntKind.wrap IntKind.i64 (t - 2))) 0) 19 ^^^ turnF (List.getD w (0 + Int.toNat (IntKind.wrap IntKind.i64 (t - 2))) 0) 61 ^^^ shr64 (List.getD w (0 + Int.toNat (IntKind.wrap IntKind.i64 (t - 2))) 0) (UInt64.toNat (UInt64.ofNat (Int.toNat 6)))) +
            List.getD w (0 + Int.toNat (IntKind.wrap IntKind.i64 (t - 7))) 0 +
          (turnF (List.getD w (0 + Int.toNat (IntKind.wrap IntKind.i64 (t - 15))) 0) 1 ^^^ turnF (List.getD w (0 + Int.toNat (IntKind.wrap IntKind.i64 (t - 15))) 0) 8 ^^^ shr64 (List.getD w (0 + Int.toNat (IntKind.wrap IntKind.i64 (t - 15))) 0) (UInt64.toNat (UInt64.ofNat (Int.toNat 7)))) +
        List.getD w (0 + Int.toNat (IntKind.wrap IntKind.i64 (t - 16))) 0]) (IntKind.wrap IntKind.i64 (t + 1)) := by
  obtain ⟨h0, h1, rfl⟩ := h
  rw [wr (x := t - 2) (by omega), wr (x := t - 7) (by omega), wr (x := t - 15) (by omega), wr (x := t - 16) (by omega), wr (x := t + 1) (by omega)]
  obtain ⟨n, rfl⟩ : ∃ n : Nat, t = ((n + 16 : Nat) : Int) := ⟨(t - 16).toNat, by omega⟩
  refine ⟨by omega, by omega, ?_⟩
  rw [show (((n + 16 : Nat) : Int) + 1).toNat = n + 17 by omega, show (((n + 16 : Nat) : Int)).toNat = n + 16 by omega, show n + 17 - 16 = n + 1 by omega, show n + 16 - 16 = n by omega]
  rw [show 0 + (((n + 16 : Nat) : Int) - 2).toNat = n + 14 by omega, show 0 + (((n + 16 : Nat) : Int) - 7).toNat = n + 9 by omega, show 0 + (((n + 16 : Nat) : Int) - 15).toNat = n + 1 by omega, show 0 + (((n + 16 : Nat) : Int) - 16).toNat = n by omega]
  rw [getD_take (by omega), getD_take (by omega), getD_take (by omega), getD_take (by omega), wX_take b n (by omega)]
  congr 2
  have e0 : ∀ a : UInt64, turnF a 1 ^^^ turnF a 8 ^^^ shr64 a (UInt64.toNat (UInt64.ofNat (Int.toNat 7))) = sig0 a := fun a => rfl
  have e1 : ∀ a : UInt64, turnF a 19 ^^^ turnF a 61 ^^^ shr64 a (UInt64.toNat (UInt64.ofNat (Int.toNat 6))) = sig1 a := fun a => rfl
  rw [e0, e1]
  ac_rfl
theorem ir_start {b : List UInt8} {w : List UInt64} {t : Int} (s : St8) (h : it b w t) (ht : ¬ t < 80) : ir (wX b 64) s w s 0 := by
  obtain ⟨h0, h1, rfl⟩ := h
  have : t.toNat = 80 := by omega
  refine ⟨?_, by omega, by omega, rfl⟩
  rw [this]
  exact List.take_of_length_le (by rw [wX_len]; omega)
theorem ir_step {w0 w : List UInt64} {s v : St8} {t : Int} (h : ir w0 s w v t) (ht : t < 80) : ir w0 s w (round v (kTab.getD t.toNat 0) (w.getD (0 + t.toNat) 0)) (IntKind.wrap .i64 (t + 1)) := by
  obtain ⟨rfl, h0, h1, rfl⟩ := h
  rw [wr (by omega)]
  refine ⟨rfl, by omega, by omega, ?_⟩
  rw [show (t + 1).toNat = t.toNat + 1 by omega, rounds, Nat.zero_add]
  rfl
instance (n : Int) : Decidable (nOK n) := by unfold nOK; infer_instance
noncomputable def sBlk : SpecF := fspec (α := L8 × List UInt8 × Unit) (fun a => some (a.2.1.length = 128)) (fun a => L8.mk (mixV a.1.v a.2.1))
theorem cut_whole {b : List UInt8} (h : b.length = 128) : b.take 128 = b := List.take_of_length_le (by omega)
theorem ok_Blk : FSpecOK Tryd.prog 42 sBlk := by
  refine fn_okF (by kernel_rfl) tt_ok spR5_ok 9 Tryd.func42 (by decide +kernel) (by kernel_rfl) ?_
  rintro ⟨⟨s⟩, b, _⟩ hb
  replace hb : b.length = 128 := hb
  refine ⟨[], lBlk s b, fun x => x = .lst (.words (mixV s b).l), LfVD.of (vcBlk s b _) ?_, fun x h at_ n w v r => by have h' : x = _ := h; subst h'; exact r⟩
  refine ⟨⟨rfl, rfl⟩, ⟨by omega, by omega, rfl⟩, ?_⟩
  intro w i hw
  rw [bcase_dec]
  refine ⟨fun hi => ?_, fun hi => ?_⟩
  · have h0 := hw.1
    refine ⟨⟨rfl, rfl⟩, ⟨rfl, rfl, ix_start⟩, ?_⟩
    rintro w1 i1 x j ⟨hO, rfl, hx⟩
    injection hO with hO; subst hO
    rw [bcase_dec]
    refine ⟨fun hj => ?_, fun hj => ?_⟩
    · have j0 := hx.1
      refine ⟨⟨by rw [wr (x := 8 * i1) (by omega), wr (by omega)]; omega, by rw [wr (x := 8 * i1) (by omega), wr (by omega), hb]; omega⟩, ⟨rfl, rfl⟩, rfl, ⟨rfl, rfl, ix_step h0 hi hx hj⟩, ?_⟩
      rw [wr (by omega)]; omega
    · have lw : w1.length ≤ 16 := by rw [hw.2.2, List.length_take]; omega
      rw [show List.drop 0 (List.take w1.length w1) = w1 by rw [List.take_length]; rfl]
      refine ⟨⟨by omega, by rw [List.length_append]; simp only [appLim, List.length_singleton]; omega⟩, ⟨rfl, rfl⟩, rfl, iw_done hw hi hx hj, ?_⟩
      rw [wr (by omega)]; omega
  · refine ⟨⟨rfl, rfl⟩, it_start hw hi, ?_⟩
    intro w1 t ht
    have lw : w1.length = t.toNat := by have := ht.1; have := ht.2.1; rw [ht.2.2, List.length_take, wX_len]; omega
    rw [bcase_dec, show List.drop 0 (List.take w1.length w1) = w1 by rw [List.take_length]; rfl]
    refine ⟨fun h => ?_, fun h => ?_⟩
    · have t0 := ht.1
      have rg : ∀ k : Int, 0 < k ∧ k ≤ 16 → 0 ≤ IntKind.wrap .i64 (t - k) ∧ IntKind.wrap .i64 (t - k) < (w1.length : Int) := fun k hk => by rw [wr (by omega), lw]; omega
      refine ⟨rg 15 (by omega), by decide +kernel, rg 15 (by omega), by decide +kernel, rg 15 (by omega), rg 2 (by omega), by decide +kernel, rg 2 (by omega), by decide +kernel, rg 2 (by omega), rg 7 (by omega), rg 16 (by omega), ⟨by omega, ?_⟩, ⟨rfl, rfl⟩, rfl, it_step ht h, ?_⟩
      · rw [List.length_append]; simp only [appLim, List.length_singleton]; omega
      · rw [wr (by omega)]; omega
    · refine ⟨by show (8 : Nat) ≤ appLim; decide, ⟨⟨rfl, rfl⟩, rfl, rfl⟩, ir_start s ht h, ?_⟩
      intro w2 v a hR
      rw [bcase_dec]
      refine ⟨fun ha => ?_, fun ha => ?_⟩
      · have a0 := hR.2.1
        have k1 : 0 ≤ a ∧ a < (kTab.length : Int) := ⟨a0, ha⟩
        have k2 : 0 ≤ a ∧ a < (w2.length : Int) := ⟨a0, by rw [hR.1, wX_len]; exact ha⟩
        repeat (first | refine ⟨by decide +kernel, ?_⟩ | refine ⟨k1, ?_⟩ | refine ⟨k2, ?_⟩)
        refine ⟨⟨⟨rfl, rfl⟩, rfl, rfl⟩, rfl, ir_step hR ha, ?_⟩
        rw [wr (by omega)]; omega
      · have hl : s.l.length = 8 := rfl
        rw [hl]
        repeat (refine ⟨by decide +kernel, ?_⟩)
        have e : mixV s b = s.plus v := by
          obtain ⟨_, r0, r1, rfl⟩ := hR
          rw [mixV_eq, show a.toNat = 80 by omega]; rfl
        rw [e]
        show _ = _
        kernel_rfl
end Go.Proofs.YtbdoieajjhhbpaaDoor.H6
/- The reference of layer 6: the sum: what the body comes to. -/
set_option maxRecDepth 10000
namespace Go.Proofs.YtbdoieajjhhbpaaDoor.H6
open Go.Sym Go.Dig R1
noncomputable def spS5 : Specs := [(42, .fresh sBlk), (21, .fresh sBegR), (32, sToBig), (33, sInt), (35, sWords)]
def mR (b : List UInt8) : List UInt8 := padZ b (zn b.length) ++ [0, 0, 0, 0, 0, 0, 0, 0] ++ (bytesN (8 * b.length) 8).reverse
def iH (m0 : List UInt8) (m : List UInt8) (h : St8) (i : Int) : Prop := ∃ k : Nat, m = m0 ∧ i = 128 * (k : Int) ∧ 128 * k ≤ m0.length ∧ h = absN beg m0 k
--STOP iZ, iH, iO, outN, St8.l, mixV, absN, beg, bytesN, nv, Dg, wv, padZ, zn, mR
def lRSum (b : List UInt8) : Plan := { loops := [
  (0, { β := List UInt8 × Unit, α := OwnB × Unit, same := [0], keep := [3], inv := fun _ _ x => iZ b x.1.l, meas := fun _ x => zn b.length + b.length + 1 - x.1.l.length }),
  (2, { β := List UInt8 × Unit, α := OwnB × O8 × Int × Unit, same := [0], keep := [3, 4, 5], inv := fun _ _ x => iH (mR b) x.1.l x.2.1.v x.2.2.1, meas := fun _ x => ((x.1.l.length : Int) - x.2.2.1).toNat }),
  (4, { β := Unit, α := O8 × OwnB × Int × Unit, same := [], keep := [4, 6, 7], inv := fun _ a x => x.1.v = a.1.v ∧ iO a.1.v x.2.1.l x.2.2.1, meas := fun _ x => (8 - x.2.2.1).toNat })] }
theorem vcRSum (b : List UInt8) (Q : SV → Prop) : LnRaw tt spS5 9 [] (lRSum b) Tryd.f19 Q (b, ()) =
  ((List.length ([] ++ b) ≤ appLim) ∧
  ((((0 : Nat) + List.length ([] ++ b) = List.length ([] ++ b)) ∧
   (List.length
    (List.drop (0 : Nat) (List.take (List.length ([] ++ b)) ([] ++ b)) ++ [UInt8.ofNat (Int.toNat (128 : Int))]) ≤
  appLim)) ∧
  ((((0 : Nat) = (0 : Nat)) ∧
   (List.length
    (List.drop (0 : Nat) (List.take (List.length ([] ++ b)) ([] ++ b)) ++ [UInt8.ofNat (Int.toNat (128 : Int))]) =
  List.length
    (List.drop (0 : Nat) (List.take (List.length ([] ++ b)) ([] ++ b)) ++ [UInt8.ofNat (Int.toNat (128 : Int))]))) ∧
  ((iZ b (List.drop (0 : Nat) (List.take (List.length ([] ++ b)) ([] ++ b)) ++ [UInt8.ofNat (Int.toNat (128 : Int))])) ∧
  (∀ l : List UInt8,
  ((iZ b l) →
  bcase (Int.tmod (↑(List.length l) : Int) (128 : Int) != (112 : Int))
    (((((0 : Nat) + List.length l = List.length l) ∧
     (List.length (List.drop (0 : Nat) (List.take (List.length l) l) ++ [UInt8.ofNat (Int.toNat (0 : Int))]) ≤ appLim)) ∧
    ((((0 : Nat) = (0 : Nat)) ∧
     (List.length (List.drop (0 : Nat) (List.take (List.length l) l) ++ [UInt8.ofNat (Int.toNat (0 : Int))]) =
  List.length (List.drop (0 : Nat) (List.take (List.length l) l) ++ [UInt8.ofNat (Int.toNat (0 : Int))]))) ∧
    (((b, ()) = (b, ())) ∧
    ((iZ b (List.drop (0 : Nat) (List.take (List.length l) l) ++ [UInt8.ofNat (Int.toNat (0 : Int))])) ∧
    (zn (List.length b) + List.length b + (1 : Nat) -
    List.length (List.drop (0 : Nat) (List.take (List.length l) l) ++ [UInt8.ofNat (Int.toNat (0 : Int))]) <
  zn (List.length b) + List.length b + (1 : Nat) - List.length l))))))
    (((((0 : Nat) + List.length l = List.length l) ∧
     (List.length
    (List.drop (0 : Nat) (List.take (List.length l) l) ++
      [UInt8.ofNat (Int.toNat (0 : Int)), UInt8.ofNat (Int.toNat (0 : Int)), UInt8.ofNat (Int.toNat (0 : Int)),
        UInt8.ofNat (Int.toNat (0 : Int)), UInt8.ofNat (Int.toNat (0 : Int)), UInt8.ofNat (Int.toNat (0 : Int)),
        UInt8.ofNat (Int.toNat (0 : Int)), UInt8.ofNat (Int.toNat (0 : Int))]) ≤
  appLim)) ∧
    ((((0 : Int) ≤ IntKind.wrap IntKind.i64 ((8 : Int) * (↑(List.length b) : Int))) ∧
     (IntKind.wrap IntKind.i64 ((8 : Int) * (↑(List.length b) : Int)) < (9223372036854775808 : Int))) ∧
    (((Dg (dg (Int.toNat (IntKind.wrap IntKind.i64 ((8 : Int) * (↑(List.length b) : Int)))))) ∧
     (((0 : Int) ≤ (8 : Int)) ∧
     ((8 : Int) ≤ (1048576 : Int)))) ∧
    ((((0 : Nat) +
    List.length
      (List.drop (0 : Nat) (List.take (List.length l) l) ++
        [UInt8.ofNat (Int.toNat (0 : Int)), UInt8.ofNat (Int.toNat (0 : Int)), UInt8.ofNat (Int.toNat (0 : Int)),
          UInt8.ofNat (Int.toNat (0 : Int)), UInt8.ofNat (Int.toNat (0 : Int)), UInt8.ofNat (Int.toNat (0 : Int)),
          UInt8.ofNat (Int.toNat (0 : Int)), UInt8.ofNat (Int.toNat (0 : Int))]) =
  List.length
    (List.drop (0 : Nat) (List.take (List.length l) l) ++
      [UInt8.ofNat (Int.toNat (0 : Int)), UInt8.ofNat (Int.toNat (0 : Int)), UInt8.ofNat (Int.toNat (0 : Int)),
        UInt8.ofNat (Int.toNat (0 : Int)), UInt8.ofNat (Int.toNat (0 : Int)), UInt8.ofNat (Int.toNat (0 : Int)),
        UInt8.ofNat (Int.toNat (0 : Int)), UInt8.ofNat (Int.toNat (0 : Int))])) ∧
     (List.length
    (List.drop (0 : Nat)
        (List.take
          (List.length
            (List.drop (0 : Nat) (List.take (List.length l) l) ++
              [UInt8.ofNat (Int.toNat (0 : Int)), UInt8.ofNat (Int.toNat (0 : Int)), UInt8.ofNat (Int.toNat (0 : Int)),
                UInt8.ofNat (Int.toNat (0 : Int)), UInt8.ofNat (Int.toNat (0 : Int)), UInt8.ofNat (Int.toNat (0 : Int)),
                UInt8.ofNat (Int.toNat (0 : Int)), UInt8.ofNat (Int.toNat (0 : Int))]))
          (List.drop (0 : Nat) (List.take (List.length l) l) ++
            [UInt8.ofNat (Int.toNat (0 : Int)), UInt8.ofNat (Int.toNat (0 : Int)), UInt8.ofNat (Int.toNat (0 : Int)),
              UInt8.ofNat (Int.toNat (0 : Int)), UInt8.ofNat (Int.toNat (0 : Int)), UInt8.ofNat (Int.toNat (0 : Int)),
              UInt8.ofNat (Int.toNat (0 : Int)), UInt8.ofNat (Int.toNat (0 : Int))])) ++
      List.reverse
        (bytesN (nv (dg (Int.toNat (IntKind.wrap IntKind.i64 ((8 : Int) * (↑(List.length b) : Int))))))
          (Int.toNat (8 : Int)))) ≤
  appLim)) ∧
    (((((0 : Nat) = (0 : Nat)) ∧
      (List.length
    (List.drop (0 : Nat)
        (List.take
          (List.length
            (List.drop (0 : Nat) (List.take (List.length l) l) ++
              [UInt8.ofNat (Int.toNat (0 : Int)), UInt8.ofNat (Int.toNat (0 : Int)), UInt8.ofNat (Int.toNat (0 : Int)),
                UInt8.ofNat (Int.toNat (0 : Int)), UInt8.ofNat (Int.toNat (0 : Int)), UInt8.ofNat (Int.toNat (0 : Int)),
                UInt8.ofNat (Int.toNat (0 : Int)), UInt8.ofNat (Int.toNat (0 : Int))]))
          (List.drop (0 : Nat) (List.take (List.length l) l) ++
            [UInt8.ofNat (Int.toNat (0 : Int)), UInt8.ofNat (Int.toNat (0 : Int)), UInt8.ofNat (Int.toNat (0 : Int)),
              UInt8.ofNat (Int.toNat (0 : Int)), UInt8.ofNat (Int.toNat (0 : Int)), UInt8.ofNat (Int.toNat (0 : Int)),
              UInt8.ofNat (Int.toNat (0 : Int)), UInt8.ofNat (Int.toNat (0 : Int))])) ++
      List.reverse
        (bytesN (nv (dg (Int.toNat (IntKind.wrap IntKind.i64 ((8 : Int) * (↑(List.length b) : Int))))))
          (Int.toNat (8 : Int)))) =
  List.length
    (List.drop (0 : Nat)
        (List.take
          (List.length
            (List.drop (0 : Nat) (List.take (List.length l) l) ++
              [UInt8.ofNat (Int.toNat (0 : Int)), UInt8.ofNat (Int.toNat (0 : Int)), UInt8.ofNat (Int.toNat (0 : Int)),
                UInt8.ofNat (Int.toNat (0 : Int)), UInt8.ofNat (Int.toNat (0 : Int)), UInt8.ofNat (Int.toNat (0 : Int)),
                UInt8.ofNat (Int.toNat (0 : Int)), UInt8.ofNat (Int.toNat (0 : Int))]))
          (List.drop (0 : Nat) (List.take (List.length l) l) ++
            [UInt8.ofNat (Int.toNat (0 : Int)), UInt8.ofNat (Int.toNat (0 : Int)), UInt8.ofNat (Int.toNat (0 : Int)),
              UInt8.ofNat (Int.toNat (0 : Int)), UInt8.ofNat (Int.toNat (0 : Int)), UInt8.ofNat (Int.toNat (0 : Int)),
              UInt8.ofNat (Int.toNat (0 : Int)), UInt8.ofNat (Int.toNat (0 : Int))])) ++
      List.reverse
        (bytesN (nv (dg (Int.toNat (IntKind.wrap IntKind.i64 ((8 : Int) * (↑(List.length b) : Int))))))
          (Int.toNat (8 : Int)))))) ∧
     (((0 : Nat) = (0 : Nat)) ∧
     (List.length (St8.l beg) = List.length (St8.l beg)))) ∧
    ((iH (mR b)
  (List.drop (0 : Nat)
      (List.take
        (List.length
          (List.drop (0 : Nat) (List.take (List.length l) l) ++
            [UInt8.ofNat (Int.toNat (0 : Int)), UInt8.ofNat (Int.toNat (0 : Int)), UInt8.ofNat (Int.toNat (0 : Int)),
              UInt8.ofNat (Int.toNat (0 : Int)), UInt8.ofNat (Int.toNat (0 : Int)), UInt8.ofNat (Int.toNat (0 : Int)),
              UInt8.ofNat (Int.toNat (0 : Int)), UInt8.ofNat (Int.toNat (0 : Int))]))
        (List.drop (0 : Nat) (List.take (List.length l) l) ++
          [UInt8.ofNat (Int.toNat (0 : Int)), UInt8.ofNat (Int.toNat (0 : Int)), UInt8.ofNat (Int.toNat (0 : Int)),
            UInt8.ofNat (Int.toNat (0 : Int)), UInt8.ofNat (Int.toNat (0 : Int)), UInt8.ofNat (Int.toNat (0 : Int)),
            UInt8.ofNat (Int.toNat (0 : Int)), UInt8.ofNat (Int.toNat (0 : Int))])) ++
    List.reverse
      (bytesN (nv (dg (Int.toNat (IntKind.wrap IntKind.i64 ((8 : Int) * (↑(List.length b) : Int))))))
        (Int.toNat (8 : Int))))
  beg (0 : Int)) ∧
    (∀ l_1 : List UInt8,
    (∀ v : St8,
    (∀ a : Int,
    ((iH (mR b) l_1 v a) →
    bcase (decide (a < (↑(List.length l_1) : Int)))
      (((((0 : Int) ≤ a) ∧
       ((a ≤ IntKind.wrap IntKind.i64 (a + (128 : Int))) ∧
       (IntKind.wrap IntKind.i64 (a + (128 : Int)) ≤ (↑(List.length l_1) : Int)))) ∧
      ((List.length
    (List.drop ((0 : Nat) + Int.toNat a)
      (List.take ((0 : Nat) + Int.toNat a + (Int.toNat (IntKind.wrap IntKind.i64 (a + (128 : Int))) - Int.toNat a))
        l_1)) =
  (128 : Nat)) ∧
      (((((0 : Nat) = (0 : Nat)) ∧
        (List.length l_1 = List.length l_1)) ∧
       (((0 : Nat) = (0 : Nat)) ∧
       (List.length
    (St8.l
      (mixV v
        (List.drop ((0 : Nat) + Int.toNat a)
          (List.take ((0 : Nat) + Int.toNat a + (Int.toNat (IntKind.wrap IntKind.i64 (a + (128 : Int))) - Int.toNat a))
            l_1)))) =
  List.length
    (St8.l
      (mixV v
        (List.drop ((0 : Nat) + Int.toNat a)
          (List.take ((0 : Nat) + Int.toNat a + (Int.toNat (IntKind.wrap IntKind.i64 (a + (128 : Int))) - Int.toNat a))
            l_1))))))) ∧
      (((b, ()) = (b, ())) ∧
      ((iH (mR b) l_1
  (mixV v
    (List.drop ((0 : Nat) + Int.toNat a)
      (List.take ((0 : Nat) + Int.toNat a + (Int.toNat (IntKind.wrap IntKind.i64 (a + (128 : Int))) - Int.toNat a))
        l_1)))
  (IntKind.wrap IntKind.i64 (a + (128 : Int)))) ∧
      (Int.toNat ((↑(List.length l_1) : Int) - IntKind.wrap IntKind.i64 (a + (128 : Int))) <
  Int.toNat ((↑(List.length l_1) : Int) - a))))))))
      ((((((0 : Nat) = (0 : Nat)) ∧
        ((8 : Nat) = List.length (St8.l v))) ∧
       (((0 : Nat) = (0 : Nat)) ∧
       ((0 : Nat) = (0 : Nat)))) ∧
      (((v = v) ∧
       (iO v [] (0 : Int))) ∧
      (∀ v_1 : St8,
      (∀ l_2 : List UInt8,
      (∀ a_1 : Int,
      (((v_1 = v) ∧
      (iO v l_2 a_1)) →
      bcase (decide (a_1 < (8 : Int)))
        (((((0 : Int) ≤ a_1) ∧
         (a_1 < (↑(8 : Nat) : Int))) ∧
        (((1 : Nat) ≤ (1048576 : Nat)) ∧
        (((Dg (dg (wv [List.getD (St8.l v_1) ((0 : Nat) + Int.toNat a_1) (0 : UInt64)]))) ∧
         (((0 : Int) ≤ (8 : Int)) ∧
         ((8 : Int) ≤ (1048576 : Int)))) ∧
        ((((0 : Nat) + List.length l_2 = List.length l_2) ∧
         (List.length
    (List.drop (0 : Nat) (List.take (List.length l_2) l_2) ++
      List.reverse
        (bytesN (nv (dg (wv [List.getD (St8.l v_1) ((0 : Nat) + Int.toNat a_1) (0 : UInt64)])))
          (Int.toNat (8 : Int)))) ≤
  appLim)) ∧
        (((((0 : Nat) = (0 : Nat)) ∧
          ((8 : Nat) = List.length (St8.l v_1))) ∧
         (((0 : Nat) = (0 : Nat)) ∧
         (List.length
    (List.drop (0 : Nat) (List.take (List.length l_2) l_2) ++
      List.reverse
        (bytesN (nv (dg (wv [List.getD (St8.l v_1) ((0 : Nat) + Int.toNat a_1) (0 : UInt64)])))
          (Int.toNat (8 : Int)))) =
  List.length
    (List.drop (0 : Nat) (List.take (List.length l_2) l_2) ++
      List.reverse
        (bytesN (nv (dg (wv [List.getD (St8.l v_1) ((0 : Nat) + Int.toNat a_1) (0 : UInt64)]))) (Int.toNat (8 : Int))))))) ∧
        ((() = ()) ∧
        (((v_1 = v) ∧
         (iO v
  (List.drop (0 : Nat) (List.take (List.length l_2) l_2) ++
    List.reverse
      (bytesN (nv (dg (wv [List.getD (St8.l v_1) ((0 : Nat) + Int.toNat a_1) (0 : UInt64)]))) (Int.toNat (8 : Int))))
  (IntKind.wrap IntKind.i64 (a_1 + (1 : Int))))) ∧
        (Int.toNat ((8 : Int) - IntKind.wrap IntKind.i64 (a_1 + (1 : Int))) < Int.toNat ((8 : Int) - a_1))))))))))
        ((Q (SV.lst (LV.bytes (List.drop (0 : Nat) (List.take ((0 : Nat) + List.length l_2) l_2)))))))))))))))))))))))))))))) := by kernel_rfl
end Go.Proofs.YtbdoieajjhhbpaaDoor.H6
/- Layer 6: the program's sum and the reference's are one. -/
set_option maxRecDepth 10000
namespace Go.Proofs.YtbdoieajjhhbpaaDoor.H6
open Go.Sym Go.Dig R1
noncomputable def digV0 (b : List UInt8) : List UInt8 := sum0 (absT beg b) (absR b) (UInt64.ofInt (b.length : Int))
theorem dig_ex : ∃ f : List UInt8 → List UInt8, f = digV0 := ⟨_, rfl⟩
noncomputable def digV : List UInt8 → List UInt8 := Classical.choose dig_ex
theorem digV_eq : digV = digV0 := Classical.choose_spec dig_ex
noncomputable def sDSum : SpecF := fspec (α := List UInt8 × Unit) (fun a => some (a.1.length ≤ 1073741824)) (fun a => digV a.1)
theorem absR_len (r : List UInt8) : (absR r).length < 128 := by rw [absR, List.length_drop]; omega
theorem ok_DSumF : FSpecOK Tryd.prog 18 sDSum := by
  unfold sDSum
  rw [digV_eq]
  refine fn_okF (by kernel_rfl) tt_ok spD_ok 9 Tryd.func18 (by decide +kernel) (by kernel_rfl) ?_
  rintro ⟨b, _⟩ hb
  replace hb : b.length ≤ 1073741824 := hb
  have e : rOf (HashV.mk beg [] 0 0 0) b = b := rfl
  have e2 : nOf (HashV.mk beg [] 0 0 0) b = UInt64.ofInt (b.length : Int) := by unfold nOf; exact UInt64.zero_add _
  refine ⟨[], {}, fun x => x = .lst (.bytes (digV0 b)), LfVD.of (vcDSum b _) ?_, fun x h at_ n w v r => by have h' : x = _ := h; subst h'; exact r⟩
  have f : ∀ l : List UInt8, List.drop 0 (List.take (0 + l.length) l) = l := fun l => by rw [Nat.zero_add, List.take_length]; rfl
  rw [e, e2, f, f]
  have := absR_len b
  refine ⟨⟨rfl, by simp only [appLim]; omega, trivial⟩, by omega, ?_⟩
  show SV.lst (.bytes (sumO _)) = _
  unfold sumO digV0
  rw [sumV_eq]
theorem be8_eq (x : UInt64) : (bytesN x.toNat 8).reverse = be8 x 8 := by
  have hx := x.toNat_lt
  have e : ∀ k d : Nat, d = 2 ^ k → UInt8.ofNat (x.toNat / d) = (shr64 x k).toUInt8 := by
    intro k d hd
    apply UInt8.toNat_inj.1
    subst hd
    have : x.toNat / 2 ^ k ≤ x.toNat := Nat.div_le_self _ _
    rw [shr64, UInt64.toNat_toUInt8, UInt64.toNat_ofNat', UInt8.toNat_ofNat']
    omega
  show [UInt8.ofNat (x.toNat / 256 ^ 7), UInt8.ofNat (x.toNat / 256 ^ 6), UInt8.ofNat (x.toNat / 256 ^ 5), UInt8.ofNat (x.toNat / 256 ^ 4), UInt8.ofNat (x.toNat / 256 ^ 3), UInt8.ofNat (x.toNat / 256 ^ 2), UInt8.ofNat (x.toNat / 256 ^ 1), UInt8.ofNat (x.toNat / 256 ^ 0)] = _
  rw [e 56 _ (by decide), e 48 _ (by decide), e 40 _ (by decide), e 32 _ (by decide), e 24 _ (by decide), e 16 _ (by decide), e 8 _ (by decide), e 0 _ (by decide)]
  rfl
theorem be8w (x : UInt64) : (bytesN (nv (dg (wv [x]))) 8).reverse = be8 x 8 := by
  rw [nv_dg, show wv [x] = x.toNat by simp [wv]]; exact be8_eq x
theorem len8 (n : Nat) (h : n ≤ 1073741824) : (UInt64.ofInt (n : Int) * 8).toNat = 8 * n := by
  rw [UInt64.toNat_mul, ofInt64]
  have : (8 : UInt64).toNat = 8 := rfl
  rw [this]; omega
theorem absN_congr (s : St8) (m b : List UInt8) : ∀ i, (∀ j, j < i → cut m (128 * j) = cut b (128 * j)) → absN s m i = absN s b i
  | 0, _ => rfl
  | i + 1, h => by rw [absN, absN, absN_congr s m b i (fun j hj => h j (by omega)), h i (by omega)]
theorem absN_add (s : St8) (m : List UInt8) (q : Nat) : ∀ i, absN s m (q + i) = absN (absN s m q) (m.drop (128 * q)) i
  | 0 => rfl
  | i + 1 => by
    rw [← Nat.add_assoc, absN, absN, absN_add s m q i]
    congr 1
    simp only [cut, List.drop_drop]
    congr 2; omega
theorem cut_append {b r : List UInt8} {j : Nat} (h : 128 * j + 128 ≤ b.length) : cut (b ++ r) (128 * j) = cut b (128 * j) := by
  simp only [cut]
  rw [List.drop_append_of_le_length (by omega), List.take_append_of_le_length (by rw [List.length_drop]; omega)]
theorem mR_drop (b : List UInt8) (h : b.length ≤ 1073741824) : (mR b).drop (128 * (b.length / 128)) = padded (absR b) (UInt64.ofInt (b.length : Int)) := by
  have ez : zn (absR b).length = zn b.length := by
    rw [absR, List.length_drop]
    have : (b.length - 128 * (b.length / 128)) % 128 = b.length % 128 := by omega
    simp only [zn, this]
  unfold mR padded padZ
  rw [ez, ← be8_eq, len8 _ h]
  simp only [List.append_assoc]
  rw [List.drop_append_of_le_length (by omega)]
  rfl
theorem mR_len (b : List UInt8) : (mR b).length = b.length + 17 + zn b.length := by
  rw [mR, List.length_append, List.length_append, padZ_len, List.length_reverse, bytesN_len]; simp only [List.length_cons, List.length_nil]; omega
theorem ref_eq (b : List UInt8) (h : b.length ≤ 1073741824) : outN (absN beg (mR b) ((mR b).length / 128)) 8 = digV0 b := by
  unfold digV0 sum0
  have e : (mR b).length / 128 = b.length / 128 + (padded (absR b) (UInt64.ofInt (b.length : Int))).length / 128 := by
    rw [← mR_drop b h, List.length_drop, mR_len]; omega
  rw [e, absN_add, mR_drop b h]
  congr 2
  unfold absT mR padZ
  simp only [List.append_assoc]
  exact absN_congr _ _ _ _ fun j hj => cut_append (by omega)
theorem spS5_ok : SpecsOK Tryd.prog spS5 := .consF ok_Blk <| .consF ok_BegR <| .cons ok_ToBig <| .cons ok_Int <| .cons ok_Words (.nil _)
noncomputable def sRSum : SpecF := sDSum
theorem ok_RSum : SpecOK Tryd.prog 19 sRSum := by
  unfold sRSum sDSum
  rw [digV_eq]
  refine fn_okL (by kernel_rfl) tt_ok spS5_ok 9 Tryd.func19 (by decide +kernel) (by kernel_rfl) ?_
  rintro ⟨b, _⟩ hb
  replace hb : b.length ≤ 1073741824 := hb
  have hz := zn_lt b.length
  refine ⟨[], lRSum b, fun x => x = .lst (.bytes (digV0 b)), LnVD.of (vcRSum b _) ?_, svf⟩
  rw [List.nil_append, full]
  refine ⟨by simp only [appLim]; omega, ⟨by omega, by simp only [appLim, List.length_append, List.length_singleton]; omega⟩, ⟨rfl, rfl⟩, ⟨0, by omega, by simp [padZ]⟩, ?_⟩
  intro t hZ
  have lt : t.length ≤ b.length + 129 := by obtain ⟨k, hk, rfl⟩ := hZ; rw [padZ_len]; omega
  have em : Int.tmod (t.length : Int) 128 = ((t.length % 128 : Nat) : Int) := by rw [tmod_nn (by omega)]; omega
  rw [em, bcase_iff, full]
  refine ⟨fun hc => ?_, fun hc => ?_⟩
  · have hc' : ¬ t.length % 128 = 112 := by
      intro e; rw [e] at hc; exact absurd hc (by decide)
    obtain ⟨z1, z2⟩ := iZ_step hZ hc'
    refine ⟨⟨by omega, by simp only [appLim, List.length_append, List.length_singleton]; omega⟩, ⟨rfl, rfl⟩, rfl, z1, ?_⟩
    rw [List.length_append, List.length_singleton]
    omega
  · have hc' : t.length % 128 = 112 := by
      have := bne_eq_false_iff_eq.1 hc
      omega
    have ht := iZ_done hZ hc'
    have ew : IntKind.wrap .i64 (8 * (b.length : Int)) = ((8 * b.length : Nat) : Int) := by rw [wr (by omega)]; omega
    have em' : t ++ [UInt8.ofNat (Int.toNat (0 : Int)), UInt8.ofNat (Int.toNat (0 : Int)), UInt8.ofNat (Int.toNat (0 : Int)), UInt8.ofNat (Int.toNat (0 : Int)), UInt8.ofNat (Int.toNat (0 : Int)), UInt8.ofNat (Int.toNat (0 : Int)), UInt8.ofNat (Int.toNat (0 : Int)), UInt8.ofNat (Int.toNat (0 : Int))] ++ List.reverse (bytesN (nv (dg (Int.toNat ((8 * b.length : Nat) : Int)))) (Int.toNat 8)) = mR b := by
      rw [ht, Int.toNat_natCast, nv_dg]; rfl
    rw [ew, full, em']
    have lm := mR_len b
    have hDg : Dg (dg (Int.toNat ((8 * b.length : Nat) : Int))) := by
      rw [Int.toNat_natCast]
      have : 8 * b.length < 16777216 ^ 2 := by omega
      exact Dg.dg (Nat.le_trans (dg_length_lt this) (by decide))
    refine ⟨⟨by omega, by simp only [appLim, List.length_append, List.length_cons, List.length_nil]; omega⟩, ⟨by omega, by omega⟩, ⟨hDg, by omega, by omega⟩, ⟨by omega, by rw [lm]; simp only [appLim]; omega⟩, ⟨⟨rfl, rfl⟩, rfl, rfl⟩, ⟨0, rfl, rfl, by omega, rfl⟩, ?_⟩
    intro m v a hH
    obtain ⟨k, rfl, rfl, hk, rfl⟩ := hH
    rw [bcase_dec]
    have l64 : (mR b).length % 128 = 0 := by rw [lm, zn]; omega
    refine ⟨fun ha => ?_, fun ha => ?_⟩
    · have w1 : IntKind.wrap .i64 (128 * (k : Int) + 128) = ((128 * k + 128 : Nat) : Int) := by rw [wr (by omega)]; omega
      have w2 : Int.toNat (128 * (k : Int)) = 128 * k := by omega
      have ec : List.drop (0 + 128 * k) (List.take (0 + 128 * k + (128 * k + 128 - 128 * k)) (mR b)) = cut (mR b) (128 * k) := by
        rw [Nat.zero_add, List.drop_take]
        congr 1; omega
      rw [w1, w2, Int.toNat_natCast, ec]
      refine ⟨⟨by omega, by omega, by omega⟩, ?_, ⟨⟨rfl, rfl⟩, rfl, rfl⟩, rfl, ⟨k + 1, rfl, by omega, by omega, rfl⟩, by omega⟩
      rw [List.length_take, List.length_drop]; omega
    · refine ⟨⟨⟨rfl, rfl⟩, rfl, rfl⟩, ⟨rfl, by omega, by omega, rfl⟩, ?_⟩
      rintro v l a ⟨rfl, hO⟩
      have o0 := hO.1
      have hl : l.length ≤ 64 := by
        have lo : ∀ (s : St8) (n : Nat), (outN s n).length = 8 * n := by
          intro s n
          induction n with
          | zero => rfl
          | succ n ih => rw [outN, List.length_append, ih, be8_len]; omega
        have := hO.2.1
        rw [hO.2.2, lo]; omega
      rw [bcase_dec, full, show Int.toNat 8 = 8 from rfl, be8w]
      refine ⟨fun h8 => ?_, fun h8 => ?_⟩
      · refine ⟨⟨o0, h8⟩, by omega, ⟨Dg.dg (Nat.le_trans (dg_length_lt (k := 20) (Nat.lt_trans (wv_lt _) (show (2 : Nat) ^ (64 * 1) < 16777216 ^ 20 by decide))) (by decide)), by omega, by omega⟩, ⟨by omega, ?_⟩, ⟨⟨rfl, rfl⟩, rfl, rfl⟩, rfl, ⟨rfl, ?_⟩, ?_⟩
        · rw [List.length_append]
          have : (be8 (List.getD (St8.l (absN beg (mR b) k)) (0 + Int.toNat a) 0) 8).length = 8 := be8_len _ _
          simp only [appLim]; omega
        · rw [wr (by omega)]
          refine ⟨by omega, by omega, ?_⟩
          rw [show (a + 1).toNat = a.toNat + 1 by omega, outN, ← hO.2.2, Nat.zero_add]
        · rw [wr (by omega)]; omega
      · have e : l = digV0 b := by
          rw [hO.2.2, show a.toNat = 8 by have := hO.2.1; omega, ← ref_eq b hb, show (mR b).length / 128 = k by omega]
        show SV.lst (.bytes (List.drop 0 (List.take (0 + l.length) l))) = _
        rw [Nat.zero_add, full, e]
end Go.Proofs.YtbdoieajjhhbpaaDoor.H6
/- Layer 6: the example. -/
set_option maxRecDepth 100000
namespace Go.Proofs.YtbdoieajjhhbpaaDoor.H6
open Go.Sym Go.Dig R1
def blkA : List UInt8 := [97, 98, 99, 128, 0, 0, 0, 0, 0, 0, 0, 0, 0, 0, 0, 0, 0, 0, 0, 0, 0, 0, 0, 0, 0, 0, 0, 0, 0, 0, 0, 0, 0, 0, 0, 0, 0, 0, 0, 0, 0, 0, 0, 0, 0, 0, 0, 0, 0, 0, 0, 0, 0, 0, 0, 0, 0, 0, 0, 0, 0, 0, 0, 0, 0, 0, 0, 0, 0, 0, 0, 0, 0, 0, 0, 0, 0, 0, 0, 0, 0, 0, 0, 0, 0, 0, 0, 0, 0, 0, 0, 0, 0, 0, 0, 0, 0, 0, 0, 0, 0, 0, 0, 0, 0, 0, 0, 0, 0, 0, 0, 0, 0, 0, 0, 0, 0, 0, 0, 0, 0, 0, 0, 0, 0, 0, 0, 24]
deriving instance DecidableEq for St8
theorem mixA : mix0 beg blkA = ⟨15974045371385084602, 14718171817514647857, 1362051152550133410, 765311659573367706, 2419164356178592168, 3943530547489205181, 4993722480620005390, 3069987439919277215⟩ := by decide +kernel
theorem abc : digV [97, 98, 99] = [221, 175, 53, 161, 147, 97, 122, 186, 204, 65, 115, 73, 174, 32, 65, 49, 18, 230, 250, 78, 137, 169, 126, 162, 10, 158, 238, 230, 75, 85, 211, 154, 33, 146, 153, 42, 39, 79, 193, 168, 54, 186, 60, 35, 163, 254, 235, 189, 69, 77, 68, 35, 100, 60, 232, 14, 42, 154, 201, 79, 165, 76, 164, 159] := by
  rw [digV_eq]
  have e : sum0 (absT beg [97, 98, 99]) (absR [97, 98, 99]) (UInt64.ofInt 3) = outN (mixV beg blkA) 8 := by
    unfold sum0
    rw [show padded (absR [97, 98, 99]) (UInt64.ofInt 3) = blkA by decide +kernel]
    rfl
  show sum0 (absT beg [97, 98, 99]) (absR [97, 98, 99]) (UInt64.ofInt 3) = _
  rw [e, mixV_eq, mixA]
  decide +kernel
end Go.Proofs.YtbdoieajjhhbpaaDoor.H6
/- Layer 6's laws: what the bodies come to. -/
set_option maxRecDepth 10000
namespace Go.Proofs.YtbdoieajjhhbpaaDoor.H6
open Go.Sym Go.Dig R1
noncomputable def spA6 : Specs := [(18, .fresh sDSum)]
--STOP digV
theorem vcAwake6 (Q : SV → Prop) : LnRaw tt spA6 9 [] {} Tryd.f17 Q () =
  (((3 : Nat) ≤ (1073741824 : Nat)) ∧
  bcase ((↑(List.length
        (digV
          [UInt8.ofNat (Int.toNat (97 : Int)), UInt8.ofNat (Int.toNat (98 : Int)),
            UInt8.ofNat (Int.toNat (99 : Int))])) :
    Int) ==
  (64 : Int))
    (((((0 : Int) ≤ (0 : Int)) ∧
     ((0 : Int) <
  (↑(List.length
        (digV
          [UInt8.ofNat (Int.toNat (97 : Int)), UInt8.ofNat (Int.toNat (98 : Int)),
            UInt8.ofNat (Int.toNat (99 : Int))])) :
    Int))) ∧
    bcase (List.getD
    (digV [UInt8.ofNat (Int.toNat (97 : Int)), UInt8.ofNat (Int.toNat (98 : Int)), UInt8.ofNat (Int.toNat (99 : Int))])
    ((0 : Nat) + Int.toNat (0 : Int)) (0 : UInt8) ==
  UInt8.ofNat (Int.toNat (221 : Int)))
      (((((0 : Int) ≤ (1 : Int)) ∧
       ((1 : Int) <
  (↑(List.length
        (digV
          [UInt8.ofNat (Int.toNat (97 : Int)), UInt8.ofNat (Int.toNat (98 : Int)),
            UInt8.ofNat (Int.toNat (99 : Int))])) :
    Int))) ∧
      bcase (List.getD
    (digV [UInt8.ofNat (Int.toNat (97 : Int)), UInt8.ofNat (Int.toNat (98 : Int)), UInt8.ofNat (Int.toNat (99 : Int))])
    ((0 : Nat) + Int.toNat (1 : Int)) (0 : UInt8) ==
  UInt8.ofNat (Int.toNat (175 : Int)))
        (((((0 : Int) ≤ (2 : Int)) ∧
         ((2 : Int) <
  (↑(List.length
        (digV
          [UInt8.ofNat (Int.toNat (97 : Int)), UInt8.ofNat (Int.toNat (98 : Int)),
            UInt8.ofNat (Int.toNat (99 : Int))])) :
    Int))) ∧
        bcase (List.getD
    (digV [UInt8.ofNat (Int.toNat (97 : Int)), UInt8.ofNat (Int.toNat (98 : Int)), UInt8.ofNat (Int.toNat (99 : Int))])
    ((0 : Nat) + Int.toNat (2 : Int)) (0 : UInt8) ==
  UInt8.ofNat (Int.toNat (53 : Int)))
          (((((0 : Int) ≤ (63 : Int)) ∧
           ((63 : Int) <
  (↑(List.length
        (digV
          [UInt8.ofNat (Int.toNat (97 : Int)), UInt8.ofNat (Int.toNat (98 : Int)),
            UInt8.ofNat (Int.toNat (99 : Int))])) :
    Int))) ∧
          (Q
  (SV.bool
    (List.getD
        (digV
          [UInt8.ofNat (Int.toNat (97 : Int)), UInt8.ofNat (Int.toNat (98 : Int)), UInt8.ofNat (Int.toNat (99 : Int))])
        ((0 : Nat) + Int.toNat (63 : Int)) (0 : UInt8) ==
      UInt8.ofNat (Int.toNat (159 : Int)))))))
          ((Q (SV.bool false)))))
        ((Q (SV.bool false)))))
      ((Q (SV.bool false)))))
    ((Q (SV.bool false)))) := by kernel_rfl
def sAwake6 : SpecF := fspec (α := Unit) total (fun _ => true)
noncomputable def spL6 : Specs := [(18, .fresh sDSum), (19, sRSum), (10, sSame), (17, sAwake6)]
theorem vcSums6 (b : List UInt8) (Q : SV → Prop) : LnRaw tt spL6 9 [] {} Tryd.f5 Q (b, ()) =
  bcase (decide ((↑(List.length b) : Int) > (2000 : Int)))
    ((Q (SV.bool true)))
    (((List.length b ≤ (1073741824 : Nat)) ∧
    ((List.length b ≤ (1073741824 : Nat)) ∧
    ((List.length (List.drop (0 : Nat) (List.take ((0 : Nat) + List.length (digV b)) (digV b))) ≤ (4294967296 : Nat)) ∧
    (Q (SV.bool (decide (List.drop (0 : Nat) (List.take ((0 : Nat) + List.length (digV b)) (digV b)) = digV b)))))))) := by kernel_rfl
end Go.Proofs.YtbdoieajjhhbpaaDoor.H6
/- Layer 6's laws hold. -/
set_option maxRecDepth 10000
namespace Go.Proofs.YtbdoieajjhhbpaaDoor.H6
open Go.Sym Go.Dig R1
theorem outN_len (s : St8) : ∀ n, (outN s n).length = 8 * n
  | 0 => rfl
  | n + 1 => by rw [outN, List.length_append, outN_len s n, be8_len]; omega
theorem digV_len (b : List UInt8) : (digV b).length = 64 := by
  rw [digV_eq]
  exact outN_len _ 8
theorem spA6_ok : SpecsOK Tryd.prog spA6 := .consF ok_DSumF (.nil _)
theorem ok_Awake6 : SpecOK Tryd.prog 17 sAwake6 := by
  refine fn_okL (by kernel_rfl) tt_ok spA6_ok 9 Tryd.func17 (by decide +kernel) (by kernel_rfl) ?_
  rintro ⟨⟩ _
  refine ⟨_, {}, fun t => t = _, LnVD.of (vcAwake6 _) ?_, svf⟩
  have e : [UInt8.ofNat (Int.toNat (97 : Int)), UInt8.ofNat (Int.toNat (98 : Int)), UInt8.ofNat (Int.toNat (99 : Int))] = ([97, 98, 99] : List UInt8) := rfl
  rw [e, abc]
  refine ⟨by decide, ?_⟩
  rw [bcase_iff]
  refine ⟨fun _ => ⟨by decide, ?_⟩, fun h => absurd h (by decide)⟩
  rw [bcase_iff]
  refine ⟨fun _ => ⟨by decide, ?_⟩, fun h => absurd h (by decide)⟩
  rw [bcase_iff]
  refine ⟨fun _ => ⟨by decide, ?_⟩, fun h => absurd h (by decide)⟩
  rw [bcase_iff]
  refine ⟨fun _ => ⟨by decide, rfl⟩, fun h => absurd h (by decide)⟩
theorem spL6_ok : SpecsOK Tryd.prog spL6 := .consF ok_DSumF <| .cons ok_RSum <| .cons ok_Same <| .cons ok_Awake6 (.nil _)
abbrev sSums6 : SpecF := fspec (α := List UInt8 × Unit) total fun _ => true
theorem ok_Sums6 : SpecOK Tryd.prog 5 sSums6 := by
  refine fn_okL (by kernel_rfl) tt_ok spL6_ok 9 Tryd.func5 (by decide +kernel) (by kernel_rfl) ?_
  rintro ⟨b, _⟩ _
  refine ⟨_, {}, fun t => t = _, LnVD.of (vcSums6 b _) ?_, svf⟩
  rw [bcase_dec]
  refine ⟨fun _ => rfl, fun h => ?_⟩
  have f : List.drop 0 (List.take (0 + (digV b).length) (digV b)) = digV b := by rw [Nat.zero_add, List.take_length]; rfl
  rw [f]
  refine ⟨by omega, by omega, by rw [digV_len]; decide, ?_⟩
  show SV.bool (decide (digV b = digV b)) = SV.bool true
  rw [decide_eq_true rfl]
end Go.Proofs.YtbdoieajjhhbpaaDoor.H6
/- Layer 6's law of pieces: what the body comes to. -/
set_option maxRecDepth 10000
namespace Go.Proofs.YtbdoieajjhhbpaaDoor.H6
open Go.Sym Go.Dig R1
instance : Enc (List (List UInt8)) where
  enc l := .lol l
  dec | .lol l => some l
      | _ => none
  ok := by
    intro s a h at_ w v r
    split at h
    · simp only [Option.some.injEq] at h; subst h; exact r
    · cases h
  nn _ := rfl
/-- A hash at a loop's head; where it has no list, it has one of no bytes. -/
structure PHn where
  v : HashV
instance : LEnc PHn where
  kind := none
  ins := [(8, .u8)]
  enc nx a := (.ptr nx 0, [a.v.cells (nx + 1), [.own (.bytes a.v.l)]])
  dec nx s M := match s, M with
    | .ptr b 0, some cs :: some [.own (.bytes l)] :: M' => if b = nx then (match dHashC l cs with | some (r, k) => if k = nx + 1 then some (none, ⟨r⟩, M') else none | none => none) else none
    | _, _ => none
  all P := ∀ v, P ⟨v⟩
  all_ok h a := h a.v
  ok := by
    intro nx s M p a M' h hp
    split at h
    · split at h
      · rename_i hb
        split at h
        · rename_i r k hd
          split at h
          · rename_i hk
            simp only [Option.some.injEq, Prod.mk.injEq] at h
            obtain ⟨_, rfl, rfl⟩ := h
            subst hb; subst hk
            obtain ⟨e1, e2⟩ := dHashC_ok hd
            subst e2
            exact ⟨by rw [e1]; rfl, fun r => r⟩
          · cases h
        · cases h
      · cases h
    · cases h
noncomputable def hv (t : List UInt8) : HashV := ⟨absT beg t, absR t, 0, (absR t).length, UInt64.ofInt (t.length : Int)⟩
def iP (l : List (List UInt8)) (v g : HashV) (all : List UInt8) (i : Int) : Prop := 0 ≤ i ∧ i ≤ l.length ∧ all = (l.take i.toNat).flatten ∧ v = hv all ∧ g = hv [] ∧ (all.length : Int) ≤ 1000 * i
noncomputable def spP6 : Specs := [(28, .fresh sNewH), (29, .memf sWriteO), (30, .fresh sHSumO), (31, sLen), (18, .fresh sDSum), (10, sSame), (17, sAwake6)]
def lPie (l : List (List UInt8)) (n : Int) : Plan := { loops := [(0, { β := List UInt8 × List (List UInt8) × Int × Unit, α := PHn × PHn × OwnB × Int × Unit, same := [1, 23, 24], keep := [5, 6, 7, 25], inv := fun _ _ x => iP l x.1.v x.2.1.v x.2.2.1.l x.2.2.2.1, meas := fun _ x => (n - x.2.2.2.1).toNat })] }
end Go.Proofs.YtbdoieajjhhbpaaDoor.H6
/- Layer 6's law of pieces: what the body comes to. -/
set_option maxRecDepth 10000
namespace Go.Proofs.YtbdoieajjhhbpaaDoor.H6
open Go.Sym Go.Dig R1
--STOP digV, iP, hv, rOf, nOf, absT, absR, sumV, sumO, beg, List.flatten
theorem vcPie (l : List (List UInt8)) (a : List UInt8) (Q : SV → Prop) : LnRaw tt spP6 9 [] (lPie l (l.length : Int)) Tryd.f8 Q (l, a, ()) =
  bcase (decide ((↑(List.length l) : Int) > (50 : Int)))
    ((Q (SV.bool true)))
    (bcase (decide ((↑(List.length a) : Int) > (1000 : Int)))
      ((Q (SV.bool true)))
      (((((0 : Nat) = (0 : Nat)) ∧
       ((0 : Nat) = (0 : Nat))) ∧
      ((iP l (HashV.mk beg [] (0 : Nat) (0 : Nat) (0 : UInt64)) (HashV.mk beg [] (0 : Nat) (0 : Nat) (0 : UInt64)) [] (0 : Int)) ∧
      (∀ v : HashV,
      (∀ v_1 : HashV,
      (∀ l_1 : List UInt8,
      (∀ a_1 : Int,
      ((iP l v v_1 l_1 a_1) →
      bcase (decide (a_1 < (↑(List.length l) : Int)))
        (((((0 : Int) ≤ a_1) ∧
         (a_1 < (↑(List.length l) : Int))) ∧
        bcase (decide ((↑(List.length (List.getD l (Int.toNat a_1) [])) : Int) > (1000 : Int)))
          ((Q (SV.bool true)))
          ((((HashV.lo v + HashV.len v = List.length (HashV.l v)) ∧
           ((List.length (rOf v (List.getD l (Int.toNat a_1) [])) ≤ appLim) ∧
           (True))) ∧
          ((((0 : Nat) + List.length l_1 = List.length l_1) ∧
           (List.length (List.drop (0 : Nat) (List.take (List.length l_1) l_1) ++ List.getD l (Int.toNat a_1) []) ≤ appLim)) ∧
          ((List.length
    (List.drop (0 : Nat)
      (List.take ((0 : Nat) + List.length (absR (rOf v (List.getD l (Int.toNat a_1) []))))
        (absR (rOf v (List.getD l (Int.toNat a_1) []))))) ≤
  (65536 : Nat)) ∧
          ((List.length
    (List.drop (0 : Nat)
      (List.take
        ((0 : Nat) +
          List.length (List.drop (0 : Nat) (List.take (List.length l_1) l_1) ++ List.getD l (Int.toNat a_1) []))
        (List.drop (0 : Nat) (List.take (List.length l_1) l_1) ++ List.getD l (Int.toNat a_1) []))) ≤
  (1073741824 : Nat)) ∧
          ((List.length
    (List.drop (0 : Nat)
      (List.take
        ((0 : Nat) +
          List.length
            (sumO
              (OH.some
                (RoH.mk (absT (HashV.s v) (rOf v (List.getD l (Int.toNat a_1) [])))
                  (List.drop (0 : Nat)
                    (List.take ((0 : Nat) + List.length (absR (rOf v (List.getD l (Int.toNat a_1) []))))
                      (absR (rOf v (List.getD l (Int.toNat a_1) [])))))
                  (nOf v (List.getD l (Int.toNat a_1) []))))))
        (sumO
          (OH.some
            (RoH.mk (absT (HashV.s v) (rOf v (List.getD l (Int.toNat a_1) [])))
              (List.drop (0 : Nat)
                (List.take ((0 : Nat) + List.length (absR (rOf v (List.getD l (Int.toNat a_1) []))))
                  (absR (rOf v (List.getD l (Int.toNat a_1) [])))))
              (nOf v (List.getD l (Int.toNat a_1) []))))))) ≤
  (4294967296 : Nat)) ∧
          bcase (!decide
    (List.drop (0 : Nat)
        (List.take
          ((0 : Nat) +
            List.length
              (sumO
                (OH.some
                  (RoH.mk (absT (HashV.s v) (rOf v (List.getD l (Int.toNat a_1) [])))
                    (List.drop (0 : Nat)
                      (List.take ((0 : Nat) + List.length (absR (rOf v (List.getD l (Int.toNat a_1) []))))
                        (absR (rOf v (List.getD l (Int.toNat a_1) [])))))
                    (nOf v (List.getD l (Int.toNat a_1) []))))))
          (sumO
            (OH.some
              (RoH.mk (absT (HashV.s v) (rOf v (List.getD l (Int.toNat a_1) [])))
                (List.drop (0 : Nat)
                  (List.take ((0 : Nat) + List.length (absR (rOf v (List.getD l (Int.toNat a_1) []))))
                    (absR (rOf v (List.getD l (Int.toNat a_1) [])))))
                (nOf v (List.getD l (Int.toNat a_1) [])))))) =
      List.drop (0 : Nat)
        (List.take
          ((0 : Nat) +
            List.length
              (digV
                (List.drop (0 : Nat)
                  (List.take
                    ((0 : Nat) +
                      List.length
                        (List.drop (0 : Nat) (List.take (List.length l_1) l_1) ++ List.getD l (Int.toNat a_1) []))
                    (List.drop (0 : Nat) (List.take (List.length l_1) l_1) ++ List.getD l (Int.toNat a_1) [])))))
          (digV
            (List.drop (0 : Nat)
              (List.take
                ((0 : Nat) +
                  List.length (List.drop (0 : Nat) (List.take (List.length l_1) l_1) ++ List.getD l (Int.toNat a_1) []))
                (List.drop (0 : Nat) (List.take (List.length l_1) l_1) ++ List.getD l (Int.toNat a_1) [])))))))
            ((Q (SV.bool false)))
            (bcase ((match
    OH.some
      (RoH.mk (absT (HashV.s v) (rOf v (List.getD l (Int.toNat a_1) [])))
        (List.drop (0 : Nat)
          (List.take ((0 : Nat) + List.length (absR (rOf v (List.getD l (Int.toNat a_1) []))))
            (absR (rOf v (List.getD l (Int.toNat a_1) [])))))
        (nOf v (List.getD l (Int.toNat a_1) []))) with
  | OH.none => (0 : Int)
  | OH.some h => IntKind.wrap IntKind.i64 (↑(UInt64.toNat (RoH.n h)) : Int)) !=
  (↑(List.length (List.drop (0 : Nat) (List.take (List.length l_1) l_1) ++ List.getD l (Int.toNat a_1) [])) : Int))
              ((Q (SV.bool false)))
              (((((0 : Nat) = (0 : Nat)) ∧
               (List.length (List.drop (0 : Nat) (List.take (List.length l_1) l_1) ++ List.getD l (Int.toNat a_1) []) =
  List.length (List.drop (0 : Nat) (List.take (List.length l_1) l_1) ++ List.getD l (Int.toNat a_1) []))) ∧
              (((a, l, (↑(List.length l) : Int), ()) = (a, l, (↑(List.length l) : Int), ())) ∧
              ((iP l
  (HashV.mk (absT (HashV.s v) (rOf v (List.getD l (Int.toNat a_1) []))) (absR (rOf v (List.getD l (Int.toNat a_1) [])))
    (0 : Nat) (List.length (absR (rOf v (List.getD l (Int.toNat a_1) [])))) (nOf v (List.getD l (Int.toNat a_1) [])))
  v_1 (List.drop (0 : Nat) (List.take (List.length l_1) l_1) ++ List.getD l (Int.toNat a_1) [])
  (IntKind.wrap IntKind.i64 (a_1 + (1 : Int)))) ∧
              (Int.toNat ((↑(List.length l) : Int) - IntKind.wrap IntKind.i64 (a_1 + (1 : Int))) <
  Int.toNat ((↑(List.length l) : Int) - a_1)))))))))))))))
        ((((HashV.lo v_1 + HashV.len v_1 = List.length (HashV.l v_1)) ∧
         ((List.length (rOf v_1 (List.take (List.length l_1) (List.drop (0 : Nat) l_1))) ≤ appLim) ∧
         ((0 : Nat) + List.length l_1 ≤ List.length l_1))) ∧
        (((HashV.lo v + HashV.len v = List.length (HashV.l v)) ∧
         ((List.length (rOf v a) ≤ appLim) ∧
         (True))) ∧
        ((((0 : Nat) + List.length (absR (rOf v_1 (List.take (List.length l_1) (List.drop (0 : Nat) l_1)))) =
  List.length (absR (rOf v_1 (List.take (List.length l_1) (List.drop (0 : Nat) l_1))))) ∧
         ((List.length
    (rOf
      (HashV.mk (absT (HashV.s v_1) (rOf v_1 (List.take (List.length l_1) (List.drop (0 : Nat) l_1))))
        (absR (rOf v_1 (List.take (List.length l_1) (List.drop (0 : Nat) l_1)))) (0 : Nat)
        (List.length (absR (rOf v_1 (List.take (List.length l_1) (List.drop (0 : Nat) l_1)))))
        (nOf v_1 (List.take (List.length l_1) (List.drop (0 : Nat) l_1))))
      a) ≤
  appLim) ∧
         (True))) ∧
        ((List.length (List.drop (0 : Nat) (List.take ((0 : Nat) + List.length (absR (rOf v a))) (absR (rOf v a)))) ≤
  (65536 : Nat)) ∧
        ((List.length
    (List.drop (0 : Nat)
      (List.take
        ((0 : Nat) +
          List.length
            (absR
              (rOf
                (HashV.mk (absT (HashV.s v_1) (rOf v_1 (List.take (List.length l_1) (List.drop (0 : Nat) l_1))))
                  (absR (rOf v_1 (List.take (List.length l_1) (List.drop (0 : Nat) l_1)))) (0 : Nat)
                  (List.length (absR (rOf v_1 (List.take (List.length l_1) (List.drop (0 : Nat) l_1)))))
                  (nOf v_1 (List.take (List.length l_1) (List.drop (0 : Nat) l_1))))
                a)))
        (absR
          (rOf
            (HashV.mk (absT (HashV.s v_1) (rOf v_1 (List.take (List.length l_1) (List.drop (0 : Nat) l_1))))
              (absR (rOf v_1 (List.take (List.length l_1) (List.drop (0 : Nat) l_1)))) (0 : Nat)
              (List.length (absR (rOf v_1 (List.take (List.length l_1) (List.drop (0 : Nat) l_1)))))
              (nOf v_1 (List.take (List.length l_1) (List.drop (0 : Nat) l_1))))
            a)))) ≤
  (65536 : Nat)) ∧
        ((List.length
    (List.drop (0 : Nat)
      (List.take
        ((0 : Nat) +
          List.length
            (sumO
              (OH.some
                (RoH.mk (absT (HashV.s v) (rOf v a))
                  (List.drop (0 : Nat) (List.take ((0 : Nat) + List.length (absR (rOf v a))) (absR (rOf v a))))
                  (nOf v a)))))
        (sumO
          (OH.some
            (RoH.mk (absT (HashV.s v) (rOf v a))
              (List.drop (0 : Nat) (List.take ((0 : Nat) + List.length (absR (rOf v a))) (absR (rOf v a))))
              (nOf v a)))))) ≤
  (4294967296 : Nat)) ∧
        bcase (decide
  (List.drop (0 : Nat)
      (List.take
        ((0 : Nat) +
          List.length
            (sumO
              (OH.some
                (RoH.mk (absT (HashV.s v) (rOf v a))
                  (List.drop (0 : Nat) (List.take ((0 : Nat) + List.length (absR (rOf v a))) (absR (rOf v a))))
                  (nOf v a)))))
        (sumO
          (OH.some
            (RoH.mk (absT (HashV.s v) (rOf v a))
              (List.drop (0 : Nat) (List.take ((0 : Nat) + List.length (absR (rOf v a))) (absR (rOf v a))))
              (nOf v a))))) =
    List.drop (0 : Nat)
      (List.take
        ((0 : Nat) +
          List.length
            (sumO
              (OH.some
                (RoH.mk
                  (absT (absT (HashV.s v_1) (rOf v_1 (List.take (List.length l_1) (List.drop (0 : Nat) l_1))))
                    (rOf
                      (HashV.mk (absT (HashV.s v_1) (rOf v_1 (List.take (List.length l_1) (List.drop (0 : Nat) l_1))))
                        (absR (rOf v_1 (List.take (List.length l_1) (List.drop (0 : Nat) l_1)))) (0 : Nat)
                        (List.length (absR (rOf v_1 (List.take (List.length l_1) (List.drop (0 : Nat) l_1)))))
                        (nOf v_1 (List.take (List.length l_1) (List.drop (0 : Nat) l_1))))
                      a))
                  (List.drop (0 : Nat)
                    (List.take
                      ((0 : Nat) +
                        List.length
                          (absR
                            (rOf
                              (HashV.mk
                                (absT (HashV.s v_1) (rOf v_1 (List.take (List.length l_1) (List.drop (0 : Nat) l_1))))
                                (absR (rOf v_1 (List.take (List.length l_1) (List.drop (0 : Nat) l_1)))) (0 : Nat)
                                (List.length (absR (rOf v_1 (List.take (List.length l_1) (List.drop (0 : Nat) l_1)))))
                                (nOf v_1 (List.take (List.length l_1) (List.drop (0 : Nat) l_1))))
                              a)))
                      (absR
                        (rOf
                          (HashV.mk
                            (absT (HashV.s v_1) (rOf v_1 (List.take (List.length l_1) (List.drop (0 : Nat) l_1))))
                            (absR (rOf v_1 (List.take (List.length l_1) (List.drop (0 : Nat) l_1)))) (0 : Nat)
                            (List.length (absR (rOf v_1 (List.take (List.length l_1) (List.drop (0 : Nat) l_1)))))
                            (nOf v_1 (List.take (List.length l_1) (List.drop (0 : Nat) l_1))))
                          a))))
                  (nOf
                    (HashV.mk (absT (HashV.s v_1) (rOf v_1 (List.take (List.length l_1) (List.drop (0 : Nat) l_1))))
                      (absR (rOf v_1 (List.take (List.length l_1) (List.drop (0 : Nat) l_1)))) (0 : Nat)
                      (List.length (absR (rOf v_1 (List.take (List.length l_1) (List.drop (0 : Nat) l_1)))))
                      (nOf v_1 (List.take (List.length l_1) (List.drop (0 : Nat) l_1))))
                    a)))))
        (sumO
          (OH.some
            (RoH.mk
              (absT (absT (HashV.s v_1) (rOf v_1 (List.take (List.length l_1) (List.drop (0 : Nat) l_1))))
                (rOf
                  (HashV.mk (absT (HashV.s v_1) (rOf v_1 (List.take (List.length l_1) (List.drop (0 : Nat) l_1))))
                    (absR (rOf v_1 (List.take (List.length l_1) (List.drop (0 : Nat) l_1)))) (0 : Nat)
                    (List.length (absR (rOf v_1 (List.take (List.length l_1) (List.drop (0 : Nat) l_1)))))
                    (nOf v_1 (List.take (List.length l_1) (List.drop (0 : Nat) l_1))))
                  a))
              (List.drop (0 : Nat)
                (List.take
                  ((0 : Nat) +
                    List.length
                      (absR
                        (rOf
                          (HashV.mk
                            (absT (HashV.s v_1) (rOf v_1 (List.take (List.length l_1) (List.drop (0 : Nat) l_1))))
                            (absR (rOf v_1 (List.take (List.length l_1) (List.drop (0 : Nat) l_1)))) (0 : Nat)
                            (List.length (absR (rOf v_1 (List.take (List.length l_1) (List.drop (0 : Nat) l_1)))))
                            (nOf v_1 (List.take (List.length l_1) (List.drop (0 : Nat) l_1))))
                          a)))
                  (absR
                    (rOf
                      (HashV.mk (absT (HashV.s v_1) (rOf v_1 (List.take (List.length l_1) (List.drop (0 : Nat) l_1))))
                        (absR (rOf v_1 (List.take (List.length l_1) (List.drop (0 : Nat) l_1)))) (0 : Nat)
                        (List.length (absR (rOf v_1 (List.take (List.length l_1) (List.drop (0 : Nat) l_1)))))
                        (nOf v_1 (List.take (List.length l_1) (List.drop (0 : Nat) l_1))))
                      a))))
              (nOf
                (HashV.mk (absT (HashV.s v_1) (rOf v_1 (List.take (List.length l_1) (List.drop (0 : Nat) l_1))))
                  (absR (rOf v_1 (List.take (List.length l_1) (List.drop (0 : Nat) l_1)))) (0 : Nat)
                  (List.length (absR (rOf v_1 (List.take (List.length l_1) (List.drop (0 : Nat) l_1)))))
                  (nOf v_1 (List.take (List.length l_1) (List.drop (0 : Nat) l_1))))
                a)))))))
          (((True) ∧
          (Q
  (SV.bool
    ((match OH.none with
      | OH.none => (0 : Int)
      | OH.some h => IntKind.wrap IntKind.i64 (↑(UInt64.toNat (RoH.n h)) : Int)) ==
      (0 : Int))))))
          ((Q (SV.bool false))))))))))))))))))) := by kernel_rfl
end Go.Proofs.YtbdoieajjhhbpaaDoor.H6
/- Layer 6's law of pieces holds. -/
set_option maxRecDepth 10000
namespace Go.Proofs.YtbdoieajjhhbpaaDoor.H6
open Go.Sym Go.Dig R1
theorem fz (l : List UInt8) : List.drop 0 (List.take (0 + l.length) l) = l := by rw [Nat.zero_add, List.take_length]; rfl
theorem tz (l : List UInt8) : List.take l.length (List.drop 0 l) = l := by rw [List.drop_zero, List.take_length]
theorem abs_add (t p : List UInt8) : absT (absT beg t) (absR t ++ p) = absT beg (t ++ p) ∧ absR (absR t ++ p) = absR (t ++ p) := by
  have e0 : (t ++ p).drop (128 * (t.length / 128)) = absR t ++ p := by
    rw [List.drop_append_of_le_length (by omega)]; rfl
  have e1 : (t ++ p).length / 128 = t.length / 128 + (absR t ++ p).length / 128 := by
    rw [← e0, List.length_drop, List.length_append]; omega
  constructor
  · unfold absT
    rw [e1, absN_add, e0]
    congr 1
    exact (absN_congr _ _ _ _ fun j hj => cut_append (by omega)).symm
  · show (absR t ++ p).drop _ = (t ++ p).drop _
    rw [e1, ← e0, List.drop_drop]
    congr 1; omega
theorem hs (t p : List UInt8) : absT (hv t).s (rOf (hv t) p) = absT beg (t ++ p) := (abs_add t p).1
theorem hs' (t p : List UInt8) : absT (absT beg t) (rOf (hv t) p) = absT beg (t ++ p) := (abs_add t p).1
theorem hr (t p : List UInt8) : absR (rOf (hv t) p) = absR (t ++ p) := (abs_add t p).2
theorem hn (t p : List UInt8) : nOf (hv t) p = UInt64.ofInt ((t ++ p).length : Int) := by
  show UInt64.ofInt (t.length : Int) + UInt64.ofInt (p.length : Int) = _
  apply UInt64.toNat_inj.1
  rw [UInt64.toNat_add, ofInt64, ofInt64, ofInt64, List.length_append]
  omega
theorem hk (t : List UInt8) : HashV.mk (absT beg t) (absR t) 0 (absR t).length (UInt64.ofInt (t.length : Int)) = hv t := rfl
theorem hd (t : List UInt8) : sumO (OH.some (RoH.mk (absT beg t) (absR t) (UInt64.ofInt (t.length : Int)))) = digV t := by
  rw [digV_eq]
  unfold sumO digV0
  rw [sumV_eq]
theorem rl (t p : List UInt8) : (rOf (hv t) p).length = (absR t).length + p.length := by
  show ((absR t).drop 0 ++ p).length = _
  rw [List.length_append]; rfl
theorem hv0 : HashV.mk beg [] 0 0 0 = hv [] := by
  show _ = HashV.mk (absT beg []) (absR []) 0 (absR []).length (UInt64.ofInt (([] : List UInt8).length : Int))
  rfl
theorem spP6_ok : SpecsOK Tryd.prog spP6 := .consF ok_NewH <| .consN ok_WriteO <| .consF ok_HSumO <| .cons ok_Len <| .consF ok_DSumF <| .cons ok_Same <| .cons ok_Awake6 (.nil _)
theorem take_flat {l : List (List UInt8)} {i : Nat} (h : i < l.length) : (l.take (i + 1)).flatten = (l.take i).flatten ++ l.getD i [] := by
  rw [List.take_add_one, List.flatten_append, List.getD_eq_getElem?_getD, List.getElem?_eq_getElem h]
  simp
abbrev sPie : SpecF := fspec (α := List (List UInt8) × List UInt8 × Unit) total fun _ => true
theorem ok_Pie : SpecOK Tryd.prog 8 sPie := by
  refine fn_okL (by kernel_rfl) tt_ok spP6_ok 9 Tryd.func8 (by decide +kernel) (by kernel_rfl) ?_
  rintro ⟨l, a, _⟩ _
  refine ⟨_, lPie l (l.length : Int), fun t => t = _, LnVD.of (vcPie l a _) ?_, svf⟩
  rw [bcase_dec]
  refine ⟨fun _ => rfl, fun hl => ?_⟩
  rw [bcase_dec]
  refine ⟨fun _ => rfl, fun ha => ?_⟩
  refine ⟨⟨rfl, rfl⟩, ⟨by omega, by omega, rfl, hv0, hv0, by simp⟩, ?_⟩
  intro v g t i hP
  obtain ⟨h0, h1, h2, rfl, rfl, h5⟩ := hP
  have lt : t.length ≤ 50000 := by omega
  have l0 := absR_len t
  rw [bcase_dec]
  refine ⟨fun hi => ⟨⟨h0, hi⟩, ?_⟩, fun hi => ?_⟩
  · rw [bcase_dec]
    refine ⟨fun _ => rfl, fun hp => ?_⟩
    have ef : (l.take (i.toNat + 1)).flatten = t ++ l.getD i.toNat [] := by rw [take_flat (by omega), ← h2]
    generalize l.getD i.toNat [] = p at hp ef ⊢
    have lp : (t ++ p).length ≤ 51000 := by rw [List.length_append]; omega
    have l1 := absR_len (t ++ p)
    simp only [full, fz, hs, hr, hn, hd]
    have ln : IntKind.wrap .i64 ((UInt64.ofInt ((t ++ p).length : Int)).toNat : Int) = ((t ++ p).length : Int) := by
      rw [ofInt64, wr (by omega)]; omega
    refine ⟨⟨Nat.zero_add _, ?_, trivial⟩, ⟨Nat.zero_add _, by simp only [appLim]; omega⟩, by omega, by omega, by rw [digV_len]; decide, ?_⟩
    · rw [rl]; simp only [appLim]; omega
    · rw [bcase_iff]
      refine ⟨fun hf => by simp at hf, fun _ => ?_⟩
      rw [bcase_iff]
      refine ⟨fun hf => ?_, fun _ => ?_⟩
      · have hf' := bne_iff_ne.1 hf
        exact absurd ln hf'
      · refine ⟨⟨by first | trivial | rfl, by first | trivial | rfl⟩, by first | trivial | rfl, ⟨?_, ?_, ?_, rfl, rfl, ?_⟩, ?_⟩
        · rw [wr (by omega)]; omega
        · rw [wr (by omega)]; omega
        · rw [wr (by omega), show (i + 1).toNat = i.toNat + 1 by omega, ef]
        · rw [wr (by omega), List.length_append]; omega
        · rw [wr (by omega)]; omega
  · simp only [tz, hs, hr, hn, hk, hs', fz, hd, List.nil_append]
    have la : (t ++ a).length ≤ 51000 := by rw [List.length_append]; omega
    have l1 := absR_len (t ++ a)
    have l2 := absR_len ([] : List UInt8)
    refine ⟨⟨Nat.zero_add _, ?_, by omega⟩, ⟨Nat.zero_add _, ?_, trivial⟩, ⟨Nat.zero_add _, ?_, trivial⟩, by omega, by omega, by rw [digV_len]; decide, ?_⟩
    · rw [rl]; simp only [appLim]; omega
    · rw [rl]; simp only [appLim]; omega
    · rw [rl]; simp only [appLim]; omega
    · rw [bcase_iff]
      exact ⟨fun _ => ⟨trivial, rfl⟩, fun hf => by simp at hf⟩
end Go.Proofs.YtbdoieajjhhbpaaDoor.H6
