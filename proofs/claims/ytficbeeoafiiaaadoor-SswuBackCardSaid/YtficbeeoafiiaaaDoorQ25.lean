/- A symbolic machine for Go functions, and what the functions that the law reaches come to: DgK, DgL, DgM, DgN, DgO, DgP, DgQ, DgR, DgS. -/
import Derived.Test.YtficbeeoafiiaaaDoorQ24
/- The reference of layer 5: a block is the program's. -/
set_option maxRecDepth 10000
namespace Go.Proofs.YtficbeeoafiiaaaDoor.H5
open Go.Sym Go.Dig R1
theorem turn_eq (x : UInt32) : turnF x 7 = (shr32 x 7 ||| shl32 x 25) ∧ turnF x 18 = (shr32 x 18 ||| shl32 x 14) ∧ turnF x 17 = (shr32 x 17 ||| shl32 x 15) ∧ turnF x 19 = (shr32 x 19 ||| shl32 x 13) ∧ turnF x 6 = (shr32 x 6 ||| shl32 x 26) ∧ turnF x 11 = (shr32 x 11 ||| shl32 x 21) ∧ turnF x 25 = (shr32 x 25 ||| shl32 x 7) ∧ turnF x 2 = (shr32 x 2 ||| shl32 x 30) ∧ turnF x 13 = (shr32 x 13 ||| shl32 x 19) ∧ turnF x 22 = (shr32 x 22 ||| shl32 x 10) := by
  have e : ∀ (n : Int) (k : Nat), (UInt64.ofInt (IntKind.wrap .i64 (0 - n)) &&& 31).toNat = 32 - k → (32 - (UInt64.ofInt (IntKind.wrap .i64 (0 - n)) &&& 31)).toNat = k → turnF x n = (shr32 x k ||| shl32 x (32 - k)) := by
    intro n k h1 h2
    unfold turnF rotl
    rw [h1, h2, UInt32.or_comm]
  exact ⟨e 7 7 (by decide +kernel) (by decide +kernel), e 18 18 (by decide +kernel) (by decide +kernel), e 17 17 (by decide +kernel) (by decide +kernel), e 19 19 (by decide +kernel) (by decide +kernel), e 6 6 (by decide +kernel) (by decide +kernel), e 11 11 (by decide +kernel) (by decide +kernel), e 25 25 (by decide +kernel) (by decide +kernel), e 2 2 (by decide +kernel) (by decide +kernel), e 13 13 (by decide +kernel) (by decide +kernel), e 22 22 (by decide +kernel) (by decide +kernel)⟩
theorem ok_TurnR : SpecOK Tryd.prog 1000003 Sym.sNo := Sym.sNo_ok _ _
theorem ok_Const : SpecOK Tryd.prog 1000001 Sym.sNo := Sym.sNo_ok _ _
theorem ok_BegR : SpecOK Tryd.prog 1000000 Sym.sNo := Sym.sNo_ok _ _
theorem spR5_ok : SpecsOK Tryd.prog spR5 := .cons ok_TurnR <| .cons ok_Const (.nil _)

theorem shl8or (x : UInt32) (c : UInt8) : shl32 x 8 ||| c.toUInt32 = x * 256 + c.toUInt32 := by
  apply UInt32.toNat_inj.1
  have hc : c.toUInt32.toNat < 256 := by rw [UInt8.toNat_toUInt32]; exact c.toNat_lt
  have hx := x.toNat_lt
  rw [UInt32.toNat_or, UInt32.toNat_add, UInt32.toNat_mul]
  have e1 : (shl32 x 8).toNat = (x.toNat % 16777216) <<< 8 := by
    rw [shl32, UInt32.toNat_ofNat', Nat.shiftLeft_eq]; omega
  rw [e1, ← Nat.shiftLeft_add_eq_or_of_lt hc, Nat.shiftLeft_eq]
  have : (256 : UInt32).toNat = 256 := rfl
  rw [this]; omega
theorem getD_set_ne {l : List UInt32} {i j : Nat} {x : UInt32} (h : i ≠ j) : (l.set i x).getD j 0 = l.getD j 0 := by
  simp only [List.getD_eq_getElem?_getD, List.getElem?_set, if_neg h]
theorem getD_set_eq {l : List UInt32} {i : Nat} {x : UInt32} (h : i < l.length) : (l.set i x).getD i 0 = x := by
  simp only [List.getD_eq_getElem?_getD, List.getElem?_set, if_pos h, if_true, Option.getD_some]
theorem take_succ_getD {l : List UInt32} {i : Nat} (h : i < l.length) : l.take (i + 1) = l.take i ++ [l.getD i 0] := by
  rw [List.take_add_one, List.getD_eq_getElem?_getD, List.getElem?_eq_getElem h]; rfl
theorem getD_take {l : List UInt32} {i n : Nat} (h : i < n) : (l.take n).getD i 0 = l.getD i 0 := by
  simp only [List.getD_eq_getElem?_getD, List.getElem?_take, if_pos h]
theorem take_set_le {l : List UInt32} {i n : Nat} {x : UInt32} (h : i ≤ n) : (l.set n x).take i = l.take i := by
  apply List.ext_getElem?
  intro k
  simp only [List.getElem?_take, List.getElem?_set]
  by_cases hk : k < i
  · rw [if_pos hk, if_pos hk, if_neg (by omega)]
  · rw [if_neg hk, if_neg hk]
theorem wB_zero (b : List UInt8) : ∀ n i, n ≤ 4 * i → (wB b n).getD i 0 = 0
  | 0, i, _ => by
    rw [wB, List.getD_eq_getElem?_getD, List.getElem?_replicate]
    split <;> rfl
  | n + 1, i, h => by rw [wB, getD_set_ne (by omega)]; exact wB_zero b n i (by omega)
theorem wB_take (b : List UInt8) (i : Nat) : ∀ j, j ≤ 4 → (wB b (4 * i + j)).take i = (wB b (4 * i)).take i
  | 0, _ => rfl
  | j + 1, h => by rw [← Nat.add_assoc, wB, take_set_le (by omega)]; exact wB_take b i j (by omega)
theorem iw_done {b : List UInt8} {w : List UInt32} {i : Int} {x : UInt32} {j : Int} (h : iw b w i) (hi : i < 16) (hx : ix b i x j) (hj : ¬ j < 4) : iw b (w ++ [x]) (IntKind.wrap .i64 (i + 1)) := by
  obtain ⟨h0, h1, rfl⟩ := h
  obtain ⟨k0, k1, rfl⟩ := hx
  rw [wr (by omega)]
  refine ⟨by omega, by omega, ?_⟩
  have ej : j = 4 := by omega
  subst ej
  rw [show (i + 1).toNat = i.toNat + 1 by omega, take_succ_getD (by rw [wB_len]; omega), show 4 * (i.toNat + 1) = 4 * i.toNat + 4 by omega, wB_take b _ 4 (by omega)]
  rfl
theorem ix_step {b : List UInt8} {i : Int} {x : UInt32} {j : Int} (h0 : 0 ≤ i) (hi : i < 16) (hx : ix b i x j) (hj : j < 4) :
    ix b i (x * UInt32.ofNat (Int.toNat 256) + UInt8.toUInt32 (List.getD b (Int.toNat (IntKind.wrap IntKind.i64 (IntKind.wrap IntKind.i64 (4 * i) + j))) 0)) (IntKind.wrap IntKind.i64 (j + 1)) := by
  obtain ⟨k0, k1, rfl⟩ := hx
  rw [wr (x := 4 * i) (by omega), wr (x := 4 * i + j) (by omega), wr (x := j + 1) (by omega)]
  refine ⟨by omega, by omega, ?_⟩
  rw [show (j + 1).toNat = j.toNat + 1 by omega, ← Nat.add_assoc, wB]
  rw [show (4 * i.toNat + j.toNat) / 4 = i.toNat by omega, getD_set_eq (by rw [wB_len]; omega), shl8or, show (4 * i + j).toNat = 4 * i.toNat + j.toNat by omega]
  rfl
theorem ix_start {b : List UInt8} {i : Int} : ix b i (UInt32.ofNat (Int.toNat 0)) 0 := by
  refine ⟨by omega, by omega, ?_⟩
  rw [wB_zero b _ _ (by simp)]; rfl
theorem it_start {b : List UInt8} {w : List UInt32} {i : Int} (h : iw b w i) (hi : ¬ i < 16) : it b w 16 := by
  obtain ⟨h0, h1, rfl⟩ := h
  refine ⟨by omega, by omega, ?_⟩
  rw [show i.toNat = 16 by omega]; rfl
theorem wX_take (b : List UInt8) (n : Nat) (h : n < 48) : (wX b (n + 1)).take (n + 17) = (wX b n).take (n + 16) ++ [(wX b n).getD n 0 + sig0 ((wX b n).getD (n + 1) 0) + (wX b n).getD (n + 9) 0 + sig1 ((wX b n).getD (n + 14) 0)] := by
  rw [wX, take_succ_getD (by rw [List.length_set, wX_len]; omega), take_set_le (by omega), getD_set_eq (by rw [wX_len]; omega)]
theorem it_step {b : List UInt8} {w : List UInt32} {t : Int} (h : it b w t) (ht : t < 64) : it b (w ++ [(turnF (List.getD w (0 + Int.toNat (IntKind.wrap IntKind.i64 (t - 2))) 0) 17 ^^^ turnF (List.getD w (0 + Int.toNat (IntKind.wrap IntKind.i64 (t - 2))) 0) 19 ^^^ shr32 (List.getD w (0 + Int.toNat (IntKind.wrap IntKind.i64 (t - 2))) 0) (UInt64.toNat (UInt64.ofNat (Int.toNat 10)))) +
            List.getD w (0 + Int.toNat (IntKind.wrap IntKind.i64 (t - 7))) 0 +
          (turnF (List.getD w (0 + Int.toNat (IntKind.wrap IntKind.i64 (t - 15))) 0) 7 ^^^ turnF (List.getD w (0 + Int.toNat (IntKind.wrap IntKind.i64 (t - 15))) 0) 18 ^^^ shr32 (List.getD w (0 + Int.toNat (IntKind.wrap IntKind.i64 (t - 15))) 0) (UInt64.toNat (UInt64.ofNat (Int.toNat 3)))) +
        List.getD w (0 + Int.toNat (IntKind.wrap IntKind.i64 (t - 16))) 0]) (IntKind.wrap IntKind.i64 (t + 1)) := by
  obtain ⟨h0, h1, rfl⟩ := h
  rw [wr (x := t - 2) (by omega), wr (x := t - 7) (by omega), wr (x := t - 15) (by omega), wr (x := t - 16) (by omega), wr (x := t + 1) (by omega)]
  obtain ⟨n, rfl⟩ : ∃ n : Nat, t = ((n + 16 : Nat) : Int) := ⟨(t - 16).toNat, by omega⟩
  refine ⟨by omega, by omega, ?_⟩
  rw [show (((n + 16 : Nat) : Int) + 1).toNat = n + 17 by omega, show (((n + 16 : Nat) : Int)).toNat = n + 16 by omega, show n + 17 - 16 = n + 1 by omega, show n + 16 - 16 = n by omega]
  rw [show 0 + (((n + 16 : Nat) : Int) - 2).toNat = n + 14 by omega, show 0 + (((n + 16 : Nat) : Int) - 7).toNat = n + 9 by omega, show 0 + (((n + 16 : Nat) : Int) - 15).toNat = n + 1 by omega, show 0 + (((n + 16 : Nat) : Int) - 16).toNat = n by omega]
  rw [getD_take (by omega), getD_take (by omega), getD_take (by omega), getD_take (by omega), wX_take b n (by omega)]
  congr 2
  have e0 : ∀ a : UInt32, turnF a 7 ^^^ turnF a 18 ^^^ shr32 a (UInt64.toNat (UInt64.ofNat (Int.toNat 3))) = sig0 a := fun a => rfl
  have e1 : ∀ a : UInt32, turnF a 17 ^^^ turnF a 19 ^^^ shr32 a (UInt64.toNat (UInt64.ofNat (Int.toNat 10))) = sig1 a := fun a => rfl
  rw [e0, e1]
  ac_rfl
theorem ir_start {b : List UInt8} {w : List UInt32} {t : Int} (s : St8) (h : it b w t) (ht : ¬ t < 64) : ir (wX b 48) s w s 0 := by
  obtain ⟨h0, h1, rfl⟩ := h
  have : t.toNat = 64 := by omega
  refine ⟨?_, by omega, by omega, rfl⟩
  rw [this]
  exact List.take_of_length_le (by rw [wX_len]; omega)
theorem ir_step {w0 w : List UInt32} {s v : St8} {t : Int} (h : ir w0 s w v t) (ht : t < 64) : ir w0 s w (round v (kTab.getD t.toNat 0) (w.getD (0 + t.toNat) 0)) (IntKind.wrap .i64 (t + 1)) := by
  obtain ⟨rfl, h0, h1, rfl⟩ := h
  rw [wr (by omega)]
  refine ⟨rfl, by omega, by omega, ?_⟩
  rw [show (t + 1).toNat = t.toNat + 1 by omega, rounds, Nat.zero_add]
  rfl
instance (n : Int) : Decidable (nOK n) := by unfold nOK; infer_instance
noncomputable def sBlk : SpecF := fspec (α := L8 × List UInt8 × Unit) (fun a => some (a.2.1.length = 64)) (fun a => L8.mk (mixV a.1.v a.2.1))
theorem cut_whole {b : List UInt8} (h : b.length = 64) : b.take 64 = b := List.take_of_length_le (by omega)
theorem ok_Blk : SpecOK Tryd.prog 1000002 Sym.sNo := Sym.sNo_ok _ _
end Go.Proofs.YtficbeeoafiiaaaDoor.H5
/- The reference of layer 5: the sum: what the body comes to. -/
set_option maxRecDepth 10000
namespace Go.Proofs.YtficbeeoafiiaaaDoor.H5
open Go.Sym Go.Dig R1
noncomputable def spS5 : Specs := [(1000002, Sym.sNo), (1000000, Sym.sNo), (37, sToBig), (70, sInt), (46, sWords)]
def mR (b : List UInt8) : List UInt8 := padZ b (zn b.length) ++ (bytesN (8 * b.length) 8).reverse
def iH (m0 : List UInt8) (m : List UInt8) (h : St8) (i : Int) : Prop := ∃ k : Nat, m = m0 ∧ i = 64 * (k : Int) ∧ 64 * k ≤ m0.length ∧ h = absN beg m0 k
--STOP iZ, iH, iO, outN, St8.l, mixV, absN, beg, bytesN, nv, Dg, wv, padZ, zn, mR
def lRSum (b : List UInt8) : Plan := { loops := [
  (0, { β := List UInt8 × Unit, α := OwnB × Unit, same := [0], keep := [3], inv := fun _ _ x => iZ b x.1.l, meas := fun _ x => zn b.length + b.length + 1 - x.1.l.length }),
  (2, { β := List UInt8 × Unit, α := OwnB × O8 × Int × Unit, same := [0], keep := [3, 4, 5], inv := fun _ _ x => iH (mR b) x.1.l x.2.1.v x.2.2.1, meas := fun _ x => ((x.1.l.length : Int) - x.2.2.1).toNat }),
  (4, { β := Unit, α := O8 × OwnB × Int × Unit, same := [], keep := [4, 6, 7], inv := fun _ a x => x.1.v = a.1.v ∧ iO a.1.v x.2.1.l x.2.2.1, meas := fun _ x => (8 - x.2.2.1).toNat })] }
end Go.Proofs.YtficbeeoafiiaaaDoor.H5
/- Layer 5: the program's sum and the reference's are one. -/
set_option maxRecDepth 10000
namespace Go.Proofs.YtficbeeoafiiaaaDoor.H5
open Go.Sym Go.Dig R1
noncomputable def digV0 (b : List UInt8) : List UInt8 := sum0 (absT beg b) (absR b) (UInt64.ofInt (b.length : Int))
theorem dig_ex : ∃ f : List UInt8 → List UInt8, f = digV0 := ⟨_, rfl⟩
noncomputable def digV : List UInt8 → List UInt8 := Classical.choose dig_ex
theorem digV_eq : digV = digV0 := Classical.choose_spec dig_ex
noncomputable def sDSum : SpecF := fspec (α := List UInt8 × Unit) (fun a => some (a.1.length ≤ 1073741824)) (fun a => digV a.1)
theorem absR_len (r : List UInt8) : (absR r).length < 64 := by rw [absR, List.length_drop]; omega
theorem ok_DSumF : SpecOK Tryd.prog 1000001 Sym.sNo := Sym.sNo_ok _ _
theorem be4_eq (x : UInt32) : (bytesN (nv (dg (wv [x.toUInt64]))) 4).reverse = be4 x 4 := by
  have h1 : wv [x.toUInt64] = x.toNat := by simp [wv]
  have hx := x.toNat_lt
  rw [nv_dg, h1]
  have e : ∀ k d : Nat, d = 2 ^ k → UInt8.ofNat (x.toNat / d) = (shr32 x k).toUInt8 := by
    intro k d hd
    apply UInt8.toNat_inj.1
    subst hd
    have : x.toNat / 2 ^ k ≤ x.toNat := Nat.div_le_self _ _
    rw [shr32, UInt32.toNat_toUInt8, UInt32.toNat_ofNat', UInt8.toNat_ofNat']
    omega
  show [UInt8.ofNat (x.toNat / 256 ^ 3), UInt8.ofNat (x.toNat / 256 ^ 2), UInt8.ofNat (x.toNat / 256 ^ 1), UInt8.ofNat (x.toNat / 256 ^ 0)] = _
  rw [e 24 _ (by decide), e 16 _ (by decide), e 8 _ (by decide), e 0 _ (by decide)]
  rfl
theorem be8_eq (x : UInt64) : (bytesN x.toNat 8).reverse = be8 x 8 := by
  have hx := x.toNat_lt
  have e : ∀ k d : Nat, d = 2 ^ k → UInt8.ofNat (x.toNat / d) = (shr64 x k).toUInt8 := by
    intro k d hd
    apply UInt8.toNat_inj.1
    subst hd
    have : x.toNat / 2 ^ k ≤ x.toNat := Nat.div_le_self _ _
    rw [shr64, UInt64.toNat_toUInt8, UInt64.toNat_ofNat', UInt8.toNat_ofNat']
    omega
  show [UInt8.ofNat (x.toNat / 256 ^ 7), UInt8.ofNat (x.toNat / 256 ^ 6), UInt8.ofNat (x.toNat / 256 ^ 5), UInt8.ofNat (x.toNat / 256 ^ 4), UInt8.ofNat (x.toNat / 256 ^ 3), UInt8.ofNat (x.toNat / 256 ^ 2), UInt8.ofNat (x.toNat / 256 ^ 1), UInt8.ofNat (x.toNat / 256 ^ 0)] = _
  rw [e 56 _ (by decide), e 48 _ (by decide), e 40 _ (by decide), e 32 _ (by decide), e 24 _ (by decide), e 16 _ (by decide), e 8 _ (by decide), e 0 _ (by decide)]
  rfl
theorem len8 (n : Nat) (h : n ≤ 1073741824) : (UInt64.ofInt (n : Int) * 8).toNat = 8 * n := by
  rw [UInt64.toNat_mul, ofInt64]
  have : (8 : UInt64).toNat = 8 := rfl
  rw [this]; omega
theorem absN_congr (s : St8) (m b : List UInt8) : ∀ i, (∀ j, j < i → cut m (64 * j) = cut b (64 * j)) → absN s m i = absN s b i
  | 0, _ => rfl
  | i + 1, h => by rw [absN, absN, absN_congr s m b i (fun j hj => h j (by omega)), h i (by omega)]
theorem absN_add (s : St8) (m : List UInt8) (q : Nat) : ∀ i, absN s m (q + i) = absN (absN s m q) (m.drop (64 * q)) i
  | 0 => rfl
  | i + 1 => by
    rw [← Nat.add_assoc, absN, absN, absN_add s m q i]
    congr 1
    simp only [cut, List.drop_drop]
    congr 2; omega
theorem cut_append {b r : List UInt8} {j : Nat} (h : 64 * j + 64 ≤ b.length) : cut (b ++ r) (64 * j) = cut b (64 * j) := by
  simp only [cut]
  rw [List.drop_append_of_le_length (by omega), List.take_append_of_le_length (by rw [List.length_drop]; omega)]
theorem mR_drop (b : List UInt8) (h : b.length ≤ 1073741824) : (mR b).drop (64 * (b.length / 64)) = padded (absR b) (UInt64.ofInt (b.length : Int)) := by
  have ez : zn (absR b).length = zn b.length := by
    rw [absR, List.length_drop]
    have : (b.length - 64 * (b.length / 64)) % 64 = b.length % 64 := by omega
    simp only [zn, this]
  unfold mR padded padZ
  rw [ez, ← be8_eq, len8 _ h, List.append_assoc, List.append_assoc, List.append_assoc, List.append_assoc, List.drop_append_of_le_length (by omega)]
  rfl
theorem mR_len (b : List UInt8) : (mR b).length = b.length + 9 + zn b.length := by
  rw [mR, List.length_append, padZ_len, List.length_reverse, bytesN_len]; omega
theorem ref_eq (b : List UInt8) (h : b.length ≤ 1073741824) : outN (absN beg (mR b) ((mR b).length / 64)) 8 = digV0 b := by
  unfold digV0 sum0
  have e : (mR b).length / 64 = b.length / 64 + (padded (absR b) (UInt64.ofInt (b.length : Int))).length / 64 := by
    rw [← mR_drop b h, List.length_drop, mR_len]; omega
  rw [e, absN_add, mR_drop b h]
  congr 2
  unfold absT mR padZ
  rw [List.append_assoc, List.append_assoc]
  exact absN_congr _ _ _ _ fun j hj => cut_append (by omega)
theorem spS5_ok : SpecsOK Tryd.prog spS5 := .cons ok_Blk <| .cons ok_BegR <| .cons ok_ToBig <| .cons ok_Int <| .cons ok_Words (.nil _)
noncomputable def sRSum : SpecF := sDSum
theorem ok_RSum : SpecOK Tryd.prog 1000000 Sym.sNo := Sym.sNo_ok _ _
end Go.Proofs.YtficbeeoafiiaaaDoor.H5
/- Layer 5: the example. -/
set_option maxRecDepth 100000
namespace Go.Proofs.YtficbeeoafiiaaaDoor.H5
open Go.Sym Go.Dig R1
def blkA : List UInt8 := [97, 98, 99, 128, 0, 0, 0, 0, 0, 0, 0, 0, 0, 0, 0, 0, 0, 0, 0, 0, 0, 0, 0, 0, 0, 0, 0, 0, 0, 0, 0, 0, 0, 0, 0, 0, 0, 0, 0, 0, 0, 0, 0, 0, 0, 0, 0, 0, 0, 0, 0, 0, 0, 0, 0, 0, 0, 0, 0, 0, 0, 0, 0, 24]
deriving instance DecidableEq for St8
theorem mixA : mix0 beg blkA = ⟨3128432319, 2399260650, 1094795486, 1571693091, 2953011619, 2518121116, 3021012833, 4060091821⟩ := by decide +kernel
theorem abc : digV [97, 98, 99] = [186, 120, 22, 191, 143, 1, 207, 234, 65, 65, 64, 222, 93, 174, 34, 35, 176, 3, 97, 163, 150, 23, 122, 156, 180, 16, 255, 97, 242, 0, 21, 173] := by
  rw [digV_eq]
  have e : sum0 (absT beg [97, 98, 99]) (absR [97, 98, 99]) (UInt64.ofInt 3) = outN (mixV beg blkA) 8 := by
    unfold sum0
    rw [show padded (absR [97, 98, 99]) (UInt64.ofInt 3) = blkA by decide +kernel]
    rfl
  show sum0 (absT beg [97, 98, 99]) (absR [97, 98, 99]) (UInt64.ofInt 3) = _
  rw [e, mixV_eq, mixA]
  decide +kernel
end Go.Proofs.YtficbeeoafiiaaaDoor.H5
/- Layer 5's laws: what the bodies come to. -/
set_option maxRecDepth 10000
namespace Go.Proofs.YtficbeeoafiiaaaDoor.H5
open Go.Sym Go.Dig R1
noncomputable def spA5 : Specs := [(1000003, Sym.sNo)]
--STOP digV
def sAwake5 : SpecF := fspec (α := Unit) total (fun _ => true)
noncomputable def spL5 : Specs := [(1000003, Sym.sNo), (1000002, Sym.sNo), (7, sSame), (1000001, Sym.sNo)]
end Go.Proofs.YtficbeeoafiiaaaDoor.H5
/- Layer 5's laws hold. -/
set_option maxRecDepth 10000
namespace Go.Proofs.YtficbeeoafiiaaaDoor.H5
open Go.Sym Go.Dig R1
theorem outN_len (s : St8) : ∀ n, (outN s n).length = 4 * n
  | 0 => rfl
  | n + 1 => by rw [outN, List.length_append, outN_len s n, be4_len]; omega
theorem digV_len (b : List UInt8) : (digV b).length = 32 := by
  rw [digV_eq]
  exact outN_len _ 8
theorem spA5_ok : SpecsOK Tryd.prog spA5 := .cons ok_DSumF (.nil _)
theorem ok_Awake5 : SpecOK Tryd.prog 1000001 Sym.sNo := Sym.sNo_ok _ _
theorem spL5_ok : SpecsOK Tryd.prog spL5 := .cons ok_DSumF <| .cons ok_RSum <| .cons ok_Same <| .cons ok_Awake5 (.nil _)
abbrev sSums5 : SpecF := fspec (α := List UInt8 × Unit) total fun _ => true
theorem ok_Sums5 : SpecOK Tryd.prog 1000000 Sym.sNo := Sym.sNo_ok _ _
end Go.Proofs.YtficbeeoafiiaaaDoor.H5
/- Layer 5's law of pieces: what the body comes to. -/
set_option maxRecDepth 10000
namespace Go.Proofs.YtficbeeoafiiaaaDoor.H5
open Go.Sym Go.Dig R1
instance : Enc (List (List UInt8)) where
  enc l := .lol l
  dec | .lol l => some l
      | _ => none
  ok := by
    intro s a h at_ w v r
    split at h
    · simp only [Option.some.injEq] at h; subst h; exact r
    · cases h
  nn _ := rfl
/-- A hash at a loop's head; where it has no list, it has one of no bytes. -/
structure PHn where
  v : HashV
instance : LEnc PHn where
  kind := none
  ins := [(8, .u8)]
  enc nx a := (.ptr nx 0, [a.v.cells (nx + 1), [.own (.bytes a.v.l)]])
  dec nx s M := match s, M with
    | .ptr b 0, some cs :: some [.own (.bytes l)] :: M' => if b = nx then (match dHashC l cs with | some (r, k) => if k = nx + 1 then some (none, ⟨r⟩, M') else none | none => none) else none
    | _, _ => none
  all P := ∀ v, P ⟨v⟩
  all_ok h a := h a.v
  ok := by
    intro nx s M p a M' h hp
    split at h
    · split at h
      · rename_i hb
        split at h
        · rename_i r k hd
          split at h
          · rename_i hk
            simp only [Option.some.injEq, Prod.mk.injEq] at h
            obtain ⟨_, rfl, rfl⟩ := h
            subst hb; subst hk
            obtain ⟨e1, e2⟩ := dHashC_ok hd
            subst e2
            exact ⟨by rw [e1]; rfl, fun r => r⟩
          · cases h
        · cases h
      · cases h
    · cases h
noncomputable def hv (t : List UInt8) : HashV := ⟨absT beg t, absR t, 0, (absR t).length, UInt64.ofInt (t.length : Int)⟩
def iP (l : List (List UInt8)) (v g : HashV) (all : List UInt8) (i : Int) : Prop := 0 ≤ i ∧ i ≤ l.length ∧ all = (l.take i.toNat).flatten ∧ v = hv all ∧ g = hv [] ∧ (all.length : Int) ≤ 1000 * i
noncomputable def spP5 : Specs := [(96, .fresh sNewH), (97, .memf sWriteO), (98, .fresh sHSumO), (1000000, Sym.sNo), (1000002, Sym.sNo), (7, sSame), (1000001, Sym.sNo)]
def lPie (l : List (List UInt8)) (n : Int) : Plan := { loops := [(0, { β := List UInt8 × List (List UInt8) × Int × Unit, α := PHn × PHn × OwnB × Int × Unit, same := [1, 23, 24], keep := [5, 6, 7, 25], inv := fun _ _ x => iP l x.1.v x.2.1.v x.2.2.1.l x.2.2.2.1, meas := fun _ x => (n - x.2.2.2.1).toNat })] }
end Go.Proofs.YtficbeeoafiiaaaDoor.H5
/- Layer 5's law of pieces: what the body comes to. -/
set_option maxRecDepth 10000
namespace Go.Proofs.YtficbeeoafiiaaaDoor.H5
open Go.Sym Go.Dig R1
--STOP digV, iP, hv, rOf, nOf, absT, absR, sumV, sumO, beg, List.flatten
end Go.Proofs.YtficbeeoafiiaaaDoor.H5
/- Layer 5's law of pieces holds. -/
set_option maxRecDepth 10000
namespace Go.Proofs.YtficbeeoafiiaaaDoor.H5
open Go.Sym Go.Dig R1
theorem fz (l : List UInt8) : List.drop 0 (List.take (0 + l.length) l) = l := by rw [Nat.zero_add, List.take_length]; rfl
theorem tz (l : List UInt8) : List.take l.length (List.drop 0 l) = l := by rw [List.drop_zero, List.take_length]
theorem abs_add (t p : List UInt8) : absT (absT beg t) (absR t ++ p) = absT beg (t ++ p) ∧ absR (absR t ++ p) = absR (t ++ p) := by
  have e0 : (t ++ p).drop (64 * (t.length / 64)) = absR t ++ p := by
    rw [List.drop_append_of_le_length (by omega)]; rfl
  have e1 : (t ++ p).length / 64 = t.length / 64 + (absR t ++ p).length / 64 := by
    rw [← e0, List.length_drop, List.length_append]; omega
  constructor
  · unfold absT
    rw [e1, absN_add, e0]
    congr 1
    exact (absN_congr _ _ _ _ fun j hj => cut_append (by omega)).symm
  · show (absR t ++ p).drop _ = (t ++ p).drop _
    rw [e1, ← e0, List.drop_drop]
    congr 1; omega
theorem hs (t p : List UInt8) : absT (hv t).s (rOf (hv t) p) = absT beg (t ++ p) := (abs_add t p).1
theorem hs' (t p : List UInt8) : absT (absT beg t) (rOf (hv t) p) = absT beg (t ++ p) := (abs_add t p).1
theorem hr (t p : List UInt8) : absR (rOf (hv t) p) = absR (t ++ p) := (abs_add t p).2
theorem hn (t p : List UInt8) : nOf (hv t) p = UInt64.ofInt ((t ++ p).length : Int) := by
  show UInt64.ofInt (t.length : Int) + UInt64.ofInt (p.length : Int) = _
  apply UInt64.toNat_inj.1
  rw [UInt64.toNat_add, ofInt64, ofInt64, ofInt64, List.length_append]
  omega
theorem hk (t : List UInt8) : HashV.mk (absT beg t) (absR t) 0 (absR t).length (UInt64.ofInt (t.length : Int)) = hv t := rfl
theorem hd (t : List UInt8) : sumO (OH.some (RoH.mk (absT beg t) (absR t) (UInt64.ofInt (t.length : Int)))) = digV t := by
  rw [digV_eq]
  unfold sumO digV0
  rw [sumV_eq]
theorem rl (t p : List UInt8) : (rOf (hv t) p).length = (absR t).length + p.length := by
  show ((absR t).drop 0 ++ p).length = _
  rw [List.length_append]; rfl
theorem hv0 : HashV.mk beg [] 0 0 0 = hv [] := by
  show _ = HashV.mk (absT beg []) (absR []) 0 (absR []).length (UInt64.ofInt (([] : List UInt8).length : Int))
  rfl
theorem spP5_ok : SpecsOK Tryd.prog spP5 := .consF ok_NewH <| .consN ok_WriteO <| .consF ok_HSumO <| .cons ok_Len <| .cons ok_DSumF <| .cons ok_Same <| .cons ok_Awake5 (.nil _)
theorem take_flat {l : List (List UInt8)} {i : Nat} (h : i < l.length) : (l.take (i + 1)).flatten = (l.take i).flatten ++ l.getD i [] := by
  rw [List.take_add_one, List.flatten_append, List.getD_eq_getElem?_getD, List.getElem?_eq_getElem h]
  simp
abbrev sPie : SpecF := fspec (α := List (List UInt8) × List UInt8 × Unit) total fun _ => true
theorem ok_Pie : SpecOK Tryd.prog 1000000 Sym.sNo := Sym.sNo_ok _ _
end Go.Proofs.YtficbeeoafiiaaaDoor.H5
