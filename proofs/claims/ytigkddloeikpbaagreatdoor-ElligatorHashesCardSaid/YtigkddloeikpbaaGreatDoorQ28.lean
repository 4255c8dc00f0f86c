/- A symbolic machine for Go functions, and what the functions that the law reaches come to: BdJ. -/
import Derived.Test.YtigkddloeikpbaaGreatDoorQ27
/- The reference of layer 6: a block. -/
set_option maxRecDepth 10000
namespace Go.Proofs.YtigkddloeikpbaaGreatDoor.H6
open Go.Sym Go.Dig R1
--STOP iw, ix, it, ir, wB, wX, rounds, turnF, kTab, nOK
def lBlk (s : St8) (b : List UInt8) : Plan := { loops := [
  (0, { β := L8 × List UInt8 × List UInt64 × Unit, α := OwnW × Int × Unit, same := [0, 1, 5], keep := [6, 7], inv := fun _ _ x => iw b x.1.l x.2.1, meas := fun _ x => (16 - x.2.1).toNat }),
  (2, { β := L8 × List UInt8 × List UInt64 × Unit, α := OwnW × Int × UInt64 × Int × Unit, same := [0, 1, 5], keep := [6, 7, 8, 9], inv := fun _ a x => x.1 = a.1 ∧ x.2.1 = a.2.1 ∧ ix b a.2.1 x.2.2.1 x.2.2.2.1, meas := fun _ x => (8 - x.2.2.2.1).toNat }),
  (4, { β := L8 × List UInt8 × List UInt64 × Unit, α := OwnW × Int × Unit, same := [0, 1, 5], keep := [6, 10], inv := fun _ _ x => it b x.1.l x.2.1, meas := fun _ x => (80 - x.2.1).toNat }),
  (6, { β := L8 × List UInt8 × List UInt64 × Unit, α := OwnW × O8 × Int × Unit, same := [0, 1, 5], keep := [6, 13, 14], inv := fun _ _ x => ir (wX b 64) s x.1.l x.2.1.v x.2.2.1, meas := fun _ x => (80 - x.2.2.1).toNat })] }
theorem vcBlk (s : St8) (b : List UInt8) (Q : SV → Prop) : LfRaw tt spR5 9 [] (lBlk s b) Tryz.f95 Q (L8.mk s, b, ()) =
 ((((0 : Nat) = (0 : Nat)) ∧
 ((0 : Nat) = (0 : Nat))) ∧
 ((iw b [] (0 : Int)) ∧
 (∀ l : List UInt64,
 (∀ a : Int,
 ((iw b l a) →
 bcase (decide (a < (16 : Int)))
 (((((0 : Nat) = (0 : Nat)) ∧
 (List.length l = List.length l)) ∧
 (((OwnW.mk l = OwnW.mk l) ∧
 ((a = a) ∧
 (ix b a (UInt64.ofNat (Int.toNat (0 : Int))) (0 : Int)))) ∧
 (∀ l_1 : List UInt64,
 (∀ a_1 : Int,
 (∀ a_2 : UInt64,
 (∀ a_3 : Int,
 (((OwnW.mk l_1 = OwnW.mk l) ∧
 ((a_1 = a) ∧
 (ix b a a_2 a_3))) →
 bcase (decide (a_3 < (8 : Int)))
 (((((0 : Int) ≤ IntKind.wrap IntKind.i64 (IntKind.wrap IntKind.i64 ((8 : Int) * a_1) + a_3)) ∧
 (IntKind.wrap IntKind.i64 (IntKind.wrap IntKind.i64 ((8 : Int) * a_1) + a_3) < (↑(List.length b) : Int))) ∧
 ((((0 : Nat) = (0 : Nat)) ∧
 (List.length l_1 = List.length l_1)) ∧
 (((L8.mk s, b, kTab, ()) = (L8.mk s, b, kTab, ())) ∧
 (((OwnW.mk l_1 = OwnW.mk l) ∧
 ((a_1 = a) ∧
 (ix b a
 (a_2 * UInt64.ofNat (Int.toNat (256 : Int)) +
 UInt8.toUInt64
 (List.getD b (Int.toNat (IntKind.wrap IntKind.i64 (IntKind.wrap IntKind.i64 ((8 : Int) * a_1) + a_3)))
 (0 : UInt8)))
 (IntKind.wrap IntKind.i64 (a_3 + (1 : Int)))))) ∧
 (Int.toNat ((8 : Int) - IntKind.wrap IntKind.i64 (a_3 + (1 : Int))) < Int.toNat ((8 : Int) - a_3)))))))
 (((((0 : Nat) + List.length l_1 = List.length l_1) ∧
 (List.length (List.drop (0 : Nat) (List.take (List.length l_1) l_1) ++ [a_2]) ≤ appLim)) ∧
 ((((0 : Nat) = (0 : Nat)) ∧
 (List.length (List.drop (0 : Nat) (List.take (List.length l_1) l_1) ++ [a_2]) =
 List.length (List.drop (0 : Nat) (List.take (List.length l_1) l_1) ++ [a_2]))) ∧
 (((L8.mk s, b, kTab, ()) = (L8.mk s, b, kTab, ())) ∧
 ((iw b (List.drop (0 : Nat) (List.take (List.length l_1) l_1) ++ [a_2]) (IntKind.wrap IntKind.i64 (a_1 + (1 : Int)))) ∧
 (Int.toNat ((16 : Int) - IntKind.wrap IntKind.i64 (a_1 + (1 : Int))) < Int.toNat ((16 : Int) - a)))))))))))))))
 (((((0 : Nat) = (0 : Nat)) ∧
 (List.length l = List.length l)) ∧
 ((it b l (16 : Int)) ∧
 (∀ l_1 : List UInt64,
 (∀ a_1 : Int,
 ((it b l_1 a_1) →
 bcase (decide (a_1 < (80 : Int)))
 (((((0 : Int) ≤ IntKind.wrap IntKind.i64 (a_1 - (15 : Int))) ∧
 (IntKind.wrap IntKind.i64 (a_1 - (15 : Int)) < (↑(List.length l_1) : Int))) ∧
 ((nOK (1 : Int)) ∧
 ((((0 : Int) ≤ IntKind.wrap IntKind.i64 (a_1 - (15 : Int))) ∧
 (IntKind.wrap IntKind.i64 (a_1 - (15 : Int)) < (↑(List.length l_1) : Int))) ∧
 ((nOK (8 : Int)) ∧
 ((((0 : Int) ≤ IntKind.wrap IntKind.i64 (a_1 - (15 : Int))) ∧
 (IntKind.wrap IntKind.i64 (a_1 - (15 : Int)) < (↑(List.length l_1) : Int))) ∧
 ((((0 : Int) ≤ IntKind.wrap IntKind.i64 (a_1 - (2 : Int))) ∧
 (IntKind.wrap IntKind.i64 (a_1 - (2 : Int)) < (↑(List.length l_1) : Int))) ∧
 ((nOK (19 : Int)) ∧
 ((((0 : Int) ≤ IntKind.wrap IntKind.i64 (a_1 - (2 : Int))) ∧
 (IntKind.wrap IntKind.i64 (a_1 - (2 : Int)) < (↑(List.length l_1) : Int))) ∧
 ((nOK (61 : Int)) ∧
 ((((0 : Int) ≤ IntKind.wrap IntKind.i64 (a_1 - (2 : Int))) ∧
 (IntKind.wrap IntKind.i64 (a_1 - (2 : Int)) < (↑(List.length l_1) : Int))) ∧
 ((((0 : Int) ≤ IntKind.wrap IntKind.i64 (a_1 - (7 : Int))) ∧
 (IntKind.wrap IntKind.i64 (a_1 - (7 : Int)) < (↑(List.length l_1) : Int))) ∧
 ((((0 : Int) ≤ IntKind.wrap IntKind.i64 (a_1 - (16 : Int))) ∧
 (IntKind.wrap IntKind.i64 (a_1 - (16 : Int)) < (↑(List.length l_1) : Int))) ∧
 ((((0 : Nat) + List.length l_1 = List.length l_1) ∧
 (List.length
 (List.drop (0 : Nat) (List.take (List.length l_1) l_1) ++
 [(turnF (List.getD l_1 ((0 : Nat) + Int.toNat (IntKind.wrap IntKind.i64 (a_1 - (2 : Int)))) (0 : UInt64))
 (19 : Int) ^^^
 turnF
 (List.getD l_1 ((0 : Nat) + Int.toNat (IntKind.wrap IntKind.i64 (a_1 - (2 : Int)))) (0 : UInt64))
 (61 : Int) ^^^
 shr64 (List.getD l_1 ((0 : Nat) + Int.toNat (IntKind.wrap IntKind.i64 (a_1 - (2 : Int)))) (0 : UInt64))
 (UInt64.toNat (UInt64.ofNat (Int.toNat (6 : Int))))) +
 List.getD l_1 ((0 : Nat) + Int.toNat (IntKind.wrap IntKind.i64 (a_1 - (7 : Int)))) (0 : UInt64) +
 (turnF (List.getD l_1 ((0 : Nat) + Int.toNat (IntKind.wrap IntKind.i64 (a_1 - (15 : Int)))) (0 : UInt64))
 (1 : Int) ^^^
 turnF (List.getD l_1 ((0 : Nat) + Int.toNat (IntKind.wrap IntKind.i64 (a_1 - (15 : Int)))) (0 : UInt64))
 (8 : Int) ^^^
 shr64 (List.getD l_1 ((0 : Nat) + Int.toNat (IntKind.wrap IntKind.i64 (a_1 - (15 : Int)))) (0 : UInt64))
 (UInt64.toNat (UInt64.ofNat (Int.toNat (7 : Int))))) +
 List.getD l_1 ((0 : Nat) + Int.toNat (IntKind.wrap IntKind.i64 (a_1 - (16 : Int)))) (0 : UInt64)]) ≤
 appLim)) ∧
 ((((0 : Nat) = (0 : Nat)) ∧
 (List.length
 (List.drop (0 : Nat) (List.take (List.length l_1) l_1) ++
 [(turnF (List.getD l_1 ((0 : Nat) + Int.toNat (IntKind.wrap IntKind.i64 (a_1 - (2 : Int)))) (0 : UInt64))
 (19 : Int) ^^^
 turnF
 (List.getD l_1 ((0 : Nat) + Int.toNat (IntKind.wrap IntKind.i64 (a_1 - (2 : Int)))) (0 : UInt64))
 (61 : Int) ^^^
 shr64 (List.getD l_1 ((0 : Nat) + Int.toNat (IntKind.wrap IntKind.i64 (a_1 - (2 : Int)))) (0 : UInt64))
 (UInt64.toNat (UInt64.ofNat (Int.toNat (6 : Int))))) +
 List.getD l_1 ((0 : Nat) + Int.toNat (IntKind.wrap IntKind.i64 (a_1 - (7 : Int)))) (0 : UInt64) +
 (turnF (List.getD l_1 ((0 : Nat) + Int.toNat (IntKind.wrap IntKind.i64 (a_1 - (15 : Int)))) (0 : UInt64))
 (1 : Int) ^^^
 turnF (List.getD l_1 ((0 : Nat) + Int.toNat (IntKind.wrap IntKind.i64 (a_1 - (15 : Int)))) (0 : UInt64))
 (8 : Int) ^^^
 shr64 (List.getD l_1 ((0 : Nat) + Int.toNat (IntKind.wrap IntKind.i64 (a_1 - (15 : Int)))) (0 : UInt64))
 (UInt64.toNat (UInt64.ofNat (Int.toNat (7 : Int))))) +
 List.getD l_1 ((0 : Nat) + Int.toNat (IntKind.wrap IntKind.i64 (a_1 - (16 : Int)))) (0 : UInt64)]) =
 List.length
 (List.drop (0 : Nat) (List.take (List.length l_1) l_1) ++
 [(turnF (List.getD l_1 ((0 : Nat) + Int.toNat (IntKind.wrap IntKind.i64 (a_1 - (2 : Int)))) (0 : UInt64))
 (19 : Int) ^^^
 turnF
 (List.getD l_1 ((0 : Nat) + Int.toNat (IntKind.wrap IntKind.i64 (a_1 - (2 : Int)))) (0 : UInt64))
 (61 : Int) ^^^
 shr64 (List.getD l_1 ((0 : Nat) + Int.toNat (IntKind.wrap IntKind.i64 (a_1 - (2 : Int)))) (0 : UInt64))
 (UInt64.toNat (UInt64.ofNat (Int.toNat (6 : Int))))) +
 List.getD l_1 ((0 : Nat) + Int.toNat (IntKind.wrap IntKind.i64 (a_1 - (7 : Int)))) (0 : UInt64) +
 (turnF (List.getD l_1 ((0 : Nat) + Int.toNat (IntKind.wrap IntKind.i64 (a_1 - (15 : Int)))) (0 : UInt64))
 (1 : Int) ^^^
 turnF (List.getD l_1 ((0 : Nat) + Int.toNat (IntKind.wrap IntKind.i64 (a_1 - (15 : Int)))) (0 : UInt64))
 (8 : Int) ^^^
 shr64 (List.getD l_1 ((0 : Nat) + Int.toNat (IntKind.wrap IntKind.i64 (a_1 - (15 : Int)))) (0 : UInt64))
 (UInt64.toNat (UInt64.ofNat (Int.toNat (7 : Int))))) +
 List.getD l_1 ((0 : Nat) + Int.toNat (IntKind.wrap IntKind.i64 (a_1 - (16 : Int)))) (0 : UInt64)]))) ∧
 (((L8.mk s, b, kTab, ()) = (L8.mk s, b, kTab, ())) ∧
 ((it b
 (List.drop (0 : Nat) (List.take (List.length l_1) l_1) ++
 [(turnF (List.getD l_1 ((0 : Nat) + Int.toNat (IntKind.wrap IntKind.i64 (a_1 - (2 : Int)))) (0 : UInt64))
 (19 : Int) ^^^
 turnF (List.getD l_1 ((0 : Nat) + Int.toNat (IntKind.wrap IntKind.i64 (a_1 - (2 : Int)))) (0 : UInt64))
 (61 : Int) ^^^
 shr64 (List.getD l_1 ((0 : Nat) + Int.toNat (IntKind.wrap IntKind.i64 (a_1 - (2 : Int)))) (0 : UInt64))
 (UInt64.toNat (UInt64.ofNat (Int.toNat (6 : Int))))) +
 List.getD l_1 ((0 : Nat) + Int.toNat (IntKind.wrap IntKind.i64 (a_1 - (7 : Int)))) (0 : UInt64) +
 (turnF (List.getD l_1 ((0 : Nat) + Int.toNat (IntKind.wrap IntKind.i64 (a_1 - (15 : Int)))) (0 : UInt64))
 (1 : Int) ^^^
 turnF (List.getD l_1 ((0 : Nat) + Int.toNat (IntKind.wrap IntKind.i64 (a_1 - (15 : Int)))) (0 : UInt64))
 (8 : Int) ^^^
 shr64 (List.getD l_1 ((0 : Nat) + Int.toNat (IntKind.wrap IntKind.i64 (a_1 - (15 : Int)))) (0 : UInt64))
 (UInt64.toNat (UInt64.ofNat (Int.toNat (7 : Int))))) +
 List.getD l_1 ((0 : Nat) + Int.toNat (IntKind.wrap IntKind.i64 (a_1 - (16 : Int)))) (0 : UInt64)])
 (IntKind.wrap IntKind.i64 (a_1 + (1 : Int)))) ∧
 (Int.toNat ((80 : Int) - IntKind.wrap IntKind.i64 (a_1 + (1 : Int))) < Int.toNat ((80 : Int) - a_1)))))))))))))))))))
 (((List.length ([] ++ St8.l s) ≤ appLim) ∧
 (((((0 : Nat) = (0 : Nat)) ∧
 (List.length l_1 = List.length l_1)) ∧
 (((0 : Nat) = (0 : Nat)) ∧
 (List.length ([] ++ St8.l s) = List.length ([] ++ St8.l s)))) ∧
 ((ir (wX b (64 : Nat)) s l_1 s (0 : Int)) ∧
 (∀ l_2 : List UInt64,
 (∀ v : St8,
 (∀ a_2 : Int,
 ((ir (wX b (64 : Nat)) s l_2 v a_2) →
 bcase (decide (a_2 < (80 : Int)))
 (((((0 : Int) ≤ (4 : Int)) ∧
 ((4 : Int) < (↑(8 : Nat) : Int))) ∧
 ((nOK (14 : Int)) ∧
 ((((0 : Int) ≤ (4 : Int)) ∧
 ((4 : Int) < (↑(8 : Nat) : Int))) ∧
 ((nOK (18 : Int)) ∧
 ((((0 : Int) ≤ (4 : Int)) ∧
 ((4 : Int) < (↑(8 : Nat) : Int))) ∧
 ((nOK (41 : Int)) ∧
 ((((0 : Int) ≤ (4 : Int)) ∧
 ((4 : Int) < (↑(8 : Nat) : Int))) ∧
 ((((0 : Int) ≤ (5 : Int)) ∧
 ((5 : Int) < (↑(8 : Nat) : Int))) ∧
 ((((0 : Int) ≤ (4 : Int)) ∧
 ((4 : Int) < (↑(8 : Nat) : Int))) ∧
 ((((0 : Int) ≤ (6 : Int)) ∧
 ((6 : Int) < (↑(8 : Nat) : Int))) ∧
 ((((0 : Int) ≤ (7 : Int)) ∧
 ((7 : Int) < (↑(8 : Nat) : Int))) ∧
 ((((0 : Int) ≤ a_2) ∧
 (a_2 < (↑(List.length kTab) : Int))) ∧
 ((((0 : Int) ≤ a_2) ∧
 (a_2 < (↑(List.length l_2) : Int))) ∧
 ((((0 : Int) ≤ (0 : Int)) ∧
 ((0 : Int) < (↑(8 : Nat) : Int))) ∧
 ((nOK (28 : Int)) ∧
 ((((0 : Int) ≤ (0 : Int)) ∧
 ((0 : Int) < (↑(8 : Nat) : Int))) ∧
 ((nOK (34 : Int)) ∧
 ((((0 : Int) ≤ (0 : Int)) ∧
 ((0 : Int) < (↑(8 : Nat) : Int))) ∧
 ((nOK (39 : Int)) ∧
 ((((0 : Int) ≤ (0 : Int)) ∧
 ((0 : Int) < (↑(8 : Nat) : Int))) ∧
 ((((0 : Int) ≤ (1 : Int)) ∧
 ((1 : Int) < (↑(8 : Nat) : Int))) ∧
 ((((0 : Int) ≤ (0 : Int)) ∧
 ((0 : Int) < (↑(8 : Nat) : Int))) ∧
 ((((0 : Int) ≤ (2 : Int)) ∧
 ((2 : Int) < (↑(8 : Nat) : Int))) ∧
 ((((0 : Int) ≤ (1 : Int)) ∧
 ((1 : Int) < (↑(8 : Nat) : Int))) ∧
 ((((0 : Int) ≤ (2 : Int)) ∧
 ((2 : Int) < (↑(8 : Nat) : Int))) ∧
 ((((0 : Int) ≤ (0 : Int)) ∧
 ((0 : Int) < (↑(8 : Nat) : Int))) ∧
 ((((0 : Int) ≤ (1 : Int)) ∧
 ((1 : Int) < (↑(8 : Nat) : Int))) ∧
 ((((0 : Int) ≤ (2 : Int)) ∧
 ((2 : Int) < (↑(8 : Nat) : Int))) ∧
 ((((0 : Int) ≤ (3 : Int)) ∧
 ((3 : Int) < (↑(8 : Nat) : Int))) ∧
 ((((0 : Int) ≤ (4 : Int)) ∧
 ((4 : Int) < (↑(8 : Nat) : Int))) ∧
 ((((0 : Int) ≤ (5 : Int)) ∧
 ((5 : Int) < (↑(8 : Nat) : Int))) ∧
 ((((0 : Int) ≤ (6 : Int)) ∧
 ((6 : Int) < (↑(8 : Nat) : Int))) ∧
 (((((0 : Nat) = (0 : Nat)) ∧
 (List.length l_2 = List.length l_2)) ∧
 (((0 : Nat) = (0 : Nat)) ∧
 ((8 : Nat) = (8 : Nat)))) ∧
 (((L8.mk s, b, kTab, ()) = (L8.mk s, b, kTab, ())) ∧
 ((ir (wX b (64 : Nat)) s l_2
 (St8.mk
 (List.getD (St8.l v) ((0 : Nat) + Int.toNat (7 : Int)) (0 : UInt64) +
 (turnF (List.getD (St8.l v) ((0 : Nat) + Int.toNat (4 : Int)) (0 : UInt64)) (14 : Int) ^^^
 turnF (List.getD (St8.l v) ((0 : Nat) + Int.toNat (4 : Int)) (0 : UInt64)) (18 : Int) ^^^
 turnF (List.getD (St8.l v) ((0 : Nat) + Int.toNat (4 : Int)) (0 : UInt64)) (41 : Int)) +
 (List.getD (St8.l v) ((0 : Nat) + Int.toNat (4 : Int)) (0 : UInt64) &&&
 List.getD (St8.l v) ((0 : Nat) + Int.toNat (5 : Int)) (0 : UInt64) ^^^
 ~~~List.getD (St8.l v) ((0 : Nat) + Int.toNat (4 : Int)) (0 : UInt64) &&&
 List.getD (St8.l v) ((0 : Nat) + Int.toNat (6 : Int)) (0 : UInt64)) +
 List.getD kTab (Int.toNat a_2) (0 : UInt64) +
 List.getD l_2 ((0 : Nat) + Int.toNat a_2) (0 : UInt64) +
 ((turnF (List.getD (St8.l v) ((0 : Nat) + Int.toNat (0 : Int)) (0 : UInt64)) (28 : Int) ^^^
 turnF (List.getD (St8.l v) ((0 : Nat) + Int.toNat (0 : Int)) (0 : UInt64)) (34 : Int) ^^^
 turnF (List.getD (St8.l v) ((0 : Nat) + Int.toNat (0 : Int)) (0 : UInt64)) (39 : Int)) +
 (List.getD (St8.l v) ((0 : Nat) + Int.toNat (0 : Int)) (0 : UInt64) &&&
 List.getD (St8.l v) ((0 : Nat) + Int.toNat (1 : Int)) (0 : UInt64) ^^^
 List.getD (St8.l v) ((0 : Nat) + Int.toNat (0 : Int)) (0 : UInt64) &&&
 List.getD (St8.l v) ((0 : Nat) + Int.toNat (2 : Int)) (0 : UInt64) ^^^
 List.getD (St8.l v) ((0 : Nat) + Int.toNat (1 : Int)) (0 : UInt64) &&&
 List.getD (St8.l v) ((0 : Nat) + Int.toNat (2 : Int)) (0 : UInt64))))
 (List.getD (St8.l v) ((0 : Nat) + Int.toNat (0 : Int)) (0 : UInt64))
 (List.getD (St8.l v) ((0 : Nat) + Int.toNat (1 : Int)) (0 : UInt64))
 (List.getD (St8.l v) ((0 : Nat) + Int.toNat (2 : Int)) (0 : UInt64))
 (List.getD (St8.l v) ((0 : Nat) + Int.toNat (3 : Int)) (0 : UInt64) +
 (List.getD (St8.l v) ((0 : Nat) + Int.toNat (7 : Int)) (0 : UInt64) +
 (turnF (List.getD (St8.l v) ((0 : Nat) + Int.toNat (4 : Int)) (0 : UInt64)) (14 : Int) ^^^
 turnF (List.getD (St8.l v) ((0 : Nat) + Int.toNat (4 : Int)) (0 : UInt64)) (18 : Int) ^^^
 turnF (List.getD (St8.l v) ((0 : Nat) + Int.toNat (4 : Int)) (0 : UInt64)) (41 : Int)) +
 (List.getD (St8.l v) ((0 : Nat) + Int.toNat (4 : Int)) (0 : UInt64) &&&
 List.getD (St8.l v) ((0 : Nat) + Int.toNat (5 : Int)) (0 : UInt64) ^^^
 ~~~List.getD (St8.l v) ((0 : Nat) + Int.toNat (4 : Int)) (0 : UInt64) &&&
 List.getD (St8.l v) ((0 : Nat) + Int.toNat (6 : Int)) (0 : UInt64)) +
 List.getD kTab (Int.toNat a_2) (0 : UInt64) +
 List.getD l_2 ((0 : Nat) + Int.toNat a_2) (0 : UInt64)))
 (List.getD (St8.l v) ((0 : Nat) + Int.toNat (4 : Int)) (0 : UInt64))
 (List.getD (St8.l v) ((0 : Nat) + Int.toNat (5 : Int)) (0 : UInt64))
 (List.getD (St8.l v) ((0 : Nat) + Int.toNat (6 : Int)) (0 : UInt64)))
 (IntKind.wrap IntKind.i64 (a_2 + (1 : Int)))) ∧
 (Int.toNat ((80 : Int) - IntKind.wrap IntKind.i64 (a_2 + (1 : Int))) < Int.toNat ((80 : Int) - a_2))))))))))))))))))))))))))))))))))))))
 (((((0 : Int) ≤ (0 : Int)) ∧
 ((0 : Int) < (↑(List.length (St8.l s)) : Int))) ∧
 ((((0 : Int) ≤ (0 : Int)) ∧
 ((0 : Int) < (↑(8 : Nat) : Int))) ∧
 (((1 : Nat) ≤ appLim) ∧
 ((((0 : Int) ≤ IntKind.wrap IntKind.i64 ((0 : Int) + (1 : Int))) ∧
 (IntKind.wrap IntKind.i64 ((0 : Int) + (1 : Int)) < (↑(List.length (St8.l s)) : Int))) ∧
 ((((0 : Int) ≤ IntKind.wrap IntKind.i64 ((0 : Int) + (1 : Int))) ∧
 (IntKind.wrap IntKind.i64 ((0 : Int) + (1 : Int)) < (↑(8 : Nat) : Int))) ∧
 ((((0 : Nat) + (1 : Nat) = (1 : Nat)) ∧
 ((2 : Nat) ≤ appLim)) ∧
 ((((0 : Int) ≤ IntKind.wrap IntKind.i64 (IntKind.wrap IntKind.i64 ((0 : Int) + (1 : Int)) + (1 : Int))) ∧
 (IntKind.wrap IntKind.i64 (IntKind.wrap IntKind.i64 ((0 : Int) + (1 : Int)) + (1 : Int)) <
 (↑(List.length (St8.l s)) : Int))) ∧
 ((((0 : Int) ≤ IntKind.wrap IntKind.i64 (IntKind.wrap IntKind.i64 ((0 : Int) + (1 : Int)) + (1 : Int))) ∧
 (IntKind.wrap IntKind.i64 (IntKind.wrap IntKind.i64 ((0 : Int) + (1 : Int)) + (1 : Int)) < (↑(8 : Nat) : Int))) ∧
 ((((0 : Nat) + (2 : Nat) = (2 : Nat)) ∧
 ((3 : Nat) ≤ appLim)) ∧
 ((((0 : Int) ≤
 IntKind.wrap IntKind.i64
 (IntKind.wrap IntKind.i64 (IntKind.wrap IntKind.i64 ((0 : Int) + (1 : Int)) + (1 : Int)) + (1 : Int))) ∧
 (IntKind.wrap IntKind.i64
 (IntKind.wrap IntKind.i64 (IntKind.wrap IntKind.i64 ((0 : Int) + (1 : Int)) + (1 : Int)) + (1 : Int)) <
 (↑(List.length (St8.l s)) : Int))) ∧
 ((((0 : Int) ≤
 IntKind.wrap IntKind.i64
 (IntKind.wrap IntKind.i64 (IntKind.wrap IntKind.i64 ((0 : Int) + (1 : Int)) + (1 : Int)) + (1 : Int))) ∧
 (IntKind.wrap IntKind.i64
 (IntKind.wrap IntKind.i64 (IntKind.wrap IntKind.i64 ((0 : Int) + (1 : Int)) + (1 : Int)) + (1 : Int)) <
 (↑(8 : Nat) : Int))) ∧
 ((((0 : Nat) + (3 : Nat) = (3 : Nat)) ∧
 ((4 : Nat) ≤ appLim)) ∧
 ((((0 : Int) ≤
 IntKind.wrap IntKind.i64
 (IntKind.wrap IntKind.i64
 (IntKind.wrap IntKind.i64 (IntKind.wrap IntKind.i64 ((0 : Int) + (1 : Int)) + (1 : Int)) + (1 : Int)) +
 (1 : Int))) ∧
 (IntKind.wrap IntKind.i64
 (IntKind.wrap IntKind.i64
 (IntKind.wrap IntKind.i64 (IntKind.wrap IntKind.i64 ((0 : Int) + (1 : Int)) + (1 : Int)) + (1 : Int)) +
 (1 : Int)) <
 (↑(List.length (St8.l s)) : Int))) ∧
 ((((0 : Int) ≤
 IntKind.wrap IntKind.i64
 (IntKind.wrap IntKind.i64
 (IntKind.wrap IntKind.i64 (IntKind.wrap IntKind.i64 ((0 : Int) + (1 : Int)) + (1 : Int)) + (1 : Int)) +
 (1 : Int))) ∧
 (IntKind.wrap IntKind.i64
 (IntKind.wrap IntKind.i64
 (IntKind.wrap IntKind.i64 (IntKind.wrap IntKind.i64 ((0 : Int) + (1 : Int)) + (1 : Int)) + (1 : Int)) +
 (1 : Int)) <
 (↑(8 : Nat) : Int))) ∧
 ((((0 : Nat) + (4 : Nat) = (4 : Nat)) ∧
 ((5 : Nat) ≤ appLim)) ∧
 ((((0 : Int) ≤
 IntKind.wrap IntKind.i64
 (IntKind.wrap IntKind.i64
 (IntKind.wrap IntKind.i64
 (IntKind.wrap IntKind.i64 (IntKind.wrap IntKind.i64 ((0 : Int) + (1 : Int)) + (1 : Int)) + (1 : Int)) +
 (1 : Int)) +
 (1 : Int))) ∧
 (IntKind.wrap IntKind.i64
 (IntKind.wrap IntKind.i64
 (IntKind.wrap IntKind.i64
 (IntKind.wrap IntKind.i64 (IntKind.wrap IntKind.i64 ((0 : Int) + (1 : Int)) + (1 : Int)) + (1 : Int)) +
 (1 : Int)) +
 (1 : Int)) <
 (↑(List.length (St8.l s)) : Int))) ∧
 ((((0 : Int) ≤
 IntKind.wrap IntKind.i64
 (IntKind.wrap IntKind.i64
 (IntKind.wrap IntKind.i64
 (IntKind.wrap IntKind.i64 (IntKind.wrap IntKind.i64 ((0 : Int) + (1 : Int)) + (1 : Int)) + (1 : Int)) +
 (1 : Int)) +
 (1 : Int))) ∧
 (IntKind.wrap IntKind.i64
 (IntKind.wrap IntKind.i64
 (IntKind.wrap IntKind.i64
 (IntKind.wrap IntKind.i64 (IntKind.wrap IntKind.i64 ((0 : Int) + (1 : Int)) + (1 : Int)) + (1 : Int)) +
 (1 : Int)) +
 (1 : Int)) <
 (↑(8 : Nat) : Int))) ∧
 ((((0 : Nat) + (5 : Nat) = (5 : Nat)) ∧
 ((6 : Nat) ≤ appLim)) ∧
 ((((0 : Int) ≤
 IntKind.wrap IntKind.i64
 (IntKind.wrap IntKind.i64
 (IntKind.wrap IntKind.i64
 (IntKind.wrap IntKind.i64
 (IntKind.wrap IntKind.i64 (IntKind.wrap IntKind.i64 ((0 : Int) + (1 : Int)) + (1 : Int)) + (1 : Int)) +
 (1 : Int)) +
 (1 : Int)) +
 (1 : Int))) ∧
 (IntKind.wrap IntKind.i64
 (IntKind.wrap IntKind.i64
 (IntKind.wrap IntKind.i64
 (IntKind.wrap IntKind.i64
 (IntKind.wrap IntKind.i64 (IntKind.wrap IntKind.i64 ((0 : Int) + (1 : Int)) + (1 : Int)) + (1 : Int)) +
 (1 : Int)) +
 (1 : Int)) +
 (1 : Int)) <
 (↑(List.length (St8.l s)) : Int))) ∧
 ((((0 : Int) ≤
 IntKind.wrap IntKind.i64
 (IntKind.wrap IntKind.i64
 (IntKind.wrap IntKind.i64
 (IntKind.wrap IntKind.i64
 (IntKind.wrap IntKind.i64 (IntKind.wrap IntKind.i64 ((0 : Int) + (1 : Int)) + (1 : Int)) + (1 : Int)) +
 (1 : Int)) +
 (1 : Int)) +
 (1 : Int))) ∧
 (IntKind.wrap IntKind.i64
 (IntKind.wrap IntKind.i64
 (IntKind.wrap IntKind.i64
 (IntKind.wrap IntKind.i64
 (IntKind.wrap IntKind.i64 (IntKind.wrap IntKind.i64 ((0 : Int) + (1 : Int)) + (1 : Int)) + (1 : Int)) +
 (1 : Int)) +
 (1 : Int)) +
 (1 : Int)) <
 (↑(8 : Nat) : Int))) ∧
 ((((0 : Nat) + (6 : Nat) = (6 : Nat)) ∧
 ((7 : Nat) ≤ appLim)) ∧
 ((((0 : Int) ≤
 IntKind.wrap IntKind.i64
 (IntKind.wrap IntKind.i64
 (IntKind.wrap IntKind.i64
 (IntKind.wrap IntKind.i64
 (IntKind.wrap IntKind.i64
 (IntKind.wrap IntKind.i64 (IntKind.wrap IntKind.i64 ((0 : Int) + (1 : Int)) + (1 : Int)) +
 (1 : Int)) +
 (1 : Int)) +
 (1 : Int)) +
 (1 : Int)) +
 (1 : Int))) ∧
 (IntKind.wrap IntKind.i64
 (IntKind.wrap IntKind.i64
 (IntKind.wrap IntKind.i64
 (IntKind.wrap IntKind.i64
 (IntKind.wrap IntKind.i64
 (IntKind.wrap IntKind.i64 (IntKind.wrap IntKind.i64 ((0 : Int) + (1 : Int)) + (1 : Int)) +
 (1 : Int)) +
 (1 : Int)) +
 (1 : Int)) +
 (1 : Int)) +
 (1 : Int)) <
 (↑(List.length (St8.l s)) : Int))) ∧
 ((((0 : Int) ≤
 IntKind.wrap IntKind.i64
 (IntKind.wrap IntKind.i64
 (IntKind.wrap IntKind.i64
 (IntKind.wrap IntKind.i64
 (IntKind.wrap IntKind.i64
 (IntKind.wrap IntKind.i64 (IntKind.wrap IntKind.i64 ((0 : Int) + (1 : Int)) + (1 : Int)) +
 (1 : Int)) +
 (1 : Int)) +
 (1 : Int)) +
 (1 : Int)) +
 (1 : Int))) ∧
 (IntKind.wrap IntKind.i64
 (IntKind.wrap IntKind.i64
 (IntKind.wrap IntKind.i64
 (IntKind.wrap IntKind.i64
 (IntKind.wrap IntKind.i64
 (IntKind.wrap IntKind.i64 (IntKind.wrap IntKind.i64 ((0 : Int) + (1 : Int)) + (1 : Int)) +
 (1 : Int)) +
 (1 : Int)) +
 (1 : Int)) +
 (1 : Int)) +
 (1 : Int)) <
 (↑(8 : Nat) : Int))) ∧
 ((((0 : Nat) + (7 : Nat) = (7 : Nat)) ∧
 ((8 : Nat) ≤ appLim)) ∧
 (Q
 (SV.lst
 (LV.words
 [List.getD (St8.l s) (Int.toNat (0 : Int)) (0 : UInt64) +
 List.getD (St8.l v) ((0 : Nat) + Int.toNat (0 : Int)) (0 : UInt64),
 List.getD (St8.l s) (Int.toNat (IntKind.wrap IntKind.i64 ((0 : Int) + (1 : Int)))) (0 : UInt64) +
 List.getD (St8.l v) ((0 : Nat) + Int.toNat (IntKind.wrap IntKind.i64 ((0 : Int) + (1 : Int)))) (0 : UInt64),
 List.getD (St8.l s)
 (Int.toNat (IntKind.wrap IntKind.i64 (IntKind.wrap IntKind.i64 ((0 : Int) + (1 : Int)) + (1 : Int))))
 (0 : UInt64) +
 List.getD (St8.l v)
 ((0 : Nat) +
 Int.toNat (IntKind.wrap IntKind.i64 (IntKind.wrap IntKind.i64 ((0 : Int) + (1 : Int)) + (1 : Int))))
 (0 : UInt64),
 List.getD (St8.l s)
 (Int.toNat
 (IntKind.wrap IntKind.i64
 (IntKind.wrap IntKind.i64 (IntKind.wrap IntKind.i64 ((0 : Int) + (1 : Int)) + (1 : Int)) + (1 : Int))))
 (0 : UInt64) +
 List.getD (St8.l v)
 ((0 : Nat) +
 Int.toNat
 (IntKind.wrap IntKind.i64
 (IntKind.wrap IntKind.i64 (IntKind.wrap IntKind.i64 ((0 : Int) + (1 : Int)) + (1 : Int)) +
 (1 : Int))))
 (0 : UInt64),
 List.getD (St8.l s)
 (Int.toNat
 (IntKind.wrap IntKind.i64
 (IntKind.wrap IntKind.i64
 (IntKind.wrap IntKind.i64 (IntKind.wrap IntKind.i64 ((0 : Int) + (1 : Int)) + (1 : Int)) +
 (1 : Int)) +
 (1 : Int))))
 (0 : UInt64) +
 List.getD (St8.l v)
 ((0 : Nat) +
 Int.toNat
 (IntKind.wrap IntKind.i64
 (IntKind.wrap IntKind.i64
 (IntKind.wrap IntKind.i64 (IntKind.wrap IntKind.i64 ((0 : Int) + (1 : Int)) + (1 : Int)) +
 (1 : Int)) +
 (1 : Int))))
 (0 : UInt64),
 List.getD (St8.l s)
 (Int.toNat
 (IntKind.wrap IntKind.i64
 (IntKind.wrap IntKind.i64
 (IntKind.wrap IntKind.i64
 (IntKind.wrap IntKind.i64 (IntKind.wrap IntKind.i64 ((0 : Int) + (1 : Int)) + (1 : Int)) +
 (1 : Int)) +
 (1 : Int)) +
 (1 : Int))))
 (0 : UInt64) +
 List.getD (St8.l v)
 ((0 : Nat) +
 Int.toNat
 (IntKind.wrap IntKind.i64
 (IntKind.wrap IntKind.i64
 (IntKind.wrap IntKind.i64
 (IntKind.wrap IntKind.i64 (IntKind.wrap IntKind.i64 ((0 : Int) + (1 : Int)) + (1 : Int)) +
 (1 : Int)) +
 (1 : Int)) +
 (1 : Int))))
 (0 : UInt64),
 List.getD (St8.l s)
 (Int.toNat
 (IntKind.wrap IntKind.i64
 (IntKind.wrap IntKind.i64
 (IntKind.wrap IntKind.i64
 (IntKind.wrap IntKind.i64
 (IntKind.wrap IntKind.i64 (IntKind.wrap IntKind.i64 ((0 : Int) + (1 : Int)) + (1 : Int)) +
 (1 : Int)) +
 (1 : Int)) +
 (1 : Int)) +
 (1 : Int))))
 (0 : UInt64) +
 List.getD (St8.l v)
 ((0 : Nat) +
 Int.toNat
 (IntKind.wrap IntKind.i64
 (IntKind.wrap IntKind.i64
 (IntKind.wrap IntKind.i64
 (IntKind.wrap IntKind.i64
 (IntKind.wrap IntKind.i64 (IntKind.wrap IntKind.i64 ((0 : Int) + (1 : Int)) + (1 : Int)) +
 (1 : Int)) +
 (1 : Int)) +
 (1 : Int)) +
 (1 : Int))))
 (0 : UInt64),
 List.getD (St8.l s)
 (Int.toNat
 (IntKind.wrap IntKind.i64
 (IntKind.wrap IntKind.i64
 (IntKind.wrap IntKind.i64
 (IntKind.wrap IntKind.i64
 (IntKind.wrap IntKind.i64
 (IntKind.wrap IntKind.i64
 (IntKind.wrap IntKind.i64 ((0 : Int) + (1 : Int)) + (1 : Int)) +
 (1 : Int)) +
 (1 : Int)) +
 (1 : Int)) +
 (1 : Int)) +
 (1 : Int))))
 (0 : UInt64) +
 List.getD (St8.l v)
 ((0 : Nat) +
 Int.toNat
 (IntKind.wrap IntKind.i64
 (IntKind.wrap IntKind.i64
 (IntKind.wrap IntKind.i64
 (IntKind.wrap IntKind.i64
 (IntKind.wrap IntKind.i64
 (IntKind.wrap IntKind.i64
 (IntKind.wrap IntKind.i64 ((0 : Int) + (1 : Int)) + (1 : Int)) +
 (1 : Int)) +
 (1 : Int)) +
 (1 : Int)) +
 (1 : Int)) +
 (1 : Int))))
 (0 : UInt64)]))))))))))))))))))))))))))))))))))))))))))))))) := by kernel_rfl
end Go.Proofs.YtigkddloeikpbaaGreatDoor.H6
