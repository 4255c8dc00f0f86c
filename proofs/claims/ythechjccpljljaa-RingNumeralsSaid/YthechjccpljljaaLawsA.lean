/- Layer 1's laws: sums, products, bits, bytes: what their bodies come to. -/
import Derived.Test.YthechjccpljljaaRefU
import Derived.Test.YthechjccpljljaaLawBack2
namespace Go.Proofs.Ythechjccpljljaa
open Go.Sym Go.Dig

--STOP Go.Dig.Dig, R1.Dg, R1.Can, R1.Sm

def nOf : SpecF := fspec (α := Four × Unit) (β := Num) total (fun a => ⟨nat4 a.1⟩)
def spR01 : Specs := (13, nOf) :: (R1.spN ++ spL1)
def dT (l : List (Nat × Nat)) : Dec := l.map fun p => (p.1, p.2, .b true)
def dSums (c : Bool) : Dec := (9, 3, .b c) :: dT [(11, 3), (11, 9), (11, 15), (11, 20), (11, 29)]
theorem vcSums (a b : Four) (c : Bool) (Q : SV → Prop) : LnRaw tt spR01 9 (dSums c) {} Try.f3 Q (a, b, ()) =
  (((R1.Sm (nat4 a)) ∧
   (R1.Sm (nat4 b))) ∧
  ((((0 : Int) ≤ (256 : Int)) ∧
   ((256 : Int) ≤ (1073741824 : Int))) ∧
  (((R1.Sm (nat4 a)) ∧
   (R1.Sm ((2 : Nat) ^ Int.toNat (256 : Int)))) ∧
  (((R1.Sm (nat4 a + (2 : Nat) ^ Int.toNat (256 : Int))) ∧
   ((nat4 b ≤ nat4 a + (2 : Nat) ^ Int.toNat (256 : Int)) ∧
   (R1.Sm (nat4 b)))) ∧
  (((R1.Sm (nat4 a)) ∧
   (R1.Sm (nat4 b))) ∧
  ((decide (R1.cmpN (nat4 a) (nat4 b) < (0 : Int)) = c) ∧
  bcase (c)
    (((R1.Sm (nat4 a + nat4 b)) ∧
    (((Four.w0 (Prod.fst (limb_Add a b)) == Four.w0 (R1.fourN (nat4 a + nat4 b)) &&
    (Four.w1 (Prod.fst (limb_Add a b)) == Four.w1 (R1.fourN (nat4 a + nat4 b)) &&
      (Four.w2 (Prod.fst (limb_Add a b)) == Four.w2 (R1.fourN (nat4 a + nat4 b)) &&
        (Four.w3 (Prod.fst (limb_Add a b)) == Four.w3 (R1.fourN (nat4 a + nat4 b)) && true)))) =
  true) ∧
    (((R1.Sm (nat4 a + nat4 b)) ∧
     (((0 : Int) ≤ (256 : Int)) ∧
     ((256 : Int) ≤ (1073741824 : Int)))) ∧
    (((Prod.snd (limb_Add a b) == UInt64.ofInt (↑((nat4 a + nat4 b) / (2 : Nat) ^ Int.toNat (256 : Int) % (2 : Nat)) : Int)) =
  true) ∧
    ((R1.Sm (nat4 a + (2 : Nat) ^ Int.toNat (256 : Int) - nat4 b)) ∧
    (((Four.w0 (Prod.fst (limb_Sub a b)) == Four.w0 (R1.fourN (nat4 a + (2 : Nat) ^ Int.toNat (256 : Int) - nat4 b)) &&
    (Four.w1 (Prod.fst (limb_Sub a b)) == Four.w1 (R1.fourN (nat4 a + (2 : Nat) ^ Int.toNat (256 : Int) - nat4 b)) &&
      (Four.w2 (Prod.fst (limb_Sub a b)) == Four.w2 (R1.fourN (nat4 a + (2 : Nat) ^ Int.toNat (256 : Int) - nat4 b)) &&
        (Four.w3 (Prod.fst (limb_Sub a b)) ==
            Four.w3 (R1.fourN (nat4 a + (2 : Nat) ^ Int.toNat (256 : Int) - nat4 b)) &&
          true)))) =
  true) ∧
    (((Prod.snd (limb_Sub a b) == UInt64.ofNat (Int.toNat (1 : Int))) = true) ∧
    (((R1.Sm (nat4 a)) ∧
     (R1.Sm (nat4 b))) ∧
    (((limb_Cmp a b == R1.cmpN (nat4 a) (nat4 b)) = true) ∧
    (Q (SV.bool true))))))))))))
    (((R1.Sm (nat4 a + nat4 b)) ∧
    (((Four.w0 (Prod.fst (limb_Add a b)) == Four.w0 (R1.fourN (nat4 a + nat4 b)) &&
    (Four.w1 (Prod.fst (limb_Add a b)) == Four.w1 (R1.fourN (nat4 a + nat4 b)) &&
      (Four.w2 (Prod.fst (limb_Add a b)) == Four.w2 (R1.fourN (nat4 a + nat4 b)) &&
        (Four.w3 (Prod.fst (limb_Add a b)) == Four.w3 (R1.fourN (nat4 a + nat4 b)) && true)))) =
  true) ∧
    (((R1.Sm (nat4 a + nat4 b)) ∧
     (((0 : Int) ≤ (256 : Int)) ∧
     ((256 : Int) ≤ (1073741824 : Int)))) ∧
    (((Prod.snd (limb_Add a b) == UInt64.ofInt (↑((nat4 a + nat4 b) / (2 : Nat) ^ Int.toNat (256 : Int) % (2 : Nat)) : Int)) =
  true) ∧
    ((R1.Sm (nat4 a + (2 : Nat) ^ Int.toNat (256 : Int) - nat4 b)) ∧
    (((Four.w0 (Prod.fst (limb_Sub a b)) == Four.w0 (R1.fourN (nat4 a + (2 : Nat) ^ Int.toNat (256 : Int) - nat4 b)) &&
    (Four.w1 (Prod.fst (limb_Sub a b)) == Four.w1 (R1.fourN (nat4 a + (2 : Nat) ^ Int.toNat (256 : Int) - nat4 b)) &&
      (Four.w2 (Prod.fst (limb_Sub a b)) == Four.w2 (R1.fourN (nat4 a + (2 : Nat) ^ Int.toNat (256 : Int) - nat4 b)) &&
        (Four.w3 (Prod.fst (limb_Sub a b)) ==
            Four.w3 (R1.fourN (nat4 a + (2 : Nat) ^ Int.toNat (256 : Int) - nat4 b)) &&
          true)))) =
  true) ∧
    (((Prod.snd (limb_Sub a b) == UInt64.ofNat (Int.toNat (0 : Int))) = true) ∧
    (((R1.Sm (nat4 a)) ∧
     (R1.Sm (nat4 b))) ∧
    (((limb_Cmp a b == R1.cmpN (nat4 a) (nat4 b)) = true) ∧
    (Q (SV.bool true)))))))))))))))))) := by kernel_rfl
def dProducts : Dec := (9, 7, .b false) :: dT [(14, 14), (14, 20)]
theorem vcProducts (a b : Four) (w : UInt64) (Q : SV → Prop) : LnRaw tt spR01 9 dProducts {} Try.f5 Q (a, b, w, ()) =
  (((R1.Sm (nat4 a)) ∧
   (R1.Sm (nat4 b))) ∧
  (((R1.Sm (nat4 a * nat4 b)) ∧
   (((0 : Int) ≤ (8 : Int)) ∧
   ((8 : Int) ≤ (1048576 : Int)))) ∧
  ((((0 : Int) ≤ (0 : Int)) ∧
   ((0 : Int) < (↑(List.length (R1.wordsL (nat4 a * nat4 b) (Int.toNat (8 : Int)))) : Int))) ∧
  (((Eight.e0 (limb_Mul a b) !=
    List.getD (R1.wordsL (nat4 a * nat4 b) (Int.toNat (8 : Int))) (Int.toNat (0 : Int)) (0 : UInt64)) =
  false) ∧
  ((((0 : Int) ≤ IntKind.wrap IntKind.i64 ((0 : Int) + (1 : Int))) ∧
   (IntKind.wrap IntKind.i64 ((0 : Int) + (1 : Int)) <
  (↑(List.length (R1.wordsL (nat4 a * nat4 b) (Int.toNat (8 : Int)))) : Int))) ∧
  (((Eight.e1 (limb_Mul a b) !=
    List.getD (R1.wordsL (nat4 a * nat4 b) (Int.toNat (8 : Int)))
      (Int.toNat (IntKind.wrap IntKind.i64 ((0 : Int) + (1 : Int)))) (0 : UInt64)) =
  false) ∧
  ((((0 : Int) ≤ IntKind.wrap IntKind.i64 (IntKind.wrap IntKind.i64 ((0 : Int) + (1 : Int)) + (1 : Int))) ∧
   (IntKind.wrap IntKind.i64 (IntKind.wrap IntKind.i64 ((0 : Int) + (1 : Int)) + (1 : Int)) <
  (↑(List.length (R1.wordsL (nat4 a * nat4 b) (Int.toNat (8 : Int)))) : Int))) ∧
  (((Eight.e2 (limb_Mul a b) !=
    List.getD (R1.wordsL (nat4 a * nat4 b) (Int.toNat (8 : Int)))
      (Int.toNat (IntKind.wrap IntKind.i64 (IntKind.wrap IntKind.i64 ((0 : Int) + (1 : Int)) + (1 : Int))))
      (0 : UInt64)) =
  false) ∧
  ((((0 : Int) ≤
  IntKind.wrap IntKind.i64
    (IntKind.wrap IntKind.i64 (IntKind.wrap IntKind.i64 ((0 : Int) + (1 : Int)) + (1 : Int)) + (1 : Int))) ∧
   (IntKind.wrap IntKind.i64
    (IntKind.wrap IntKind.i64 (IntKind.wrap IntKind.i64 ((0 : Int) + (1 : Int)) + (1 : Int)) + (1 : Int)) <
  (↑(List.length (R1.wordsL (nat4 a * nat4 b) (Int.toNat (8 : Int)))) : Int))) ∧
  (((Eight.e3 (limb_Mul a b) !=
    List.getD (R1.wordsL (nat4 a * nat4 b) (Int.toNat (8 : Int)))
      (Int.toNat
        (IntKind.wrap IntKind.i64
          (IntKind.wrap IntKind.i64 (IntKind.wrap IntKind.i64 ((0 : Int) + (1 : Int)) + (1 : Int)) + (1 : Int))))
      (0 : UInt64)) =
  false) ∧
  ((((0 : Int) ≤
  IntKind.wrap IntKind.i64
    (IntKind.wrap IntKind.i64
        (IntKind.wrap IntKind.i64 (IntKind.wrap IntKind.i64 ((0 : Int) + (1 : Int)) + (1 : Int)) + (1 : Int)) +
      (1 : Int))) ∧
   (IntKind.wrap IntKind.i64
    (IntKind.wrap IntKind.i64
        (IntKind.wrap IntKind.i64 (IntKind.wrap IntKind.i64 ((0 : Int) + (1 : Int)) + (1 : Int)) + (1 : Int)) +
      (1 : Int)) <
  (↑(List.length (R1.wordsL (nat4 a * nat4 b) (Int.toNat (8 : Int)))) : Int))) ∧
  (((Eight.e4 (limb_Mul a b) !=
    List.getD (R1.wordsL (nat4 a * nat4 b) (Int.toNat (8 : Int)))
      (Int.toNat
        (IntKind.wrap IntKind.i64
          (IntKind.wrap IntKind.i64
              (IntKind.wrap IntKind.i64 (IntKind.wrap IntKind.i64 ((0 : Int) + (1 : Int)) + (1 : Int)) + (1 : Int)) +
            (1 : Int))))
      (0 : UInt64)) =
  false) ∧
  ((((0 : Int) ≤
  IntKind.wrap IntKind.i64
    (IntKind.wrap IntKind.i64
        (IntKind.wrap IntKind.i64
            (IntKind.wrap IntKind.i64 (IntKind.wrap IntKind.i64 ((0 : Int) + (1 : Int)) + (1 : Int)) + (1 : Int)) +
          (1 : Int)) +
      (1 : Int))) ∧
   (IntKind.wrap IntKind.i64
    (IntKind.wrap IntKind.i64
        (IntKind.wrap IntKind.i64
            (IntKind.wrap IntKind.i64 (IntKind.wrap IntKind.i64 ((0 : Int) + (1 : Int)) + (1 : Int)) + (1 : Int)) +
          (1 : Int)) +
      (1 : Int)) <
  (↑(List.length (R1.wordsL (nat4 a * nat4 b) (Int.toNat (8 : Int)))) : Int))) ∧
  (((Eight.e5 (limb_Mul a b) !=
    List.getD (R1.wordsL (nat4 a * nat4 b) (Int.toNat (8 : Int)))
      (Int.toNat
        (IntKind.wrap IntKind.i64
          (IntKind.wrap IntKind.i64
              (IntKind.wrap IntKind.i64
                  (IntKind.wrap IntKind.i64 (IntKind.wrap IntKind.i64 ((0 : Int) + (1 : Int)) + (1 : Int)) +
                    (1 : Int)) +
                (1 : Int)) +
            (1 : Int))))
      (0 : UInt64)) =
  false) ∧
  ((((0 : Int) ≤
  IntKind.wrap IntKind.i64
    (IntKind.wrap IntKind.i64
        (IntKind.wrap IntKind.i64
            (IntKind.wrap IntKind.i64
                (IntKind.wrap IntKind.i64 (IntKind.wrap IntKind.i64 ((0 : Int) + (1 : Int)) + (1 : Int)) + (1 : Int)) +
              (1 : Int)) +
          (1 : Int)) +
      (1 : Int))) ∧
   (IntKind.wrap IntKind.i64
    (IntKind.wrap IntKind.i64
        (IntKind.wrap IntKind.i64
            (IntKind.wrap IntKind.i64
                (IntKind.wrap IntKind.i64 (IntKind.wrap IntKind.i64 ((0 : Int) + (1 : Int)) + (1 : Int)) + (1 : Int)) +
              (1 : Int)) +
          (1 : Int)) +
      (1 : Int)) <
  (↑(List.length (R1.wordsL (nat4 a * nat4 b) (Int.toNat (8 : Int)))) : Int))) ∧
  (((Eight.e6 (limb_Mul a b) !=
    List.getD (R1.wordsL (nat4 a * nat4 b) (Int.toNat (8 : Int)))
      (Int.toNat
        (IntKind.wrap IntKind.i64
          (IntKind.wrap IntKind.i64
              (IntKind.wrap IntKind.i64
                  (IntKind.wrap IntKind.i64
                      (IntKind.wrap IntKind.i64 (IntKind.wrap IntKind.i64 ((0 : Int) + (1 : Int)) + (1 : Int)) +
                        (1 : Int)) +
                    (1 : Int)) +
                (1 : Int)) +
            (1 : Int))))
      (0 : UInt64)) =
  false) ∧
  ((((0 : Int) ≤
  IntKind.wrap IntKind.i64
    (IntKind.wrap IntKind.i64
        (IntKind.wrap IntKind.i64
            (IntKind.wrap IntKind.i64
                (IntKind.wrap IntKind.i64
                    (IntKind.wrap IntKind.i64 (IntKind.wrap IntKind.i64 ((0 : Int) + (1 : Int)) + (1 : Int)) +
                      (1 : Int)) +
                  (1 : Int)) +
              (1 : Int)) +
          (1 : Int)) +
      (1 : Int))) ∧
   (IntKind.wrap IntKind.i64
    (IntKind.wrap IntKind.i64
        (IntKind.wrap IntKind.i64
            (IntKind.wrap IntKind.i64
                (IntKind.wrap IntKind.i64
                    (IntKind.wrap IntKind.i64 (IntKind.wrap IntKind.i64 ((0 : Int) + (1 : Int)) + (1 : Int)) +
                      (1 : Int)) +
                  (1 : Int)) +
              (1 : Int)) +
          (1 : Int)) +
      (1 : Int)) <
  (↑(List.length (R1.wordsL (nat4 a * nat4 b) (Int.toNat (8 : Int)))) : Int))) ∧
  (((Eight.e7 (limb_Mul a b) !=
    List.getD (R1.wordsL (nat4 a * nat4 b) (Int.toNat (8 : Int)))
      (Int.toNat
        (IntKind.wrap IntKind.i64
          (IntKind.wrap IntKind.i64
              (IntKind.wrap IntKind.i64
                  (IntKind.wrap IntKind.i64
                      (IntKind.wrap IntKind.i64
                          (IntKind.wrap IntKind.i64 (IntKind.wrap IntKind.i64 ((0 : Int) + (1 : Int)) + (1 : Int)) +
                            (1 : Int)) +
                        (1 : Int)) +
                    (1 : Int)) +
                (1 : Int)) +
            (1 : Int))))
      (0 : UInt64)) =
  false) ∧
  ((List.length (List.drop (0 : Nat) (List.take ((0 : Nat) + (1 : Nat)) [w])) ≤ (1048576 : Nat)) ∧
  (((R1.Sm (nat4 a)) ∧
   (R1.Sm (R1.wv (List.drop (0 : Nat) (List.take ((0 : Nat) + (1 : Nat)) [w]))))) ∧
  (((R1.Sm (nat4 a * R1.wv (List.drop (0 : Nat) (List.take ((0 : Nat) + (1 : Nat)) [w])))) ∧
   (((0 : Int) ≤ (5 : Int)) ∧
   ((5 : Int) ≤ (1048576 : Int)))) ∧
  ((((0 : Int) ≤ (0 : Int)) ∧
   ((0 : Int) <
  (↑(List.length
        (R1.wordsL (nat4 a * R1.wv (List.drop (0 : Nat) (List.take ((0 : Nat) + (1 : Nat)) [w])))
          (Int.toNat (5 : Int)))) :
    Int))) ∧
  ((((0 : Int) ≤ (1 : Int)) ∧
   ((1 : Int) <
  (↑(List.length
        (R1.wordsL (nat4 a * R1.wv (List.drop (0 : Nat) (List.take ((0 : Nat) + (1 : Nat)) [w])))
          (Int.toNat (5 : Int)))) :
    Int))) ∧
  ((((0 : Int) ≤ (2 : Int)) ∧
   ((2 : Int) <
  (↑(List.length
        (R1.wordsL (nat4 a * R1.wv (List.drop (0 : Nat) (List.take ((0 : Nat) + (1 : Nat)) [w])))
          (Int.toNat (5 : Int)))) :
    Int))) ∧
  ((((0 : Int) ≤ (3 : Int)) ∧
   ((3 : Int) <
  (↑(List.length
        (R1.wordsL (nat4 a * R1.wv (List.drop (0 : Nat) (List.take ((0 : Nat) + (1 : Nat)) [w])))
          (Int.toNat (5 : Int)))) :
    Int))) ∧
  (((Four.w0 (Prod.fst (limb_MulWord a w)) ==
      List.getD
        (R1.wordsL (nat4 a * R1.wv (List.drop (0 : Nat) (List.take ((0 : Nat) + (1 : Nat)) [w]))) (Int.toNat (5 : Int)))
        (Int.toNat (0 : Int)) (0 : UInt64) &&
    (Four.w1 (Prod.fst (limb_MulWord a w)) ==
        List.getD
          (R1.wordsL (nat4 a * R1.wv (List.drop (0 : Nat) (List.take ((0 : Nat) + (1 : Nat)) [w])))
            (Int.toNat (5 : Int)))
          (Int.toNat (1 : Int)) (0 : UInt64) &&
      (Four.w2 (Prod.fst (limb_MulWord a w)) ==
          List.getD
            (R1.wordsL (nat4 a * R1.wv (List.drop (0 : Nat) (List.take ((0 : Nat) + (1 : Nat)) [w])))
              (Int.toNat (5 : Int)))
            (Int.toNat (2 : Int)) (0 : UInt64) &&
        (Four.w3 (Prod.fst (limb_MulWord a w)) ==
            List.getD
              (R1.wordsL (nat4 a * R1.wv (List.drop (0 : Nat) (List.take ((0 : Nat) + (1 : Nat)) [w])))
                (Int.toNat (5 : Int)))
              (Int.toNat (3 : Int)) (0 : UInt64) &&
          true)))) =
  true) ∧
  ((((0 : Int) ≤ (4 : Int)) ∧
   ((4 : Int) <
  (↑(List.length
        (R1.wordsL (nat4 a * R1.wv (List.drop (0 : Nat) (List.take ((0 : Nat) + (1 : Nat)) [w])))
          (Int.toNat (5 : Int)))) :
    Int))) ∧
  (((Prod.snd (limb_MulWord a w) ==
    List.getD
      (R1.wordsL (nat4 a * R1.wv (List.drop (0 : Nat) (List.take ((0 : Nat) + (1 : Nat)) [w]))) (Int.toNat (5 : Int)))
      (Int.toNat (4 : Int)) (0 : UInt64)) =
  true) ∧
  (Q (SV.bool true)))))))))))))))))))))))))))))) := by kernel_rfl
def dBits (p q r : Bool) : Dec := (5, 1, .b p) :: (7, 1, .b p) :: (7, 4, .b q) :: (10, 1, .b r) :: (10, 4, .b q) :: dT [(12, 4), (12, 10), (12, 17), (12, 24), (12, 31), (12, 41)]
theorem vcBitsA (a b : Four) (n : Int) (Q : SV → Prop) : LnRaw tt spR01 9 (dBits false true false) {} Try.f6 Q (a, b, n, ()) =
  ((decide (n > (0 : Int)) = false) ∧
  ((decide (n > (0 : Int)) = false) ∧
  ((decide (n ≥ (0 : Int)) = false) ∧
  (((Four.w0 (limb_Left a n) == Four.w0 a &&
    (Four.w1 (limb_Left a n) == Four.w1 a &&
      (Four.w2 (limb_Left a n) == Four.w2 a && (Four.w3 (limb_Left a n) == Four.w3 a && true)))) =
  true) ∧
  (((Four.w0 (limb_Right a n) == Four.w0 a &&
    (Four.w1 (limb_Right a n) == Four.w1 a &&
      (Four.w2 (limb_Right a n) == Four.w2 a && (Four.w3 (limb_Right a n) == Four.w3 a && true)))) =
  true) ∧
  (((limb_Bit a n == UInt64.ofNat (Int.toNat (0 : Int))) = true) ∧
  ((R1.Sm (nat4 a)) ∧
  (((limb_Bits a == (↑(R1.bitsN (nat4 a)) : Int)) = true) ∧
  (((Four.w0 (limb_Select (UInt64.ofNat (Int.toNat (1 : Int))) a b) == Four.w0 a &&
    (Four.w1 (limb_Select (UInt64.ofNat (Int.toNat (1 : Int))) a b) == Four.w1 a &&
      (Four.w2 (limb_Select (UInt64.ofNat (Int.toNat (1 : Int))) a b) == Four.w2 a &&
        (Four.w3 (limb_Select (UInt64.ofNat (Int.toNat (1 : Int))) a b) == Four.w3 a && true)))) =
  true) ∧
  (((Four.w0 (limb_Select (shl64 (Four.w0 b) (UInt64.toNat (UInt64.ofNat (Int.toNat (1 : Int))))) a b) == Four.w0 b &&
    (Four.w1 (limb_Select (shl64 (Four.w0 b) (UInt64.toNat (UInt64.ofNat (Int.toNat (1 : Int))))) a b) == Four.w1 b &&
      (Four.w2 (limb_Select (shl64 (Four.w0 b) (UInt64.toNat (UInt64.ofNat (Int.toNat (1 : Int))))) a b) == Four.w2 b &&
        (Four.w3 (limb_Select (shl64 (Four.w0 b) (UInt64.toNat (UInt64.ofNat (Int.toNat (1 : Int))))) a b) ==
            Four.w3 b &&
          true)))) =
  true) ∧
  (Q (SV.bool true)))))))))))) := by kernel_rfl
theorem vcBitsB (a b : Four) (n : Int) (Q : SV → Prop) : LnRaw tt spR01 9 (dBits false true true) {} Try.f6 Q (a, b, n, ()) =
  ((decide (n > (0 : Int)) = false) ∧
  ((decide (n > (0 : Int)) = false) ∧
  ((decide (n ≥ (0 : Int)) = true) ∧
  ((decide (n < (256 : Int)) = true) ∧
  (((R1.Sm (nat4 a)) ∧
   (((0 : Int) ≤ n) ∧
   (n ≤ (1073741824 : Int)))) ∧
  (((Four.w0 (limb_Left a n) == Four.w0 a &&
    (Four.w1 (limb_Left a n) == Four.w1 a &&
      (Four.w2 (limb_Left a n) == Four.w2 a && (Four.w3 (limb_Left a n) == Four.w3 a && true)))) =
  true) ∧
  (((Four.w0 (limb_Right a n) == Four.w0 a &&
    (Four.w1 (limb_Right a n) == Four.w1 a &&
      (Four.w2 (limb_Right a n) == Four.w2 a && (Four.w3 (limb_Right a n) == Four.w3 a && true)))) =
  true) ∧
  (((limb_Bit a n == UInt64.ofInt (↑(nat4 a / (2 : Nat) ^ Int.toNat n % (2 : Nat)) : Int)) = true) ∧
  ((R1.Sm (nat4 a)) ∧
  (((limb_Bits a == (↑(R1.bitsN (nat4 a)) : Int)) = true) ∧
  (((Four.w0 (limb_Select (UInt64.ofNat (Int.toNat (1 : Int))) a b) == Four.w0 a &&
    (Four.w1 (limb_Select (UInt64.ofNat (Int.toNat (1 : Int))) a b) == Four.w1 a &&
      (Four.w2 (limb_Select (UInt64.ofNat (Int.toNat (1 : Int))) a b) == Four.w2 a &&
        (Four.w3 (limb_Select (UInt64.ofNat (Int.toNat (1 : Int))) a b) == Four.w3 a && true)))) =
  true) ∧
  (((Four.w0 (limb_Select (shl64 (Four.w0 b) (UInt64.toNat (UInt64.ofNat (Int.toNat (1 : Int))))) a b) == Four.w0 b &&
    (Four.w1 (limb_Select (shl64 (Four.w0 b) (UInt64.toNat (UInt64.ofNat (Int.toNat (1 : Int))))) a b) == Four.w1 b &&
      (Four.w2 (limb_Select (shl64 (Four.w0 b) (UInt64.toNat (UInt64.ofNat (Int.toNat (1 : Int))))) a b) == Four.w2 b &&
        (Four.w3 (limb_Select (shl64 (Four.w0 b) (UInt64.toNat (UInt64.ofNat (Int.toNat (1 : Int))))) a b) ==
            Four.w3 b &&
          true)))) =
  true) ∧
  (Q (SV.bool true)))))))))))))) := by kernel_rfl
theorem vcBitsC (a b : Four) (n : Int) (Q : SV → Prop) : LnRaw tt spR01 9 (dBits true true true) {} Try.f6 Q (a, b, n, ()) =
  ((decide (n > (0 : Int)) = true) ∧
  ((decide (n > (0 : Int)) = true) ∧
  ((decide (n < (256 : Int)) = true) ∧
  (((List.length (dg (nat4 a)) ≤ (536870912 : Nat)) ∧
   (((0 : Int) ≤ n) ∧
   (n ≤ (1073741824 : Int)))) ∧
  ((R1.Sm (nat4 a * (2 : Nat) ^ Int.toNat n)) ∧
  (((R1.Sm (nat4 a)) ∧
   (((0 : Int) ≤ n) ∧
   (n ≤ (1073741824 : Int)))) ∧
  ((R1.Sm (nat4 a / (2 : Nat) ^ Int.toNat n)) ∧
  ((decide (n ≥ (0 : Int)) = true) ∧
  ((decide (n < (256 : Int)) = true) ∧
  (((R1.Sm (nat4 a)) ∧
   (((0 : Int) ≤ n) ∧
   (n ≤ (1073741824 : Int)))) ∧
  (((Four.w0 (limb_Left a n) == Four.w0 (R1.fourN (nat4 a * (2 : Nat) ^ Int.toNat n)) &&
    (Four.w1 (limb_Left a n) == Four.w1 (R1.fourN (nat4 a * (2 : Nat) ^ Int.toNat n)) &&
      (Four.w2 (limb_Left a n) == Four.w2 (R1.fourN (nat4 a * (2 : Nat) ^ Int.toNat n)) &&
        (Four.w3 (limb_Left a n) == Four.w3 (R1.fourN (nat4 a * (2 : Nat) ^ Int.toNat n)) && true)))) =
  true) ∧
  (((Four.w0 (limb_Right a n) == Four.w0 (R1.fourN (nat4 a / (2 : Nat) ^ Int.toNat n)) &&
    (Four.w1 (limb_Right a n) == Four.w1 (R1.fourN (nat4 a / (2 : Nat) ^ Int.toNat n)) &&
      (Four.w2 (limb_Right a n) == Four.w2 (R1.fourN (nat4 a / (2 : Nat) ^ Int.toNat n)) &&
        (Four.w3 (limb_Right a n) == Four.w3 (R1.fourN (nat4 a / (2 : Nat) ^ Int.toNat n)) && true)))) =
  true) ∧
  (((limb_Bit a n == UInt64.ofInt (↑(nat4 a / (2 : Nat) ^ Int.toNat n % (2 : Nat)) : Int)) = true) ∧
  ((R1.Sm (nat4 a)) ∧
  (((limb_Bits a == (↑(R1.bitsN (nat4 a)) : Int)) = true) ∧
  (((Four.w0 (limb_Select (UInt64.ofNat (Int.toNat (1 : Int))) a b) == Four.w0 a &&
    (Four.w1 (limb_Select (UInt64.ofNat (Int.toNat (1 : Int))) a b) == Four.w1 a &&
      (Four.w2 (limb_Select (UInt64.ofNat (Int.toNat (1 : Int))) a b) == Four.w2 a &&
        (Four.w3 (limb_Select (UInt64.ofNat (Int.toNat (1 : Int))) a b) == Four.w3 a && true)))) =
  true) ∧
  (((Four.w0 (limb_Select (shl64 (Four.w0 b) (UInt64.toNat (UInt64.ofNat (Int.toNat (1 : Int))))) a b) == Four.w0 b &&
    (Four.w1 (limb_Select (shl64 (Four.w0 b) (UInt64.toNat (UInt64.ofNat (Int.toNat (1 : Int))))) a b) == Four.w1 b &&
      (Four.w2 (limb_Select (shl64 (Four.w0 b) (UInt64.toNat (UInt64.ofNat (Int.toNat (1 : Int))))) a b) == Four.w2 b &&
        (Four.w3 (limb_Select (shl64 (Four.w0 b) (UInt64.toNat (UInt64.ofNat (Int.toNat (1 : Int))))) a b) ==
            Four.w3 b &&
          true)))) =
  true) ∧
  (Q (SV.bool true))))))))))))))))))) := by kernel_rfl
theorem vcBitsD (a b : Four) (n : Int) (Q : SV → Prop) : LnRaw tt spR01 9 (dBits true false true) {} Try.f6 Q (a, b, n, ()) =
  ((decide (n > (0 : Int)) = true) ∧
  ((decide (n > (0 : Int)) = true) ∧
  ((decide (n < (256 : Int)) = false) ∧
  ((decide (n ≥ (0 : Int)) = true) ∧
  ((decide (n < (256 : Int)) = false) ∧
  (((Four.w0 (limb_Left a n) == UInt64.ofNat (Int.toNat (0 : Int)) &&
    (Four.w1 (limb_Left a n) == UInt64.ofNat (Int.toNat (0 : Int)) &&
      (Four.w2 (limb_Left a n) == UInt64.ofNat (Int.toNat (0 : Int)) &&
        (Four.w3 (limb_Left a n) == UInt64.ofNat (Int.toNat (0 : Int)) && true)))) =
  true) ∧
  (((Four.w0 (limb_Right a n) == UInt64.ofNat (Int.toNat (0 : Int)) &&
    (Four.w1 (limb_Right a n) == UInt64.ofNat (Int.toNat (0 : Int)) &&
      (Four.w2 (limb_Right a n) == UInt64.ofNat (Int.toNat (0 : Int)) &&
        (Four.w3 (limb_Right a n) == UInt64.ofNat (Int.toNat (0 : Int)) && true)))) =
  true) ∧
  (((limb_Bit a n == UInt64.ofNat (Int.toNat (0 : Int))) = true) ∧
  ((R1.Sm (nat4 a)) ∧
  (((limb_Bits a == (↑(R1.bitsN (nat4 a)) : Int)) = true) ∧
  (((Four.w0 (limb_Select (UInt64.ofNat (Int.toNat (1 : Int))) a b) == Four.w0 a &&
    (Four.w1 (limb_Select (UInt64.ofNat (Int.toNat (1 : Int))) a b) == Four.w1 a &&
      (Four.w2 (limb_Select (UInt64.ofNat (Int.toNat (1 : Int))) a b) == Four.w2 a &&
        (Four.w3 (limb_Select (UInt64.ofNat (Int.toNat (1 : Int))) a b) == Four.w3 a && true)))) =
  true) ∧
  (((Four.w0 (limb_Select (shl64 (Four.w0 b) (UInt64.toNat (UInt64.ofNat (Int.toNat (1 : Int))))) a b) == Four.w0 b &&
    (Four.w1 (limb_Select (shl64 (Four.w0 b) (UInt64.toNat (UInt64.ofNat (Int.toNat (1 : Int))))) a b) == Four.w1 b &&
      (Four.w2 (limb_Select (shl64 (Four.w0 b) (UInt64.toNat (UInt64.ofNat (Int.toNat (1 : Int))))) a b) == Four.w2 b &&
        (Four.w3 (limb_Select (shl64 (Four.w0 b) (UInt64.toNat (UInt64.ofNat (Int.toNat (1 : Int))))) a b) ==
            Four.w3 b &&
          true)))) =
  true) ∧
  (Q (SV.bool true)))))))))))))) := by kernel_rfl
def dBytes (l : Bool) : Dec := (7, 4, .b true) :: (9, 2, .b l) :: dT [(10, 1), (10, 5), (14, 1), (14, 6)]
theorem vcBytes (b : List UInt8) (a : Four) (big l : Bool) (Q : SV → Prop) : LnRaw tt spR01 9 (dBytes l) {} Try.f4 Q (b, a, big, ()) =
  (((R1.Sm (nat4 a)) ∧
   (((0 : Int) ≤ (32 : Int)) ∧
   ((32 : Int) ≤ (1048576 : Int)))) ∧
  bcase (big)
    ((((R1.Sm (nat4 a)) ∧
     (((0 : Int) ≤ (32 : Int)) ∧
     ((32 : Int) ≤ (1048576 : Int)))) ∧
    ((List.length (limb_Bytes a big) ≤ (4294967296 : Nat)) ∧
    ((decide (limb_Bytes a big = List.reverse (R1.bytesN (nat4 a) (Int.toNat (32 : Int)))) = true) ∧
    ((((↑(List.length b) : Int) != (32 : Int)) = l) ∧
    bcase (l)
      ((((Prod.snd (limb_Of b big) == (2 : Int)) = true) ∧
      (((Four.w0 (Prod.fst (limb_Of b big)) == UInt64.ofNat (Int.toNat (0 : Int)) &&
    (Four.w1 (Prod.fst (limb_Of b big)) == UInt64.ofNat (Int.toNat (0 : Int)) &&
      (Four.w2 (Prod.fst (limb_Of b big)) == UInt64.ofNat (Int.toNat (0 : Int)) &&
        (Four.w3 (Prod.fst (limb_Of b big)) == UInt64.ofNat (Int.toNat (0 : Int)) && true)))) =
  true) ∧
      (Q (SV.bool true)))))
      (((List.length b ≤ (1048576 : Nat)) ∧
      bcase (big)
        (((List.length b ≤ (1048576 : Nat)) ∧
        (((Prod.snd (limb_Of b big) == (0 : Int)) = true) ∧
        ((R1.Sm (R1.bev b)) ∧
        (((Four.w0 (Prod.fst (limb_Of b big)) == Four.w0 (R1.fourN (R1.bev b)) &&
    (Four.w1 (Prod.fst (limb_Of b big)) == Four.w1 (R1.fourN (R1.bev b)) &&
      (Four.w2 (Prod.fst (limb_Of b big)) == Four.w2 (R1.fourN (R1.bev b)) &&
        (Four.w3 (Prod.fst (limb_Of b big)) == Four.w3 (R1.fourN (R1.bev b)) && true)))) =
  true) ∧
        (Q (SV.bool true)))))))
        ((((Prod.snd (limb_Of b big) == (0 : Int)) = true) ∧
        ((R1.Sm (R1.bev (List.reverse b))) ∧
        (((Four.w0 (Prod.fst (limb_Of b big)) == Four.w0 (R1.fourN (R1.bev (List.reverse b))) &&
    (Four.w1 (Prod.fst (limb_Of b big)) == Four.w1 (R1.fourN (R1.bev (List.reverse b))) &&
      (Four.w2 (Prod.fst (limb_Of b big)) == Four.w2 (R1.fourN (R1.bev (List.reverse b))) &&
        (Four.w3 (Prod.fst (limb_Of b big)) == Four.w3 (R1.fourN (R1.bev (List.reverse b))) && true)))) =
  true) ∧
        (Q (SV.bool true)))))))))))))
    (((List.length (limb_Bytes a big) ≤ (4294967296 : Nat)) ∧
    ((decide (limb_Bytes a big = R1.bytesN (nat4 a) (Int.toNat (32 : Int))) = true) ∧
    ((((↑(List.length b) : Int) != (32 : Int)) = l) ∧
    bcase (l)
      ((((Prod.snd (limb_Of b big) == (2 : Int)) = true) ∧
      (((Four.w0 (Prod.fst (limb_Of b big)) == UInt64.ofNat (Int.toNat (0 : Int)) &&
    (Four.w1 (Prod.fst (limb_Of b big)) == UInt64.ofNat (Int.toNat (0 : Int)) &&
      (Four.w2 (Prod.fst (limb_Of b big)) == UInt64.ofNat (Int.toNat (0 : Int)) &&
        (Four.w3 (Prod.fst (limb_Of b big)) == UInt64.ofNat (Int.toNat (0 : Int)) && true)))) =
  true) ∧
      (Q (SV.bool true)))))
      (((List.length b ≤ (1048576 : Nat)) ∧
      bcase (big)
        (((List.length b ≤ (1048576 : Nat)) ∧
        (((Prod.snd (limb_Of b big) == (0 : Int)) = true) ∧
        ((R1.Sm (R1.bev b)) ∧
        (((Four.w0 (Prod.fst (limb_Of b big)) == Four.w0 (R1.fourN (R1.bev b)) &&
    (Four.w1 (Prod.fst (limb_Of b big)) == Four.w1 (R1.fourN (R1.bev b)) &&
      (Four.w2 (Prod.fst (limb_Of b big)) == Four.w2 (R1.fourN (R1.bev b)) &&
        (Four.w3 (Prod.fst (limb_Of b big)) == Four.w3 (R1.fourN (R1.bev b)) && true)))) =
  true) ∧
        (Q (SV.bool true)))))))
        ((((Prod.snd (limb_Of b big) == (0 : Int)) = true) ∧
        ((R1.Sm (R1.bev (List.reverse b))) ∧
        (((Four.w0 (Prod.fst (limb_Of b big)) == Four.w0 (R1.fourN (R1.bev (List.reverse b))) &&
    (Four.w1 (Prod.fst (limb_Of b big)) == Four.w1 (R1.fourN (R1.bev (List.reverse b))) &&
      (Four.w2 (Prod.fst (limb_Of b big)) == Four.w2 (R1.fourN (R1.bev (List.reverse b))) &&
        (Four.w3 (Prod.fst (limb_Of b big)) == Four.w3 (R1.fourN (R1.bev (List.reverse b))) && true)))) =
  true) ∧
        (Q (SV.bool true))))))))))))) := by kernel_rfl
end Go.Proofs.Ythechjccpljljaa
