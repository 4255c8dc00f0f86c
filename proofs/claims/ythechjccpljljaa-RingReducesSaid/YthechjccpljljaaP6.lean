/- Layer 1's laws: plain facts. -/
import Derived.Test.YthechjccpljljaaP5
import Derived.Test.YthechjccpljljaaP4
/- Layer 1's laws: sums, products, bits, bytes: what their bodies come to. -/
namespace Go.Proofs.Ythechjccpljljaa
open Go.Sym Go.Dig

--STOP Go.Dig.Dig, R1.Dg, R1.Can, R1.Sm

def nOf : SpecF := fspec (α := Four × Unit) (β := Num) total (fun a => ⟨nat4 a.1⟩)
def spR01 : Specs := (13, nOf) :: (R1.spN ++ spL1)
def dT (l : List (Nat × Nat)) : Dec := l.map fun p => (p.1, p.2, .b true)
def dSums (c : Bool) : Dec := (9, 3, .b c) :: dT [(11, 3), (11, 9), (11, 15), (11, 20), (11, 29)]
theorem vcSums (a b : Four) (c : Bool) (Q : SV → Prop) : LnRaw tt spR01 9 (dSums c) {} Try.f3 Q (a, b, ()) =
  (((R1.Sm (nat4 a)) ∧
   (R1.Sm (nat4 b))) ∧
  ((((0 : Int) ≤ (256 : Int)) ∧
   ((256 : Int) ≤ (1073741824 : Int))) ∧
  (((R1.Sm (nat4 a)) ∧
   (R1.Sm ((2 : Nat) ^ Int.toNat (256 : Int)))) ∧
  (((R1.Sm (nat4 a + (2 : Nat) ^ Int.toNat (256 : Int))) ∧
   ((nat4 b ≤ nat4 a + (2 : Nat) ^ Int.toNat (256 : Int)) ∧
   (R1.Sm (nat4 b)))) ∧
  (((R1.Sm (nat4 a)) ∧
   (R1.Sm (nat4 b))) ∧
  ((decide (R1.cmpN (nat4 a) (nat4 b) < (0 : Int)) = c) ∧
  bcase (c)
    (((R1.Sm (nat4 a + nat4 b)) ∧
    (((Four.w0 (Prod.fst (limb_Add a b)) == Four.w0 (R1.fourN (nat4 a + nat4 b)) &&
    (Four.w1 (Prod.fst (limb_Add a b)) == Four.w1 (R1.fourN (nat4 a + nat4 b)) &&
      (Four.w2 (Prod.fst (limb_Add a b)) == Four.w2 (R1.fourN (nat4 a + nat4 b)) &&
        (Four.w3 (Prod.fst (limb_Add a b)) == Four.w3 (R1.fourN (nat4 a + nat4 b)) && true)))) =
  true) ∧
    (((R1.Sm (nat4 a + nat4 b)) ∧
     (((0 : Int) ≤ (256 : Int)) ∧
     ((256 : Int) ≤ (1073741824 : Int)))) ∧
    (((Prod.snd (limb_Add a b) == UInt64.ofInt (↑((nat4 a + nat4 b) / (2 : Nat) ^ Int.toNat (256 : Int) % (2 : Nat)) : Int)) =
  true) ∧
    ((R1.Sm (nat4 a + (2 : Nat) ^ Int.toNat (256 : Int) - nat4 b)) ∧
    (((Four.w0 (Prod.fst (limb_Sub a b)) == Four.w0 (R1.fourN (nat4 a + (2 : Nat) ^ Int.toNat (256 : Int) - nat4 b)) &&
    (Four.w1 (Prod.fst (limb_Sub a b)) == Four.w1 (R1.fourN (nat4 a + (2 : Nat) ^ Int.toNat (256 : Int) - nat4 b)) &&
      (Four.w2 (Prod.fst (limb_Sub a b)) == Four.w2 (R1.fourN (nat4 a + (2 : Nat) ^ Int.toNat (256 : Int) - nat4 b)) &&
        (Four.w3 (Prod.fst (limb_Sub a b)) ==
            Four.w3 (R1.fourN (nat4 a + (2 : Nat) ^ Int.toNat (256 : Int) - nat4 b)) &&
          true)))) =
  true) ∧
    (((Prod.snd (limb_Sub a b) == UInt64.ofNat (Int.toNat (1 : Int))) = true) ∧
    (((R1.Sm (nat4 a)) ∧
     (R1.Sm (nat4 b))) ∧
    (((limb_Cmp a b == R1.cmpN (nat4 a) (nat4 b)) = true) ∧
    (Q (SV.bool true))))))))))))
    (((R1.Sm (nat4 a + nat4 b)) ∧
    (((Four.w0 (Prod.fst (limb_Add a b)) == Four.w0 (R1.fourN (nat4 a + nat4 b)) &&
    (Four.w1 (Prod.fst (limb_Add a b)) == Four.w1 (R1.fourN (nat4 a + nat4 b)) &&
      (Four.w2 (Prod.fst (limb_Add a b)) == Four.w2 (R1.fourN (nat4 a + nat4 b)) &&
        (Four.w3 (Prod.fst (limb_Add a b)) == Four.w3 (R1.fourN (nat4 a + nat4 b)) && true)))) =
  true) ∧
    (((R1.Sm (nat4 a + nat4 b)) ∧
     (((0 : Int) ≤ (256 : Int)) ∧
     ((256 : Int) ≤ (1073741824 : Int)))) ∧
    (((Prod.snd (limb_Add a b) == UInt64.ofInt (↑((nat4 a + nat4 b) / (2 : Nat) ^ Int.toNat (256 : Int) % (2 : Nat)) : Int)) =
  true) ∧
    ((R1.Sm (nat4 a + (2 : Nat) ^ Int.toNat (256 : Int) - nat4 b)) ∧
    (((Four.w0 (Prod.fst (limb_Sub a b)) == Four.w0 (R1.fourN (nat4 a + (2 : Nat) ^ Int.toNat (256 : Int) - nat4 b)) &&
    (Four.w1 (Prod.fst (limb_Sub a b)) == Four.w1 (R1.fourN (nat4 a + (2 : Nat) ^ Int.toNat (256 : Int) - nat4 b)) &&
      (Four.w2 (Prod.fst (limb_Sub a b)) == Four.w2 (R1.fourN (nat4 a + (2 : Nat) ^ Int.toNat (256 : Int) - nat4 b)) &&
        (Four.w3 (Prod.fst (limb_Sub a b)) ==
            Four.w3 (R1.fourN (nat4 a + (2 : Nat) ^ Int.toNat (256 : Int) - nat4 b)) &&
          true)))) =
  true) ∧
    (((Prod.snd (limb_Sub a b) == UInt64.ofNat (Int.toNat (0 : Int))) = true) ∧
    (((R1.Sm (nat4 a)) ∧
     (R1.Sm (nat4 b))) ∧
    (((limb_Cmp a b == R1.cmpN (nat4 a) (nat4 b)) = true) ∧
    (Q (SV.bool true)))))))))))))))))) := by kernel_rfl
def dProducts : Dec := (9, 7, .b false) :: dT [(14, 14), (14, 20)]
theorem vcProducts (a b : Four) (w : UInt64) (Q : SV → Prop) : LnRaw tt spR01 9 dProducts {} Try.f5 Q (a, b, w, ()) =
  (((R1.Sm (nat4 a)) ∧
   (R1.Sm (nat4 b))) ∧
  (((R1.Sm (nat4 a * nat4 b)) ∧
   (((0 : Int) ≤ (8 : Int)) ∧
   ((8 : Int) ≤ (1048576 : Int)))) ∧
  ((((0 : Int) ≤ (0 : Int)) ∧
   ((0 : Int) < (↑(List.length (R1.wordsL (nat4 a * nat4 b) (Int.toNat (8 : Int)))) : Int))) ∧
  (((Eight.e0 (limb_Mul a b) !=
    List.getD (R1.wordsL (nat4 a * nat4 b) (Int.toNat (8 : Int))) (Int.toNat (0 : Int)) (0 : UInt64)) =
  false) ∧
  ((((0 : Int) ≤ IntKind.wrap IntKind.i64 ((0 : Int) + (1 : Int))) ∧
   (IntKind.wrap IntKind.i64 ((0 : Int) + (1 : Int)) <
  (↑(List.length (R1.wordsL (nat4 a * nat4 b) (Int.toNat (8 : Int)))) : Int))) ∧
  (((Eight.e1 (limb_Mul a b) !=
    List.getD (R1.wordsL (nat4 a * nat4 b) (Int.toNat (8 : Int)))
      (Int.toNat (IntKind.wrap IntKind.i64 ((0 : Int) + (1 : Int)))) (0 : UInt64)) =
  false) ∧
  ((((0 : Int) ≤ IntKind.wrap IntKind.i64 (IntKind.wrap IntKind.i64 ((0 : Int) + (1 : Int)) + (1 : Int))) ∧
   (IntKind.wrap IntKind.i64 (IntKind.wrap IntKind.i64 ((0 : Int) + (1 : Int)) + (1 : Int)) <
  (↑(List.length (R1.wordsL (nat4 a * nat4 b) (Int.toNat (8 : Int)))) : Int))) ∧
  (((Eight.e2 (limb_Mul a b) !=
    List.getD (R1.wordsL (nat4 a * nat4 b) (Int.toNat (8 : Int)))
      (Int.toNat (IntKind.wrap IntKind.i64 (IntKind.wrap IntKind.i64 ((0 : Int) + (1 : Int)) + (1 : Int))))
      (0 : UInt64)) =
  false) ∧
  ((((0 : Int) ≤
  IntKind.wrap IntKind.i64
    (IntKind.wrap IntKind.i64 (IntKind.wrap IntKind.i64 ((0 : Int) + (1 : Int)) + (1 : Int)) + (1 : Int))) ∧
   (IntKind.wrap IntKind.i64
    (IntKind.wrap IntKind.i64 (IntKind.wrap IntKind.i64 ((0 : Int) + (1 : Int)) + (1 : Int)) + (1 : Int)) <
  (↑(List.length (R1.wordsL (nat4 a * nat4 b) (Int.toNat (8 : Int)))) : Int))) ∧
  (((Eight.e3 (limb_Mul a b) !=
    List.getD (R1.wordsL (nat4 a * nat4 b) (Int.toNat (8 : Int)))
      (Int.toNat
        (IntKind.wrap IntKind.i64
          (IntKind.wrap IntKind.i64 (IntKind.wrap IntKind.i64 ((0 : Int) + (1 : Int)) + (1 : Int)) + (1 : Int))))
      (0 : UInt64)) =
  false) ∧
  ((((0 : Int) ≤
  IntKind.wrap IntKind.i64
    (IntKind.wrap IntKind.i64
        (IntKind.wrap IntKind.i64 (IntKind.wrap IntKind.i64 ((0 : Int) + (1 : Int)) + (1 : Int)) + (1 : Int)) +
      (1 : Int))) ∧
   (IntKind.wrap IntKind.i64
    (IntKind.wrap IntKind.i64
        (IntKind.wrap IntKind.i64 (IntKind.wrap IntKind.i64 ((0 : Int) + (1 : Int)) + (1 : Int)) + (1 : Int)) +
      (1 : Int)) <
  (↑(List.length (R1.wordsL (nat4 a * nat4 b) (Int.toNat (8 : Int)))) : Int))) ∧
  (((Eight.e4 (limb_Mul a b) !=
    List.getD (R1.wordsL (nat4 a * nat4 b) (Int.toNat (8 : Int)))
      (Int.toNat
        (IntKind.wrap IntKind.i64
          (IntKind.wrap IntKind.i64
              (IntKind.wrap IntKind.i64 (IntKind.wrap IntKind.i64 ((0 : Int) + (1 : Int)) + (1 : Int)) + (1 : Int)) +
            (1 : Int))))
      (0 : UInt64)) =
  false) ∧
  ((((0 : Int) ≤
  IntKind.wrap IntKind.i64
    (IntKind.wrap IntKind.i64
        (IntKind.wrap IntKind.i64
            (IntKind.wrap IntKind.i64 (IntKind.wrap IntKind.i64 ((0 : Int) + (1 : Int)) + (1 : Int)) + (1 : Int)) +
          (1 : Int)) +
      (1 : Int))) ∧
   (IntKind.wrap IntKind.i64
    (IntKind.wrap IntKind.i64
        (IntKind.wrap IntKind.i64
            (IntKind.wrap IntKind.i64 (IntKind.wrap IntKind.i64 ((0 : Int) + (1 : Int)) + (1 : Int)) + (1 : Int)) +
          (1 : Int)) +
      (1 : Int)) <
  (↑(List.length (R1.wordsL (nat4 a * nat4 b) (Int.toNat (8 : Int)))) : Int))) ∧
  (((Eight.e5 (limb_Mul a b) !=
    List.getD (R1.wordsL (nat4 a * nat4 b) (Int.toNat (8 : Int)))
      (Int.toNat
        (IntKind.wrap IntKind.i64
          (IntKind.wrap IntKind.i64
              (IntKind.wrap IntKind.i64
                  (IntKind.wrap IntKind.i64 (IntKind.wrap IntKind.i64 ((0 : Int) + (1 : Int)) + (1 : Int)) +
                    (1 : Int)) +
                (1 : Int)) +
            (1 : Int))))
      (0 : UInt64)) =
  false) ∧
  ((((0 : Int) ≤
  IntKind.wrap IntKind.i64
    (IntKind.wrap IntKind.i64
        (IntKind.wrap IntKind.i64
            (IntKind.wrap IntKind.i64
                (IntKind.wrap IntKind.i64 (IntKind.wrap IntKind.i64 ((0 : Int) + (1 : Int)) + (1 : Int)) + (1 : Int)) +
              (1 : Int)) +
          (1 : Int)) +
      (1 : Int))) ∧
   (IntKind.wrap IntKind.i64
    (IntKind.wrap IntKind.i64
        (IntKind.wrap IntKind.i64
            (IntKind.wrap IntKind.i64
                (IntKind.wrap IntKind.i64 (IntKind.wrap IntKind.i64 ((0 : Int) + (1 : Int)) + (1 : Int)) + (1 : Int)) +
              (1 : Int)) +
          (1 : Int)) +
      (1 : Int)) <
  (↑(List.length (R1.wordsL (nat4 a * nat4 b) (Int.toNat (8 : Int)))) : Int))) ∧
  (((Eight.e6 (limb_Mul a b) !=
    List.getD (R1.wordsL (nat4 a * nat4 b) (Int.toNat (8 : Int)))
      (Int.toNat
        (IntKind.wrap IntKind.i64
          (IntKind.wrap IntKind.i64
              (IntKind.wrap IntKind.i64
                  (IntKind.wrap IntKind.i64
                      (IntKind.wrap IntKind.i64 (IntKind.wrap IntKind.i64 ((0 : Int) + (1 : Int)) + (1 : Int)) +
                        (1 : Int)) +
                    (1 : Int)) +
                (1 : Int)) +
            (1 : Int))))
      (0 : UInt64)) =
  false) ∧
  ((((0 : Int) ≤
  IntKind.wrap IntKind.i64
    (IntKind.wrap IntKind.i64
        (IntKind.wrap IntKind.i64
            (IntKind.wrap IntKind.i64
                (IntKind.wrap IntKind.i64
                    (IntKind.wrap IntKind.i64 (IntKind.wrap IntKind.i64 ((0 : Int) + (1 : Int)) + (1 : Int)) +
                      (1 : Int)) +
                  (1 : Int)) +
              (1 : Int)) +
          (1 : Int)) +
      (1 : Int))) ∧
   (IntKind.wrap IntKind.i64
    (IntKind.wrap IntKind.i64
        (IntKind.wrap IntKind.i64
            (IntKind.wrap IntKind.i64
                (IntKind.wrap IntKind.i64
                    (IntKind.wrap IntKind.i64 (IntKind.wrap IntKind.i64 ((0 : Int) + (1 : Int)) + (1 : Int)) +
                      (1 : Int)) +
                  (1 : Int)) +
              (1 : Int)) +
          (1 : Int)) +
      (1 : Int)) <
  (↑(List.length (R1.wordsL (nat4 a * nat4 b) (Int.toNat (8 : Int)))) : Int))) ∧
  (((Eight.e7 (limb_Mul a b) !=
    List.getD (R1.wordsL (nat4 a * nat4 b) (Int.toNat (8 : Int)))
      (Int.toNat
        (IntKind.wrap IntKind.i64
          (IntKind.wrap IntKind.i64
              (IntKind.wrap IntKind.i64
                  (IntKind.wrap IntKind.i64
                      (IntKind.wrap IntKind.i64
                          (IntKind.wrap IntKind.i64 (IntKind.wrap IntKind.i64 ((0 : Int) + (1 : Int)) + (1 : Int)) +
                            (1 : Int)) +
                        (1 : Int)) +
                    (1 : Int)) +
                (1 : Int)) +
            (1 : Int))))
      (0 : UInt64)) =
  false) ∧
  ((List.length (List.drop (0 : Nat) (List.take ((0 : Nat) + (1 : Nat)) [w])) ≤ (1048576 : Nat)) ∧
  (((R1.Sm (nat4 a)) ∧
   (R1.Sm (R1.wv (List.drop (0 : Nat) (List.take ((0 : Nat) + (1 : Nat)) [w]))))) ∧
  (((R1.Sm (nat4 a * R1.wv (List.drop (0 : Nat) (List.take ((0 : Nat) + (1 : Nat)) [w])))) ∧
   (((0 : Int) ≤ (5 : Int)) ∧
   ((5 : Int) ≤ (1048576 : Int)))) ∧
  ((((0 : Int) ≤ (0 : Int)) ∧
   ((0 : Int) <
  (↑(List.length
        (R1.wordsL (nat4 a * R1.wv (List.drop (0 : Nat) (List.take ((0 : Nat) + (1 : Nat)) [w])))
          (Int.toNat (5 : Int)))) :
    Int))) ∧
  ((((0 : Int) ≤ (1 : Int)) ∧
   ((1 : Int) <
  (↑(List.length
        (R1.wordsL (nat4 a * R1.wv (List.drop (0 : Nat) (List.take ((0 : Nat) + (1 : Nat)) [w])))
          (Int.toNat (5 : Int)))) :
    Int))) ∧
  ((((0 : Int) ≤ (2 : Int)) ∧
   ((2 : Int) <
  (↑(List.length
        (R1.wordsL (nat4 a * R1.wv (List.drop (0 : Nat) (List.take ((0 : Nat) + (1 : Nat)) [w])))
          (Int.toNat (5 : Int)))) :
    Int))) ∧
  ((((0 : Int) ≤ (3 : Int)) ∧
   ((3 : Int) <
  (↑(List.length
        (R1.wordsL (nat4 a * R1.wv (List.drop (0 : Nat) (List.take ((0 : Nat) + (1 : Nat)) [w])))
          (Int.toNat (5 : Int)))) :
    Int))) ∧
  (((Four.w0 (Prod.fst (limb_MulWord a w)) ==
      List.getD
        (R1.wordsL (nat4 a * R1.wv (List.drop (0 : Nat) (List.take ((0 : Nat) + (1 : Nat)) [w]))) (Int.toNat (5 : Int)))
        (Int.toNat (0 : Int)) (0 : UInt64) &&
    (Four.w1 (Prod.fst (limb_MulWord a w)) ==
        List.getD
          (R1.wordsL (nat4 a * R1.wv (List.drop (0 : Nat) (List.take ((0 : Nat) + (1 : Nat)) [w])))
            (Int.toNat (5 : Int)))
          (Int.toNat (1 : Int)) (0 : UInt64) &&
      (Four.w2 (Prod.fst (limb_MulWord a w)) ==
          List.getD
            (R1.wordsL (nat4 a * R1.wv (List.drop (0 : Nat) (List.take ((0 : Nat) + (1 : Nat)) [w])))
              (Int.toNat (5 : Int)))
            (Int.toNat (2 : Int)) (0 : UInt64) &&
        (Four.w3 (Prod.fst (limb_MulWord a w)) ==
            List.getD
              (R1.wordsL (nat4 a * R1.wv (List.drop (0 : Nat) (List.take ((0 : Nat) + (1 : Nat)) [w])))
                (Int.toNat (5 : Int)))
              (Int.toNat (3 : Int)) (0 : UInt64) &&
          true)))) =
  true) ∧
  ((((0 : Int) ≤ (4 : Int)) ∧
   ((4 : Int) <
  (↑(List.length
        (R1.wordsL (nat4 a * R1.wv (List.drop (0 : Nat) (List.take ((0 : Nat) + (1 : Nat)) [w])))
          (Int.toNat (5 : Int)))) :
    Int))) ∧
  (((Prod.snd (limb_MulWord a w) ==
    List.getD
      (R1.wordsL (nat4 a * R1.wv (List.drop (0 : Nat) (List.take ((0 : Nat) + (1 : Nat)) [w]))) (Int.toNat (5 : Int)))
      (Int.toNat (4 : Int)) (0 : UInt64)) =
  true) ∧
  (Q (SV.bool true)))))))))))))))))))))))))))))) := by kernel_rfl
def dBits (p q r : Bool) : Dec := (5, 1, .b p) :: (7, 1, .b p) :: (7, 4, .b q) :: (10, 1, .b r) :: (10, 4, .b q) :: dT [(12, 4), (12, 10), (12, 17), (12, 24), (12, 31), (12, 41)]
theorem vcBitsA (a b : Four) (n : Int) (Q : SV → Prop) : LnRaw tt spR01 9 (dBits false true false) {} Try.f6 Q (a, b, n, ()) =
  ((decide (n > (0 : Int)) = false) ∧
  ((decide (n > (0 : Int)) = false) ∧
  ((decide (n ≥ (0 : Int)) = false) ∧
  (((Four.w0 (limb_Left a n) == Four.w0 a &&
    (Four.w1 (limb_Left a n) == Four.w1 a &&
      (Four.w2 (limb_Left a n) == Four.w2 a && (Four.w3 (limb_Left a n) == Four.w3 a && true)))) =
  true) ∧
  (((Four.w0 (limb_Right a n) == Four.w0 a &&
    (Four.w1 (limb_Right a n) == Four.w1 a &&
      (Four.w2 (limb_Right a n) == Four.w2 a && (Four.w3 (limb_Right a n) == Four.w3 a && true)))) =
  true) ∧
  (((limb_Bit a n == UInt64.ofNat (Int.toNat (0 : Int))) = true) ∧
  ((R1.Sm (nat4 a)) ∧
  (((limb_Bits a == (↑(R1.bitsN (nat4 a)) : Int)) = true) ∧
  (((Four.w0 (limb_Select (UInt64.ofNat (Int.toNat (1 : Int))) a b) == Four.w0 a &&
    (Four.w1 (limb_Select (UInt64.ofNat (Int.toNat (1 : Int))) a b) == Four.w1 a &&
      (Four.w2 (limb_Select (UInt64.ofNat (Int.toNat (1 : Int))) a b) == Four.w2 a &&
        (Four.w3 (limb_Select (UInt64.ofNat (Int.toNat (1 : Int))) a b) == Four.w3 a && true)))) =
  true) ∧
  (((Four.w0 (limb_Select (shl64 (Four.w0 b) (UInt64.toNat (UInt64.ofNat (Int.toNat (1 : Int))))) a b) == Four.w0 b &&
    (Four.w1 (limb_Select (shl64 (Four.w0 b) (UInt64.toNat (UInt64.ofNat (Int.toNat (1 : Int))))) a b) == Four.w1 b &&
      (Four.w2 (limb_Select (shl64 (Four.w0 b) (UInt64.toNat (UInt64.ofNat (Int.toNat (1 : Int))))) a b) == Four.w2 b &&
        (Four.w3 (limb_Select (shl64 (Four.w0 b) (UInt64.toNat (UInt64.ofNat (Int.toNat (1 : Int))))) a b) ==
            Four.w3 b &&
          true)))) =
  true) ∧
  (Q (SV.bool true)))))))))))) := by kernel_rfl
theorem vcBitsB (a b : Four) (n : Int) (Q : SV → Prop) : LnRaw tt spR01 9 (dBits false true true) {} Try.f6 Q (a, b, n, ()) =
  ((decide (n > (0 : Int)) = false) ∧
  ((decide (n > (0 : Int)) = false) ∧
  ((decide (n ≥ (0 : Int)) = true) ∧
  ((decide (n < (256 : Int)) = true) ∧
  (((R1.Sm (nat4 a)) ∧
   (((0 : Int) ≤ n) ∧
   (n ≤ (1073741824 : Int)))) ∧
  (((Four.w0 (limb_Left a n) == Four.w0 a &&
    (Four.w1 (limb_Left a n) == Four.w1 a &&
      (Four.w2 (limb_Left a n) == Four.w2 a && (Four.w3 (limb_Left a n) == Four.w3 a && true)))) =
  true) ∧
  (((Four.w0 (limb_Right a n) == Four.w0 a &&
    (Four.w1 (limb_Right a n) == Four.w1 a &&
      (Four.w2 (limb_Right a n) == Four.w2 a && (Four.w3 (limb_Right a n) == Four.w3 a && true)))) =
  true) ∧
  (((limb_Bit a n == UInt64.ofInt (↑(nat4 a / (2 : Nat) ^ Int.toNat n % (2 : Nat)) : Int)) = true) ∧
  ((R1.Sm (nat4 a)) ∧
  (((limb_Bits a == (↑(R1.bitsN (nat4 a)) : Int)) = true) ∧
  (((Four.w0 (limb_Select (UInt64.ofNat (Int.toNat (1 : Int))) a b) == Four.w0 a &&
    (Four.w1 (limb_Select (UInt64.ofNat (Int.toNat (1 : Int))) a b) == Four.w1 a &&
      (Four.w2 (limb_Select (UInt64.ofNat (Int.toNat (1 : Int))) a b) == Four.w2 a &&
        (Four.w3 (limb_Select (UInt64.ofNat (Int.toNat (1 : Int))) a b) == Four.w3 a && true)))) =
  true) ∧
  (((Four.w0 (limb_Select (shl64 (Four.w0 b) (UInt64.toNat (UInt64.ofNat (Int.toNat (1 : Int))))) a b) == Four.w0 b &&
    (Four.w1 (limb_Select (shl64 (Four.w0 b) (UInt64.toNat (UInt64.ofNat (Int.toNat (1 : Int))))) a b) == Four.w1 b &&
      (Four.w2 (limb_Select (shl64 (Four.w0 b) (UInt64.toNat (UInt64.ofNat (Int.toNat (1 : Int))))) a b) == Four.w2 b &&
        (Four.w3 (limb_Select (shl64 (Four.w0 b) (UInt64.toNat (UInt64.ofNat (Int.toNat (1 : Int))))) a b) ==
            Four.w3 b &&
          true)))) =
  true) ∧
  (Q (SV.bool true)))))))))))))) := by kernel_rfl
theorem vcBitsC (a b : Four) (n : Int) (Q : SV → Prop) : LnRaw tt spR01 9 (dBits true true true) {} Try.f6 Q (a, b, n, ()) =
  ((decide (n > (0 : Int)) = true) ∧
  ((decide (n > (0 : Int)) = true) ∧
  ((decide (n < (256 : Int)) = true) ∧
  (((List.length (dg (nat4 a)) ≤ (536870912 : Nat)) ∧
   (((0 : Int) ≤ n) ∧
   (n ≤ (1073741824 : Int)))) ∧
  ((R1.Sm (nat4 a * (2 : Nat) ^ Int.toNat n)) ∧
  (((R1.Sm (nat4 a)) ∧
   (((0 : Int) ≤ n) ∧
   (n ≤ (1073741824 : Int)))) ∧
  ((R1.Sm (nat4 a / (2 : Nat) ^ Int.toNat n)) ∧
  ((decide (n ≥ (0 : Int)) = true) ∧
  ((decide (n < (256 : Int)) = true) ∧
  (((R1.Sm (nat4 a)) ∧
   (((0 : Int) ≤ n) ∧
   (n ≤ (1073741824 : Int)))) ∧
  (((Four.w0 (limb_Left a n) == Four.w0 (R1.fourN (nat4 a * (2 : Nat) ^ Int.toNat n)) &&
    (Four.w1 (limb_Left a n) == Four.w1 (R1.fourN (nat4 a * (2 : Nat) ^ Int.toNat n)) &&
      (Four.w2 (limb_Left a n) == Four.w2 (R1.fourN (nat4 a * (2 : Nat) ^ Int.toNat n)) &&
        (Four.w3 (limb_Left a n) == Four.w3 (R1.fourN (nat4 a * (2 : Nat) ^ Int.toNat n)) && true)))) =
  true) ∧
  (((Four.w0 (limb_Right a n) == Four.w0 (R1.fourN (nat4 a / (2 : Nat) ^ Int.toNat n)) &&
    (Four.w1 (limb_Right a n) == Four.w1 (R1.fourN (nat4 a / (2 : Nat) ^ Int.toNat n)) &&
      (Four.w2 (limb_Right a n) == Four.w2 (R1.fourN (nat4 a / (2 : Nat) ^ Int.toNat n)) &&
        (Four.w3 (limb_Right a n) == Four.w3 (R1.fourN (nat4 a / (2 : Nat) ^ Int.toNat n)) && true)))) =
  true) ∧
  (((limb_Bit a n == UInt64.ofInt (↑(nat4 a / (2 : Nat) ^ Int.toNat n % (2 : Nat)) : Int)) = true) ∧
  ((R1.Sm (nat4 a)) ∧
  (((limb_Bits a == (↑(R1.bitsN (nat4 a)) : Int)) = true) ∧
  (((Four.w0 (limb_Select (UInt64.ofNat (Int.toNat (1 : Int))) a b) == Four.w0 a &&
    (Four.w1 (limb_Select (UInt64.ofNat (Int.toNat (1 : Int))) a b) == Four.w1 a &&
      (Four.w2 (limb_Select (UInt64.ofNat (Int.toNat (1 : Int))) a b) == Four.w2 a &&
        (Four.w3 (limb_Select (UInt64.ofNat (Int.toNat (1 : Int))) a b) == Four.w3 a && true)))) =
  true) ∧
  (((Four.w0 (limb_Select (shl64 (Four.w0 b) (UInt64.toNat (UInt64.ofNat (Int.toNat (1 : Int))))) a b) == Four.w0 b &&
    (Four.w1 (limb_Select (shl64 (Four.w0 b) (UInt64.toNat (UInt64.ofNat (Int.toNat (1 : Int))))) a b) == Four.w1 b &&
      (Four.w2 (limb_Select (shl64 (Four.w0 b) (UInt64.toNat (UInt64.ofNat (Int.toNat (1 : Int))))) a b) == Four.w2 b &&
        (Four.w3 (limb_Select (shl64 (Four.w0 b) (UInt64.toNat (UInt64.ofNat (Int.toNat (1 : Int))))) a b) ==
            Four.w3 b &&
          true)))) =
  true) ∧
  (Q (SV.bool true))))))))))))))))))) := by kernel_rfl
theorem vcBitsD (a b : Four) (n : Int) (Q : SV → Prop) : LnRaw tt spR01 9 (dBits true false true) {} Try.f6 Q (a, b, n, ()) =
  ((decide (n > (0 : Int)) = true) ∧
  ((decide (n > (0 : Int)) = true) ∧
  ((decide (n < (256 : Int)) = false) ∧
  ((decide (n ≥ (0 : Int)) = true) ∧
  ((decide (n < (256 : Int)) = false) ∧
  (((Four.w0 (limb_Left a n) == UInt64.ofNat (Int.toNat (0 : Int)) &&
    (Four.w1 (limb_Left a n) == UInt64.ofNat (Int.toNat (0 : Int)) &&
      (Four.w2 (limb_Left a n) == UInt64.ofNat (Int.toNat (0 : Int)) &&
        (Four.w3 (limb_Left a n) == UInt64.ofNat (Int.toNat (0 : Int)) && true)))) =
  true) ∧
  (((Four.w0 (limb_Right a n) == UInt64.ofNat (Int.toNat (0 : Int)) &&
    (Four.w1 (limb_Right a n) == UInt64.ofNat (Int.toNat (0 : Int)) &&
      (Four.w2 (limb_Right a n) == UInt64.ofNat (Int.toNat (0 : Int)) &&
        (Four.w3 (limb_Right a n) == UInt64.ofNat (Int.toNat (0 : Int)) && true)))) =
  true) ∧
  (((limb_Bit a n == UInt64.ofNat (Int.toNat (0 : Int))) = true) ∧
  ((R1.Sm (nat4 a)) ∧
  (((limb_Bits a == (↑(R1.bitsN (nat4 a)) : Int)) = true) ∧
  (((Four.w0 (limb_Select (UInt64.ofNat (Int.toNat (1 : Int))) a b) == Four.w0 a &&
    (Four.w1 (limb_Select (UInt64.ofNat (Int.toNat (1 : Int))) a b) == Four.w1 a &&
      (Four.w2 (limb_Select (UInt64.ofNat (Int.toNat (1 : Int))) a b) == Four.w2 a &&
        (Four.w3 (limb_Select (UInt64.ofNat (Int.toNat (1 : Int))) a b) == Four.w3 a && true)))) =
  true) ∧
  (((Four.w0 (limb_Select (shl64 (Four.w0 b) (UInt64.toNat (UInt64.ofNat (Int.toNat (1 : Int))))) a b) == Four.w0 b &&
    (Four.w1 (limb_Select (shl64 (Four.w0 b) (UInt64.toNat (UInt64.ofNat (Int.toNat (1 : Int))))) a b) == Four.w1 b &&
      (Four.w2 (limb_Select (shl64 (Four.w0 b) (UInt64.toNat (UInt64.ofNat (Int.toNat (1 : Int))))) a b) == Four.w2 b &&
        (Four.w3 (limb_Select (shl64 (Four.w0 b) (UInt64.toNat (UInt64.ofNat (Int.toNat (1 : Int))))) a b) ==
            Four.w3 b &&
          true)))) =
  true) ∧
  (Q (SV.bool true)))))))))))))) := by kernel_rfl
def dBytes (l : Bool) : Dec := (7, 4, .b true) :: (9, 2, .b l) :: dT [(10, 1), (10, 5), (14, 1), (14, 6)]
theorem vcBytes (b : List UInt8) (a : Four) (big l : Bool) (Q : SV → Prop) : LnRaw tt spR01 9 (dBytes l) {} Try.f4 Q (b, a, big, ()) =
  (((R1.Sm (nat4 a)) ∧
   (((0 : Int) ≤ (32 : Int)) ∧
   ((32 : Int) ≤ (1048576 : Int)))) ∧
  bcase (big)
    ((((R1.Sm (nat4 a)) ∧
     (((0 : Int) ≤ (32 : Int)) ∧
     ((32 : Int) ≤ (1048576 : Int)))) ∧
    ((List.length (limb_Bytes a big) ≤ (4294967296 : Nat)) ∧
    ((decide (limb_Bytes a big = List.reverse (R1.bytesN (nat4 a) (Int.toNat (32 : Int)))) = true) ∧
    ((((↑(List.length b) : Int) != (32 : Int)) = l) ∧
    bcase (l)
      ((((Prod.snd (limb_Of b big) == (2 : Int)) = true) ∧
      (((Four.w0 (Prod.fst (limb_Of b big)) == UInt64.ofNat (Int.toNat (0 : Int)) &&
    (Four.w1 (Prod.fst (limb_Of b big)) == UInt64.ofNat (Int.toNat (0 : Int)) &&
      (Four.w2 (Prod.fst (limb_Of b big)) == UInt64.ofNat (Int.toNat (0 : Int)) &&
        (Four.w3 (Prod.fst (limb_Of b big)) == UInt64.ofNat (Int.toNat (0 : Int)) && true)))) =
  true) ∧
      (Q (SV.bool true)))))
      (((List.length b ≤ (1048576 : Nat)) ∧
      bcase (big)
        (((List.length b ≤ (1048576 : Nat)) ∧
        (((Prod.snd (limb_Of b big) == (0 : Int)) = true) ∧
        ((R1.Sm (R1.bev b)) ∧
        (((Four.w0 (Prod.fst (limb_Of b big)) == Four.w0 (R1.fourN (R1.bev b)) &&
    (Four.w1 (Prod.fst (limb_Of b big)) == Four.w1 (R1.fourN (R1.bev b)) &&
      (Four.w2 (Prod.fst (limb_Of b big)) == Four.w2 (R1.fourN (R1.bev b)) &&
        (Four.w3 (Prod.fst (limb_Of b big)) == Four.w3 (R1.fourN (R1.bev b)) && true)))) =
  true) ∧
        (Q (SV.bool true)))))))
        ((((Prod.snd (limb_Of b big) == (0 : Int)) = true) ∧
        ((R1.Sm (R1.bev (List.reverse b))) ∧
        (((Four.w0 (Prod.fst (limb_Of b big)) == Four.w0 (R1.fourN (R1.bev (List.reverse b))) &&
    (Four.w1 (Prod.fst (limb_Of b big)) == Four.w1 (R1.fourN (R1.bev (List.reverse b))) &&
      (Four.w2 (Prod.fst (limb_Of b big)) == Four.w2 (R1.fourN (R1.bev (List.reverse b))) &&
        (Four.w3 (Prod.fst (limb_Of b big)) == Four.w3 (R1.fourN (R1.bev (List.reverse b))) && true)))) =
  true) ∧
        (Q (SV.bool true)))))))))))))
    (((List.length (limb_Bytes a big) ≤ (4294967296 : Nat)) ∧
    ((decide (limb_Bytes a big = R1.bytesN (nat4 a) (Int.toNat (32 : Int))) = true) ∧
    ((((↑(List.length b) : Int) != (32 : Int)) = l) ∧
    bcase (l)
      ((((Prod.snd (limb_Of b big) == (2 : Int)) = true) ∧
      (((Four.w0 (Prod.fst (limb_Of b big)) == UInt64.ofNat (Int.toNat (0 : Int)) &&
    (Four.w1 (Prod.fst (limb_Of b big)) == UInt64.ofNat (Int.toNat (0 : Int)) &&
      (Four.w2 (Prod.fst (limb_Of b big)) == UInt64.ofNat (Int.toNat (0 : Int)) &&
        (Four.w3 (Prod.fst (limb_Of b big)) == UInt64.ofNat (Int.toNat (0 : Int)) && true)))) =
  true) ∧
      (Q (SV.bool true)))))
      (((List.length b ≤ (1048576 : Nat)) ∧
      bcase (big)
        (((List.length b ≤ (1048576 : Nat)) ∧
        (((Prod.snd (limb_Of b big) == (0 : Int)) = true) ∧
        ((R1.Sm (R1.bev b)) ∧
        (((Four.w0 (Prod.fst (limb_Of b big)) == Four.w0 (R1.fourN (R1.bev b)) &&
    (Four.w1 (Prod.fst (limb_Of b big)) == Four.w1 (R1.fourN (R1.bev b)) &&
      (Four.w2 (Prod.fst (limb_Of b big)) == Four.w2 (R1.fourN (R1.bev b)) &&
        (Four.w3 (Prod.fst (limb_Of b big)) == Four.w3 (R1.fourN (R1.bev b)) && true)))) =
  true) ∧
        (Q (SV.bool true)))))))
        ((((Prod.snd (limb_Of b big) == (0 : Int)) = true) ∧
        ((R1.Sm (R1.bev (List.reverse b))) ∧
        (((Four.w0 (Prod.fst (limb_Of b big)) == Four.w0 (R1.fourN (R1.bev (List.reverse b))) &&
    (Four.w1 (Prod.fst (limb_Of b big)) == Four.w1 (R1.fourN (R1.bev (List.reverse b))) &&
      (Four.w2 (Prod.fst (limb_Of b big)) == Four.w2 (R1.fourN (R1.bev (List.reverse b))) &&
        (Four.w3 (Prod.fst (limb_Of b big)) == Four.w3 (R1.fourN (R1.bev (List.reverse b))) && true)))) =
  true) ∧
        (Q (SV.bool true))))))))))))) := by kernel_rfl
end Go.Proofs.Ythechjccpljljaa
/- Layer 1's laws: plain facts on words, bytes and bits of numbers. -/
namespace Go.Proofs.Ythechjccpljljaa
open Go.Sym Go.Dig

theorem wv_nat4 (a : Four) : R1.wv [a.w0, a.w1, a.w2, a.w3] = nat4 a := by simp only [R1.wv, nat4]; omega
theorem ok_nOf : SpecOK Try.prog 13 nOf := fspec_weaken R1.ok_Of id (fun _ _ _ _ h => h) (fun _ => rfl) (fun _ h => h) (fun a _ _ _ _ r => by
  have : R1.wv [a.1.w0, a.1.w1, a.1.w2, a.1.w3] = nat4 a.1 := wv_nat4 _
  simpa only [id, this] using r)
theorem spR01_ok : SpecsOK Try.prog spR01 := .cons ok_nOf (SpecsOK.append R1.spN_ok spL1_ok)

theorem p256 : (2 : Nat) ^ Int.toNat 256 = 115792089237316195423570985008687907853269984665640564039457584007913129639936 := by decide +kernel
theorem n128 (m : Nat) : m / 2 ^ 128 = m / 18446744073709551616 / 18446744073709551616 := by rw [Nat.div_div_eq_div_mul]
theorem n192 (m : Nat) : m / 2 ^ 192 = m / 18446744073709551616 / 18446744073709551616 / 18446744073709551616 := by rw [Nat.div_div_eq_div_mul, Nat.div_div_eq_div_mul]
theorem nat4_fourN (m : Nat) : nat4 (R1.fourN m) = m % 115792089237316195423570985008687907853269984665640564039457584007913129639936 := by
  simp only [nat4, R1.fourN, UInt64.toNat_ofNat', n128, n192]
  omega
theorem four_eq {x : Four} {m : Nat} (h : nat4 x = m % 115792089237316195423570985008687907853269984665640564039457584007913129639936) : x = R1.fourN m := nat4_inj (by rw [nat4_fourN, h])
theorem eq4_of {x y : Four} (h : x = y) : eq4 x y = true := by rw [h, eq4_self]
theorem Sm4 (a : Four) : R1.Sm (nat4 a) := R1.Sm.of 11 (Nat.lt_of_lt_of_le (nat4_lt a) (by decide +kernel)) (by omega)
theorem SmB {m : Nat} (h : m < 115792089237316195423570985008687907853269984665640564039457584007913129639936 * 115792089237316195423570985008687907853269984665640564039457584007913129639936 * 115792089237316195423570985008687907853269984665640564039457584007913129639936) : R1.Sm m := R1.Sm.of 32 (Nat.lt_of_lt_of_le h (by decide +kernel)) (by omega)

/-! Words. -/
theorem nat4_word (a : Four) (i : Nat) (hi : i < 4) : nat4 a / 2 ^ (64 * i) % 18446744073709551616 = (w4 a i).toNat := by
  have := u64_lt a.w0; have := u64_lt a.w1; have := u64_lt a.w2; have := u64_lt a.w3
  have : i = 0 ∨ i = 1 ∨ i = 2 ∨ i = 3 := by omega
  rcases this with rfl | rfl | rfl | rfl
  · simp only [nat4, w4, Nat.mul_zero, Nat.pow_zero, Nat.div_one]; omega
  · have e : (2 : Nat) ^ (64 * 1) = 18446744073709551616 := rfl
    rw [e]; simp only [nat4, w4]; omega
  · rw [show 64 * 2 = 128 from rfl, n128]; simp only [nat4, w4]; omega
  · rw [show 64 * 3 = 192 from rfl, n192]; simp only [nat4, w4]; omega
theorem mod_bit (m r k : Nat) (h : k + r ≤ 64) : m % 18446744073709551616 / 2 ^ r % 2 ^ k = m / 2 ^ r % 2 ^ k := by
  have e : (18446744073709551616 : Nat) = 2 ^ r * 2 ^ (64 - r) := by rw [← Nat.pow_add, show r + (64 - r) = 64 by omega]
  rw [e, Nat.mod_mul_right_div_self, Nat.mod_mod_of_dvd]
  exact ⟨2 ^ (64 - r - k), by rw [← Nat.pow_add]; congr 1; omega⟩
theorem word_bits (a : Four) (n k : Nat) (hn : n < 256) (h : k + n % 64 ≤ 64) : nat4 a / 2 ^ n % 2 ^ k = (w4 a (n / 64)).toNat / 2 ^ (n % 64) % 2 ^ k := by
  rw [← nat4_word a (n / 64) (by omega), mod_bit _ _ _ h, Nat.div_div_eq_div_mul, ← Nat.pow_add, show 64 * (n / 64) + n % 64 = n by omega]
theorem and_one (x : UInt64) : (x &&& 1).toNat = x.toNat % 2 := by
  rw [UInt64.toNat_and]; exact Nat.and_one_is_mod _
theorem bit_nat (a : Four) (n : Nat) (h : n < 256) : (bitN a n).toNat = nat4 a / 2 ^ n % 2 := by
  have := word_bits a n 1 h (by omega)
  rw [Nat.pow_one] at this
  rw [this]
  have : n / 64 = 0 ∨ n / 64 = 1 ∨ n / 64 = 2 ∨ n / 64 = 3 := by omega
  unfold bitN
  rcases this with e | e | e | e <;> rw [e] <;> simp only [and_one, shr64_nat, w4]

/-! Bytes. -/
def lev : List UInt8 → Nat
  | [] => 0
  | x :: l => x.toNat + 256 * lev l
theorem bev_reverse (l : List UInt8) : R1.bev l.reverse = lev l := by
  induction l with
  | nil => rfl
  | cons x l ih => rw [List.reverse_cons, R1.bev_snoc, ih]; simp only [lev]; omega
theorem bev_lev (l : List UInt8) : R1.bev l = lev l.reverse := by rw [← bev_reverse, List.reverse_reverse]
theorem bytesN_lev : ∀ l : List UInt8, R1.bytesN (lev l) l.length = l
  | [] => rfl
  | x :: l => by
    have ih := bytesN_lev l
    have hx := u8_lt x
    unfold R1.bytesN at ih ⊢
    rw [List.length_cons, List.range_succ_eq_map, List.map_cons, List.map_map]
    congr 1
    · apply UInt8.toNat_inj.1
      simp only [UInt8.toNat_ofNat', lev, Nat.pow_zero, Nat.div_one]
      omega
    · conv => rhs; rw [← ih]
      apply List.map_congr_left
      intro i _
      simp only [Function.comp, Nat.succ_eq_add_one]
      rw [Nat.pow_succ', ← Nat.div_div_eq_div_mul]
      congr 2
      simp only [lev]
      omega
theorem lev_lt : ∀ l : List UInt8, lev l < 2 ^ (8 * l.length)
  | [] => by simp [lev]
  | x :: l => by
    have := lev_lt l
    have := u8_lt x
    rw [List.length_cons, show 8 * (l.length + 1) = 8 * l.length + 8 by omega, Nat.pow_add]
    simp only [lev]; omega
theorem bytesL_N (a : Four) : bytesL a = R1.bytesN (nat4 a) 32 := by
  have hl : (bytesL a).length = 32 := by simp [bytesL]
  apply List.ext_getElem (by rw [hl, R1.bytesN_len])
  intro k h1 h2
  have hk : k < 32 := by omega
  have e := bytesL_get a k hk
  rw [List.getD_eq_getElem?_getD, List.getElem?_eq_getElem h1] at e
  apply UInt8.toNat_inj.1
  have e2 : ((R1.bytesN (nat4 a) 32)[k]).toNat = nat4 a / 256 ^ k % 256 := by simp [R1.bytesN]
  refine e.trans (Eq.trans ?_ e2.symm)
  have := word_bits a (8 * k) 8 (by omega) (by omega)
  rw [R1.pow256, this, show 8 * k / 64 = k / 8 by omega, show 8 * k % 64 = 8 * (k % 8) by omega]
theorem bytes_N (a : Four) (big : Bool) : limb_Bytes a big = cond big (R1.bytesN (nat4 a) 32).reverse (R1.bytesN (nat4 a) 32) := by
  unfold limb_Bytes; rw [bytesL_N]
/-- 32 bytes are a number's. -/
theorem of_nat (b : List UInt8) (big : Bool) (h : b.length = 32) : limb_Of b big = (R1.fourN (cond big (R1.bev b) (R1.bev b.reverse)), 0) := by
  have key : ∀ l : List UInt8, l.length = 32 → R1.bytesN (nat4 (R1.fourN (lev l))) 32 = l := by
    intro l hl
    have h1 := bytesN_lev l
    have h2 := lev_lt l
    rw [hl] at h1 h2
    rw [nat4_fourN, Nat.mod_eq_of_lt (Nat.lt_of_lt_of_le h2 (by decide +kernel)), h1]
  have hb : b = limb_Bytes (R1.fourN (cond big (R1.bev b) (R1.bev b.reverse))) big := by
    rw [bytes_N]
    cases big with
    | false => simp only [cond_false]; rw [bev_reverse, key b h]
    | true => simp only [cond_true]; rw [bev_lev, key b.reverse (by simpa using h), List.reverse_reverse]
  conv => lhs; rw [hb]
  rw [of_bytes]

/-! What is selected. -/
theorem select_one (c : UInt64) (a b : Four) (h : c.toNat % 2 = 1) : limb_Select c a b = a := by
  have : c &&& 1 = 1 := UInt64.toNat_inj.1 (by rw [and_one, h]; rfl)
  have e : ∀ x y : UInt64, x &&& (0 - 1) ||| y &&& ~~~(0 - 1) = x := fun x y => by
    have h1 : (0 - 1 : UInt64) = ~~~0 := by decide
    rw [h1, UInt64.not_not]; simp
  simp only [limb_Select, this, e]
theorem select_zero (c : UInt64) (a b : Four) (h : c.toNat % 2 = 0) : limb_Select c a b = b := by
  have : c &&& 1 = 0 := UInt64.toNat_inj.1 (by rw [and_one, h]; rfl)
  have e : ∀ x y : UInt64, x &&& (0 - 0) ||| y &&& ~~~(0 - 0) = y := fun x y => by simp
  simp only [limb_Select, this, e]
end Go.Proofs.Ythechjccpljljaa
