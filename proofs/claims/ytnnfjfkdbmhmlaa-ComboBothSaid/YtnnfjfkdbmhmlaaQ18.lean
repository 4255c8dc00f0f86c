/- A symbolic machine for Go functions, and what the functions that the law reaches come to: EdP. -/
import Derived.Test.YtnnfjfkdbmhmlaaQ16
import Derived.Test.YtnnfjfkdbmhmlaaQ17
import Derived.Test.YtnnfjfkdbmhmlaaQ13
/- Layer 10's laws: what their bodies come to. -/
set_option maxRecDepth 10000
namespace Go.Proofs.Ytnnfjfkdbmhmlaa.E10
open Go.Sym Go.Dig R1 F4
--STOP R1.Sm, Lm, Lh, eSides, eFlat, ePair, eAdd, eDouble, eNeg, eEight, eSame, eFrom, eOf, eSmall, eBytes, eZero, eBase, rAdd, rNeg, rOf, rSame, rBytes, rPairX, rPairY, onN, smallV, rZero

/-- As bytes they are the same: so it is. -/
noncomputable def sIs10 : SpecF := fspec (α := Pt × RP × Unit) (fun a => some ((Lh a.2.1.x ∧ Lh a.2.1.y ∧ Lh a.2.1.z) ∧ eBytes a.1 = rBytes a.2.1)) (fun _ => true)
theorem vcIs10 (p : Pt) (r : RP) (Q : SV → Prop) : LnRaw tt (spE4 ++ spK4) 9 [(1, 4, .b true)] {} Try.f50 Q (p, r, ()) =
  (((Lh (RP.x r)) ∧
   ((Lh (RP.y r)) ∧
   (Lh (RP.z r)))) ∧
  ((List.length (List.drop (0 : Nat) (List.take ((0 : Nat) + List.length (eBytes p)) (eBytes p))) ≤ (4294967296 : Nat)) ∧
  ((decide (List.drop (0 : Nat) (List.take ((0 : Nat) + List.length (eBytes p)) (eBytes p)) = rBytes r) = true) ∧
  (Q (SV.bool true))))) := by kernel_rfl
theorem vcAwake10 (Q : SV → Prop) : LnRaw tt spE4 9 [(2, 2, .b true), (2, 7, .b true), (2, 13, .b true), (2, 19, .b true)] {} Try.f47 Q () =
  ((((↑(List.length (eBytes eBase)) : Int) == (32 : Int)) = true) ∧
  ((((0 : Int) ≤ (0 : Int)) ∧
   ((0 : Int) < (↑(List.length (eBytes eBase)) : Int))) ∧
  (((List.getD (eBytes eBase) ((0 : Nat) + Int.toNat (0 : Int)) (0 : UInt8) == UInt8.ofNat (Int.toNat (88 : Int))) = true) ∧
  ((((0 : Int) ≤ (1 : Int)) ∧
   ((1 : Int) < (↑(List.length (eBytes eBase)) : Int))) ∧
  (((List.getD (eBytes eBase) ((0 : Nat) + Int.toNat (1 : Int)) (0 : UInt8) == UInt8.ofNat (Int.toNat (102 : Int))) = true) ∧
  ((((0 : Int) ≤ (31 : Int)) ∧
   ((31 : Int) < (↑(List.length (eBytes eBase)) : Int))) ∧
  (((List.getD (eBytes eBase) ((0 : Nat) + Int.toNat (31 : Int)) (0 : UInt8) == UInt8.ofNat (Int.toNat (102 : Int))) = true) ∧
  (Q (SV.bool true))))))))) := by kernel_rfl
abbrev sAw10 : SpecF := fspec (α := Unit) total fun _ => true
noncomputable def spL10 : Specs := (47, sAw10) :: (50, sIs10) :: (spE4 ++ spK4)
theorem vcPairsT (x y : Five) (Q : SV → Prop) : LnRaw tt spL10 9 [(11, 4, .b true), (11, 7, .b false)] {} Try.f8 Q (x, y, ()) =
  bcase (decide (UInt64.ofNat (Int.toNat (4503599627370496 : Int)) ≤ Five.x0 x))
    ((Q (SV.bool true)))
    (bcase (decide (UInt64.ofNat (Int.toNat (4503599627370496 : Int)) ≤ Five.x0 y))
      ((Q (SV.bool true)))
      (bcase (decide (UInt64.ofNat (Int.toNat (4503599627370496 : Int)) ≤ Five.x1 x))
        ((Q (SV.bool true)))
        (bcase (decide (UInt64.ofNat (Int.toNat (4503599627370496 : Int)) ≤ Five.x1 y))
          ((Q (SV.bool true)))
          (bcase (decide (UInt64.ofNat (Int.toNat (4503599627370496 : Int)) ≤ Five.x2 x))
            ((Q (SV.bool true)))
            (bcase (decide (UInt64.ofNat (Int.toNat (4503599627370496 : Int)) ≤ Five.x2 y))
              ((Q (SV.bool true)))
              (bcase (decide (UInt64.ofNat (Int.toNat (4503599627370496 : Int)) ≤ Five.x3 x))
                ((Q (SV.bool true)))
                (bcase (decide (UInt64.ofNat (Int.toNat (4503599627370496 : Int)) ≤ Five.x3 y))
                  ((Q (SV.bool true)))
                  (bcase (decide (UInt64.ofNat (Int.toNat (4503599627370496 : Int)) ≤ Five.x4 x))
                    ((Q (SV.bool true)))
                    (bcase (decide (UInt64.ofNat (Int.toNat (4503599627370496 : Int)) ≤ Five.x4 y))
                      ((Q (SV.bool true)))
                      ((((Lh (V x % pV)) ∧
                       (Lh (V y % pV))) ∧
                      (((Prod.snd (eFrom x y) == onN (V x % pV) (V y % pV)) = true) ∧
                      (((!Prod.snd (eFrom x y)) = false) ∧
                      ((((Lh (V x % pV)) ∧
                        ((Lh (V y % pV)) ∧
                        (Lh (Int.toNat (1 : Int))))) ∧
                       (eBytes (Prod.fst (eFrom x y)) = rBytes (RP.mk (V x % pV) (V y % pV) (Int.toNat (1 : Int)) true))) ∧
                      (Q (SV.bool true)))))))))))))))) := by kernel_rfl
theorem vcPairsF (x y : Five) (Q : SV → Prop) : LnRaw tt spL10 9 [(11, 4, .b true), (11, 7, .b true)] {} Try.f8 Q (x, y, ()) =
  bcase (decide (UInt64.ofNat (Int.toNat (4503599627370496 : Int)) ≤ Five.x0 x))
    ((Q (SV.bool true)))
    (bcase (decide (UInt64.ofNat (Int.toNat (4503599627370496 : Int)) ≤ Five.x0 y))
      ((Q (SV.bool true)))
      (bcase (decide (UInt64.ofNat (Int.toNat (4503599627370496 : Int)) ≤ Five.x1 x))
        ((Q (SV.bool true)))
        (bcase (decide (UInt64.ofNat (Int.toNat (4503599627370496 : Int)) ≤ Five.x1 y))
          ((Q (SV.bool true)))
          (bcase (decide (UInt64.ofNat (Int.toNat (4503599627370496 : Int)) ≤ Five.x2 x))
            ((Q (SV.bool true)))
            (bcase (decide (UInt64.ofNat (Int.toNat (4503599627370496 : Int)) ≤ Five.x2 y))
              ((Q (SV.bool true)))
              (bcase (decide (UInt64.ofNat (Int.toNat (4503599627370496 : Int)) ≤ Five.x3 x))
                ((Q (SV.bool true)))
                (bcase (decide (UInt64.ofNat (Int.toNat (4503599627370496 : Int)) ≤ Five.x3 y))
                  ((Q (SV.bool true)))
                  (bcase (decide (UInt64.ofNat (Int.toNat (4503599627370496 : Int)) ≤ Five.x4 x))
                    ((Q (SV.bool true)))
                    (bcase (decide (UInt64.ofNat (Int.toNat (4503599627370496 : Int)) ≤ Five.x4 y))
                      ((Q (SV.bool true)))
                      ((((Lh (V x % pV)) ∧
                       (Lh (V y % pV))) ∧
                      (((Prod.snd (eFrom x y) == onN (V x % pV) (V y % pV)) = true) ∧
                      (((!Prod.snd (eFrom x y)) = true) ∧
                      (Q (SV.bool true))))))))))))))) := by kernel_rfl
theorem vcBytesL (b : List UInt8) (Q : SV → Prop) : LnRaw tt spL10 9 [(3, 2, .b true)] {} Try.f9 Q (b, ()) =
  ((decide ((↑(List.length b) : Int) > (100 : Int)) = true) ∧
  (Q (SV.bool true))) := by kernel_rfl
theorem vcBytesN (b : List UInt8) (Q : SV → Prop) : LnRaw tt spL10 9 [(3, 2, .b false), (7, 3, .b false), (9, 1, .b true)] {} Try.f9 Q (b, ()) =
  ((decide ((↑(List.length b) : Int) > (100 : Int)) = false) ∧
  ((List.length b ≤ (1000000 : Nat)) ∧
  (((!Prod.snd (eOf b) == RP.is (rOf b)) = false) ∧
  (((!Prod.snd (eOf b)) = true) ∧
  (Q (SV.bool true)))))) := by kernel_rfl
theorem vcBytesY (b : List UInt8) (Q : SV → Prop) : LnRaw tt spL10 9 [(3, 2, .b false), (7, 3, .b false), (9, 1, .b false), (14, 3, .b true), (14, 9, .b true), (14, 16, .b true), (14, 19, .b true), (14, 24, .b true)] {} Try.f9 Q (b, ()) =
  ((decide ((↑(List.length b) : Int) > (100 : Int)) = false) ∧
  ((List.length b ≤ (1000000 : Nat)) ∧
  (((!Prod.snd (eOf b) == RP.is (rOf b)) = false) ∧
  (((!Prod.snd (eOf b)) = false) ∧
  (((Lh (RP.x (rOf b))) ∧
   ((Lh (RP.y (rOf b))) ∧
   (Lh (RP.z (rOf b))))) ∧
  ((List.length
    (List.drop (0 : Nat)
      (List.take ((0 : Nat) + List.length (eBytes (Prod.fst (eOf b)))) (eBytes (Prod.fst (eOf b))))) ≤
  (4294967296 : Nat)) ∧
  ((decide
    (List.drop (0 : Nat) (List.take ((0 : Nat) + List.length (eBytes (Prod.fst (eOf b)))) (eBytes (Prod.fst (eOf b)))) =
      b) =
  true) ∧
  (((Sm (V (Prod.fst (ePair (Prod.fst (eOf b)))) % pV)) ∧
   (Sm (rPairX (rOf b)))) ∧
  (((cmpN (V (Prod.fst (ePair (Prod.fst (eOf b)))) % pV) (rPairX (rOf b)) == (0 : Int)) = true) ∧
  (((Sm (V (Prod.snd (ePair (Prod.fst (eOf b)))) % pV)) ∧
   (Sm (rPairY (rOf b)))) ∧
  (((cmpN (V (Prod.snd (ePair (Prod.fst (eOf b)))) % pV) (rPairY (rOf b)) == (0 : Int)) = true) ∧
  ((Prod.snd (eFrom (Prod.fst (ePair (Prod.fst (eOf b)))) (Prod.snd (ePair (Prod.fst (eOf b))))) = true) ∧
  ((eSame (Prod.fst (eFrom (Prod.fst (ePair (Prod.fst (eOf b)))) (Prod.snd (ePair (Prod.fst (eOf b))))))
    (Prod.fst (eOf b)) =
  true) ∧
  (Q (SV.bool true))))))))))))))) := by kernel_rfl
theorem vcAdds1 (a b : List UInt8) (Q : SV → Prop) : LnRaw tt spL10 9 [(5, 1, .b true)] {} Try.f10 Q (a, b, ()) =
  (((!Prod.snd (eOf a)) = true) ∧
  (Q (SV.bool true))) := by kernel_rfl
theorem vcAdds2 (a b : List UInt8) (Q : SV → Prop) : LnRaw tt spL10 9 [(5, 1, .b false), (5, 4, .b true)] {} Try.f10 Q (a, b, ()) =
  (((!Prod.snd (eOf a)) = false) ∧
  (((!Prod.snd (eOf b)) = true) ∧
  (Q (SV.bool true)))) := by kernel_rfl
theorem vcAdds3 (a b : List UInt8) (Q : SV → Prop) : LnRaw tt spL10 9 [(5, 1, .b false), (5, 4, .b false), (15, 18, .b true), (15, 27, .b true)] {} Try.f10 Q (a, b, ()) =
  (((!Prod.snd (eOf a)) = false) ∧
  (((!Prod.snd (eOf b)) = false) ∧
  ((List.length a ≤ (1000000 : Nat)) ∧
  ((List.length b ≤ (1000000 : Nat)) ∧
  ((((Lh (RP.x (rOf a))) ∧
    ((Lh (RP.y (rOf a))) ∧
    (Lh (RP.z (rOf a))))) ∧
   (((Lh (RP.x (rOf a))) ∧
    ((Lh (RP.y (rOf a))) ∧
    (Lh (RP.z (rOf a))))) ∧
   (Lh rD))) ∧
  ((((Lh (RP.x (rAdd (rOf a) (rOf a) rD))) ∧
    ((Lh (RP.y (rAdd (rOf a) (rOf a) rD))) ∧
    (Lh (RP.z (rAdd (rOf a) (rOf a) rD))))) ∧
   (((Lh (RP.x (rAdd (rOf a) (rOf a) rD))) ∧
    ((Lh (RP.y (rAdd (rOf a) (rOf a) rD))) ∧
    (Lh (RP.z (rAdd (rOf a) (rOf a) rD))))) ∧
   (Lh rD))) ∧
  ((((Lh (RP.x (rAdd (rAdd (rOf a) (rOf a) rD) (rAdd (rOf a) (rOf a) rD) rD))) ∧
    ((Lh (RP.y (rAdd (rAdd (rOf a) (rOf a) rD) (rAdd (rOf a) (rOf a) rD) rD))) ∧
    (Lh (RP.z (rAdd (rAdd (rOf a) (rOf a) rD) (rAdd (rOf a) (rOf a) rD) rD))))) ∧
   (((Lh (RP.x (rAdd (rAdd (rOf a) (rOf a) rD) (rAdd (rOf a) (rOf a) rD) rD))) ∧
    ((Lh (RP.y (rAdd (rAdd (rOf a) (rOf a) rD) (rAdd (rOf a) (rOf a) rD) rD))) ∧
    (Lh (RP.z (rAdd (rAdd (rOf a) (rOf a) rD) (rAdd (rOf a) (rOf a) rD) rD))))) ∧
   (Lh rD))) ∧
  ((((Lh (RP.x (rOf a))) ∧
    ((Lh (RP.y (rOf a))) ∧
    (Lh (RP.z (rOf a))))) ∧
   (((Lh (RP.x (rOf b))) ∧
    ((Lh (RP.y (rOf b))) ∧
    (Lh (RP.z (rOf b))))) ∧
   (Lh rD))) ∧
  ((((Lh (RP.x (rAdd (rOf a) (rOf b) rD))) ∧
    ((Lh (RP.y (rAdd (rOf a) (rOf b) rD))) ∧
    (Lh (RP.z (rAdd (rOf a) (rOf b) rD))))) ∧
   (eBytes (eAdd (Prod.fst (eOf a)) (Prod.fst (eOf b))) = rBytes (rAdd (rOf a) (rOf b) rD))) ∧
  ((((Lh (RP.x (rAdd (rOf a) (rOf a) rD))) ∧
    ((Lh (RP.y (rAdd (rOf a) (rOf a) rD))) ∧
    (Lh (RP.z (rAdd (rOf a) (rOf a) rD))))) ∧
   (eBytes (eDouble (Prod.fst (eOf a))) = rBytes (rAdd (rOf a) (rOf a) rD))) ∧
  ((RP.x (rOf a) < pV) ∧
  ((((Lh (RP.x (rNeg (rOf a)))) ∧
    ((Lh (RP.y (rNeg (rOf a)))) ∧
    (Lh (RP.z (rNeg (rOf a)))))) ∧
   (eBytes (eNeg (Prod.fst (eOf a))) = rBytes (rNeg (rOf a)))) ∧
  ((((Lh
  (RP.x
    (rAdd (rAdd (rAdd (rOf a) (rOf a) rD) (rAdd (rOf a) (rOf a) rD) rD)
      (rAdd (rAdd (rOf a) (rOf a) rD) (rAdd (rOf a) (rOf a) rD) rD) rD))) ∧
    ((Lh
  (RP.y
    (rAdd (rAdd (rAdd (rOf a) (rOf a) rD) (rAdd (rOf a) (rOf a) rD) rD)
      (rAdd (rAdd (rOf a) (rOf a) rD) (rAdd (rOf a) (rOf a) rD) rD) rD))) ∧
    (Lh
  (RP.z
    (rAdd (rAdd (rAdd (rOf a) (rOf a) rD) (rAdd (rOf a) (rOf a) rD) rD)
      (rAdd (rAdd (rOf a) (rOf a) rD) (rAdd (rOf a) (rOf a) rD) rD) rD))))) ∧
   (eBytes (eEight (Prod.fst (eOf a))) =
  rBytes
    (rAdd (rAdd (rAdd (rOf a) (rOf a) rD) (rAdd (rOf a) (rOf a) rD) rD)
      (rAdd (rAdd (rOf a) (rOf a) rD) (rAdd (rOf a) (rOf a) rD) rD) rD))) ∧
  ((((Lh (RP.x (rOf a))) ∧
    ((Lh (RP.y (rOf a))) ∧
    (Lh (RP.z (rOf a))))) ∧
   (((Lh (RP.x (rOf b))) ∧
    ((Lh (RP.y (rOf b))) ∧
    (Lh (RP.z (rOf b))))) ∧
   (Lh rD))) ∧
  ((((Lh (RP.x (rAdd (rOf a) (rOf b) rD))) ∧
    ((Lh (RP.y (rAdd (rOf a) (rOf b) rD))) ∧
    (Lh (RP.z (rAdd (rOf a) (rOf b) rD))))) ∧
   (((Lh (RP.x (rAdd (rOf a) (rOf a) rD))) ∧
    ((Lh (RP.y (rAdd (rOf a) (rOf a) rD))) ∧
    (Lh (RP.z (rAdd (rOf a) (rOf a) rD))))) ∧
   (Lh rD))) ∧
  ((((Lh (RP.x (rAdd (rAdd (rOf a) (rOf b) rD) (rAdd (rOf a) (rOf a) rD) rD))) ∧
    ((Lh (RP.y (rAdd (rAdd (rOf a) (rOf b) rD) (rAdd (rOf a) (rOf a) rD) rD))) ∧
    (Lh (RP.z (rAdd (rAdd (rOf a) (rOf b) rD) (rAdd (rOf a) (rOf a) rD) rD))))) ∧
   (eBytes (eAdd (eAdd (Prod.fst (eOf a)) (Prod.fst (eOf b))) (eDouble (Prod.fst (eOf a)))) =
  rBytes (rAdd (rAdd (rOf a) (rOf b) rD) (rAdd (rOf a) (rOf a) rD) rD))) ∧
  ((((Lh (RP.x (rAdd (rAdd (rOf a) (rOf b) rD) (rAdd (rOf a) (rOf a) rD) rD))) ∧
    ((Lh (RP.y (rAdd (rAdd (rOf a) (rOf b) rD) (rAdd (rOf a) (rOf a) rD) rD))) ∧
    (Lh (RP.z (rAdd (rAdd (rOf a) (rOf b) rD) (rAdd (rOf a) (rOf a) rD) rD))))) ∧
   (((Lh (RP.x (rAdd (rAdd (rOf a) (rOf b) rD) (rAdd (rOf a) (rOf a) rD) rD))) ∧
    ((Lh (RP.y (rAdd (rAdd (rOf a) (rOf b) rD) (rAdd (rOf a) (rOf a) rD) rD))) ∧
    (Lh (RP.z (rAdd (rAdd (rOf a) (rOf b) rD) (rAdd (rOf a) (rOf a) rD) rD))))) ∧
   (Lh rD))) ∧
  ((((Lh
  (RP.x
    (rAdd (rAdd (rAdd (rOf a) (rOf b) rD) (rAdd (rOf a) (rOf a) rD) rD)
      (rAdd (rAdd (rOf a) (rOf b) rD) (rAdd (rOf a) (rOf a) rD) rD) rD))) ∧
    ((Lh
  (RP.y
    (rAdd (rAdd (rAdd (rOf a) (rOf b) rD) (rAdd (rOf a) (rOf a) rD) rD)
      (rAdd (rAdd (rOf a) (rOf b) rD) (rAdd (rOf a) (rOf a) rD) rD) rD))) ∧
    (Lh
  (RP.z
    (rAdd (rAdd (rAdd (rOf a) (rOf b) rD) (rAdd (rOf a) (rOf a) rD) rD)
      (rAdd (rAdd (rOf a) (rOf b) rD) (rAdd (rOf a) (rOf a) rD) rD) rD))))) ∧
   (eBytes (eDouble (eAdd (eAdd (Prod.fst (eOf a)) (Prod.fst (eOf b))) (eDouble (Prod.fst (eOf a))))) =
  rBytes
    (rAdd (rAdd (rAdd (rOf a) (rOf b) rD) (rAdd (rOf a) (rOf a) rD) rD)
      (rAdd (rAdd (rOf a) (rOf b) rD) (rAdd (rOf a) (rOf a) rD) rD) rD))) ∧
  ((((Lh
  (RP.x
    (rAdd (rAdd (rAdd (rOf a) (rOf a) rD) (rAdd (rOf a) (rOf a) rD) rD)
      (rAdd (rAdd (rOf a) (rOf a) rD) (rAdd (rOf a) (rOf a) rD) rD) rD))) ∧
    ((Lh
  (RP.y
    (rAdd (rAdd (rAdd (rOf a) (rOf a) rD) (rAdd (rOf a) (rOf a) rD) rD)
      (rAdd (rAdd (rOf a) (rOf a) rD) (rAdd (rOf a) (rOf a) rD) rD) rD))) ∧
    (Lh
  (RP.z
    (rAdd (rAdd (rAdd (rOf a) (rOf a) rD) (rAdd (rOf a) (rOf a) rD) rD)
      (rAdd (rAdd (rOf a) (rOf a) rD) (rAdd (rOf a) (rOf a) rD) rD) rD))))) ∧
   ((Lh (RP.x rZero)) ∧
   ((Lh (RP.y rZero)) ∧
   (Lh (RP.z rZero))))) ∧
  (((eSmall (Prod.fst (eOf a)) ==
    rSame
      (rAdd (rAdd (rAdd (rOf a) (rOf a) rD) (rAdd (rOf a) (rOf a) rD) rD)
        (rAdd (rAdd (rOf a) (rOf a) rD) (rAdd (rOf a) (rOf a) rD) rD) rD)
      rZero) =
  true) ∧
  ((((Lh (RP.x (rOf a))) ∧
    ((Lh (RP.y (rOf a))) ∧
    (Lh (RP.z (rOf a))))) ∧
   ((Lh (RP.x (rOf b))) ∧
   ((Lh (RP.y (rOf b))) ∧
   (Lh (RP.z (rOf b)))))) ∧
  (((eSame (Prod.fst (eOf a)) (Prod.fst (eOf b)) == rSame (rOf a) (rOf b)) = true) ∧
  ((((Lh (RP.x rZero)) ∧
    ((Lh (RP.y rZero)) ∧
    (Lh (RP.z rZero)))) ∧
   (eBytes eZero = rBytes rZero)) ∧
  ((((Lh (RP.x rBase)) ∧
    ((Lh (RP.y rBase)) ∧
    (Lh (RP.z rBase)))) ∧
   (eBytes eBase = rBytes rBase)) ∧
  (Q (SV.bool true)))))))))))))))))))))))))) := by kernel_rfl
/-- They are the same. -/
noncomputable def sSameT : SpecF := fspec (α := Pt × Pt × Unit) (fun a => some (eSame a.1 a.2.1 = true)) (fun _ => true)
noncomputable def spG10 : Specs := (56, sSameT) :: spL10
theorem vcGroup1 (a b c : List UInt8) (Q : SV → Prop) : LnRaw tt spG10 9 [(6, 1, .b true)] {} Try.f11 Q (a, b, c, ()) =
  (((!Prod.snd (eOf a)) = true) ∧
  (Q (SV.bool true))) := by kernel_rfl
theorem vcGroup2 (a b c : List UInt8) (Q : SV → Prop) : LnRaw tt spG10 9 [(6, 1, .b false), (6, 4, .b true)] {} Try.f11 Q (a, b, c, ()) =
  (((!Prod.snd (eOf a)) = false) ∧
  (((!Prod.snd (eOf b)) = true) ∧
  (Q (SV.bool true)))) := by kernel_rfl
theorem vcGroup3 (a b c : List UInt8) (Q : SV → Prop) : LnRaw tt spG10 9 [(6, 1, .b false), (6, 4, .b false), (6, 8, .b true)] {} Try.f11 Q (a, b, c, ()) =
  (((!Prod.snd (eOf a)) = false) ∧
  (((!Prod.snd (eOf b)) = false) ∧
  (((!Prod.snd (eOf c)) = true) ∧
  (Q (SV.bool true))))) := by kernel_rfl
theorem vcGroup4 (a b c : List UInt8) (Q : SV → Prop) : LnRaw tt spG10 9 [(6, 1, .b false), (6, 4, .b false), (6, 8, .b false), (13, 0, .b true), (13, 16, .b true), (13, 30, .b true)] {} Try.f11 Q (a, b, c, ()) =
  (((!Prod.snd (eOf a)) = false) ∧
  (((!Prod.snd (eOf b)) = false) ∧
  (((!Prod.snd (eOf c)) = false) ∧
  ((eSame (eAdd (Prod.fst (eOf a)) (Prod.fst (eOf b))) (eAdd (Prod.fst (eOf b)) (Prod.fst (eOf a))) = true) ∧
  ((eSame (eAdd (eAdd (Prod.fst (eOf a)) (Prod.fst (eOf b))) (Prod.fst (eOf c)))
    (eAdd (Prod.fst (eOf a)) (eAdd (Prod.fst (eOf b)) (Prod.fst (eOf c)))) =
  true) ∧
  ((eSame (eAdd (Prod.fst (eOf a)) eZero) (Prod.fst (eOf a)) = true) ∧
  ((eSame (eAdd (Prod.fst (eOf a)) (eNeg (Prod.fst (eOf a)))) eZero = true) ∧
  ((eSame (eDouble (Prod.fst (eOf a))) (eAdd (Prod.fst (eOf a)) (Prod.fst (eOf a))) = true) ∧
  ((Prod.snd
    (eOf
      (List.drop (0 : Nat)
        (List.take
          ((0 : Nat) + List.length (eBytes (eAdd (eAdd (Prod.fst (eOf a)) (Prod.fst (eOf b))) (Prod.fst (eOf c)))))
          (eBytes (eAdd (eAdd (Prod.fst (eOf a)) (Prod.fst (eOf b))) (Prod.fst (eOf c))))))) =
  true) ∧
  ((eSame
    (Prod.fst
      (eOf
        (List.drop (0 : Nat)
          (List.take
            ((0 : Nat) + List.length (eBytes (eAdd (eAdd (Prod.fst (eOf a)) (Prod.fst (eOf b))) (Prod.fst (eOf c)))))
            (eBytes (eAdd (eAdd (Prod.fst (eOf a)) (Prod.fst (eOf b))) (Prod.fst (eOf c))))))))
    (eAdd (eAdd (Prod.fst (eOf a)) (Prod.fst (eOf b))) (Prod.fst (eOf c))) =
  true) ∧
  ((eSame (eAdd (eAdd (Prod.fst (eOf a)) (Prod.fst (eOf b))) (Prod.fst (eOf c)))
    (eAdd (eAdd (Prod.fst (eOf a)) (Prod.fst (eOf b))) (Prod.fst (eOf c))) =
  true) ∧
  ((List.length
    (List.drop (0 : Nat)
      (List.take
        ((0 : Nat) +
          List.length
            (eBytes
              (Prod.fst
                (eOf
                  (List.drop (0 : Nat)
                    (List.take
                      ((0 : Nat) +
                        List.length (eBytes (eAdd (eAdd (Prod.fst (eOf a)) (Prod.fst (eOf b))) (Prod.fst (eOf c)))))
                      (eBytes (eAdd (eAdd (Prod.fst (eOf a)) (Prod.fst (eOf b))) (Prod.fst (eOf c))))))))))
        (eBytes
          (Prod.fst
            (eOf
              (List.drop (0 : Nat)
                (List.take
                  ((0 : Nat) +
                    List.length (eBytes (eAdd (eAdd (Prod.fst (eOf a)) (Prod.fst (eOf b))) (Prod.fst (eOf c)))))
                  (eBytes (eAdd (eAdd (Prod.fst (eOf a)) (Prod.fst (eOf b))) (Prod.fst (eOf c))))))))))) ≤
  (4294967296 : Nat)) ∧
  ((decide
    (List.drop (0 : Nat)
        (List.take
          ((0 : Nat) +
            List.length
              (eBytes
                (Prod.fst
                  (eOf
                    (List.drop (0 : Nat)
                      (List.take
                        ((0 : Nat) +
                          List.length (eBytes (eAdd (eAdd (Prod.fst (eOf a)) (Prod.fst (eOf b))) (Prod.fst (eOf c)))))
                        (eBytes (eAdd (eAdd (Prod.fst (eOf a)) (Prod.fst (eOf b))) (Prod.fst (eOf c))))))))))
          (eBytes
            (Prod.fst
              (eOf
                (List.drop (0 : Nat)
                  (List.take
                    ((0 : Nat) +
                      List.length (eBytes (eAdd (eAdd (Prod.fst (eOf a)) (Prod.fst (eOf b))) (Prod.fst (eOf c)))))
                    (eBytes (eAdd (eAdd (Prod.fst (eOf a)) (Prod.fst (eOf b))) (Prod.fst (eOf c)))))))))) =
      List.drop (0 : Nat)
        (List.take
          ((0 : Nat) + List.length (eBytes (eAdd (eAdd (Prod.fst (eOf a)) (Prod.fst (eOf b))) (Prod.fst (eOf c)))))
          (eBytes (eAdd (eAdd (Prod.fst (eOf a)) (Prod.fst (eOf b))) (Prod.fst (eOf c)))))) =
  true) ∧
  ((eSame (eAdd (eAdd (eAdd (Prod.fst (eOf a)) (Prod.fst (eOf b))) (Prod.fst (eOf c))) (eNeg (Prod.fst (eOf b))))
    (eAdd (Prod.fst (eOf a)) (Prod.fst (eOf c))) =
  true) ∧
  ((eSmall eZero = true) ∧
  ((eSame (eEight (eAdd (eAdd (Prod.fst (eOf a)) (Prod.fst (eOf b))) (Prod.fst (eOf c))))
    (eDouble (eDouble (eDouble (eAdd (eAdd (Prod.fst (eOf a)) (Prod.fst (eOf b))) (Prod.fst (eOf c)))))) =
  true) ∧
  (Q (SV.bool true)))))))))))))))))) := by kernel_rfl
end Go.Proofs.Ytnnfjfkdbmhmlaa.E10
