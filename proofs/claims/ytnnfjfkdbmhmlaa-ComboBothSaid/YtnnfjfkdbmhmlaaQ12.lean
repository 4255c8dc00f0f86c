/- A symbolic machine for Go functions, and what the functions that the law reaches come to: Law4b. -/
import Derived.Test.YtnnfjfkdbmhmlaaQ11
/- Layer 4's laws: what their bodies come to, by cases. -/
set_option maxRecDepth 10000
namespace Go.Proofs.Ytnnfjfkdbmhmlaa.F4
open Go.Sym Go.Dig R1
--STOP R1.Sm, Lm, Lh, fCarry, fMul, fSub, fAdd, fNeg, fSq, fSame, fNegB, fSel, fInv, tm

abbrev sAw : SpecF := fspec (α := Unit) total fun _ => true
/-- All that the laws call, where elements are tame, and where they are not. -/
noncomputable def spRef : Specs := (19, nFRatio) :: (43, nFMod) :: (17, nOfF) :: spI
noncomputable def spAll (b : Bool) : Specs := (15, sAw) :: (16, sTame b b b) :: (20, sIs) :: (spFd ++ spRef)
noncomputable abbrev spT : Specs := spAll true
noncomputable abbrev spF : Specs := spAll false
theorem vcSumsF (a b : Five) (n : UInt32) (Q : SV → Prop) : LnRaw tt spF 9 [] {} Try.f5 Q (a, b, n, ()) =
  (((tm a && tm b) = false) ∧
  (Q (SV.bool true))) := by kernel_rfl
theorem vcSumsT (a b : Five) (n : UInt32) (Q : SV → Prop) : LnRaw tt spT 9 [] {} Try.f5 Q (a, b, n, ()) =
  (((tm a && tm b) = true) ∧
  (((Lh (V a % pV)) ∧
   (Lh (V b % pV))) ∧
  (((tm (fAdd a b) = true) ∧
   ((V (fAdd a b) % pV = (V a % pV + V b % pV) % pV) ∧
   (Lh ((V a % pV + V b % pV) % pV)))) ∧
  (((Lh (V a % pV)) ∧
   ((Lh (V b % pV)) ∧
   (V b % pV ≤ V a % pV + pV))) ∧
  (((tm (fSub a b) = true) ∧
   ((V (fSub a b) % pV = (V a % pV + pV - V b % pV) % pV) ∧
   (Lh ((V a % pV + pV - V b % pV) % pV)))) ∧
  (((Lh (0 : Nat)) ∧
   ((Lh (V a % pV)) ∧
   (V a % pV ≤ (0 : Nat) + pV))) ∧
  (((tm (fNeg a) = true) ∧
   ((V (fNeg a) % pV = ((0 : Nat) + pV - V a % pV) % pV) ∧
   (Lh (((0 : Nat) + pV - V a % pV) % pV)))) ∧
  (((Lh (V a % pV)) ∧
   (Lh (V b % pV))) ∧
  (((tm (fMul a b) = true) ∧
   ((V (fMul a b) % pV = V a % pV * (V b % pV) % pV) ∧
   (Lh (V a % pV * (V b % pV) % pV)))) ∧
  ((((0 : Int) ≤ (↑(UInt32.toNat n) : Int)) ∧
   ((↑(UInt32.toNat n) : Int) < (9223372036854775808 : Int))) ∧
  (((tm (smallV n) = true) ∧
   ((V (smallV n) % pV = Int.toNat (↑(UInt32.toNat n) : Int)) ∧
   (Lh (Int.toNat (↑(UInt32.toNat n) : Int))))) ∧
  (Q (SV.bool true))))))))))))) := by kernel_rfl
noncomputable def pwN (x : Nat) : Nat → Nat
  | 0 => x
  | n + 1 => pwN x n * pwN x n % pV
noncomputable def iPow (x : Nat) (n : Int) (y : Nat) (i : Int) : Prop := 0 ≤ i ∧ (i ≤ n ∨ i = 0) ∧ y = pwN x i.toNat
noncomputable def lPow : Plan := { loops := [(0, { β := Int × Num × Unit, α := PFive × Num × Int × Unit, same := [1, 5], keep := [2, 6, 7], inv := fun b x0 x => x.1.v = x0.1.v ∧ iPow b.2.1.n b.1 x.2.1.n x.2.2.1, meas := fun b x => (b.1 - x.2.2.1).toNat })] }
theorem vcPowF (a : Five) (n : Int) (Q : SV → Prop) : LnRaw tt spF 9 [] {} Try.f4 Q (a, n, ()) =
  ((tm a = false) ∧
  (Q (SV.bool true))) := by kernel_rfl
theorem vcPowG (a : Five) (n : Int) (Q : SV → Prop) : LnRaw tt spT 9 [(3, 6, .b true)] lPow Try.f4 Q (a, n, ()) =
  ((tm a = true) ∧
  ((decide (n > (1000 : Int)) = true) ∧
  (Q (SV.bool true)))) := by kernel_rfl
theorem vcPowT (a : Five) (n : Int) (Q : SV → Prop) : LnRaw tt spT 9 [(3, 6, .b false)] lPow Try.f4 Q (a, n, ()) =
  ((tm a = true) ∧
  ((decide (n > (1000 : Int)) = false) ∧
  (((a = a) ∧
   (iPow (V a % pV) n (V a % pV) (0 : Int))) ∧
  (∀ v : Five,
  (∀ a_1 : Num,
  (∀ a_2 : Int,
  (((v = a) ∧
  (iPow (V a % pV) n (Num.n a_1) a_2)) →
  bcase (decide (a_2 < n))
    ((((Lh (Num.n a_1)) ∧
     (Lh (Num.n a_1))) ∧
    (((n, Num.mk (V a % pV), ()) = (n, Num.mk (V a % pV), ())) ∧
    (((v = a) ∧
     (iPow (V a % pV) n (Num.n a_1 * Num.n a_1 % pV) (IntKind.wrap IntKind.i64 (a_2 + (1 : Int))))) ∧
    (Int.toNat (n - IntKind.wrap IntKind.i64 (a_2 + (1 : Int))) < Int.toNat (n - a_2))))))
    ((((tm (fSq (Int.toNat (sqM n)) v) = true) ∧
     ((V (fSq (Int.toNat (sqM n)) v) % pV = Num.n a_1) ∧
     (Lh (Num.n a_1)))) ∧
    ((Lh (V a % pV)) ∧
    (((tm (fInv v) = true) ∧
     ((V (fInv v) % pV = (V a % pV) ^ (pV - (2 : Nat)) % pV) ∧
     (Lh ((V a % pV) ^ (pV - (2 : Nat)) % pV)))) ∧
    (Q (SV.bool true))))))))))))) := by kernel_rfl
theorem vcRootsF (u v : Five) (Q : SV → Prop) : LnRaw tt spF 9 [] {} Try.f3 Q (u, v, ()) =
  (((tm u && tm v) = false) ∧
  (Q (SV.bool true))) := by kernel_rfl
theorem vcRootsT (u v : Five) (Q : SV → Prop) : LnRaw tt spT 9 [(8, 2, .b true), (8, 13, .b true), (8, 23, .b true), (8, 30, .b true), (8, 40, .b true)] {} Try.f3 Q (u, v, ()) =
  (((tm u && tm v) = true) ∧
  (((V u % pV < pV) ∧
   (V v % pV < pV)) ∧
  (((Prod.snd (fRootV u v) == Prod.fst (Prod.snd (ratioN (V u % pV) (V v % pV)))) = true) ∧
  (((tm (Prod.fst (fRootV u v)) = true) ∧
   ((V (Prod.fst (fRootV u v)) % pV = Num.n (Prod.fst (ratioN (V u % pV) (V v % pV)))) ∧
   (Lh (Num.n (Prod.fst (ratioN (V u % pV) (V v % pV))))))) ∧
  ((Lh (V u % pV)) ∧
  (((fNegB u == decide (V u % pV % (2 : Nat) = (1 : Nat))) = true) ∧
  (((Sm (V u % pV)) ∧
   (Sm (V v % pV))) ∧
  (((fSame u v == (cmpN (V u % pV) (V v % pV) == (0 : Int))) = true) ∧
  (((Five.x0 (fSel (UInt64.ofNat (Int.toNat (1 : Int))) u v) == Five.x0 u &&
    (Five.x1 (fSel (UInt64.ofNat (Int.toNat (1 : Int))) u v) == Five.x1 u &&
      (Five.x2 (fSel (UInt64.ofNat (Int.toNat (1 : Int))) u v) == Five.x2 u &&
        (Five.x3 (fSel (UInt64.ofNat (Int.toNat (1 : Int))) u v) == Five.x3 u &&
          (Five.x4 (fSel (UInt64.ofNat (Int.toNat (1 : Int))) u v) == Five.x4 u && true))))) =
  true) ∧
  (((Five.x0 (fSel (shl64 (Five.x0 v) (UInt64.toNat (UInt64.ofNat (Int.toNat (1 : Int))))) u v) == Five.x0 v &&
    (Five.x1 (fSel (shl64 (Five.x0 v) (UInt64.toNat (UInt64.ofNat (Int.toNat (1 : Int))))) u v) == Five.x1 v &&
      (Five.x2 (fSel (shl64 (Five.x0 v) (UInt64.toNat (UInt64.ofNat (Int.toNat (1 : Int))))) u v) == Five.x2 v &&
        (Five.x3 (fSel (shl64 (Five.x0 v) (UInt64.toNat (UInt64.ofNat (Int.toNat (1 : Int))))) u v) == Five.x3 v &&
          (Five.x4 (fSel (shl64 (Five.x0 v) (UInt64.toNat (UInt64.ofNat (Int.toNat (1 : Int))))) u v) == Five.x4 v &&
            true))))) =
  true) ∧
  (Q (SV.bool true)))))))))))) := by kernel_rfl
theorem vcBytes1 (b w : List UInt8) (a : Five) (Q : SV → Prop) : LnRaw tt spT 9 [(3, 2, .b true)] {} Try.f7 Q (b, w, a, ()) =
  ((decide ((↑(List.length b) : Int) > (100 : Int)) = true) ∧
  (Q (SV.bool true))) := by kernel_rfl
theorem vcBytes2 (b w : List UInt8) (a : Five) (Q : SV → Prop) : LnRaw tt spT 9 [(3, 2, .b false), (3, 6, .b true)] {} Try.f7 Q (b, w, a, ()) =
  ((decide ((↑(List.length b) : Int) > (100 : Int)) = false) ∧
  ((decide ((↑(List.length w) : Int) > (100 : Int)) = true) ∧
  (Q (SV.bool true)))) := by kernel_rfl
theorem vcBytes3 (b w : List UInt8) (a : Five) (Q : SV → Prop) : LnRaw tt spF 9 [(3, 2, .b false), (3, 6, .b false)] {} Try.f7 Q (b, w, a, ()) =
  ((decide ((↑(List.length b) : Int) > (100 : Int)) = false) ∧
  ((decide ((↑(List.length w) : Int) > (100 : Int)) = false) ∧
  ((tm a = false) ∧
  (Q (SV.bool true))))) := by kernel_rfl
theorem vcBytesAT (b w : List UInt8) (a : Five) (Q : SV → Prop) : LnRaw tt spT 9 [(3, 2, .b false), (3, 6, .b false), (7, 2, .b true), (7, 7, .b true), (8, 0, .b true), (8, 4, .b true), (8, 13, .b true), (11, 0, .b true), (11, 3, .b true), (11, 6, .b true), (11, 17, .b true)] {} Try.f7 Q (b, w, a, ()) =
  ((decide ((↑(List.length b) : Int) > (100 : Int)) = false) ∧
  ((decide ((↑(List.length w) : Int) > (100 : Int)) = false) ∧
  ((tm a = true) ∧
  ((List.length b ≤ (1048576 : Nat)) ∧
  ((((↑(List.length b) : Int) == (32 : Int)) = true) ∧
  (((Sm (bev (List.reverse b))) ∧
   (Sm pV)) ∧
  ((decide (cmpN (bev (List.reverse b)) pV < (0 : Int)) = true) ∧
  ((Prod.snd (fOfO b) = true) ∧
  ((Prod.snd (fOfO b) = true) ∧
  (((tm (Prod.fst (fOfO b)) = true) ∧
   ((V (Prod.fst (fOfO b)) % pV = bev (List.reverse b)) ∧
   (Lh (bev (List.reverse b))))) ∧
  ((Prod.snd (fOfO b) = true) ∧
  ((Prod.snd (fWideF w) = true) ∧
  ((decide ((↑(List.length w) : Int) ≤ (64 : Int)) = true) ∧
  ((Prod.snd (fWideF w) = true) ∧
  ((List.length w ≤ (1048576 : Nat)) ∧
  ((Lh (bev w)) ∧
  (((tm (Prod.fst (fWideF w)) = true) ∧
   ((V (Prod.fst (fWideF w)) % pV = bev w % pV) ∧
   (Lh (bev w % pV)))) ∧
  ((Prod.snd (fWideF w) = true) ∧
  (((Sm (V a % pV)) ∧
   (((0 : Int) ≤ (32 : Int)) ∧
   ((32 : Int) ≤ (1048576 : Int)))) ∧
  ((List.length (List.drop (0 : Nat) (List.take ((0 : Nat) + List.length (fBytesO a)) (fBytesO a))) ≤ (4294967296 : Nat)) ∧
  (Q
  (SV.bool
    (decide
      (List.drop (0 : Nat) (List.take ((0 : Nat) + List.length (fBytesO a)) (fBytesO a)) =
        bytesN (V a % pV) (Int.toNat (32 : Int)))))))))))))))))))))))))) := by kernel_rfl
theorem vcBytesAF (b w : List UInt8) (a : Five) (Q : SV → Prop) : LnRaw tt spT 9 [(3, 2, .b false), (3, 6, .b false), (7, 2, .b true), (7, 7, .b true), (8, 0, .b true), (8, 4, .b true), (8, 13, .b true), (11, 0, .b false), (11, 3, .b false), (11, 6, .b false), (11, 17, .b false), (11, 22, .b false)] {} Try.f7 Q (b, w, a, ()) =
  ((decide ((↑(List.length b) : Int) > (100 : Int)) = false) ∧
  ((decide ((↑(List.length w) : Int) > (100 : Int)) = false) ∧
  ((tm a = true) ∧
  ((List.length b ≤ (1048576 : Nat)) ∧
  ((((↑(List.length b) : Int) == (32 : Int)) = true) ∧
  (((Sm (bev (List.reverse b))) ∧
   (Sm pV)) ∧
  ((decide (cmpN (bev (List.reverse b)) pV < (0 : Int)) = true) ∧
  ((Prod.snd (fOfO b) = true) ∧
  ((Prod.snd (fOfO b) = true) ∧
  (((tm (Prod.fst (fOfO b)) = true) ∧
   ((V (Prod.fst (fOfO b)) % pV = bev (List.reverse b)) ∧
   (Lh (bev (List.reverse b))))) ∧
  ((Prod.snd (fOfO b) = true) ∧
  ((Prod.snd (fWideF w) = false) ∧
  ((decide ((↑(List.length w) : Int) ≤ (64 : Int)) = false) ∧
  ((Prod.snd (fWideF w) = false) ∧
  ((Prod.snd (fWideF w) = false) ∧
  (((!(Five.x0 (Prod.fst (fWideF w)) == UInt64.ofNat (Int.toNat (0 : Int)) &&
      (Five.x1 (Prod.fst (fWideF w)) == UInt64.ofNat (Int.toNat (0 : Int)) &&
        (Five.x2 (Prod.fst (fWideF w)) == UInt64.ofNat (Int.toNat (0 : Int)) &&
          (Five.x3 (Prod.fst (fWideF w)) == UInt64.ofNat (Int.toNat (0 : Int)) &&
            (Five.x4 (Prod.fst (fWideF w)) == UInt64.ofNat (Int.toNat (0 : Int)) && true)))))) =
  false) ∧
  (((Sm (V a % pV)) ∧
   (((0 : Int) ≤ (32 : Int)) ∧
   ((32 : Int) ≤ (1048576 : Int)))) ∧
  ((List.length (List.drop (0 : Nat) (List.take ((0 : Nat) + List.length (fBytesO a)) (fBytesO a))) ≤ (4294967296 : Nat)) ∧
  (Q
  (SV.bool
    (decide
      (List.drop (0 : Nat) (List.take ((0 : Nat) + List.length (fBytesO a)) (fBytesO a)) =
        bytesN (V a % pV) (Int.toNat (32 : Int)))))))))))))))))))))))) := by kernel_rfl
theorem vcBytesBT (b w : List UInt8) (a : Five) (Q : SV → Prop) : LnRaw tt spT 9 [(3, 2, .b false), (3, 6, .b false), (7, 2, .b false), (8, 0, .b false), (8, 4, .b false), (8, 13, .b false), (8, 18, .b false), (11, 0, .b true), (11, 3, .b true), (11, 6, .b true), (11, 17, .b true)] {} Try.f7 Q (b, w, a, ()) =
  ((decide ((↑(List.length b) : Int) > (100 : Int)) = false) ∧
  ((decide ((↑(List.length w) : Int) > (100 : Int)) = false) ∧
  ((tm a = true) ∧
  ((List.length b ≤ (1048576 : Nat)) ∧
  ((((↑(List.length b) : Int) == (32 : Int)) = false) ∧
  ((Prod.snd (fOfO b) = false) ∧
  ((Prod.snd (fOfO b) = false) ∧
  ((Prod.snd (fOfO b) = false) ∧
  (((!(Five.x0 (Prod.fst (fOfO b)) == UInt64.ofNat (Int.toNat (0 : Int)) &&
      (Five.x1 (Prod.fst (fOfO b)) == UInt64.ofNat (Int.toNat (0 : Int)) &&
        (Five.x2 (Prod.fst (fOfO b)) == UInt64.ofNat (Int.toNat (0 : Int)) &&
          (Five.x3 (Prod.fst (fOfO b)) == UInt64.ofNat (Int.toNat (0 : Int)) &&
            (Five.x4 (Prod.fst (fOfO b)) == UInt64.ofNat (Int.toNat (0 : Int)) && true)))))) =
  false) ∧
  ((Prod.snd (fWideF w) = true) ∧
  ((decide ((↑(List.length w) : Int) ≤ (64 : Int)) = true) ∧
  ((Prod.snd (fWideF w) = true) ∧
  ((List.length w ≤ (1048576 : Nat)) ∧
  ((Lh (bev w)) ∧
  (((tm (Prod.fst (fWideF w)) = true) ∧
   ((V (Prod.fst (fWideF w)) % pV = bev w % pV) ∧
   (Lh (bev w % pV)))) ∧
  ((Prod.snd (fWideF w) = true) ∧
  (((Sm (V a % pV)) ∧
   (((0 : Int) ≤ (32 : Int)) ∧
   ((32 : Int) ≤ (1048576 : Int)))) ∧
  ((List.length (List.drop (0 : Nat) (List.take ((0 : Nat) + List.length (fBytesO a)) (fBytesO a))) ≤ (4294967296 : Nat)) ∧
  (Q
  (SV.bool
    (decide
      (List.drop (0 : Nat) (List.take ((0 : Nat) + List.length (fBytesO a)) (fBytesO a)) =
        bytesN (V a % pV) (Int.toNat (32 : Int)))))))))))))))))))))))) := by kernel_rfl
theorem vcBytesBF (b w : List UInt8) (a : Five) (Q : SV → Prop) : LnRaw tt spT 9 [(3, 2, .b false), (3, 6, .b false), (7, 2, .b false), (8, 0, .b false), (8, 4, .b false), (8, 13, .b false), (8, 18, .b false), (11, 0, .b false), (11, 3, .b false), (11, 6, .b false), (11, 17, .b false), (11, 22, .b false)] {} Try.f7 Q (b, w, a, ()) =
  ((decide ((↑(List.length b) : Int) > (100 : Int)) = false) ∧
  ((decide ((↑(List.length w) : Int) > (100 : Int)) = false) ∧
  ((tm a = true) ∧
  ((List.length b ≤ (1048576 : Nat)) ∧
  ((((↑(List.length b) : Int) == (32 : Int)) = false) ∧
  ((Prod.snd (fOfO b) = false) ∧
  ((Prod.snd (fOfO b) = false) ∧
  ((Prod.snd (fOfO b) = false) ∧
  (((!(Five.x0 (Prod.fst (fOfO b)) == UInt64.ofNat (Int.toNat (0 : Int)) &&
      (Five.x1 (Prod.fst (fOfO b)) == UInt64.ofNat (Int.toNat (0 : Int)) &&
        (Five.x2 (Prod.fst (fOfO b)) == UInt64.ofNat (Int.toNat (0 : Int)) &&
          (Five.x3 (Prod.fst (fOfO b)) == UInt64.ofNat (Int.toNat (0 : Int)) &&
            (Five.x4 (Prod.fst (fOfO b)) == UInt64.ofNat (Int.toNat (0 : Int)) && true)))))) =
  false) ∧
  ((Prod.snd (fWideF w) = false) ∧
  ((decide ((↑(List.length w) : Int) ≤ (64 : Int)) = false) ∧
  ((Prod.snd (fWideF w) = false) ∧
  ((Prod.snd (fWideF w) = false) ∧
  (((!(Five.x0 (Prod.fst (fWideF w)) == UInt64.ofNat (Int.toNat (0 : Int)) &&
      (Five.x1 (Prod.fst (fWideF w)) == UInt64.ofNat (Int.toNat (0 : Int)) &&
        (Five.x2 (Prod.fst (fWideF w)) == UInt64.ofNat (Int.toNat (0 : Int)) &&
          (Five.x3 (Prod.fst (fWideF w)) == UInt64.ofNat (Int.toNat (0 : Int)) &&
            (Five.x4 (Prod.fst (fWideF w)) == UInt64.ofNat (Int.toNat (0 : Int)) && true)))))) =
  false) ∧
  (((Sm (V a % pV)) ∧
   (((0 : Int) ≤ (32 : Int)) ∧
   ((32 : Int) ≤ (1048576 : Int)))) ∧
  ((List.length (List.drop (0 : Nat) (List.take ((0 : Nat) + List.length (fBytesO a)) (fBytesO a))) ≤ (4294967296 : Nat)) ∧
  (Q
  (SV.bool
    (decide
      (List.drop (0 : Nat) (List.take ((0 : Nat) + List.length (fBytesO a)) (fBytesO a)) =
        bytesN (V a % pV) (Int.toNat (32 : Int)))))))))))))))))))))) := by kernel_rfl
theorem vcBytesCT (b w : List UInt8) (a : Five) (Q : SV → Prop) : LnRaw tt spT 9 [(3, 2, .b false), (3, 6, .b false), (7, 2, .b true), (7, 7, .b false), (8, 0, .b false), (8, 4, .b false), (8, 13, .b false), (8, 18, .b false), (11, 0, .b true), (11, 3, .b true), (11, 6, .b true), (11, 17, .b true)] {} Try.f7 Q (b, w, a, ()) =
  ((decide ((↑(List.length b) : Int) > (100 : Int)) = false) ∧
  ((decide ((↑(List.length w) : Int) > (100 : Int)) = false) ∧
  ((tm a = true) ∧
  ((List.length b ≤ (1048576 : Nat)) ∧
  ((((↑(List.length b) : Int) == (32 : Int)) = true) ∧
  (((Sm (bev (List.reverse b))) ∧
   (Sm pV)) ∧
  ((decide (cmpN (bev (List.reverse b)) pV < (0 : Int)) = false) ∧
  ((Prod.snd (fOfO b) = false) ∧
  ((Prod.snd (fOfO b) = false) ∧
  ((Prod.snd (fOfO b) = false) ∧
  (((!(Five.x0 (Prod.fst (fOfO b)) == UInt64.ofNat (Int.toNat (0 : Int)) &&
      (Five.x1 (Prod.fst (fOfO b)) == UInt64.ofNat (Int.toNat (0 : Int)) &&
        (Five.x2 (Prod.fst (fOfO b)) == UInt64.ofNat (Int.toNat (0 : Int)) &&
          (Five.x3 (Prod.fst (fOfO b)) == UInt64.ofNat (Int.toNat (0 : Int)) &&
            (Five.x4 (Prod.fst (fOfO b)) == UInt64.ofNat (Int.toNat (0 : Int)) && true)))))) =
  false) ∧
  ((Prod.snd (fWideF w) = true) ∧
  ((decide ((↑(List.length w) : Int) ≤ (64 : Int)) = true) ∧
  ((Prod.snd (fWideF w) = true) ∧
  ((List.length w ≤ (1048576 : Nat)) ∧
  ((Lh (bev w)) ∧
  (((tm (Prod.fst (fWideF w)) = true) ∧
   ((V (Prod.fst (fWideF w)) % pV = bev w % pV) ∧
   (Lh (bev w % pV)))) ∧
  ((Prod.snd (fWideF w) = true) ∧
  (((Sm (V a % pV)) ∧
   (((0 : Int) ≤ (32 : Int)) ∧
   ((32 : Int) ≤ (1048576 : Int)))) ∧
  ((List.length (List.drop (0 : Nat) (List.take ((0 : Nat) + List.length (fBytesO a)) (fBytesO a))) ≤ (4294967296 : Nat)) ∧
  (Q
  (SV.bool
    (decide
      (List.drop (0 : Nat) (List.take ((0 : Nat) + List.length (fBytesO a)) (fBytesO a)) =
        bytesN (V a % pV) (Int.toNat (32 : Int)))))))))))))))))))))))))) := by kernel_rfl
theorem vcBytesCF (b w : List UInt8) (a : Five) (Q : SV → Prop) : LnRaw tt spT 9 [(3, 2, .b false), (3, 6, .b false), (7, 2, .b true), (7, 7, .b false), (8, 0, .b false), (8, 4, .b false), (8, 13, .b false), (8, 18, .b false), (11, 0, .b false), (11, 3, .b false), (11, 6, .b false), (11, 17, .b false), (11, 22, .b false)] {} Try.f7 Q (b, w, a, ()) =
  ((decide ((↑(List.length b) : Int) > (100 : Int)) = false) ∧
  ((decide ((↑(List.length w) : Int) > (100 : Int)) = false) ∧
  ((tm a = true) ∧
  ((List.length b ≤ (1048576 : Nat)) ∧
  ((((↑(List.length b) : Int) == (32 : Int)) = true) ∧
  (((Sm (bev (List.reverse b))) ∧
   (Sm pV)) ∧
  ((decide (cmpN (bev (List.reverse b)) pV < (0 : Int)) = false) ∧
  ((Prod.snd (fOfO b) = false) ∧
  ((Prod.snd (fOfO b) = false) ∧
  ((Prod.snd (fOfO b) = false) ∧
  (((!(Five.x0 (Prod.fst (fOfO b)) == UInt64.ofNat (Int.toNat (0 : Int)) &&
      (Five.x1 (Prod.fst (fOfO b)) == UInt64.ofNat (Int.toNat (0 : Int)) &&
        (Five.x2 (Prod.fst (fOfO b)) == UInt64.ofNat (Int.toNat (0 : Int)) &&
          (Five.x3 (Prod.fst (fOfO b)) == UInt64.ofNat (Int.toNat (0 : Int)) &&
            (Five.x4 (Prod.fst (fOfO b)) == UInt64.ofNat (Int.toNat (0 : Int)) && true)))))) =
  false) ∧
  ((Prod.snd (fWideF w) = false) ∧
  ((decide ((↑(List.length w) : Int) ≤ (64 : Int)) = false) ∧
  ((Prod.snd (fWideF w) = false) ∧
  ((Prod.snd (fWideF w) = false) ∧
  (((!(Five.x0 (Prod.fst (fWideF w)) == UInt64.ofNat (Int.toNat (0 : Int)) &&
      (Five.x1 (Prod.fst (fWideF w)) == UInt64.ofNat (Int.toNat (0 : Int)) &&
        (Five.x2 (Prod.fst (fWideF w)) == UInt64.ofNat (Int.toNat (0 : Int)) &&
          (Five.x3 (Prod.fst (fWideF w)) == UInt64.ofNat (Int.toNat (0 : Int)) &&
            (Five.x4 (Prod.fst (fWideF w)) == UInt64.ofNat (Int.toNat (0 : Int)) && true)))))) =
  false) ∧
  (((Sm (V a % pV)) ∧
   (((0 : Int) ≤ (32 : Int)) ∧
   ((32 : Int) ≤ (1048576 : Int)))) ∧
  ((List.length (List.drop (0 : Nat) (List.take ((0 : Nat) + List.length (fBytesO a)) (fBytesO a))) ≤ (4294967296 : Nat)) ∧
  (Q
  (SV.bool
    (decide
      (List.drop (0 : Nat) (List.take ((0 : Nat) + List.length (fBytesO a)) (fBytesO a)) =
        bytesN (V a % pV) (Int.toNat (32 : Int)))))))))))))))))))))))) := by kernel_rfl
theorem vcBackF (a b c : Five) (Q : SV → Prop) : LnRaw tt spF 9 [] {} Try.f6 Q (a, b, c, ()) =
  (((tm a && (tm b && tm c)) = false) ∧
  (Q (SV.bool true))) := by kernel_rfl
theorem vcBackTTTF (a b c : Five) (Q : SV → Prop) : LnRaw tt spT 9 [(7, 13, .b true), (7, 27, .b true), (7, 38, .b true), (9, 3, .b true), (13, 0, .b true), (13, 4, .b false), (13, 10, .b true), (16, 0, .b true), (16, 9, .b true), (19, 0, .b true), (19, 5, .b true), (19, 12, .b false), (19, 18, .b true), (19, 21, .b true)] {} Try.f6 Q (a, b, c, ()) =
  (((tm a && (tm b && tm c)) = true) ∧
  ((fSame (fMul a (fAdd b c)) (fAdd (fMul a b) (fMul a c)) = true) ∧
  ((fSame (fMul (fMul a b) c) (fMul a (fMul b c)) = true) ∧
  ((fSame (fSub (fAdd a b) b) a = true) ∧
  ((fSame a
    (Five.mk (UInt64.ofNat (Int.toNat (0 : Int))) (UInt64.ofNat (Int.toNat (0 : Int)))
      (UInt64.ofNat (Int.toNat (0 : Int))) (UInt64.ofNat (Int.toNat (0 : Int))) (UInt64.ofNat (Int.toNat (0 : Int)))) =
  true) ∧
  ((Prod.snd (fRootV (fMul a a) (smallV (UInt32.ofNat (Int.toNat (1 : Int))))) = true) ∧
  ((fNegB (Prod.fst (fRootV (fMul a a) (smallV (UInt32.ofNat (Int.toNat (1 : Int)))))) = false) ∧
  ((fSame (Prod.fst (fRootV (fMul a a) (smallV (UInt32.ofNat (Int.toNat (1 : Int)))))) a = true) ∧
  ((Prod.snd (fRootV a b) = true) ∧
  ((fSame (fMul (fMul (Prod.fst (fRootV a b)) (Prod.fst (fRootV a b))) b) a = true) ∧
  ((Prod.snd (fOfO (List.drop (0 : Nat) (List.take ((0 : Nat) + List.length (fBytesO a)) (fBytesO a)))) = true) ∧
  ((fSame (Prod.fst (fOfO (List.drop (0 : Nat) (List.take ((0 : Nat) + List.length (fBytesO a)) (fBytesO a))))) a = true) ∧
  ((fNegB a = false) ∧
  ((fSame a
    (Five.mk (UInt64.ofNat (Int.toNat (0 : Int))) (UInt64.ofNat (Int.toNat (0 : Int)))
      (UInt64.ofNat (Int.toNat (0 : Int))) (UInt64.ofNat (Int.toNat (0 : Int))) (UInt64.ofNat (Int.toNat (0 : Int)))) =
  true) ∧
  (((fNegB (fNeg a) == !true) = true) ∧
  (Q (SV.bool true))))))))))))))))) := by kernel_rfl
theorem vcBackTTFF (a b c : Five) (Q : SV → Prop) : LnRaw tt spT 9 [(7, 13, .b true), (7, 27, .b true), (7, 38, .b true), (9, 3, .b true), (13, 0, .b true), (13, 4, .b false), (13, 10, .b true), (16, 0, .b false), (19, 0, .b true), (19, 5, .b true), (19, 12, .b false), (19, 18, .b true), (19, 21, .b true)] {} Try.f6 Q (a, b, c, ()) =
  (((tm a && (tm b && tm c)) = true) ∧
  ((fSame (fMul a (fAdd b c)) (fAdd (fMul a b) (fMul a c)) = true) ∧
  ((fSame (fMul (fMul a b) c) (fMul a (fMul b c)) = true) ∧
  ((fSame (fSub (fAdd a b) b) a = true) ∧
  ((fSame a
    (Five.mk (UInt64.ofNat (Int.toNat (0 : Int))) (UInt64.ofNat (Int.toNat (0 : Int)))
      (UInt64.ofNat (Int.toNat (0 : Int))) (UInt64.ofNat (Int.toNat (0 : Int))) (UInt64.ofNat (Int.toNat (0 : Int)))) =
  true) ∧
  ((Prod.snd (fRootV (fMul a a) (smallV (UInt32.ofNat (Int.toNat (1 : Int))))) = true) ∧
  ((fNegB (Prod.fst (fRootV (fMul a a) (smallV (UInt32.ofNat (Int.toNat (1 : Int)))))) = false) ∧
  ((fSame (Prod.fst (fRootV (fMul a a) (smallV (UInt32.ofNat (Int.toNat (1 : Int)))))) a = true) ∧
  ((Prod.snd (fRootV a b) = false) ∧
  ((Prod.snd (fOfO (List.drop (0 : Nat) (List.take ((0 : Nat) + List.length (fBytesO a)) (fBytesO a)))) = true) ∧
  ((fSame (Prod.fst (fOfO (List.drop (0 : Nat) (List.take ((0 : Nat) + List.length (fBytesO a)) (fBytesO a))))) a = true) ∧
  ((fNegB a = false) ∧
  ((fSame a
    (Five.mk (UInt64.ofNat (Int.toNat (0 : Int))) (UInt64.ofNat (Int.toNat (0 : Int)))
      (UInt64.ofNat (Int.toNat (0 : Int))) (UInt64.ofNat (Int.toNat (0 : Int))) (UInt64.ofNat (Int.toNat (0 : Int)))) =
  true) ∧
  (((fNegB (fNeg a) == !true) = true) ∧
  (Q (SV.bool true)))))))))))))))) := by kernel_rfl
theorem vcBackFTTT (a b c : Five) (Q : SV → Prop) : LnRaw tt spT 9 [(7, 13, .b true), (7, 27, .b true), (7, 38, .b true), (9, 3, .b false), (9, 12, .b true), (13, 0, .b true), (13, 4, .b false), (13, 10, .b true), (16, 0, .b true), (16, 9, .b true), (19, 0, .b true), (19, 5, .b true), (19, 12, .b true), (19, 21, .b true)] {} Try.f6 Q (a, b, c, ()) =
  (((tm a && (tm b && tm c)) = true) ∧
  ((fSame (fMul a (fAdd b c)) (fAdd (fMul a b) (fMul a c)) = true) ∧
  ((fSame (fMul (fMul a b) c) (fMul a (fMul b c)) = true) ∧
  ((fSame (fSub (fAdd a b) b) a = true) ∧
  ((fSame a
    (Five.mk (UInt64.ofNat (Int.toNat (0 : Int))) (UInt64.ofNat (Int.toNat (0 : Int)))
      (UInt64.ofNat (Int.toNat (0 : Int))) (UInt64.ofNat (Int.toNat (0 : Int))) (UInt64.ofNat (Int.toNat (0 : Int)))) =
  false) ∧
  ((fSame (fMul a (fInv a)) (smallV (UInt32.ofNat (Int.toNat (1 : Int)))) = true) ∧
  ((Prod.snd (fRootV (fMul a a) (smallV (UInt32.ofNat (Int.toNat (1 : Int))))) = true) ∧
  ((fNegB (Prod.fst (fRootV (fMul a a) (smallV (UInt32.ofNat (Int.toNat (1 : Int)))))) = false) ∧
  ((fSame (Prod.fst (fRootV (fMul a a) (smallV (UInt32.ofNat (Int.toNat (1 : Int)))))) a = true) ∧
  ((Prod.snd (fRootV a b) = true) ∧
  ((fSame (fMul (fMul (Prod.fst (fRootV a b)) (Prod.fst (fRootV a b))) b) a = true) ∧
  ((Prod.snd (fOfO (List.drop (0 : Nat) (List.take ((0 : Nat) + List.length (fBytesO a)) (fBytesO a)))) = true) ∧
  ((fSame (Prod.fst (fOfO (List.drop (0 : Nat) (List.take ((0 : Nat) + List.length (fBytesO a)) (fBytesO a))))) a = true) ∧
  ((fNegB a = true) ∧
  (((fNegB (fNeg a) == false) = true) ∧
  (Q (SV.bool true))))))))))))))))) := by kernel_rfl
theorem vcBackFTTF (a b c : Five) (Q : SV → Prop) : LnRaw tt spT 9 [(7, 13, .b true), (7, 27, .b true), (7, 38, .b true), (9, 3, .b false), (9, 12, .b true), (13, 0, .b true), (13, 4, .b false), (13, 10, .b true), (16, 0, .b true), (16, 9, .b true), (19, 0, .b true), (19, 5, .b true), (19, 12, .b false), (19, 18, .b false), (19, 21, .b true)] {} Try.f6 Q (a, b, c, ()) =
  (((tm a && (tm b && tm c)) = true) ∧
  ((fSame (fMul a (fAdd b c)) (fAdd (fMul a b) (fMul a c)) = true) ∧
  ((fSame (fMul (fMul a b) c) (fMul a (fMul b c)) = true) ∧
  ((fSame (fSub (fAdd a b) b) a = true) ∧
  ((fSame a
    (Five.mk (UInt64.ofNat (Int.toNat (0 : Int))) (UInt64.ofNat (Int.toNat (0 : Int)))
      (UInt64.ofNat (Int.toNat (0 : Int))) (UInt64.ofNat (Int.toNat (0 : Int))) (UInt64.ofNat (Int.toNat (0 : Int)))) =
  false) ∧
  ((fSame (fMul a (fInv a)) (smallV (UInt32.ofNat (Int.toNat (1 : Int)))) = true) ∧
  ((Prod.snd (fRootV (fMul a a) (smallV (UInt32.ofNat (Int.toNat (1 : Int))))) = true) ∧
  ((fNegB (Prod.fst (fRootV (fMul a a) (smallV (UInt32.ofNat (Int.toNat (1 : Int)))))) = false) ∧
  ((fSame (Prod.fst (fRootV (fMul a a) (smallV (UInt32.ofNat (Int.toNat (1 : Int)))))) a = true) ∧
  ((Prod.snd (fRootV a b) = true) ∧
  ((fSame (fMul (fMul (Prod.fst (fRootV a b)) (Prod.fst (fRootV a b))) b) a = true) ∧
  ((Prod.snd (fOfO (List.drop (0 : Nat) (List.take ((0 : Nat) + List.length (fBytesO a)) (fBytesO a)))) = true) ∧
  ((fSame (Prod.fst (fOfO (List.drop (0 : Nat) (List.take ((0 : Nat) + List.length (fBytesO a)) (fBytesO a))))) a = true) ∧
  ((fNegB a = false) ∧
  ((fSame a
    (Five.mk (UInt64.ofNat (Int.toNat (0 : Int))) (UInt64.ofNat (Int.toNat (0 : Int)))
      (UInt64.ofNat (Int.toNat (0 : Int))) (UInt64.ofNat (Int.toNat (0 : Int))) (UInt64.ofNat (Int.toNat (0 : Int)))) =
  false) ∧
  (((fNegB (fNeg a) == !false) = true) ∧
  (Q (SV.bool true)))))))))))))))))) := by kernel_rfl
theorem vcBackFTFT (a b c : Five) (Q : SV → Prop) : LnRaw tt spT 9 [(7, 13, .b true), (7, 27, .b true), (7, 38, .b true), (9, 3, .b false), (9, 12, .b true), (13, 0, .b true), (13, 4, .b false), (13, 10, .b true), (16, 0, .b false), (19, 0, .b true), (19, 5, .b true), (19, 12, .b true), (19, 21, .b true)] {} Try.f6 Q (a, b, c, ()) =
  (((tm a && (tm b && tm c)) = true) ∧
  ((fSame (fMul a (fAdd b c)) (fAdd (fMul a b) (fMul a c)) = true) ∧
  ((fSame (fMul (fMul a b) c) (fMul a (fMul b c)) = true) ∧
  ((fSame (fSub (fAdd a b) b) a = true) ∧
  ((fSame a
    (Five.mk (UInt64.ofNat (Int.toNat (0 : Int))) (UInt64.ofNat (Int.toNat (0 : Int)))
      (UInt64.ofNat (Int.toNat (0 : Int))) (UInt64.ofNat (Int.toNat (0 : Int))) (UInt64.ofNat (Int.toNat (0 : Int)))) =
  false) ∧
  ((fSame (fMul a (fInv a)) (smallV (UInt32.ofNat (Int.toNat (1 : Int)))) = true) ∧
  ((Prod.snd (fRootV (fMul a a) (smallV (UInt32.ofNat (Int.toNat (1 : Int))))) = true) ∧
  ((fNegB (Prod.fst (fRootV (fMul a a) (smallV (UInt32.ofNat (Int.toNat (1 : Int)))))) = false) ∧
  ((fSame (Prod.fst (fRootV (fMul a a) (smallV (UInt32.ofNat (Int.toNat (1 : Int)))))) a = true) ∧
  ((Prod.snd (fRootV a b) = false) ∧
  ((Prod.snd (fOfO (List.drop (0 : Nat) (List.take ((0 : Nat) + List.length (fBytesO a)) (fBytesO a)))) = true) ∧
  ((fSame (Prod.fst (fOfO (List.drop (0 : Nat) (List.take ((0 : Nat) + List.length (fBytesO a)) (fBytesO a))))) a = true) ∧
  ((fNegB a = true) ∧
  (((fNegB (fNeg a) == false) = true) ∧
  (Q (SV.bool true)))))))))))))))) := by kernel_rfl
theorem vcBackFTFF (a b c : Five) (Q : SV → Prop) : LnRaw tt spT 9 [(7, 13, .b true), (7, 27, .b true), (7, 38, .b true), (9, 3, .b false), (9, 12, .b true), (13, 0, .b true), (13, 4, .b false), (13, 10, .b true), (16, 0, .b false), (19, 0, .b true), (19, 5, .b true), (19, 12, .b false), (19, 18, .b false), (19, 21, .b true)] {} Try.f6 Q (a, b, c, ()) =
  (((tm a && (tm b && tm c)) = true) ∧
  ((fSame (fMul a (fAdd b c)) (fAdd (fMul a b) (fMul a c)) = true) ∧
  ((fSame (fMul (fMul a b) c) (fMul a (fMul b c)) = true) ∧
  ((fSame (fSub (fAdd a b) b) a = true) ∧
  ((fSame a
    (Five.mk (UInt64.ofNat (Int.toNat (0 : Int))) (UInt64.ofNat (Int.toNat (0 : Int)))
      (UInt64.ofNat (Int.toNat (0 : Int))) (UInt64.ofNat (Int.toNat (0 : Int))) (UInt64.ofNat (Int.toNat (0 : Int)))) =
  false) ∧
  ((fSame (fMul a (fInv a)) (smallV (UInt32.ofNat (Int.toNat (1 : Int)))) = true) ∧
  ((Prod.snd (fRootV (fMul a a) (smallV (UInt32.ofNat (Int.toNat (1 : Int))))) = true) ∧
  ((fNegB (Prod.fst (fRootV (fMul a a) (smallV (UInt32.ofNat (Int.toNat (1 : Int)))))) = false) ∧
  ((fSame (Prod.fst (fRootV (fMul a a) (smallV (UInt32.ofNat (Int.toNat (1 : Int)))))) a = true) ∧
  ((Prod.snd (fRootV a b) = false) ∧
  ((Prod.snd (fOfO (List.drop (0 : Nat) (List.take ((0 : Nat) + List.length (fBytesO a)) (fBytesO a)))) = true) ∧
  ((fSame (Prod.fst (fOfO (List.drop (0 : Nat) (List.take ((0 : Nat) + List.length (fBytesO a)) (fBytesO a))))) a = true) ∧
  ((fNegB a = false) ∧
  ((fSame a
    (Five.mk (UInt64.ofNat (Int.toNat (0 : Int))) (UInt64.ofNat (Int.toNat (0 : Int)))
      (UInt64.ofNat (Int.toNat (0 : Int))) (UInt64.ofNat (Int.toNat (0 : Int))) (UInt64.ofNat (Int.toNat (0 : Int)))) =
  false) ∧
  (((fNegB (fNeg a) == !false) = true) ∧
  (Q (SV.bool true))))))))))))))))) := by kernel_rfl
theorem vcBackFFTT (a b c : Five) (Q : SV → Prop) : LnRaw tt spT 9 [(7, 13, .b true), (7, 27, .b true), (7, 38, .b true), (9, 3, .b false), (9, 12, .b true), (13, 0, .b true), (13, 4, .b false), (13, 10, .b false), (13, 17, .b true), (16, 0, .b true), (16, 9, .b true), (19, 0, .b true), (19, 5, .b true), (19, 12, .b true), (19, 21, .b true)] {} Try.f6 Q (a, b, c, ()) =
  (((tm a && (tm b && tm c)) = true) ∧
  ((fSame (fMul a (fAdd b c)) (fAdd (fMul a b) (fMul a c)) = true) ∧
  ((fSame (fMul (fMul a b) c) (fMul a (fMul b c)) = true) ∧
  ((fSame (fSub (fAdd a b) b) a = true) ∧
  ((fSame a
    (Five.mk (UInt64.ofNat (Int.toNat (0 : Int))) (UInt64.ofNat (Int.toNat (0 : Int)))
      (UInt64.ofNat (Int.toNat (0 : Int))) (UInt64.ofNat (Int.toNat (0 : Int))) (UInt64.ofNat (Int.toNat (0 : Int)))) =
  false) ∧
  ((fSame (fMul a (fInv a)) (smallV (UInt32.ofNat (Int.toNat (1 : Int)))) = true) ∧
  ((Prod.snd (fRootV (fMul a a) (smallV (UInt32.ofNat (Int.toNat (1 : Int))))) = true) ∧
  ((fNegB (Prod.fst (fRootV (fMul a a) (smallV (UInt32.ofNat (Int.toNat (1 : Int)))))) = false) ∧
  ((fSame (Prod.fst (fRootV (fMul a a) (smallV (UInt32.ofNat (Int.toNat (1 : Int)))))) a = false) ∧
  ((fSame (Prod.fst (fRootV (fMul a a) (smallV (UInt32.ofNat (Int.toNat (1 : Int)))))) (fNeg a) = true) ∧
  ((Prod.snd (fRootV a b) = true) ∧
  ((fSame (fMul (fMul (Prod.fst (fRootV a b)) (Prod.fst (fRootV a b))) b) a = true) ∧
  ((Prod.snd (fOfO (List.drop (0 : Nat) (List.take ((0 : Nat) + List.length (fBytesO a)) (fBytesO a)))) = true) ∧
  ((fSame (Prod.fst (fOfO (List.drop (0 : Nat) (List.take ((0 : Nat) + List.length (fBytesO a)) (fBytesO a))))) a = true) ∧
  ((fNegB a = true) ∧
  (((fNegB (fNeg a) == false) = true) ∧
  (Q (SV.bool true)))))))))))))))))) := by kernel_rfl
theorem vcBackFFTF (a b c : Five) (Q : SV → Prop) : LnRaw tt spT 9 [(7, 13, .b true), (7, 27, .b true), (7, 38, .b true), (9, 3, .b false), (9, 12, .b true), (13, 0, .b true), (13, 4, .b false), (13, 10, .b false), (13, 17, .b true), (16, 0, .b true), (16, 9, .b true), (19, 0, .b true), (19, 5, .b true), (19, 12, .b false), (19, 18, .b false), (19, 21, .b true)] {} Try.f6 Q (a, b, c, ()) =
  (((tm a && (tm b && tm c)) = true) ∧
  ((fSame (fMul a (fAdd b c)) (fAdd (fMul a b) (fMul a c)) = true) ∧
  ((fSame (fMul (fMul a b) c) (fMul a (fMul b c)) = true) ∧
  ((fSame (fSub (fAdd a b) b) a = true) ∧
  ((fSame a
    (Five.mk (UInt64.ofNat (Int.toNat (0 : Int))) (UInt64.ofNat (Int.toNat (0 : Int)))
      (UInt64.ofNat (Int.toNat (0 : Int))) (UInt64.ofNat (Int.toNat (0 : Int))) (UInt64.ofNat (Int.toNat (0 : Int)))) =
  false) ∧
  ((fSame (fMul a (fInv a)) (smallV (UInt32.ofNat (Int.toNat (1 : Int)))) = true) ∧
  ((Prod.snd (fRootV (fMul a a) (smallV (UInt32.ofNat (Int.toNat (1 : Int))))) = true) ∧
  ((fNegB (Prod.fst (fRootV (fMul a a) (smallV (UInt32.ofNat (Int.toNat (1 : Int)))))) = false) ∧
  ((fSame (Prod.fst (fRootV (fMul a a) (smallV (UInt32.ofNat (Int.toNat (1 : Int)))))) a = false) ∧
  ((fSame (Prod.fst (fRootV (fMul a a) (smallV (UInt32.ofNat (Int.toNat (1 : Int)))))) (fNeg a) = true) ∧
  ((Prod.snd (fRootV a b) = true) ∧
  ((fSame (fMul (fMul (Prod.fst (fRootV a b)) (Prod.fst (fRootV a b))) b) a = true) ∧
  ((Prod.snd (fOfO (List.drop (0 : Nat) (List.take ((0 : Nat) + List.length (fBytesO a)) (fBytesO a)))) = true) ∧
  ((fSame (Prod.fst (fOfO (List.drop (0 : Nat) (List.take ((0 : Nat) + List.length (fBytesO a)) (fBytesO a))))) a = true) ∧
  ((fNegB a = false) ∧
  ((fSame a
    (Five.mk (UInt64.ofNat (Int.toNat (0 : Int))) (UInt64.ofNat (Int.toNat (0 : Int)))
      (UInt64.ofNat (Int.toNat (0 : Int))) (UInt64.ofNat (Int.toNat (0 : Int))) (UInt64.ofNat (Int.toNat (0 : Int)))) =
  false) ∧
  (((fNegB (fNeg a) == !false) = true) ∧
  (Q (SV.bool true))))))))))))))))))) := by kernel_rfl
theorem vcBackFFFT (a b c : Five) (Q : SV → Prop) : LnRaw tt spT 9 [(7, 13, .b true), (7, 27, .b true), (7, 38, .b true), (9, 3, .b false), (9, 12, .b true), (13, 0, .b true), (13, 4, .b false), (13, 10, .b false), (13, 17, .b true), (16, 0, .b false), (19, 0, .b true), (19, 5, .b true), (19, 12, .b true), (19, 21, .b true)] {} Try.f6 Q (a, b, c, ()) =
  (((tm a && (tm b && tm c)) = true) ∧
  ((fSame (fMul a (fAdd b c)) (fAdd (fMul a b) (fMul a c)) = true) ∧
  ((fSame (fMul (fMul a b) c) (fMul a (fMul b c)) = true) ∧
  ((fSame (fSub (fAdd a b) b) a = true) ∧
  ((fSame a
    (Five.mk (UInt64.ofNat (Int.toNat (0 : Int))) (UInt64.ofNat (Int.toNat (0 : Int)))
      (UInt64.ofNat (Int.toNat (0 : Int))) (UInt64.ofNat (Int.toNat (0 : Int))) (UInt64.ofNat (Int.toNat (0 : Int)))) =
  false) ∧
  ((fSame (fMul a (fInv a)) (smallV (UInt32.ofNat (Int.toNat (1 : Int)))) = true) ∧
  ((Prod.snd (fRootV (fMul a a) (smallV (UInt32.ofNat (Int.toNat (1 : Int))))) = true) ∧
  ((fNegB (Prod.fst (fRootV (fMul a a) (smallV (UInt32.ofNat (Int.toNat (1 : Int)))))) = false) ∧
  ((fSame (Prod.fst (fRootV (fMul a a) (smallV (UInt32.ofNat (Int.toNat (1 : Int)))))) a = false) ∧
  ((fSame (Prod.fst (fRootV (fMul a a) (smallV (UInt32.ofNat (Int.toNat (1 : Int)))))) (fNeg a) = true) ∧
  ((Prod.snd (fRootV a b) = false) ∧
  ((Prod.snd (fOfO (List.drop (0 : Nat) (List.take ((0 : Nat) + List.length (fBytesO a)) (fBytesO a)))) = true) ∧
  ((fSame (Prod.fst (fOfO (List.drop (0 : Nat) (List.take ((0 : Nat) + List.length (fBytesO a)) (fBytesO a))))) a = true) ∧
  ((fNegB a = true) ∧
  (((fNegB (fNeg a) == false) = true) ∧
  (Q (SV.bool true))))))))))))))))) := by kernel_rfl
theorem vcBackFFFF (a b c : Five) (Q : SV → Prop) : LnRaw tt spT 9 [(7, 13, .b true), (7, 27, .b true), (7, 38, .b true), (9, 3, .b false), (9, 12, .b true), (13, 0, .b true), (13, 4, .b false), (13, 10, .b false), (13, 17, .b true), (16, 0, .b false), (19, 0, .b true), (19, 5, .b true), (19, 12, .b false), (19, 18, .b false), (19, 21, .b true)] {} Try.f6 Q (a, b, c, ()) =
  (((tm a && (tm b && tm c)) = true) ∧
  ((fSame (fMul a (fAdd b c)) (fAdd (fMul a b) (fMul a c)) = true) ∧
  ((fSame (fMul (fMul a b) c) (fMul a (fMul b c)) = true) ∧
  ((fSame (fSub (fAdd a b) b) a = true) ∧
  ((fSame a
    (Five.mk (UInt64.ofNat (Int.toNat (0 : Int))) (UInt64.ofNat (Int.toNat (0 : Int)))
      (UInt64.ofNat (Int.toNat (0 : Int))) (UInt64.ofNat (Int.toNat (0 : Int))) (UInt64.ofNat (Int.toNat (0 : Int)))) =
  false) ∧
  ((fSame (fMul a (fInv a)) (smallV (UInt32.ofNat (Int.toNat (1 : Int)))) = true) ∧
  ((Prod.snd (fRootV (fMul a a) (smallV (UInt32.ofNat (Int.toNat (1 : Int))))) = true) ∧
  ((fNegB (Prod.fst (fRootV (fMul a a) (smallV (UInt32.ofNat (Int.toNat (1 : Int)))))) = false) ∧
  ((fSame (Prod.fst (fRootV (fMul a a) (smallV (UInt32.ofNat (Int.toNat (1 : Int)))))) a = false) ∧
  ((fSame (Prod.fst (fRootV (fMul a a) (smallV (UInt32.ofNat (Int.toNat (1 : Int)))))) (fNeg a) = true) ∧
  ((Prod.snd (fRootV a b) = false) ∧
  ((Prod.snd (fOfO (List.drop (0 : Nat) (List.take ((0 : Nat) + List.length (fBytesO a)) (fBytesO a)))) = true) ∧
  ((fSame (Prod.fst (fOfO (List.drop (0 : Nat) (List.take ((0 : Nat) + List.length (fBytesO a)) (fBytesO a))))) a = true) ∧
  ((fNegB a = false) ∧
  ((fSame a
    (Five.mk (UInt64.ofNat (Int.toNat (0 : Int))) (UInt64.ofNat (Int.toNat (0 : Int)))
      (UInt64.ofNat (Int.toNat (0 : Int))) (UInt64.ofNat (Int.toNat (0 : Int))) (UInt64.ofNat (Int.toNat (0 : Int)))) =
  false) ∧
  (((fNegB (fNeg a) == !false) = true) ∧
  (Q (SV.bool true)))))))))))))))))) := by kernel_rfl
end Go.Proofs.Ytnnfjfkdbmhmlaa.F4
