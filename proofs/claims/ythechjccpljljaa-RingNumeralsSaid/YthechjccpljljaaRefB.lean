/- The reference's functions on digits (4): words and bytes: what they say, and what their bodies come to. -/
import Derived.Test.YthechjccpljljaaRefR
namespace Go.Proofs.Ythechjccpljljaa.R1
open Go.Sym Go.Dig

--STOP Go.Dig.Dig, Dg, Can

def iDown (a : List Int) (n i : Int) (out : List Int) : Prop := n / 24 ≤ i ∧ (i ≤ a.length ∨ i = n / 24) ∧ Dig out ∧ (out.length : Int) = i - n / 24 ∧ nv out = nv a / 2 ^ n.toNat % 16777216 ^ out.length
def lDown : Plan := { loops := [(0, { β := List Int × Int × Int × Int × Unit, α := OwnI × Int × Unit, same := [0, 1, 5, 6], keep := [7, 8], inv := fun b _ x => iDown b.1 b.2.1 x.2.1 x.1.l, meas := fun b x => (b.1.length - x.2.1).toNat })], forks := [(8, { β := List Int × Int × Int × Int × Int × Unit, γ := OwnI × Int × Unit, α := OwnI × Int × Unit, same := [0, 1, 5, 6, 8], pre := [7, 9], keep := [7, 9], inv := fun b g x => x.1.l = g.1.l ∧ x.2.1 = g.2.1 + b.1.getD (b.2.2.2.2.1 + 1).toNat 0 % b.2.2.1 * b.2.2.2.1 })] }
theorem vcDown (a : List Int) (n : Int) (Q : SV → Prop) : LnRaw tt spRS 3 [] lDown Try.f36 Q (a, n, ()) =
  ((((0 : Int) ≤ Int.tmod n (24 : Int)) ∧
   (Int.tmod n (24 : Int) ≤ (62 : Int))) ∧
  ((((0 : Int) ≤ IntKind.wrap IntKind.i64 ((24 : Int) - Int.tmod n (24 : Int))) ∧
   (IntKind.wrap IntKind.i64 ((24 : Int) - Int.tmod n (24 : Int)) ≤ (62 : Int))) ∧
  ((((0 : Nat) = (0 : Nat)) ∧
   ((0 : Nat) = List.length (List.replicate (0 : Nat) (0 : Int)))) ∧
  ((iDown a n (IntKind.wrap IntKind.i64 (Int.tdiv n (24 : Int))) (List.replicate (0 : Nat) (0 : Int))) ∧
  (∀ l : List Int,
  (∀ a_1 : Int,
  ((iDown a n a_1 l) →
  bcase (decide (a_1 < (↑(List.length a) : Int)))
    (((((0 : Int) ≤ a_1) ∧
     (a_1 < (↑(List.length a) : Int))) ∧
    (((2 : Int) ^ Int.toNat (Int.tmod n (24 : Int)) ≠ (0 : Int)) ∧
    ((((0 : Nat) = (0 : Nat)) ∧
     (List.length l = List.length l)) ∧
    (bcase (decide (IntKind.wrap IntKind.i64 (a_1 + (1 : Int)) < (↑(List.length a) : Int)))
       (((((0 : Int) ≤ IntKind.wrap IntKind.i64 (a_1 + (1 : Int))) ∧
        (IntKind.wrap IntKind.i64 (a_1 + (1 : Int)) < (↑(List.length a) : Int))) ∧
       (((2 : Int) ^ Int.toNat (Int.tmod n (24 : Int)) ≠ (0 : Int)) ∧
       ((((0 : Nat) = (0 : Nat)) ∧
        (List.length l = List.length l)) ∧
       (((a, n, (2 : Int) ^ Int.toNat (Int.tmod n (24 : Int)),
    (2 : Int) ^ Int.toNat (IntKind.wrap IntKind.i64 ((24 : Int) - Int.tmod n (24 : Int))), a_1, ()) =
  (a, n, (2 : Int) ^ Int.toNat (Int.tmod n (24 : Int)),
    (2 : Int) ^ Int.toNat (IntKind.wrap IntKind.i64 ((24 : Int) - Int.tmod n (24 : Int))), a_1, ())) ∧
       ((l = l) ∧
       (IntKind.wrap IntKind.i64
    (IntKind.wrap IntKind.i64
        (Int.tdiv (List.getD a (Int.toNat a_1) (0 : Int)) ((2 : Int) ^ Int.toNat (Int.tmod n (24 : Int)))) +
      IntKind.wrap IntKind.i64
        (Int.tmod (List.getD a (Int.toNat (IntKind.wrap IntKind.i64 (a_1 + (1 : Int)))) (0 : Int))
            ((2 : Int) ^ Int.toNat (Int.tmod n (24 : Int))) *
          (2 : Int) ^ Int.toNat (IntKind.wrap IntKind.i64 ((24 : Int) - Int.tmod n (24 : Int))))) =
  IntKind.wrap IntKind.i64
      (Int.tdiv (List.getD a (Int.toNat a_1) (0 : Int)) ((2 : Int) ^ Int.toNat (Int.tmod n (24 : Int)))) +
    List.getD a (Int.toNat (a_1 + (1 : Int))) (0 : Int) % (2 : Int) ^ Int.toNat (Int.tmod n (24 : Int)) *
      (2 : Int) ^ Int.toNat (IntKind.wrap IntKind.i64 ((24 : Int) - Int.tmod n (24 : Int))))))))))
       (((((0 : Nat) = (0 : Nat)) ∧
        (List.length l = List.length l)) ∧
       (((a, n, (2 : Int) ^ Int.toNat (Int.tmod n (24 : Int)),
    (2 : Int) ^ Int.toNat (IntKind.wrap IntKind.i64 ((24 : Int) - Int.tmod n (24 : Int))), a_1, ()) =
  (a, n, (2 : Int) ^ Int.toNat (Int.tmod n (24 : Int)),
    (2 : Int) ^ Int.toNat (IntKind.wrap IntKind.i64 ((24 : Int) - Int.tmod n (24 : Int))), a_1, ())) ∧
       ((l = l) ∧
       (IntKind.wrap IntKind.i64
    (Int.tdiv (List.getD a (Int.toNat a_1) (0 : Int)) ((2 : Int) ^ Int.toNat (Int.tmod n (24 : Int)))) =
  IntKind.wrap IntKind.i64
      (Int.tdiv (List.getD a (Int.toNat a_1) (0 : Int)) ((2 : Int) ^ Int.toNat (Int.tmod n (24 : Int)))) +
    List.getD a (Int.toNat (a_1 + (1 : Int))) (0 : Int) % (2 : Int) ^ Int.toNat (Int.tmod n (24 : Int)) *
      (2 : Int) ^ Int.toNat (IntKind.wrap IntKind.i64 ((24 : Int) - Int.tmod n (24 : Int)))))))) ∧
    (∀ l_1 : List Int,
    (∀ a_2 : Int,
    (((l_1 = l) ∧
    (a_2 =
  IntKind.wrap IntKind.i64
      (Int.tdiv (List.getD a (Int.toNat a_1) (0 : Int)) ((2 : Int) ^ Int.toNat (Int.tmod n (24 : Int)))) +
    List.getD a (Int.toNat (a_1 + (1 : Int))) (0 : Int) % (2 : Int) ^ Int.toNat (Int.tmod n (24 : Int)) *
      (2 : Int) ^ Int.toNat (IntKind.wrap IntKind.i64 ((24 : Int) - Int.tmod n (24 : Int))))) →
    ((((0 : Nat) + List.length l_1 = List.length l_1) ∧
     (List.length
    (List.drop (0 : Nat) (List.take (List.length l_1) l_1) ++
      List.drop (0 : Nat) (List.take ((0 : Nat) + (1 : Nat)) [a_2])) ≤
  appLim)) ∧
    ((((0 : Nat) = (0 : Nat)) ∧
     (List.length
    (List.drop (0 : Nat) (List.take (List.length l_1) l_1) ++
      List.drop (0 : Nat) (List.take ((0 : Nat) + (1 : Nat)) [a_2])) =
  List.length
    (List.drop (0 : Nat) (List.take (List.length l_1) l_1) ++
      List.drop (0 : Nat) (List.take ((0 : Nat) + (1 : Nat)) [a_2])))) ∧
    (((a, n, (2 : Int) ^ Int.toNat (Int.tmod n (24 : Int)),
    (2 : Int) ^ Int.toNat (IntKind.wrap IntKind.i64 ((24 : Int) - Int.tmod n (24 : Int))), ()) =
  (a, n, (2 : Int) ^ Int.toNat (Int.tmod n (24 : Int)),
    (2 : Int) ^ Int.toNat (IntKind.wrap IntKind.i64 ((24 : Int) - Int.tmod n (24 : Int))), ())) ∧
    ((iDown a n (IntKind.wrap IntKind.i64 (a_1 + (1 : Int)))
  (List.drop (0 : Nat) (List.take (List.length l_1) l_1) ++
    List.drop (0 : Nat) (List.take ((0 : Nat) + (1 : Nat)) [a_2]))) ∧
    (Int.toNat ((↑(List.length a) : Int) - IntKind.wrap IntKind.i64 (a_1 + (1 : Int))) <
  Int.toNat ((↑(List.length a) : Int) - a_1))))))))))))))
    ((((Dig (List.drop (0 : Nat) (List.take ((0 : Nat) + List.length l) l))) ∧
     (List.length (List.drop (0 : Nat) (List.take ((0 : Nat) + List.length l) l)) ≤ (4294967296 : Nat))) ∧
    (Q (SV.lst (LV.num (nv (List.drop (0 : Nat) (List.take ((0 : Nat) + List.length l) l))))))))))))))) := by kernel_rfl
def sDown : SpecF := fspec (α := List Int × Int × Unit) (β := Num) (fun a => some (Dg a.1 ∧ 0 ≤ a.2.1 ∧ a.2.1 ≤ 1073741824)) (fun a => ⟨nv a.1 / 2 ^ a.2.1.toNat⟩)

/-- A number's lowest words. -/
def wordsL (m n : Nat) : List UInt64 := (List.range n).map fun w => UInt64.ofNat (m / 2 ^ (64 * w))
def iTwA (a : List Int) (n i : Int) (out : List UInt64) : Prop := 0 ≤ i ∧ i ≤ a.length ∧ out = wordsL (nv a % 2 ^ (24 * i.toNat)) n.toNat
def iTwB (a : List Int) (n i k : Int) (out : List UInt64) : Prop := 0 ≤ k ∧ k ≤ 24 ∧ out = wordsL (nv a % 2 ^ (24 * i.toNat + k.toNat)) n.toNat
def iTwC (t : Int) (out0 : List UInt64) (x : UInt64) (j : Int) (out : List UInt64) : Prop := out = out0 ∧ 0 ≤ j ∧ j ≤ t % 64 ∧ x = UInt64.ofNat (2 ^ j.toNat)
def lToWords : Plan := { loops := [(0, { β := List Int × Int × Unit, α := OwnW × Int × Unit, same := [0, 1], keep := [5, 6], inv := fun b _ x => iTwA b.1 b.2.1 x.2.1 x.1.l, meas := fun b x => (b.1.length - x.2.1).toNat }), (2, { β := List Int × Int × Int × Unit, α := OwnW × Int × Unit, same := [0, 1, 6], keep := [5, 7], inv := fun b _ x => iTwB b.1 b.2.1 b.2.2.1 x.2.1 x.1.l, meas := fun _ x => (24 - x.2.1).toNat }), (4, { β := List Int × Int × Int × Int × Int × Unit, α := OwnW × UInt64 × Int × Unit, same := [0, 1, 6, 7, 8], keep := [5, 9, 10], inv := fun b x0 x => iTwC b.2.2.2.2.1 x0.1.l x.2.1 x.2.2.1 x.1.l, meas := fun b x => (b.2.2.2.2.1 % 64 - x.2.2.1).toNat })] }
theorem vcToWords (a : List Int) (n : Int) (Q : SV → Prop) : LnRaw tt spRS 3 [] lToWords Try.f31 Q (a, n, ()) =
  ((((0 : Int) ≤ n) ∧
   ((n = n) ∧
   (n ≤ (1099511627776 : Int)))) ∧
  ((((0 : Nat) = (0 : Nat)) ∧
   (Int.toNat n = List.length (List.replicate (Int.toNat n) (0 : UInt64)))) ∧
  ((iTwA a n (0 : Int) (List.replicate (Int.toNat n) (0 : UInt64))) ∧
  (∀ l : List UInt64,
  (∀ a_1 : Int,
  ((iTwA a n a_1 l) →
  bcase (decide (a_1 < (↑(List.length a) : Int)))
    (((((0 : Nat) = (0 : Nat)) ∧
     (List.length l = List.length l)) ∧
    ((iTwB a n a_1 (0 : Int) l) ∧
    (∀ l_1 : List UInt64,
    (∀ a_2 : Int,
    ((iTwB a n a_1 a_2 l_1) →
    bcase (decide (a_2 < (24 : Int)))
      (((((0 : Int) ≤ a_1) ∧
       (a_1 < (↑(List.length a) : Int))) ∧
      ((((0 : Int) ≤ a_2) ∧
       (a_2 ≤ (62 : Int))) ∧
      (((2 : Int) ^ Int.toNat a_2 ≠ (0 : Int)) ∧
      bcase (Int.tmod (IntKind.wrap IntKind.i64 (Int.tdiv (List.getD a (Int.toNat a_1) (0 : Int)) ((2 : Int) ^ Int.toNat a_2)))
    (2 : Int) ==
  (1 : Int))
        (bcase (decide
  (IntKind.wrap IntKind.i64 (IntKind.wrap IntKind.i64 ((24 : Int) * a_1) + a_2) <
    IntKind.wrap IntKind.i64 ((64 : Int) * n)))
          (((((0 : Nat) = (0 : Nat)) ∧
           (List.length l_1 = List.length l_1)) ∧
          ((iTwC (IntKind.wrap IntKind.i64 (IntKind.wrap IntKind.i64 ((24 : Int) * a_1) + a_2)) l_1
  (UInt64.ofNat (Int.toNat (1 : Int))) (0 : Int) l_1) ∧
          (∀ l_2 : List UInt64,
          (∀ a_3 : UInt64,
          (∀ a_4 : Int,
          ((iTwC (IntKind.wrap IntKind.i64 (IntKind.wrap IntKind.i64 ((24 : Int) * a_1) + a_2)) l_1 a_3 a_4 l_2) →
          bcase (decide (a_4 < Int.tmod (IntKind.wrap IntKind.i64 (IntKind.wrap IntKind.i64 ((24 : Int) * a_1) + a_2)) (64 : Int)))
            (((((0 : Nat) = (0 : Nat)) ∧
             (List.length l_2 = List.length l_2)) ∧
            (((a, n, a_1, a_2, IntKind.wrap IntKind.i64 (IntKind.wrap IntKind.i64 ((24 : Int) * a_1) + a_2), ()) =
  (a, n, a_1, a_2, IntKind.wrap IntKind.i64 (IntKind.wrap IntKind.i64 ((24 : Int) * a_1) + a_2), ())) ∧
            ((iTwC (IntKind.wrap IntKind.i64 (IntKind.wrap IntKind.i64 ((24 : Int) * a_1) + a_2)) l_1
  (UInt64.ofNat (Int.toNat (2 : Int)) * a_3) (IntKind.wrap IntKind.i64 (a_4 + (1 : Int))) l_2) ∧
            (Int.toNat
    (IntKind.wrap IntKind.i64 (IntKind.wrap IntKind.i64 ((24 : Int) * a_1) + a_2) % (64 : Int) -
      IntKind.wrap IntKind.i64 (a_4 + (1 : Int))) <
  Int.toNat (IntKind.wrap IntKind.i64 (IntKind.wrap IntKind.i64 ((24 : Int) * a_1) + a_2) % (64 : Int) - a_4))))))
            (((((0 : Int) ≤
  IntKind.wrap IntKind.i64
    (Int.tdiv (IntKind.wrap IntKind.i64 (IntKind.wrap IntKind.i64 ((24 : Int) * a_1) + a_2)) (64 : Int))) ∧
             (IntKind.wrap IntKind.i64
    (Int.tdiv (IntKind.wrap IntKind.i64 (IntKind.wrap IntKind.i64 ((24 : Int) * a_1) + a_2)) (64 : Int)) <
  (↑(List.length l_2) : Int))) ∧
            ((((0 : Int) ≤
  IntKind.wrap IntKind.i64
    (Int.tdiv (IntKind.wrap IntKind.i64 (IntKind.wrap IntKind.i64 ((24 : Int) * a_1) + a_2)) (64 : Int))) ∧
             (IntKind.wrap IntKind.i64
    (Int.tdiv (IntKind.wrap IntKind.i64 (IntKind.wrap IntKind.i64 ((24 : Int) * a_1) + a_2)) (64 : Int)) <
  (↑(List.length l_2) : Int))) ∧
            ((((0 : Nat) = (0 : Nat)) ∧
             (List.length l_2 =
  List.length
    (List.set l_2
      ((0 : Nat) +
        Int.toNat
          (IntKind.wrap IntKind.i64
            (Int.tdiv (IntKind.wrap IntKind.i64 (IntKind.wrap IntKind.i64 ((24 : Int) * a_1) + a_2)) (64 : Int))))
      (List.getD l_2
          ((0 : Nat) +
            Int.toNat
              (IntKind.wrap IntKind.i64
                (Int.tdiv (IntKind.wrap IntKind.i64 (IntKind.wrap IntKind.i64 ((24 : Int) * a_1) + a_2)) (64 : Int))))
          (0 : UInt64) +
        a_3)))) ∧
            (((a, n, a_1, ()) = (a, n, a_1, ())) ∧
            ((iTwB a n a_1 (IntKind.wrap IntKind.i64 (a_2 + (1 : Int)))
  (List.set l_2
    ((0 : Nat) +
      Int.toNat
        (IntKind.wrap IntKind.i64
          (Int.tdiv (IntKind.wrap IntKind.i64 (IntKind.wrap IntKind.i64 ((24 : Int) * a_1) + a_2)) (64 : Int))))
    (List.getD l_2
        ((0 : Nat) +
          Int.toNat
            (IntKind.wrap IntKind.i64
              (Int.tdiv (IntKind.wrap IntKind.i64 (IntKind.wrap IntKind.i64 ((24 : Int) * a_1) + a_2)) (64 : Int))))
        (0 : UInt64) +
      a_3))) ∧
            (Int.toNat ((24 : Int) - IntKind.wrap IntKind.i64 (a_2 + (1 : Int))) < Int.toNat ((24 : Int) - a_2)))))))))))))))
          (((((0 : Nat) = (0 : Nat)) ∧
           (List.length l_1 = List.length l_1)) ∧
          (((a, n, a_1, ()) = (a, n, a_1, ())) ∧
          ((iTwB a n a_1 (IntKind.wrap IntKind.i64 (a_2 + (1 : Int))) l_1) ∧
          (Int.toNat ((24 : Int) - IntKind.wrap IntKind.i64 (a_2 + (1 : Int))) < Int.toNat ((24 : Int) - a_2)))))))
        (((((0 : Nat) = (0 : Nat)) ∧
         (List.length l_1 = List.length l_1)) ∧
        (((a, n, a_1, ()) = (a, n, a_1, ())) ∧
        ((iTwB a n a_1 (IntKind.wrap IntKind.i64 (a_2 + (1 : Int))) l_1) ∧
        (Int.toNat ((24 : Int) - IntKind.wrap IntKind.i64 (a_2 + (1 : Int))) < Int.toNat ((24 : Int) - a_2))))))))))
      (((((0 : Nat) = (0 : Nat)) ∧
       (List.length l_1 = List.length l_1)) ∧
      (((a, n, ()) = (a, n, ())) ∧
      ((iTwA a n (IntKind.wrap IntKind.i64 (a_1 + (1 : Int))) l_1) ∧
      (Int.toNat ((↑(List.length a) : Int) - IntKind.wrap IntKind.i64 (a_1 + (1 : Int))) <
  Int.toNat ((↑(List.length a) : Int) - a_1))))))))))))
    ((Q (SV.lst (LV.words (List.drop (0 : Nat) (List.take ((0 : Nat) + List.length l) l)))))))))))) := by kernel_rfl
def sToWords : SpecF := fspec (α := List Int × Int × Unit) (β := List UInt64) (fun a => some (Dg a.1 ∧ 0 ≤ a.2.1 ∧ a.2.1 ≤ 1048576)) (fun a => wordsL (nv a.1) a.2.1.toNat)

/-- A number out of words, the lowest first. -/
def wv : List UInt64 → Nat
  | [] => 0
  | x :: l => x.toNat + 18446744073709551616 * wv l
def iWords (l : List UInt64) (out : Nat) (i : Int) : Prop := -1 ≤ i ∧ i < l.length ∧ out = wv (l.drop (i + 1).toNat)
def lWords : Plan := { loops := [(0, { β := List UInt64 × Unit, α := Num × Int × Unit, same := [0], keep := [3, 4], inv := fun b _ x => iWords b.1 x.1.n x.2.1, meas := fun _ x => (x.2.1 + 1).toNat })] }
def spRW : Specs := (16, sAdd) :: spRP
theorem vcWords (l : List UInt64) (Q : SV → Prop) : LnRaw tt spRW 3 [] lWords Try.f34 Q (l, ()) =
  ((iWords l (0 : Nat) (IntKind.wrap IntKind.i64 ((↑(List.length l) : Int) - (1 : Int)))) ∧
  (∀ a : Num,
  (∀ a_1 : Int,
  ((iWords l (Num.n a) a_1) →
  bcase (decide (a_1 ≥ (0 : Int)))
    (((((0 : Int) ≤ a_1) ∧
     (a_1 < (↑(List.length l) : Int))) ∧
    (((Dig (dg (Num.n a))) ∧
     ((List.length (dg (Num.n a)) ≤ (536870912 : Nat)) ∧
     (((0 : Int) ≤ (64 : Int)) ∧
     ((64 : Int) ≤ (1073741824 : Int))))) ∧
    (((Dg (dg (nv (dg (Num.n a)) * (2 : Nat) ^ Int.toNat (64 : Int)))) ∧
     (Dg
  (List.drop (0 : Nat)
    (List.take ((0 : Nat) + (3 : Nat))
      [IntKind.wrap IntKind.i64
          (↑(UInt64.toNat (List.getD l (Int.toNat a_1) (0 : UInt64) % UInt64.ofNat (Int.toNat (16777216 : Int)))) :
            Int),
        IntKind.wrap IntKind.i64
          (↑(UInt64.toNat
                (List.getD l (Int.toNat a_1) (0 : UInt64) / UInt64.ofNat (Int.toNat (16777216 : Int)) %
                  UInt64.ofNat (Int.toNat (16777216 : Int)))) :
            Int),
        IntKind.wrap IntKind.i64
          (↑(UInt64.toNat
                (List.getD l (Int.toNat a_1) (0 : UInt64) / UInt64.ofNat (Int.toNat (281474976710656 : Int)))) :
            Int)])))) ∧
    (((l, ()) = (l, ())) ∧
    ((iWords l
  (nv (dg (nv (dg (Num.n a)) * (2 : Nat) ^ Int.toNat (64 : Int))) +
    nv
      (List.drop (0 : Nat)
        (List.take ((0 : Nat) + (3 : Nat))
          [IntKind.wrap IntKind.i64
              (↑(UInt64.toNat (List.getD l (Int.toNat a_1) (0 : UInt64) % UInt64.ofNat (Int.toNat (16777216 : Int)))) :
                Int),
            IntKind.wrap IntKind.i64
              (↑(UInt64.toNat
                    (List.getD l (Int.toNat a_1) (0 : UInt64) / UInt64.ofNat (Int.toNat (16777216 : Int)) %
                      UInt64.ofNat (Int.toNat (16777216 : Int)))) :
                Int),
            IntKind.wrap IntKind.i64
              (↑(UInt64.toNat
                    (List.getD l (Int.toNat a_1) (0 : UInt64) / UInt64.ofNat (Int.toNat (281474976710656 : Int)))) :
                Int)])))
  (IntKind.wrap IntKind.i64 (a_1 - (1 : Int)))) ∧
    (Int.toNat (IntKind.wrap IntKind.i64 (a_1 - (1 : Int)) + (1 : Int)) < Int.toNat (a_1 + (1 : Int)))))))))
    ((((Dig (dg (Num.n a))) ∧
     (List.length (dg (Num.n a)) ≤ (4294967296 : Nat))) ∧
    (Q (SV.lst (LV.num (nv (dg (Num.n a)))))))))))) := by kernel_rfl
def sWords : SpecF := fspec (α := List UInt64 × Unit) (β := Num) (fun a => some (a.1.length ≤ 1048576)) (fun a => ⟨wv a.1⟩)

def fourN (n : Nat) : Four := ⟨UInt64.ofNat n, UInt64.ofNat (n / 2 ^ 64), UInt64.ofNat (n / 2 ^ 128), UInt64.ofNat (n / 2 ^ 192)⟩
def spRF : Specs := [(31, sToWords), (34, sWords)]
theorem vcFour (a : List Int) (Q : SV → Prop) : LnRaw tt spRF 3 [] {} Try.f20 Q (a, ()) =
  (((Dg a) ∧
   (((0 : Int) ≤ (4 : Int)) ∧
   ((4 : Int) ≤ (1048576 : Int)))) ∧
  ((((0 : Int) ≤ (0 : Int)) ∧
   ((0 : Int) < (↑(List.length (wordsL (nv a) (Int.toNat (4 : Int)))) : Int))) ∧
  ((((0 : Int) ≤ (1 : Int)) ∧
   ((1 : Int) < (↑(List.length (wordsL (nv a) (Int.toNat (4 : Int)))) : Int))) ∧
  ((((0 : Int) ≤ (2 : Int)) ∧
   ((2 : Int) < (↑(List.length (wordsL (nv a) (Int.toNat (4 : Int)))) : Int))) ∧
  ((((0 : Int) ≤ (3 : Int)) ∧
   ((3 : Int) < (↑(List.length (wordsL (nv a) (Int.toNat (4 : Int)))) : Int))) ∧
  (Q
  (SV.agg
    [SV.u64 (List.getD (wordsL (nv a) (Int.toNat (4 : Int))) (Int.toNat (0 : Int)) (0 : UInt64)),
      SV.u64 (List.getD (wordsL (nv a) (Int.toNat (4 : Int))) (Int.toNat (1 : Int)) (0 : UInt64)),
      SV.u64 (List.getD (wordsL (nv a) (Int.toNat (4 : Int))) (Int.toNat (2 : Int)) (0 : UInt64)),
      SV.u64 (List.getD (wordsL (nv a) (Int.toNat (4 : Int))) (Int.toNat (3 : Int)) (0 : UInt64))]))))))) := by kernel_rfl
def sFour : SpecF := fspec (α := List Int × Unit) (β := Four) (fun a => some (Dg a.1)) (fun a => fourN (nv a.1))
theorem vcOf (a : Four) (Q : SV → Prop) : LnRaw tt spRF 3 [] {} Try.f13 Q (a, ()) =
  ((List.length (List.drop (0 : Nat) (List.take ((0 : Nat) + (4 : Nat)) [Four.w0 a, Four.w1 a, Four.w2 a, Four.w3 a])) ≤
  (1048576 : Nat)) ∧
  (Q
  (SV.lst
    (LV.num
      (wv (List.drop (0 : Nat) (List.take ((0 : Nat) + (4 : Nat)) [Four.w0 a, Four.w1 a, Four.w2 a, Four.w3 a]))))))) := by kernel_rfl
def sOf : SpecF := fspec (α := Four × Unit) (β := Num) total (fun a => ⟨wv [a.1.w0, a.1.w1, a.1.w2, a.1.w3]⟩)

/-- A number out of bytes, the highest first. -/
def bev (b : List UInt8) : Nat := b.foldl (fun n x => n * 256 + x.toNat) 0
def iBig (b : List UInt8) (out : Nat) (i : Int) : Prop := 0 ≤ i ∧ i ≤ b.length ∧ out = bev (b.take i.toNat)
def lBig : Plan := { loops := [(0, { β := List UInt8 × Unit, α := Num × Int × Unit, same := [0], keep := [3, 4], inv := fun b _ x => iBig b.1 x.1.n x.2.1, meas := fun b x => (b.1.length - x.2.1).toNat })] }
theorem vcBig (b : List UInt8) (Q : SV → Prop) : LnRaw tt ((16, sAdd) :: spRS) 3 [] lBig Try.f29 Q (b, ()) =
  ((iBig b (0 : Nat) (0 : Int)) ∧
  (∀ a : Num,
  (∀ a_1 : Int,
  ((iBig b (Num.n a) a_1) →
  bcase (decide (a_1 < (↑(List.length b) : Int)))
    ((((Dg (dg (Num.n a))) ∧
     (((0 : Int) ≤ (256 : Int)) ∧
     ((256 : Int) < (9223372036854775808 : Int)))) ∧
    ((((0 : Int) ≤ a_1) ∧
     (a_1 < (↑(List.length b) : Int))) ∧
    ((((0 : Int) ≤ (↑(UInt8.toNat (List.getD b (Int.toNat a_1) (0 : UInt8))) : Int)) ∧
     ((↑(UInt8.toNat (List.getD b (Int.toNat a_1) (0 : UInt8))) : Int) < (9223372036854775808 : Int))) ∧
    (((Dg (dg (nv (dg (Num.n a)) * Int.toNat (256 : Int)))) ∧
     (Dg (dg (Int.toNat (↑(UInt8.toNat (List.getD b (Int.toNat a_1) (0 : UInt8))) : Int))))) ∧
    (((b, ()) = (b, ())) ∧
    ((iBig b
  (nv (dg (nv (dg (Num.n a)) * Int.toNat (256 : Int))) +
    nv (dg (Int.toNat (↑(UInt8.toNat (List.getD b (Int.toNat a_1) (0 : UInt8))) : Int))))
  (IntKind.wrap IntKind.i64 (a_1 + (1 : Int)))) ∧
    (Int.toNat ((↑(List.length b) : Int) - IntKind.wrap IntKind.i64 (a_1 + (1 : Int))) <
  Int.toNat ((↑(List.length b) : Int) - a_1)))))))))
    ((Q (SV.lst (LV.num (Num.n a))))))))) := by kernel_rfl
def sBig : SpecF := fspec (α := List UInt8 × Unit) (β := Num) (fun a => some (a.1.length ≤ 1048576)) (fun a => ⟨bev a.1⟩)

def iTurned (b : List UInt8) (out : List UInt8) (i : Int) : Prop := -1 ≤ i ∧ i < b.length ∧ out = (b.drop (i + 1).toNat).reverse
def lTurned : Plan := { loops := [(0, { β := List UInt8 × Unit, α := OwnB × Int × Unit, same := [0], keep := [3, 4], inv := fun b _ x => iTurned b.1 x.1.l x.2.1, meas := fun _ x => (x.2.1 + 1).toNat })] }
theorem vcTurned (b : List UInt8) (Q : SV → Prop) : LnRaw tt [] 3 [] lTurned Try.f66 Q (b, ()) =
  ((((0 : Nat) = (0 : Nat)) ∧
   ((0 : Nat) = List.length (List.replicate (0 : Nat) (0 : UInt8)))) ∧
  ((iTurned b (List.replicate (0 : Nat) (0 : UInt8)) (IntKind.wrap IntKind.i64 ((↑(List.length b) : Int) - (1 : Int)))) ∧
  (∀ l : List UInt8,
  (∀ a : Int,
  ((iTurned b l a) →
  bcase (decide (a ≥ (0 : Int)))
    (((((0 : Int) ≤ a) ∧
     (a < (↑(List.length b) : Int))) ∧
    ((((0 : Nat) + List.length l = List.length l) ∧
     (List.length
    (List.drop (0 : Nat) (List.take (List.length l) l) ++
      List.drop (0 : Nat) (List.take ((0 : Nat) + (1 : Nat)) [List.getD b (Int.toNat a) (0 : UInt8)])) ≤
  appLim)) ∧
    ((((0 : Nat) = (0 : Nat)) ∧
     (List.length
    (List.drop (0 : Nat) (List.take (List.length l) l) ++
      List.drop (0 : Nat) (List.take ((0 : Nat) + (1 : Nat)) [List.getD b (Int.toNat a) (0 : UInt8)])) =
  List.length
    (List.drop (0 : Nat) (List.take (List.length l) l) ++
      List.drop (0 : Nat) (List.take ((0 : Nat) + (1 : Nat)) [List.getD b (Int.toNat a) (0 : UInt8)])))) ∧
    (((b, ()) = (b, ())) ∧
    ((iTurned b
  (List.drop (0 : Nat) (List.take (List.length l) l) ++
    List.drop (0 : Nat) (List.take ((0 : Nat) + (1 : Nat)) [List.getD b (Int.toNat a) (0 : UInt8)]))
  (IntKind.wrap IntKind.i64 (a - (1 : Int)))) ∧
    (Int.toNat (IntKind.wrap IntKind.i64 (a - (1 : Int)) + (1 : Int)) < Int.toNat (a + (1 : Int)))))))))
    ((Q (SV.lst (LV.bytes (List.drop (0 : Nat) (List.take ((0 : Nat) + List.length l) l))))))))))) := by kernel_rfl
def sTurned : SpecF := fspec (α := List UInt8 × Unit) (β := List UInt8) (fun a => some (a.1.length ≤ 4294967296)) (fun a => a.1.reverse)
def spRB : Specs := [(29, sBig), (66, sTurned)]
theorem vcLittle (b : List UInt8) (Q : SV → Prop) : LnRaw tt spRB 3 [] {} Try.f28 Q (b, ()) =
  ((List.length b ≤ (4294967296 : Nat)) ∧
  ((List.length (List.reverse b) ≤ (1048576 : Nat)) ∧
  (Q (SV.lst (LV.num (bev (List.reverse b))))))) := by kernel_rfl
def sLittle : SpecF := fspec (α := List UInt8 × Unit) (β := Num) (fun a => some (a.1.length ≤ 1048576)) (fun a => ⟨bev a.1.reverse⟩)

/-- A number's lowest bytes, the lowest first. -/
def bytesN (m n : Nat) : List UInt8 := (List.range n).map fun i => UInt8.ofNat (m / 256 ^ i)
def iTlA (a : List Int) (n i : Int) (out : List UInt8) : Prop := 0 ≤ i ∧ i ≤ n ∧ out = (List.range n.toNat).map fun j => if j < i.toNat then UInt8.ofNat (nv a / 256 ^ j) else 0
def iTlB (a : List Int) (i : Int) (out0 : List UInt8) (x k : Int) (out : List UInt8) : Prop := out = out0 ∧ 0 ≤ k ∧ k ≤ i % 3 ∧ x = (((a.getD (i / 3).toNat 0).toNat / 256 ^ k.toNat : Nat) : Int)
def lToLittle : Plan := { loops := [(0, { β := List Int × Int × Unit, α := OwnB × Int × Unit, same := [0, 1], keep := [5, 6], inv := fun b _ x => iTlA b.1 b.2.1 x.2.1 x.1.l, meas := fun b x => (b.2.1 - x.2.1).toNat }), (2, { β := List Int × Int × Int × Unit, α := OwnB × Int × Int × Unit, same := [0, 1, 6], keep := [5, 7, 8], inv := fun b x0 x => iTlB b.1 b.2.2.1 x0.1.l x.2.1 x.2.2.1 x.1.l, meas := fun b x => (b.2.2.1 % 3 - x.2.2.1).toNat })] }
theorem vcToLittle (a : List Int) (n : Int) (Q : SV → Prop) : LnRaw tt [] 3 [] lToLittle Try.f24 Q (a, n, ()) =
  ((((0 : Int) ≤ n) ∧
   ((n = n) ∧
   (n ≤ (1099511627776 : Int)))) ∧
  ((((0 : Nat) = (0 : Nat)) ∧
   (Int.toNat n = List.length (List.replicate (Int.toNat n) (0 : UInt8)))) ∧
  ((iTlA a n (0 : Int) (List.replicate (Int.toNat n) (0 : UInt8))) ∧
  (∀ l : List UInt8,
  (∀ a_1 : Int,
  ((iTlA a n a_1 l) →
  bcase (decide (a_1 < n))
    (bcase (decide (IntKind.wrap IntKind.i64 (Int.tdiv a_1 (3 : Int)) < (↑(List.length a) : Int)))
      (((((0 : Int) ≤ IntKind.wrap IntKind.i64 (Int.tdiv a_1 (3 : Int))) ∧
       (IntKind.wrap IntKind.i64 (Int.tdiv a_1 (3 : Int)) < (↑(List.length a) : Int))) ∧
      ((((0 : Nat) = (0 : Nat)) ∧
       (List.length l = List.length l)) ∧
      ((iTlB a a_1 l (List.getD a (Int.toNat (IntKind.wrap IntKind.i64 (Int.tdiv a_1 (3 : Int)))) (0 : Int)) (0 : Int) l) ∧
      (∀ l_1 : List UInt8,
      (∀ a_2 : Int,
      (∀ a_3 : Int,
      ((iTlB a a_1 l a_2 a_3 l_1) →
      bcase (decide (a_3 < Int.tmod a_1 (3 : Int)))
        (((((0 : Nat) = (0 : Nat)) ∧
         (List.length l_1 = List.length l_1)) ∧
        (((a, n, a_1, ()) = (a, n, a_1, ())) ∧
        ((iTlB a a_1 l (IntKind.wrap IntKind.i64 (Int.tdiv a_2 (256 : Int))) (IntKind.wrap IntKind.i64 (a_3 + (1 : Int))) l_1) ∧
        (Int.toNat (a_1 % (3 : Int) - IntKind.wrap IntKind.i64 (a_3 + (1 : Int))) < Int.toNat (a_1 % (3 : Int) - a_3))))))
        (((((0 : Int) ≤ a_1) ∧
         (a_1 < (↑(List.length l_1) : Int))) ∧
        ((((0 : Nat) = (0 : Nat)) ∧
         (List.length l_1 = List.length (List.set l_1 ((0 : Nat) + Int.toNat a_1) (UInt8.ofInt (Int.tmod a_2 (256 : Int)))))) ∧
        (((a, n, ()) = (a, n, ())) ∧
        ((iTlA a n (IntKind.wrap IntKind.i64 (a_1 + (1 : Int)))
  (List.set l_1 ((0 : Nat) + Int.toNat a_1) (UInt8.ofInt (Int.tmod a_2 (256 : Int))))) ∧
        (Int.toNat (n - IntKind.wrap IntKind.i64 (a_1 + (1 : Int))) < Int.toNat (n - a_1)))))))))))))))
      (((((0 : Nat) = (0 : Nat)) ∧
       (List.length l = List.length l)) ∧
      (((a, n, ()) = (a, n, ())) ∧
      ((iTlA a n (IntKind.wrap IntKind.i64 (a_1 + (1 : Int))) l) ∧
      (Int.toNat (n - IntKind.wrap IntKind.i64 (a_1 + (1 : Int))) < Int.toNat (n - a_1)))))))
    ((Q (SV.lst (LV.bytes (List.drop (0 : Nat) (List.take ((0 : Nat) + List.length l) l)))))))))))) := by kernel_rfl
def sToLittle : SpecF := fspec (α := List Int × Int × Unit) (β := List UInt8) (fun a => some (Dg a.1 ∧ 0 ≤ a.2.1 ∧ a.2.1 ≤ 1048576)) (fun a => bytesN (nv a.1) a.2.1.toNat)
theorem vcToBig (a : List Int) (n : Int) (Q : SV → Prop) : LnRaw tt ((24, sToLittle) :: spRB) 3 [] {} Try.f25 Q (a, n, ()) =
  (((Dg a) ∧
   (((0 : Int) ≤ n) ∧
   (n ≤ (1048576 : Int)))) ∧
  ((List.length (bytesN (nv a) (Int.toNat n)) ≤ (4294967296 : Nat)) ∧
  (Q (SV.lst (LV.bytes (List.reverse (bytesN (nv a) (Int.toNat n)))))))) := by kernel_rfl
def sToBig : SpecF := fspec (α := List Int × Int × Unit) (β := List UInt8) (fun a => some (Dg a.1 ∧ 0 ≤ a.2.1 ∧ a.2.1 ≤ 1048576)) (fun a => (bytesN (nv a.1) a.2.1.toNat).reverse)

def iSame (a b : List UInt8) (i : Int) : Prop := 0 ≤ i ∧ i ≤ a.length ∧ a.length = b.length ∧ a.take i.toNat = b.take i.toNat
def lSame : Plan := { loops := [(0, { β := List UInt8 × List UInt8 × Unit, α := Int × Unit, same := [0, 1], keep := [5], inv := fun b _ x => iSame b.1 b.2.1 x.1, meas := fun b x => (b.1.length - x.1).toNat })] }
theorem vcSame (a b : List UInt8) (Q : SV → Prop) : LnRaw tt [] 3 [] lSame Try.f26 Q (a, b, ()) =
  bcase ((↑(List.length a) : Int) != (↑(List.length b) : Int))
    ((Q (SV.bool false)))
    (((iSame a b (0 : Int)) ∧
    (∀ a_1 : Int,
    ((iSame a b a_1) →
    bcase (decide (a_1 < (↑(List.length a) : Int)))
      (((((0 : Int) ≤ a_1) ∧
       (a_1 < (↑(List.length a) : Int))) ∧
      ((((0 : Int) ≤ a_1) ∧
       (a_1 < (↑(List.length b) : Int))) ∧
      bcase (List.getD a (Int.toNat a_1) (0 : UInt8) != List.getD b (Int.toNat a_1) (0 : UInt8))
        ((Q (SV.bool false)))
        ((((a, b, ()) = (a, b, ())) ∧
        ((iSame a b (IntKind.wrap IntKind.i64 (a_1 + (1 : Int)))) ∧
        (Int.toNat ((↑(List.length a) : Int) - IntKind.wrap IntKind.i64 (a_1 + (1 : Int))) <
  Int.toNat ((↑(List.length a) : Int) - a_1))))))))
      ((Q (SV.bool true))))))) := by kernel_rfl
def sSame : SpecF := fspec (α := List UInt8 × List UInt8 × Unit) (β := Bool) (fun a => some (a.1.length ≤ 4294967296)) (fun a => decide (a.1 = a.2.1))
end Go.Proofs.Ythechjccpljljaa.R1
