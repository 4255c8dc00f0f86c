/- Quotients; package ring: what its functions come to. -/
import Derived.Test.YthechjccpljljaaP5
import Derived.Test.YthechjccpljljaaP6
/- The reference's functions on digits (7): quotients and rests: what they say, and what their bodies come to. -/
namespace Go.Proofs.Ythechjccpljljaa.R1
open Go.Sym Go.Dig

--STOP Go.Dig.Dig, Dg, Can, Sm

def spDg : Specs := [(68, sSmall), (19, nCmp), (17, nSub), (64, sTrim)]
def iDgA (a : Nat) (b : List Int) (rest : Nat) (i : Int) (q : List Int) : Prop := -1 ≤ i ∧ i < (dg a).length ∧ q.length = (dg a).length ∧ Dig q ∧ (∀ k : Nat, (k : Int) ≤ i → q.getD k 0 = 0) ∧
  rest = a / 16777216 ^ (i + 1).toNat % nv b ∧ nv q = 16777216 ^ (i + 1).toNat * (a / 16777216 ^ (i + 1).toNat / nv b)
def iDgB (b : List Int) (rest : Nat) (q0 : List Int) (low high : Int) (q : List Int) : Prop := q = q0 ∧ 0 ≤ low ∧ low ≤ ((rest / nv b : Nat) : Int) ∧ ((rest / nv b : Nat) : Int) < high ∧ high ≤ 16777216
def lDigits : Plan := { loops := [(0, { β := Num × List Int × Unit, α := Num × OwnI × Int × Unit, same := [0, 1], keep := [6, 7, 8], inv := fun b _ x => iDgA b.1.n b.2.1 x.1.n x.2.2.1 x.2.1.l, meas := fun _ x => (x.2.2.1 + 1).toNat }), (2, { β := Num × List Int × Num × Int × Unit, α := OwnI × Int × Int × Unit, same := [0, 1, 6, 8], keep := [7, 10, 11], inv := fun b x0 x => iDgB b.2.1 b.2.2.1.n x0.1.l x.2.1 x.2.2.1 x.1.l, meas := fun _ x => (x.2.2.1 - x.2.1).toNat })], cuts := [(7, { β := Num × List Int × Int × Unit, γ := Num × OwnI × Unit, α := Num × OwnI × Unit, same := [0, 1, 8], pre := [6, 7], keep := [6, 7], inv := fun b g x => x.1.n = ((dg b.1.n).getD b.2.2.1.toNat 0).toNat + 16777216 * g.1.n ∧ x.2.1.l = g.2.1.l })], forks := [(10, { β := Num × List Int × Num × Int × Unit, γ := OwnI × Unit, α := OwnI × Int × Int × Unit, same := [0, 1, 6, 8], pre := [7], keep := [7, 10, 11], inv := fun b g x => iDgB b.2.1 b.2.2.1.n g.1.l x.2.1 x.2.2.1 x.1.l })] }
theorem vcDigits (a : Nat) (b : List Int) (Q : SV → Prop) : LnRaw tt spDg 3 [] lDigits Try.f83 Q ((⟨a⟩ : Num), b, ()) =
  ((((0 : Int) ≤ (↑(List.length (dg a)) : Int)) ∧
   (((↑(List.length (dg a)) : Int) = (↑(List.length (dg a)) : Int)) ∧
   ((↑(List.length (dg a)) : Int) ≤ (1099511627776 : Int)))) ∧
  ((((0 : Nat) = (0 : Nat)) ∧
   (Int.toNat (↑(List.length (dg a)) : Int) =
  List.length (List.replicate (Int.toNat (↑(List.length (dg a)) : Int)) (0 : Int)))) ∧
  ((iDgA a b (0 : Nat) (IntKind.wrap IntKind.i64 ((↑(List.length (dg a)) : Int) - (1 : Int)))
  (List.replicate (Int.toNat (↑(List.length (dg a)) : Int)) (0 : Int))) ∧
  (∀ a_1 : Num,
  (∀ l : List Int,
  (∀ a_2 : Int,
  ((iDgA a b (Num.n a_1) a_2 l) →
  bcase (decide (a_2 ≥ (0 : Int)))
    (((((0 : Int) ≤ a_2) ∧
     (a_2 < (↑(List.length (dg a)) : Int))) ∧
    ((((0 : Nat) = (0 : Nat)) ∧
     (List.length l = List.length l)) ∧
    (((((0 : Nat) + (1 : Nat) = List.length [List.getD (dg a) (Int.toNat a_2) (0 : Int)]) ∧
      (List.length
    (List.drop (0 : Nat)
        (List.take (List.length [List.getD (dg a) (Int.toNat a_2) (0 : Int)])
          [List.getD (dg a) (Int.toNat a_2) (0 : Int)]) ++
      dg (Num.n a_1)) ≤
  appLim)) ∧
     (((Dig
  (List.drop (0 : Nat)
    (List.take
      ((0 : Nat) +
        List.length
          (List.drop (0 : Nat)
              (List.take (List.length [List.getD (dg a) (Int.toNat a_2) (0 : Int)])
                [List.getD (dg a) (Int.toNat a_2) (0 : Int)]) ++
            dg (Num.n a_1)))
      (List.drop (0 : Nat)
          (List.take (List.length [List.getD (dg a) (Int.toNat a_2) (0 : Int)])
            [List.getD (dg a) (Int.toNat a_2) (0 : Int)]) ++
        dg (Num.n a_1))))) ∧
      (List.length
    (List.drop (0 : Nat)
      (List.take
        ((0 : Nat) +
          List.length
            (List.drop (0 : Nat)
                (List.take (List.length [List.getD (dg a) (Int.toNat a_2) (0 : Int)])
                  [List.getD (dg a) (Int.toNat a_2) (0 : Int)]) ++
              dg (Num.n a_1)))
        (List.drop (0 : Nat)
            (List.take (List.length [List.getD (dg a) (Int.toNat a_2) (0 : Int)])
              [List.getD (dg a) (Int.toNat a_2) (0 : Int)]) ++
          dg (Num.n a_1)))) ≤
  (4294967296 : Nat))) ∧
     ((((0 : Nat) = (0 : Nat)) ∧
      (List.length l = List.length l)) ∧
     (((Num.mk a, b, a_2, ()) = (Num.mk a, b, a_2, ())) ∧
     ((nv
    (List.drop (0 : Nat)
      (List.take
        ((0 : Nat) +
          List.length
            (List.drop (0 : Nat)
                (List.take (List.length [List.getD (dg a) (Int.toNat a_2) (0 : Int)])
                  [List.getD (dg a) (Int.toNat a_2) (0 : Int)]) ++
              dg (Num.n a_1)))
        (List.drop (0 : Nat)
            (List.take (List.length [List.getD (dg a) (Int.toNat a_2) (0 : Int)])
              [List.getD (dg a) (Int.toNat a_2) (0 : Int)]) ++
          dg (Num.n a_1)))) =
  Int.toNat (List.getD (dg a) (Int.toNat a_2) (0 : Int)) + (16777216 : Nat) * Num.n a_1) ∧
     (l = l)))))) ∧
    (∀ a_3 : Num,
    (∀ l_1 : List Int,
    (((Num.n a_3 = Int.toNat (List.getD (dg a) (Int.toNat a_2) (0 : Int)) + (16777216 : Nat) * Num.n a_1) ∧
    (l_1 = l)) →
    ((((0 : Nat) = (0 : Nat)) ∧
     (List.length l_1 = List.length l_1)) ∧
    (bcase (decide ((↑(List.length (dg (Num.n a_3))) : Int) < (↑(List.length b) : Int)))
       (((((0 : Nat) = (0 : Nat)) ∧
        (List.length l_1 = List.length l_1)) ∧
       (((Num.mk a, b, a_3, a_2, ()) = (Num.mk a, b, a_3, a_2, ())) ∧
       (iDgB b (Num.n a_3) l_1 (0 : Int) (1 : Int) l_1))))
       (((((0 : Int) ≤ IntKind.wrap IntKind.i64 ((↑(List.length (dg (Num.n a_3))) : Int) - (1 : Int))) ∧
        (IntKind.wrap IntKind.i64 ((↑(List.length (dg (Num.n a_3))) : Int) - (1 : Int)) < (↑(List.length (dg (Num.n a_3))) : Int))) ∧
       bcase (decide ((↑(List.length (dg (Num.n a_3))) : Int) > (↑(List.length b) : Int)))
         (((((0 : Int) ≤ IntKind.wrap IntKind.i64 ((↑(List.length (dg (Num.n a_3))) : Int) - (2 : Int))) ∧
          (IntKind.wrap IntKind.i64 ((↑(List.length (dg (Num.n a_3))) : Int) - (2 : Int)) < (↑(List.length (dg (Num.n a_3))) : Int))) ∧
         ((((0 : Int) ≤ IntKind.wrap IntKind.i64 ((↑(List.length b) : Int) - (1 : Int))) ∧
          (IntKind.wrap IntKind.i64 ((↑(List.length b) : Int) - (1 : Int)) < (↑(List.length b) : Int))) ∧
         ((IntKind.wrap IntKind.i64
    (List.getD b (Int.toNat (IntKind.wrap IntKind.i64 ((↑(List.length b) : Int) - (1 : Int)))) (0 : Int) + (1 : Int)) ≠
  (0 : Int)) ∧
         ((((0 : Int) ≤ IntKind.wrap IntKind.i64 ((↑(List.length b) : Int) - (1 : Int))) ∧
          (IntKind.wrap IntKind.i64 ((↑(List.length b) : Int) - (1 : Int)) < (↑(List.length b) : Int))) ∧
         ((List.getD b (Int.toNat (IntKind.wrap IntKind.i64 ((↑(List.length b) : Int) - (1 : Int)))) (0 : Int) ≠ (0 : Int)) ∧
         bcase (decide
  (IntKind.wrap IntKind.i64
      (IntKind.wrap IntKind.i64
          (Int.tdiv
            (IntKind.wrap IntKind.i64
              (IntKind.wrap IntKind.i64
                  (List.getD (dg (Num.n a_3))
                      (Int.toNat (IntKind.wrap IntKind.i64 ((↑(List.length (dg (Num.n a_3))) : Int) - (1 : Int))))
                      (0 : Int) *
                    (16777216 : Int)) +
                List.getD (dg (Num.n a_3))
                  (Int.toNat (IntKind.wrap IntKind.i64 ((↑(List.length (dg (Num.n a_3))) : Int) - (2 : Int))))
                  (0 : Int)))
            (List.getD b (Int.toNat (IntKind.wrap IntKind.i64 ((↑(List.length b) : Int) - (1 : Int)))) (0 : Int))) +
        (1 : Int)) >
    (16777216 : Int)))
           (((((0 : Nat) = (0 : Nat)) ∧
            (List.length l_1 = List.length l_1)) ∧
           (((Num.mk a, b, a_3, a_2, ()) = (Num.mk a, b, a_3, a_2, ())) ∧
           (iDgB b (Num.n a_3) l_1
  (IntKind.wrap IntKind.i64
    (Int.tdiv
      (IntKind.wrap IntKind.i64
        (IntKind.wrap IntKind.i64
            (List.getD (dg (Num.n a_3))
                (Int.toNat (IntKind.wrap IntKind.i64 ((↑(List.length (dg (Num.n a_3))) : Int) - (1 : Int)))) (0 : Int) *
              (16777216 : Int)) +
          List.getD (dg (Num.n a_3))
            (Int.toNat (IntKind.wrap IntKind.i64 ((↑(List.length (dg (Num.n a_3))) : Int) - (2 : Int)))) (0 : Int)))
      (IntKind.wrap IntKind.i64
        (List.getD b (Int.toNat (IntKind.wrap IntKind.i64 ((↑(List.length b) : Int) - (1 : Int)))) (0 : Int) +
          (1 : Int)))))
  (16777216 : Int) l_1))))
           (((((0 : Nat) = (0 : Nat)) ∧
            (List.length l_1 = List.length l_1)) ∧
           (((Num.mk a, b, a_3, a_2, ()) = (Num.mk a, b, a_3, a_2, ())) ∧
           (iDgB b (Num.n a_3) l_1
  (IntKind.wrap IntKind.i64
    (Int.tdiv
      (IntKind.wrap IntKind.i64
        (IntKind.wrap IntKind.i64
            (List.getD (dg (Num.n a_3))
                (Int.toNat (IntKind.wrap IntKind.i64 ((↑(List.length (dg (Num.n a_3))) : Int) - (1 : Int)))) (0 : Int) *
              (16777216 : Int)) +
          List.getD (dg (Num.n a_3))
            (Int.toNat (IntKind.wrap IntKind.i64 ((↑(List.length (dg (Num.n a_3))) : Int) - (2 : Int)))) (0 : Int)))
      (IntKind.wrap IntKind.i64
        (List.getD b (Int.toNat (IntKind.wrap IntKind.i64 ((↑(List.length b) : Int) - (1 : Int)))) (0 : Int) +
          (1 : Int)))))
  (IntKind.wrap IntKind.i64
    (IntKind.wrap IntKind.i64
        (Int.tdiv
          (IntKind.wrap IntKind.i64
            (IntKind.wrap IntKind.i64
                (List.getD (dg (Num.n a_3))
                    (Int.toNat (IntKind.wrap IntKind.i64 ((↑(List.length (dg (Num.n a_3))) : Int) - (1 : Int))))
                    (0 : Int) *
                  (16777216 : Int)) +
              List.getD (dg (Num.n a_3))
                (Int.toNat (IntKind.wrap IntKind.i64 ((↑(List.length (dg (Num.n a_3))) : Int) - (2 : Int)))) (0 : Int)))
          (List.getD b (Int.toNat (IntKind.wrap IntKind.i64 ((↑(List.length b) : Int) - (1 : Int)))) (0 : Int))) +
      (1 : Int)))
  l_1))))))))))
         (((((0 : Int) ≤ IntKind.wrap IntKind.i64 ((↑(List.length b) : Int) - (1 : Int))) ∧
          (IntKind.wrap IntKind.i64 ((↑(List.length b) : Int) - (1 : Int)) < (↑(List.length b) : Int))) ∧
         ((IntKind.wrap IntKind.i64
    (List.getD b (Int.toNat (IntKind.wrap IntKind.i64 ((↑(List.length b) : Int) - (1 : Int)))) (0 : Int) + (1 : Int)) ≠
  (0 : Int)) ∧
         ((((0 : Int) ≤ IntKind.wrap IntKind.i64 ((↑(List.length b) : Int) - (1 : Int))) ∧
          (IntKind.wrap IntKind.i64 ((↑(List.length b) : Int) - (1 : Int)) < (↑(List.length b) : Int))) ∧
         ((List.getD b (Int.toNat (IntKind.wrap IntKind.i64 ((↑(List.length b) : Int) - (1 : Int)))) (0 : Int) ≠ (0 : Int)) ∧
         bcase (decide
  (IntKind.wrap IntKind.i64
      (IntKind.wrap IntKind.i64
          (Int.tdiv
            (List.getD (dg (Num.n a_3))
              (Int.toNat (IntKind.wrap IntKind.i64 ((↑(List.length (dg (Num.n a_3))) : Int) - (1 : Int)))) (0 : Int))
            (List.getD b (Int.toNat (IntKind.wrap IntKind.i64 ((↑(List.length b) : Int) - (1 : Int)))) (0 : Int))) +
        (1 : Int)) >
    (16777216 : Int)))
           (((((0 : Nat) = (0 : Nat)) ∧
            (List.length l_1 = List.length l_1)) ∧
           (((Num.mk a, b, a_3, a_2, ()) = (Num.mk a, b, a_3, a_2, ())) ∧
           (iDgB b (Num.n a_3) l_1
  (IntKind.wrap IntKind.i64
    (Int.tdiv
      (List.getD (dg (Num.n a_3))
        (Int.toNat (IntKind.wrap IntKind.i64 ((↑(List.length (dg (Num.n a_3))) : Int) - (1 : Int)))) (0 : Int))
      (IntKind.wrap IntKind.i64
        (List.getD b (Int.toNat (IntKind.wrap IntKind.i64 ((↑(List.length b) : Int) - (1 : Int)))) (0 : Int) +
          (1 : Int)))))
  (16777216 : Int) l_1))))
           (((((0 : Nat) = (0 : Nat)) ∧
            (List.length l_1 = List.length l_1)) ∧
           (((Num.mk a, b, a_3, a_2, ()) = (Num.mk a, b, a_3, a_2, ())) ∧
           (iDgB b (Num.n a_3) l_1
  (IntKind.wrap IntKind.i64
    (Int.tdiv
      (List.getD (dg (Num.n a_3))
        (Int.toNat (IntKind.wrap IntKind.i64 ((↑(List.length (dg (Num.n a_3))) : Int) - (1 : Int)))) (0 : Int))
      (IntKind.wrap IntKind.i64
        (List.getD b (Int.toNat (IntKind.wrap IntKind.i64 ((↑(List.length b) : Int) - (1 : Int)))) (0 : Int) +
          (1 : Int)))))
  (IntKind.wrap IntKind.i64
    (IntKind.wrap IntKind.i64
        (Int.tdiv
          (List.getD (dg (Num.n a_3))
            (Int.toNat (IntKind.wrap IntKind.i64 ((↑(List.length (dg (Num.n a_3))) : Int) - (1 : Int)))) (0 : Int))
          (List.getD b (Int.toNat (IntKind.wrap IntKind.i64 ((↑(List.length b) : Int) - (1 : Int)))) (0 : Int))) +
      (1 : Int)))
  l_1))))))))))) ∧
    (∀ l_2 : List Int,
    (∀ a_4 : Int,
    (∀ a_5 : Int,
    ((iDgB b (Num.n a_3) l_1 a_4 a_5 l_2) →
    ((((0 : Nat) = (0 : Nat)) ∧
     (List.length l_2 = List.length l_2)) ∧
    ((iDgB b (Num.n a_3) l_2 a_4 a_5 l_2) ∧
    (∀ l_3 : List Int,
    (∀ a_6 : Int,
    (∀ a_7 : Int,
    ((iDgB b (Num.n a_3) l_2 a_6 a_7 l_3) →
    bcase (decide (IntKind.wrap IntKind.i64 (a_7 - a_6) > (1 : Int)))
      ((((Dg b) ∧
       (((0 : Int) ≤ IntKind.wrap IntKind.i64 (Int.tdiv (IntKind.wrap IntKind.i64 (a_6 + a_7)) (2 : Int))) ∧
       (IntKind.wrap IntKind.i64 (Int.tdiv (IntKind.wrap IntKind.i64 (a_6 + a_7)) (2 : Int)) < (9223372036854775808 : Int)))) ∧
      (((Sm (nv b * Int.toNat (IntKind.wrap IntKind.i64 (Int.tdiv (IntKind.wrap IntKind.i64 (a_6 + a_7)) (2 : Int))))) ∧
       (Sm (Num.n a_3))) ∧
      bcase (decide
  (cmpN (nv b * Int.toNat (IntKind.wrap IntKind.i64 (Int.tdiv (IntKind.wrap IntKind.i64 (a_6 + a_7)) (2 : Int))))
      (Num.n a_3) ≤
    (0 : Int)))
        (((((0 : Nat) = (0 : Nat)) ∧
         (List.length l_3 = List.length l_3)) ∧
        (((Num.mk a, b, a_3, a_2, ()) = (Num.mk a, b, a_3, a_2, ())) ∧
        ((iDgB b (Num.n a_3) l_2 (IntKind.wrap IntKind.i64 (Int.tdiv (IntKind.wrap IntKind.i64 (a_6 + a_7)) (2 : Int))) a_7 l_3) ∧
        (Int.toNat (a_7 - IntKind.wrap IntKind.i64 (Int.tdiv (IntKind.wrap IntKind.i64 (a_6 + a_7)) (2 : Int))) <
  Int.toNat (a_7 - a_6))))))
        (((((0 : Nat) = (0 : Nat)) ∧
         (List.length l_3 = List.length l_3)) ∧
        (((Num.mk a, b, a_3, a_2, ()) = (Num.mk a, b, a_3, a_2, ())) ∧
        ((iDgB b (Num.n a_3) l_2 a_6 (IntKind.wrap IntKind.i64 (Int.tdiv (IntKind.wrap IntKind.i64 (a_6 + a_7)) (2 : Int))) l_3) ∧
        (Int.toNat (IntKind.wrap IntKind.i64 (Int.tdiv (IntKind.wrap IntKind.i64 (a_6 + a_7)) (2 : Int)) - a_6) <
  Int.toNat (a_7 - a_6)))))))))
      (((((0 : Int) ≤ a_2) ∧
       (a_2 < (↑(List.length l_3) : Int))) ∧
      (((Dg b) ∧
       (((0 : Int) ≤ a_6) ∧
       (a_6 < (9223372036854775808 : Int)))) ∧
      (((Sm (Num.n a_3)) ∧
       ((nv b * Int.toNat a_6 ≤ Num.n a_3) ∧
       (Sm (nv b * Int.toNat a_6)))) ∧
      ((((0 : Nat) = (0 : Nat)) ∧
       (List.length l_3 = List.length (List.set l_3 ((0 : Nat) + Int.toNat a_2) a_6))) ∧
      (((Num.mk a, b, ()) = (Num.mk a, b, ())) ∧
      ((iDgA a b (Num.n a_3 - nv b * Int.toNat a_6) (IntKind.wrap IntKind.i64 (a_2 - (1 : Int)))
  (List.set l_3 ((0 : Nat) + Int.toNat a_2) a_6)) ∧
      (Int.toNat (IntKind.wrap IntKind.i64 (a_2 - (1 : Int)) + (1 : Int)) < Int.toNat (a_2 + (1 : Int)))))))))))))))))))))))))))))
    ((((Dig (List.drop (0 : Nat) (List.take ((0 : Nat) + List.length l) l))) ∧
     (List.length (List.drop (0 : Nat) (List.take ((0 : Nat) + List.length l) l)) ≤ (4294967296 : Nat))) ∧
    (Q
  (SV.tup
    [SV.lst (LV.num (nv (List.drop (0 : Nat) (List.take ((0 : Nat) + List.length l) l)))), SV.lst (LV.num (Num.n a_1))]))))))))))) := by kernel_rfl
def sDigits : SpecF := fspec (α := Num × List Int × Unit) (β := Num × Num × Unit) (fun a => some (Sm a.1.n ∧ Can a.2.1 ∧ a.2.1.length ≤ 1073741000 ∧ 0 < nv a.2.1)) (fun a => (⟨a.1.n / nv a.2.1⟩, ⟨a.1.n % nv a.2.1⟩, ()))
def spDv : Specs := [(68, nSmall), (83, sDigits)]
def lDiv : Plan := { cuts := [(1, { β := Num × Num × Unit, γ := Unit, α := Int × Unit, same := [0, 1], pre := [], keep := [6], inv := fun _ _ x => 1 ≤ x.1 ∧ x.1 ≤ 8388608 })] }
theorem vcDiv (a b : Nat) (Q : SV → Prop) : LnRaw tt spDv 3 [] lDiv Try.f75 Q ((⟨a⟩ : Num), (⟨b⟩ : Num), ()) =
  (((((0 : Int) ≤ IntKind.wrap IntKind.i64 ((↑(List.length (dg b)) : Int) - (1 : Int))) ∧
    (IntKind.wrap IntKind.i64 ((↑(List.length (dg b)) : Int) - (1 : Int)) < (↑(List.length (dg b)) : Int))) ∧
   ((IntKind.wrap IntKind.i64
    (List.getD (dg b) (Int.toNat (IntKind.wrap IntKind.i64 ((↑(List.length (dg b)) : Int) - (1 : Int)))) (0 : Int) +
      (1 : Int)) ≠
  (0 : Int)) ∧
   (((Num.mk a, Num.mk b, ()) = (Num.mk a, Num.mk b, ())) ∧
   (((1 : Int) ≤
  IntKind.wrap IntKind.i64
    (Int.tdiv (16777216 : Int)
      (IntKind.wrap IntKind.i64
        (List.getD (dg b) (Int.toNat (IntKind.wrap IntKind.i64 ((↑(List.length (dg b)) : Int) - (1 : Int)))) (0 : Int) +
          (1 : Int))))) ∧
   (IntKind.wrap IntKind.i64
    (Int.tdiv (16777216 : Int)
      (IntKind.wrap IntKind.i64
        (List.getD (dg b) (Int.toNat (IntKind.wrap IntKind.i64 ((↑(List.length (dg b)) : Int) - (1 : Int)))) (0 : Int) +
          (1 : Int)))) ≤
  (8388608 : Int)))))) ∧
  (∀ a_1 : Int,
  ((((1 : Int) ≤ a_1) ∧
  (a_1 ≤ (8388608 : Int))) →
  (((Sm a) ∧
   (((0 : Int) ≤ a_1) ∧
   (a_1 < (9223372036854775808 : Int)))) ∧
  (((Sm b) ∧
   (((0 : Int) ≤ a_1) ∧
   (a_1 < (9223372036854775808 : Int)))) ∧
  (((Sm (a * Int.toNat a_1)) ∧
   ((Can (dg (b * Int.toNat a_1))) ∧
   ((List.length (dg (b * Int.toNat a_1)) ≤ (1073741000 : Nat)) ∧
   ((0 : Nat) < nv (dg (b * Int.toNat a_1)))))) ∧
  bcase (decide (a_1 > (1 : Int)))
    ((((Sm (a * Int.toNat a_1 % nv (dg (b * Int.toNat a_1)))) ∧
     ((Can (List.drop (0 : Nat) (List.take ((0 : Nat) + (1 : Nat)) [a_1]))) ∧
     ((List.length (List.drop (0 : Nat) (List.take ((0 : Nat) + (1 : Nat)) [a_1])) ≤ (1073741000 : Nat)) ∧
     ((0 : Nat) < nv (List.drop (0 : Nat) (List.take ((0 : Nat) + (1 : Nat)) [a_1])))))) ∧
    (Q
  (SV.tup
    [SV.lst (LV.num (a * Int.toNat a_1 / nv (dg (b * Int.toNat a_1)))),
      SV.lst
        (LV.num
          (a * Int.toNat a_1 % nv (dg (b * Int.toNat a_1)) /
            nv (List.drop (0 : Nat) (List.take ((0 : Nat) + (1 : Nat)) [a_1]))))]))))
    ((Q
  (SV.tup
    [SV.lst (LV.num (a * Int.toNat a_1 / nv (dg (b * Int.toNat a_1)))),
      SV.lst (LV.num (a * Int.toNat a_1 % nv (dg (b * Int.toNat a_1))))]))))))))) := by kernel_rfl
def nDiv : SpecF := fspec (α := N2) (β := Num × Num × Unit) (fun a => some ((dg a.1.n).length ≤ 536870912 ∧ (dg a.2.1.n).length ≤ 536870912 ∧ 0 < a.2.1.n)) (fun a => (⟨a.1.n / a.2.1.n⟩, ⟨a.1.n % a.2.1.n⟩, ()))
theorem vcMod (a b : Nat) (Q : SV → Prop) : LnRaw tt [(75, nDiv)] 3 [] {} Try.f48 Q ((⟨a⟩ : Num), (⟨b⟩ : Num), ()) =
  (((List.length (dg a) ≤ (536870912 : Nat)) ∧
   ((List.length (dg b) ≤ (536870912 : Nat)) ∧
   ((0 : Nat) < b))) ∧
  (Q (SV.lst (LV.num (a % b))))) := by kernel_rfl
def nMod : SpecF := fspec (α := N2) (β := Num) (fun a => some ((dg a.1.n).length ≤ 536870912 ∧ (dg a.2.1.n).length ≤ 536870912 ∧ 0 < a.2.1.n)) (fun a => ⟨a.1.n % a.2.1.n⟩)
end Go.Proofs.Ythechjccpljljaa.R1
/- The reference's functions on digits (8): quotients and rests: what they say is so. -/
namespace Go.Proofs.Ythechjccpljljaa.R1
open Go.Sym Go.Dig

/-- What the highest digits say of a quotient. -/
theorem quot_bounds {n b P bt bl : Nat} (hP : 0 < P) (hb : b = bl + P * bt) (hl : bl < P) (ht : 1 ≤ bt) : n / P / (bt + 1) ≤ n / b ∧ n / b < n / P / bt + 1 := by
  have hbp : 0 < b := by have := Nat.mul_pos hP ht; omega
  refine ⟨?_, ?_⟩
  · rw [Nat.le_div_iff_mul_le hbp]
    have h1 : n / P / (bt + 1) * (bt + 1) ≤ n / P := Nat.div_mul_le_self _ _
    have h2 : P * (n / P) ≤ n := Nat.mul_div_le n P
    have h3 : b ≤ P * (bt + 1) := by rw [Nat.mul_add]; omega
    calc n / P / (bt + 1) * b ≤ n / P / (bt + 1) * (P * (bt + 1)) := Nat.mul_le_mul_left _ h3
      _ = P * (n / P / (bt + 1) * (bt + 1)) := by rw [Nat.mul_left_comm]
      _ ≤ P * (n / P) := Nat.mul_le_mul_left _ h1
      _ ≤ n := h2
  · rw [Nat.div_lt_iff_lt_mul hbp]
    have h1 : n < P * (n / P + 1) := Nat.lt_mul_div_succ n hP
    have h2 : n / P < bt * (n / P / bt + 1) := Nat.lt_mul_div_succ _ (by omega)
    have h3 : P * bt ≤ b := by omega
    calc n < P * (n / P + 1) := h1
      _ ≤ P * (bt * (n / P / bt + 1)) := Nat.mul_le_mul_left _ h2
      _ = P * bt * (n / P / bt + 1) := by rw [Nat.mul_assoc]
      _ ≤ b * (n / P / bt + 1) := Nat.mul_le_mul_right _ h3
      _ = (n / P / bt + 1) * b := Nat.mul_comm _ _
theorem dg_top_ge {n : Nat} (h : n ≠ 0) : 16777216 ^ ((dg n).length - 1) ≤ n := by
  have hc : dg n ≠ [] := fun e => h (dg_nil_iff.1 e)
  have hlen : 0 < (dg n).length := List.length_pos_iff.2 hc
  by_cases e : 16777216 ^ ((dg n).length - 1) ≤ n
  · exact e
  · have := dg_length_lt (n := n) (k := (dg n).length - 1) (by omega)
    omega
theorem len_le_of_lt {n k : Nat} (h : n < 16777216 ^ k) : (dg n).length ≤ k := dg_length_lt h
theorem lt_len {n k : Nat} (h : 16777216 ^ k ≤ n) : k < (dg n).length := by
  by_cases e : k < (dg n).length
  · exact e
  · have h1 := lt_of_dg_length n
    have h2 : (16777216 : Nat) ^ (dg n).length ≤ 16777216 ^ k := Nat.pow_le_pow_right (by omega) (by omega)
    omega
theorem dg_digit (n q : Nat) : ((dg n).getD q 0) = ((n / 16777216 ^ q % 16777216 : Nat) : Int) := by
  have h := digit_nat (dig_dg n) q
  rw [nv_dg] at h
  have := getD_dig (dig_dg n) q
  omega
theorem spDg_ok : SpecsOK Try.prog spDg := .cons ok_Small <| .cons ok_nCmp <| .cons ok_nSub <| .cons ok_Trim <| .nil _
theorem cmpN_le {x y : Nat} : cmpN x y ≤ 0 ↔ x ≤ y := by
  unfold cmpN
  split
  · simp; omega
  · split <;> simp <;> omega

theorem ok_Digits : SpecOK Try.prog 83 sDigits := by
  refine fn_okL (by kernel_rfl) tt_ok spDg_ok 3 Try.func83 (by decide +kernel) (by kernel_rfl) ?_
  rintro ⟨⟨a⟩, b, _⟩ ⟨hsa, hcb, hlb, hb0⟩
  simp only at hsa hcb hlb hb0
  refine ⟨[], lDigits, fun x => x = .tup [.lst (.num (a / nv b)), .lst (.num (a % nv b))], LnVD.of (vcDigits a b _) ?_, fun x h at_ w v r => by have h' : x = _ := h; subst h'; exact r⟩
  have hla : (dg a).length ≤ 1073741824 := hsa
  have hne : b ≠ [] := by rintro rfl; simp [nv_nil] at hb0
  have hlen : 0 < b.length := List.length_pos_iff.2 hne
  have hdb := hcb.dig
  have htop := can_top hcb hne
  have htd := getD_dig hdb (b.length - 1)
  obtain ⟨bt, hbt⟩ : ∃ t : Nat, b.getD (b.length - 1) 0 = t := ⟨(b.getD (b.length - 1) 0).toNat, by omega⟩
  obtain ⟨bl, hbl, hbl2⟩ : ∃ bl : Nat, nv b = bl + 16777216 ^ (b.length - 1) * bt ∧ bl < 16777216 ^ (b.length - 1) := by
    have h1 := (can_ge hcb hne).2
    have h2 := val_lt (hdb.take (b.length - 1))
    have h3 := val_nonneg (hdb.take (b.length - 1))
    have h4 := nv_val hdb
    rw [List.length_take, Nat.min_eq_left (by omega)] at h2
    refine ⟨(val (b.take (b.length - 1))).toNat, ?_, pw_lt_nat (by omega)⟩
    apply Int.ofNat_inj.1
    rw [h4, h1, hbt, Int.natCast_add, Int.natCast_mul, pw_cast]
    omega
  have hbB : nv b < 16777216 ^ b.length := nv_lt hdb
  rw [wr (x := ((dg a).length : Int) - 1) (by omega)]
  refine ⟨⟨by omega, by trivial, by omega⟩, ⟨by trivial, by simp⟩, ⟨by omega, by omega, by simp, Dig.replicate _, fun k _ => ?_, ?_, ?_⟩, fun ⟨rest⟩ q i ⟨i0, i1, hql, hqd, hqz, hr, hv⟩ => ?_⟩
  · simp only [List.getD_eq_getElem?_getD, List.getElem?_replicate]; split <;> rfl
  · have := lt_of_dg_length a
    rw [show (((dg a).length : Int) - 1 + 1).toNat = (dg a).length by omega, Nat.div_eq_of_lt this, Nat.zero_mod]
  · have := lt_of_dg_length a
    rw [show (((dg a).length : Int) - 1 + 1).toNat = (dg a).length by omega, Nat.div_eq_of_lt this, Nat.zero_div, Nat.mul_zero]
    simp [nv, val_replicate]
  simp only at hr hv ⊢
  rw [bcase_dec]
  refine ⟨fun hi => ?_, fun hi => ?_⟩
  · have hda := getD_dig (dig_dg a) i.toNat
    have hrb : rest < nv b := by rw [hr]; exact Nat.mod_lt _ hb0
    have hrl : (dg rest).length ≤ b.length := dg_length_lt (Nat.lt_trans hrb hbB)
    have e1 : ∀ x : Int, List.drop 0 (List.take (List.length [x]) [x]) = [x] := fun x => rfl
    simp only [e1, whole]
    have hcd : Dig ((dg a).getD i.toNat 0 :: dg rest) := Dig.cons hda.1 hda.2 (dig_dg rest)
    have hnv : nv ([(dg a).getD i.toNat 0] ++ dg rest) = ((dg a).getD i.toNat 0).toNat + 16777216 * rest := by
      simp only [List.singleton_append, nv, val, val_dg]; omega
    refine ⟨⟨hi, i1⟩, ⟨by trivial, by trivial⟩, ⟨⟨by simp, by simp [appLim]; omega⟩, ⟨hcd, by simp; omega⟩, ⟨by trivial, by trivial⟩, by trivial, hnv, by trivial⟩, fun ⟨n⟩ q1 ⟨hn, hq1⟩ => ?_⟩
    subst hq1
    simp only at hn ⊢
    have hnb : n < nv b * 16777216 := by
      rw [hn]; omega
    have hnB : n < 16777216 ^ (b.length + 1) := by rw [Nat.pow_succ]; exact Nat.lt_trans hnb (Nat.mul_lt_mul_of_pos_right hbB (by omega))
    have hnl : (dg n).length ≤ b.length + 1 := dg_length_lt hnB
    have hd : n / nv b < 16777216 := Nat.div_lt_of_lt_mul hnb
    have hqb := quot_bounds (n := n) (Nat.pow_pos (n := b.length - 1) (show 0 < 16777216 by omega)) hbl hbl2 (by omega)
    have eb : ((b.length : Int) - 1).toNat = b.length - 1 := by omega
    have hsn : Sm n := by show (dg n).length ≤ _; omega
    obtain ⟨D, hD⟩ : ∃ D, D = n / nv b := ⟨_, rfl⟩
    simp only [iDgB, ← hD]
    rw [← hD] at hd hqb
    refine ⟨⟨by trivial, by trivial⟩, ?_, fun q2 low high ⟨hq2, b0, b1, b2, b3⟩ => ⟨⟨by trivial, by trivial⟩, ⟨by trivial, b0, b1, b2, b3⟩, fun q3 lo hh ⟨hq3, c0, c1, c2, c3⟩ => ?_⟩⟩
    · rw [wr (x := (b.length : Int) - 1) (by omega), eb, hbt, wr (x := (bt : Int) + 1) (by omega)]
      simp only [bcase_dec, true_and, and_true]
      refine ⟨fun hlt => ⟨by omega, by omega, ?_, by omega⟩, fun hge => ?_⟩
      · have : n < nv b := by
          have h1 := lt_of_dg_length n
          have h2 : (16777216 : Nat) ^ (dg n).length ≤ 16777216 ^ (b.length - 1) := Nat.pow_le_pow_right (by omega) (by omega)
          have h3 : 16777216 ^ (b.length - 1) * 1 ≤ 16777216 ^ (b.length - 1) * bt := Nat.mul_le_mul_left _ (by omega)
          omega
        have : D = 0 := by rw [hD, Nat.div_eq_of_lt this]
        omega
      · have hnz : dg n ≠ [] := fun e => by have h0 : (dg n).length = 0 := by rw [e]; rfl
                                            omega
        have hn1 : 0 < (dg n).length := List.length_pos_iff.2 hnz
        rw [wr (x := ((dg n).length : Int) - 1) (by omega), show (((dg n).length : Int) - 1).toNat = (dg n).length - 1 by omega]
        have hlt := lt_of_dg_length n
        refine ⟨⟨by omega, by omega⟩, fun hgt => ?_, fun hgt => ?_⟩
        · have hL : (dg n).length = b.length + 1 := by omega
          rw [wr (x := ((dg n).length : Int) - 2) (by omega), show (((dg n).length : Int) - 2).toNat = b.length - 1 by omega, hL, show b.length + 1 - 1 = b.length from rfl]
          rw [dg_digit, dg_digit]
          have ht1 : n / 16777216 ^ b.length = n / 16777216 ^ (b.length - 1) / 16777216 := by
            rw [Nat.div_div_eq_div_mul, ← Nat.pow_succ, show (b.length - 1).succ = b.length by omega]
          have ht2 : n / 16777216 ^ b.length < 16777216 := Nat.div_lt_of_lt_mul (by rw [← Nat.pow_succ]; exact hnB)
          rw [Nat.mod_eq_of_lt ht2]
          generalize n / 16777216 ^ b.length = t1 at *
          generalize n / 16777216 ^ (b.length - 1) = t at *
          rw [wr (x := (t1 : Int) * 16777216) (by omega), wr (x := (t1 : Int) * 16777216 + _) (by omega), show (t1 : Int) * 16777216 + ((t % 16777216 : Nat) : Int) = (t : Int) by omega]
          rw [tdiv_nn (x := (t : Int)) (by omega), tdiv_nn (x := (t : Int)) (by omega), show (bt : Int) + 1 = ((bt + 1 : Nat) : Int) by omega, ← Int.natCast_ediv, ← Int.natCast_ediv]
          have hl1 : t / (bt + 1) ≤ t := Nat.div_le_self _ _
          have hl2 : t / bt ≤ t := Nat.div_le_self _ _
          generalize t / (bt + 1) = u1 at *
          generalize t / bt = u2 at *
          rw [wr (x := (u1 : Int)) (by omega), wr (x := (u2 : Int)) (by omega), wr (x := (u2 : Int) + 1) (by omega)]
          exact ⟨⟨by omega, by omega⟩, ⟨by omega, by omega⟩, by omega, ⟨by omega, by omega⟩, by omega, fun hc => ⟨by omega, by omega, by omega, by omega⟩, fun hc => ⟨by omega, by omega, by omega, by omega⟩⟩
        · have hL : (dg n).length = b.length := by omega
          rw [hL, dg_digit]
          have ht2 : n / 16777216 ^ (b.length - 1) < 16777216 := Nat.div_lt_of_lt_mul (by rw [← Nat.pow_succ, show (b.length - 1).succ = b.length by omega, ← hL]; exact hlt)
          rw [Nat.mod_eq_of_lt ht2]
          generalize n / 16777216 ^ (b.length - 1) = t at *
          rw [tdiv_nn (x := (t : Int)) (by omega), tdiv_nn (x := (t : Int)) (by omega), show (bt : Int) + 1 = ((bt + 1 : Nat) : Int) by omega, ← Int.natCast_ediv, ← Int.natCast_ediv]
          have hl1 : t / (bt + 1) ≤ t := Nat.div_le_self _ _
          have hl2 : t / bt ≤ t := Nat.div_le_self _ _
          generalize t / (bt + 1) = u1 at *
          generalize t / bt = u2 at *
          rw [wr (x := (u1 : Int)) (by omega), wr (x := (u2 : Int)) (by omega), wr (x := (u2 : Int) + 1) (by omega)]
          exact ⟨⟨by omega, by omega⟩, by omega, ⟨by omega, by omega⟩, by omega, fun hc => ⟨by omega, by omega, by omega, by omega⟩, fun hc => ⟨by omega, by omega, by omega, by omega⟩⟩
    · subst hq2
      subst hq3
      have hmul : ∀ m : Nat, m ≤ 16777216 → (dg (nv b * m)).length ≤ b.length + 1 := fun m hm => by
        refine dg_length_lt ?_
        rw [Nat.pow_succ]
        exact Nat.lt_of_le_of_lt (Nat.mul_le_mul_left _ hm) (Nat.mul_lt_mul_of_pos_right hbB (by omega))
      have hdg : Dg b := ⟨hdb, by omega⟩
      rw [wr (x := hh - lo) (by omega), bcase_dec]
      refine ⟨fun hgo => ?_, fun hgo => ?_⟩
      · rw [wr (x := lo + hh) (by omega), tdiv_nn (by omega), wr (x := (lo + hh) / 2) (by omega)]
        obtain ⟨m, hm⟩ : ∃ m : Nat, (lo + hh) / 2 = m := ⟨((lo + hh) / 2).toNat, by omega⟩
        rw [hm, Int.toNat_natCast, bcase_dec, cmpN_le]
        refine ⟨⟨hdg, by omega, by omega⟩, ⟨Nat.le_trans (hmul m (by omega)) (by omega), hsn⟩, fun hc => ⟨⟨by trivial, by trivial⟩, by trivial, ⟨by trivial, by omega, ?_, c2, c3⟩, by omega⟩, fun hc => ⟨⟨by trivial, by trivial⟩, by trivial, ⟨by trivial, c0, c1, ?_, by omega⟩, by omega⟩⟩
        · have : m ≤ D := by rw [hD, Nat.le_div_iff_mul_le hb0, Nat.mul_comm]; exact hc
          omega
        · have : D < m := by rw [hD, Nat.div_lt_iff_lt_mul hb0, Nat.mul_comm]; omega
          omega
      · have hlo : lo = D := by omega
        rw [hlo, Int.toNat_natCast, wr (x := i - 1) (by omega), show 0 + i.toNat = i.toNat by omega]
        have hDn : nv b * D ≤ n := by rw [hD]; exact Nat.mul_div_le _ _
        have e2 : (i - 1 + 1).toNat = i.toNat := by omega
        have e3 : (i + 1).toNat = i.toNat + 1 := by omega
        rw [e3] at hr hv
        have hAi : a / 16777216 ^ i.toNat = 16777216 * (a / 16777216 ^ (i.toNat + 1)) + ((dg a).getD i.toNat 0).toNat := by
          rw [dg_digit, Nat.pow_succ, ← Nat.div_div_eq_div_mul, Int.toNat_natCast]; omega
        have hAn : a / 16777216 ^ i.toNat = nv b * (16777216 * (a / 16777216 ^ (i.toNat + 1) / nv b)) + n := by
          rw [hAi, hn, hr]
          have := Nat.div_add_mod (a / 16777216 ^ (i.toNat + 1)) (nv b)
          generalize a / 16777216 ^ (i.toNat + 1) = A at *
          rw [Nat.mul_left_comm]
          omega
        have hq0 := hqz i.toNat (by omega)
        have hset : val (q3.set i.toNat (D : Int)) = val q3 + 16777216 ^ i.toNat * D := by
          rw [val_set _ _ _ (by omega), hq0, Int.sub_zero]
        refine ⟨⟨hi, by omega⟩, ⟨hdg, by omega, by omega⟩, ⟨hsn, hDn, Nat.le_trans (hmul D (by omega)) (by omega)⟩, ⟨by trivial, by simp⟩, by trivial, ⟨by omega, by omega, by simp [hql], Dig.set hqd _ (by omega), fun k hk => ?_, ?_, ?_⟩, by omega⟩
        · rw [getD_set _ _ _ _ (by omega)]; exact hqz k (by omega)
        · rw [e2, hAn, Nat.mul_add_mod, hD]
          have := Nat.div_add_mod n (nv b)
          omega
        · rw [e2, hAn, Nat.mul_add_div hb0, ← hD]
          have h1 := nv_val (Dig.set hqd i.toNat (show (0 : Int) ≤ D ∧ (D : Int) < 16777216 by omega))
          rw [hset, ← nv_val hqd, hv, ← pw_cast, ← Int.natCast_mul, ← Int.natCast_add] at h1
          have h2 := Int.ofNat_inj.1 h1
          rw [h2, Nat.pow_succ, Nat.mul_add, Nat.mul_assoc]
  · simp only [whole]
    have e3 : (i + 1).toNat = 0 := by omega
    rw [e3] at hr hv
    simp only [Nat.pow_zero, Nat.div_one, Nat.one_mul] at hr hv
    refine ⟨⟨hqd, by omega⟩, ?_⟩
    rw [hr, hv]

theorem spDv_ok : SpecsOK Try.prog spDv := .cons ok_nSmall <| .cons ok_Digits <| .nil _
theorem dg_len_mul {n m k l : Nat} (h : (dg n).length ≤ k) (h' : (dg m).length ≤ l) : (dg (n * m)).length ≤ k + l := by
  refine dg_length_lt ?_
  rw [Nat.pow_add]
  have h1 := Nat.lt_of_lt_of_le (lt_of_dg_length n) (Nat.pow_le_pow_right (show 0 < 16777216 by omega) h)
  have h2 := Nat.lt_of_lt_of_le (lt_of_dg_length m) (Nat.pow_le_pow_right (show 0 < 16777216 by omega) h')
  exact Nat.mul_lt_mul_of_lt_of_le h1 (Nat.le_of_lt h2) (Nat.pow_pos (by omega))
theorem dg_len_le {n m : Nat} (h : n ≤ m) : (dg n).length ≤ (dg m).length := dg_length_lt (Nat.lt_of_le_of_lt h (lt_of_dg_length m))
theorem ok_nDiv : SpecOK Try.prog 75 nDiv := by
  refine fn_okL (by kernel_rfl) tt_ok spDv_ok 3 Try.func75 (by decide +kernel) (by kernel_rfl) ?_
  rintro ⟨⟨a⟩, ⟨b⟩, _⟩ ⟨hla, hlb, hb0⟩
  simp only at hla hlb hb0
  refine ⟨[], lDiv, fun x => x = .tup [.lst (.num (a / b)), .lst (.num (a % b))], LnVD.of (vcDiv a b _) ?_, fun x h at_ w v r => by have h' : x = _ := h; subst h'; exact r⟩
  have hc : Can (dg b) := Can.dg (by omega)
  have hne : dg b ≠ [] := fun e => by have := dg_nil_iff.1 e; omega
  have hlen : 0 < (dg b).length := List.length_pos_iff.2 hne
  have htop := can_top hc hne
  have htd := getD_dig (dig_dg b) ((dg b).length - 1)
  rw [wr (x := ((dg b).length : Int) - 1) (by omega), show (((dg b).length : Int) - 1).toNat = (dg b).length - 1 by omega]
  generalize (dg b).getD ((dg b).length - 1) 0 = t at *
  rw [wr (x := t + 1) (by omega), tdiv_nn (by omega)]
  have hf : (1 : Int) ≤ 16777216 / (t + 1) ∧ 16777216 / (t + 1) ≤ 8388608 := by
    refine ⟨(Int.le_ediv_iff_mul_le (by omega)).2 (by omega), ?_⟩
    have h1 : (t + 1) * (16777216 / (t + 1)) ≤ 16777216 := Int.mul_ediv_self_le (by omega)
    have h2 : 2 * (16777216 / (t + 1)) ≤ (t + 1) * (16777216 / (t + 1)) := Int.mul_le_mul_of_nonneg_right (by omega) (Int.ediv_nonneg (by omega) (by omega))
    omega
  generalize 16777216 / (t + 1) = f0 at *
  rw [wr (x := f0) (by omega)]
  refine ⟨⟨⟨by omega, by omega⟩, by omega, by trivial, hf⟩, fun f ⟨hf1, hf2⟩ => ?_⟩
  obtain ⟨F, hF⟩ : ∃ F : Nat, f = F := ⟨f.toNat, by omega⟩
  subst hF
  rw [Int.toNat_natCast, nv_dg]
  have hF1 : 0 < F := by omega
  have hFl : (dg F).length ≤ 1 := dlen 1 (by omega)
  have hal := dg_len_mul hla hFl
  have hbl := dg_len_mul hlb hFl
  have e1 : List.drop 0 (List.take (0 + 1) [(F : Int)]) = [(F : Int)] := rfl
  have hnF : nv [(F : Int)] = F := by simp [nv, val]
  have ecan : Can [(F : Int)] := by
    refine ⟨?_, by simp⟩
    rw [hnF, dg_pos hF1, Nat.div_eq_of_lt (by omega), dg_zero, Nat.mod_eq_of_lt (by omega)]
  rw [e1, hnF, bcase_dec, Nat.mul_div_mul_right _ _ hF1, Nat.mul_mod_mul_right]
  refine ⟨⟨Nat.le_trans hla (by omega), by omega, by omega⟩, ⟨Nat.le_trans hlb (by omega), by omega, by omega⟩, ⟨Nat.le_trans hal (by omega), Can.dg (by omega), by omega, Nat.mul_pos hb0 hF1⟩, fun h => ⟨⟨?_, ecan, by simp, hF1⟩, ?_⟩, fun h => ?_⟩
  · refine Nat.le_trans (dg_len_le (m := a * F) ?_) (by omega)
    exact Nat.mul_le_mul_right _ (Nat.mod_le _ _)
  · rw [Nat.mul_div_cancel _ hF1]
  · have : F = 1 := by omega
    rw [this, Nat.mul_one]
theorem ok_nMod : SpecOK Try.prog 48 nMod := by
  refine fn_okL (by kernel_rfl) tt_ok (.cons ok_nDiv <| .nil _) 3 Try.func48 (by decide +kernel) (by kernel_rfl) ?_
  rintro ⟨⟨a⟩, ⟨b⟩, _⟩ h
  refine ⟨[], {}, isNum (a % b), LnVD.of (vcMod a b _) ?_, fun x h at_ w v r => isNum_ok h r⟩
  exact ⟨h, .inl rfl⟩
end Go.Proofs.Ythechjccpljljaa.R1
/- Package ring: what its functions come to (without powers). -/
namespace Go.Proofs.Ythechjccpljljaa
open Go.Sym Go.Dig

--STOP R1.Sm, limb_Add, limb_Sub, limb_Select, limb_Mul, limb_Cmp

/-- A ring's words. -/
structure RingV where
  m : Four
  back : UInt64
  one : Four
  two : Four
def RingV.cells (r : RingV) : List SV := [.u64 r.m.w0, .u64 r.m.w1, .u64 r.m.w2, .u64 r.m.w3, .u64 r.back, .u64 r.one.w0, .u64 r.one.w1, .u64 r.one.w2, .u64 r.one.w3, .u64 r.two.w0, .u64 r.two.w1, .u64 r.two.w2, .u64 r.two.w3]
def dRingC : List SV → Option RingV
  | [.u64 a, .u64 b, .u64 c, .u64 d, .u64 k, .u64 e, .u64 f, .u64 g, .u64 h, .u64 i, .u64 j, .u64 l, .u64 n] => some ⟨⟨a, b, c, d⟩, k, ⟨e, f, g, h⟩, ⟨i, j, l, n⟩⟩
  | _ => none
theorem dRingC_ok {cs : List SV} {r : RingV} (h : dRingC cs = some r) : cs = r.cells := by
  unfold dRingC at h
  split at h
  · simp only [Option.some.injEq] at h; subst h; rfl
  · cases h
instance : Enc RingV where
  enc r := .ro r.cells 0
  dec | .ro cs 0 => dRingC cs
      | _ => none
  ok := by
    intro s a h at_ w v r
    split at h
    · rw [dRingC_ok h] at r; exact r
    · cases h
  nn _ := rfl
/-- A pointer to a ring, or to none. -/
instance : Enc (Option RingV) where
  enc | some r => .ro r.cells 0
      | none => .val (.pointer none)
  dec | .ro cs 0 => (dRingC cs).map some
      | .val (.pointer none) => some none
      | _ => none
  ok := by
    intro s a h at_ w v r
    split at h
    · obtain ⟨x, h1, h2⟩ := Option.map_eq_some_iff.1 h
      subst h2
      rw [dRingC_ok h1] at r; exact r
    · simp only [Option.some.injEq] at h; subst h; exact r
    · cases h
  nn a := by cases a <;> rfl
/-- A loop's own ring; a loop's own number of four words. -/
structure PRing where
  v : RingV
structure PFour where
  v : Four
instance : LEnc PRing where
  kind := none
  enc nx a := (.ptr nx 0, [a.v.cells])
  dec nx s M := match s, M with
    | .ptr b 0, some cs :: M' => if b = nx then (dRingC cs).map fun r => (none, ⟨r⟩, M') else none
    | _, _ => none
  all P := ∀ v, P ⟨v⟩
  all_ok h a := h a.v
  ok := by
    intro nx s M p a M' h hp
    split at h
    · split at h
      · rename_i hb
        obtain ⟨r, h1, h2⟩ := Option.map_eq_some_iff.1 h
        simp only [Prod.mk.injEq] at h2
        obtain ⟨_, rfl, rfl⟩ := h2
        subst hb
        rw [dRingC_ok h1]
        exact ⟨rfl, fun r => r⟩
      · cases h
    · cases h
def dFourC : List SV → Option Four
  | [.u64 a, .u64 b, .u64 c, .u64 d] => some ⟨a, b, c, d⟩
  | _ => none
theorem dFourC_ok {cs : List SV} {r : Four} (h : dFourC cs = some r) : cs = [.u64 r.w0, .u64 r.w1, .u64 r.w2, .u64 r.w3] := by
  unfold dFourC at h
  split at h
  · simp only [Option.some.injEq] at h; subst h; rfl
  · cases h
instance : LEnc PFour where
  kind := none
  enc nx a := (.ptr nx 0, [[.u64 a.v.w0, .u64 a.v.w1, .u64 a.v.w2, .u64 a.v.w3]])
  dec nx s M := match s, M with
    | .ptr b 0, some cs :: M' => if b = nx then (dFourC cs).map fun r => (none, ⟨r⟩, M') else none
    | _, _ => none
  all P := ∀ v, P ⟨v⟩
  all_ok h a := h a.v
  ok := by
    intro nx s M p a M' h hp
    split at h
    · split at h
      · rename_i hb
        obtain ⟨r, h1, h2⟩ := Option.map_eq_some_iff.1 h
        simp only [Prod.mk.injEq] at h2
        obtain ⟨_, rfl, rfl⟩ := h2
        subst hb
        rw [dFourC_ok h1]
        exact ⟨rfl, fun r => r⟩
      · cases h
    · cases h

def ringPlus (m a b : Four) : Four :=
  limb_Select ((limb_Add a b).2 ||| ((limb_Sub (limb_Add a b).1 m).2 ^^^ 1)) (limb_Sub (limb_Add a b).1 m).1 (limb_Add a b).1
def spG1 : Specs := spL0
theorem vcPlus (r : RingV) (a b : Four) (Q : SV → Prop) : LnRaw tt spG1 3 [] {} Try.f76 Q (r, a, b, ()) =
  (Q
  (SV.agg
    [SV.u64
        (Four.w0
          (limb_Select
            (Prod.snd (limb_Add a b) |||
              Prod.snd (limb_Sub (Prod.fst (limb_Add a b)) (RingV.m r)) ^^^ UInt64.ofNat (Int.toNat (1 : Int)))
            (Prod.fst (limb_Sub (Prod.fst (limb_Add a b)) (RingV.m r))) (Prod.fst (limb_Add a b)))),
      SV.u64
        (Four.w1
          (limb_Select
            (Prod.snd (limb_Add a b) |||
              Prod.snd (limb_Sub (Prod.fst (limb_Add a b)) (RingV.m r)) ^^^ UInt64.ofNat (Int.toNat (1 : Int)))
            (Prod.fst (limb_Sub (Prod.fst (limb_Add a b)) (RingV.m r))) (Prod.fst (limb_Add a b)))),
      SV.u64
        (Four.w2
          (limb_Select
            (Prod.snd (limb_Add a b) |||
              Prod.snd (limb_Sub (Prod.fst (limb_Add a b)) (RingV.m r)) ^^^ UInt64.ofNat (Int.toNat (1 : Int)))
            (Prod.fst (limb_Sub (Prod.fst (limb_Add a b)) (RingV.m r))) (Prod.fst (limb_Add a b)))),
      SV.u64
        (Four.w3
          (limb_Select
            (Prod.snd (limb_Add a b) |||
              Prod.snd (limb_Sub (Prod.fst (limb_Add a b)) (RingV.m r)) ^^^ UInt64.ofNat (Int.toNat (1 : Int)))
            (Prod.fst (limb_Sub (Prod.fst (limb_Add a b)) (RingV.m r))) (Prod.fst (limb_Add a b))))])) := by kernel_rfl
def sRPlus : SpecF := fspec (α := RingV × Four × Four × Unit) total (fun a => ringPlus a.1.m a.2.1 a.2.2.1)
def spG2 : Specs := (76, sRPlus) :: spG1
theorem vcTwice (r : RingV) (a : Four) (Q : SV → Prop) : LnRaw tt spG2 3 [] {} Try.f72 Q (r, a, ()) =
  (Q
  (SV.agg
    [SV.u64 (Four.w0 (ringPlus (RingV.m r) a a)), SV.u64 (Four.w1 (ringPlus (RingV.m r) a a)),
      SV.u64 (Four.w2 (ringPlus (RingV.m r) a a)), SV.u64 (Four.w3 (ringPlus (RingV.m r) a a))])) := by kernel_rfl
def sTwice : SpecF := fspec (α := RingV × Four × Unit) total (fun a => ringPlus a.1.m a.2.1 a.2.1)

def dblN (m : Four) : Nat → Four
  | 0 => ⟨1, 0, 0, 0⟩
  | n + 1 => ringPlus m (dblN m n) (dblN m n)
def oneN (m : Four) (i : Int) : Four := if i ≤ 255 then zero4 else dblN m 256
def iNew (r0 : RingV) (r : RingV) (x : Four) (i : Int) : Prop := 0 ≤ i ∧ i ≤ 512 ∧ r = ⟨r0.m, r0.back, oneN r0.m i, zero4⟩ ∧ x = dblN r0.m i.toNat
def newt (w : UInt64) : Nat → UInt64
  | 0 => 1
  | n + 1 => newt w n * (2 - w * newt w n)
def iInv (m0 : Four) (r0 : RingV) (m : Four) (r : RingV) (x : UInt64) (i : Int) : Prop := m = m0 ∧ r = r0 ∧ 0 ≤ i ∧ i ≤ 6 ∧ x = newt m.w0 i.toNat
def lNew : Plan := { loops := [(0, { β := Unit, α := PFour × PRing × UInt64 × Int × Unit, same := [], keep := [1, 4, 5, 21], inv := fun _ x0 x => iInv x0.1.v x0.2.1.v x.1.v x.2.1.v x.2.2.1 x.2.2.2.1, meas := fun _ x => (6 - x.2.2.2.1).toNat }), (2, { β := Unit, α := PRing × PFour × Int × Unit, same := [], keep := [4, 6, 38], inv := fun _ x0 x => iNew x0.1.v x.1.v x.2.1.v x.2.2.1, meas := fun _ x => (512 - x.2.2.1).toNat })] }
def spG3 : Specs := (72, sTwice) :: spG2
theorem vcNewA (m : Four) (Q : SV → Prop) : LnRaw tt spG3 9 [(1, 3, .b false), (1, 7, .b false)] lNew Try.f44 Q (m, ()) =
  (((Four.w0 m &&& UInt64.ofNat (Int.toNat (1 : Int)) == UInt64.ofNat (Int.toNat (0 : Int))) = false) ∧
  (((Four.w0 m == UInt64.ofNat (Int.toNat (1 : Int)) &&
    (Four.w1 m == UInt64.ofNat (Int.toNat (0 : Int)) &&
      (Four.w2 m == UInt64.ofNat (Int.toNat (0 : Int)) && (Four.w3 m == UInt64.ofNat (Int.toNat (0 : Int)) && true)))) =
  false) ∧
  ((iInv m
  (RingV.mk m (UInt64.ofNat (Int.toNat (0 : Int)))
    (Four.mk (UInt64.ofNat (Int.toNat (0 : Int))) (UInt64.ofNat (Int.toNat (0 : Int)))
      (UInt64.ofNat (Int.toNat (0 : Int))) (UInt64.ofNat (Int.toNat (0 : Int))))
    (Four.mk (UInt64.ofNat (Int.toNat (0 : Int))) (UInt64.ofNat (Int.toNat (0 : Int)))
      (UInt64.ofNat (Int.toNat (0 : Int))) (UInt64.ofNat (Int.toNat (0 : Int)))))
  m
  (RingV.mk m (UInt64.ofNat (Int.toNat (0 : Int)))
    (Four.mk (UInt64.ofNat (Int.toNat (0 : Int))) (UInt64.ofNat (Int.toNat (0 : Int)))
      (UInt64.ofNat (Int.toNat (0 : Int))) (UInt64.ofNat (Int.toNat (0 : Int))))
    (Four.mk (UInt64.ofNat (Int.toNat (0 : Int))) (UInt64.ofNat (Int.toNat (0 : Int)))
      (UInt64.ofNat (Int.toNat (0 : Int))) (UInt64.ofNat (Int.toNat (0 : Int)))))
  (UInt64.ofNat (Int.toNat (1 : Int))) (0 : Int)) ∧
  (∀ v : Four,
  (∀ v_1 : RingV,
  (∀ a : UInt64,
  (∀ a_1 : Int,
  ((iInv m
  (RingV.mk m (UInt64.ofNat (Int.toNat (0 : Int)))
    (Four.mk (UInt64.ofNat (Int.toNat (0 : Int))) (UInt64.ofNat (Int.toNat (0 : Int)))
      (UInt64.ofNat (Int.toNat (0 : Int))) (UInt64.ofNat (Int.toNat (0 : Int))))
    (Four.mk (UInt64.ofNat (Int.toNat (0 : Int))) (UInt64.ofNat (Int.toNat (0 : Int)))
      (UInt64.ofNat (Int.toNat (0 : Int))) (UInt64.ofNat (Int.toNat (0 : Int)))))
  v v_1 a a_1) →
  bcase (decide (a_1 < (6 : Int)))
    (((() = ()) ∧
    ((iInv m
  (RingV.mk m (UInt64.ofNat (Int.toNat (0 : Int)))
    (Four.mk (UInt64.ofNat (Int.toNat (0 : Int))) (UInt64.ofNat (Int.toNat (0 : Int)))
      (UInt64.ofNat (Int.toNat (0 : Int))) (UInt64.ofNat (Int.toNat (0 : Int))))
    (Four.mk (UInt64.ofNat (Int.toNat (0 : Int))) (UInt64.ofNat (Int.toNat (0 : Int)))
      (UInt64.ofNat (Int.toNat (0 : Int))) (UInt64.ofNat (Int.toNat (0 : Int)))))
  v v_1 (a * (UInt64.ofNat (Int.toNat (2 : Int)) - Four.w0 v * a)) (IntKind.wrap IntKind.i64 (a_1 + (1 : Int)))) ∧
    (Int.toNat ((6 : Int) - IntKind.wrap IntKind.i64 (a_1 + (1 : Int))) < Int.toNat ((6 : Int) - a_1)))))
    (((iNew (RingV.mk (RingV.m v_1) ((0 : UInt64) - a) (RingV.one v_1) (RingV.two v_1))
  (RingV.mk (RingV.m v_1) ((0 : UInt64) - a) (RingV.one v_1) (RingV.two v_1))
  (Four.mk (UInt64.ofNat (Int.toNat (1 : Int))) (UInt64.ofNat (Int.toNat (0 : Int)))
    (UInt64.ofNat (Int.toNat (0 : Int))) (UInt64.ofNat (Int.toNat (0 : Int))))
  (0 : Int)) ∧
    (∀ v_2 : RingV,
    (∀ v_3 : Four,
    (∀ a_2 : Int,
    ((iNew (RingV.mk (RingV.m v_1) ((0 : UInt64) - a) (RingV.one v_1) (RingV.two v_1)) v_2 v_3 a_2) →
    bcase (decide (a_2 < (512 : Int)))
      (bcase (a_2 == (255 : Int))
        (((() = ()) ∧
        ((iNew (RingV.mk (RingV.m v_1) ((0 : UInt64) - a) (RingV.one v_1) (RingV.two v_1))
  (RingV.mk (RingV.m v_2) (RingV.back v_2) (ringPlus (RingV.m v_2) v_3 v_3) (RingV.two v_2))
  (ringPlus (RingV.m v_2) v_3 v_3) (IntKind.wrap IntKind.i64 (a_2 + (1 : Int)))) ∧
        (Int.toNat ((512 : Int) - IntKind.wrap IntKind.i64 (a_2 + (1 : Int))) < Int.toNat ((512 : Int) - a_2)))))
        (((() = ()) ∧
        ((iNew (RingV.mk (RingV.m v_1) ((0 : UInt64) - a) (RingV.one v_1) (RingV.two v_1)) v_2 (ringPlus (RingV.m v_2) v_3 v_3)
  (IntKind.wrap IntKind.i64 (a_2 + (1 : Int)))) ∧
        (Int.toNat ((512 : Int) - IntKind.wrap IntKind.i64 (a_2 + (1 : Int))) < Int.toNat ((512 : Int) - a_2))))))
      ((Q
  (SV.tup
    [SV.ro
        [SV.u64 (Four.w0 (RingV.m v_2)), SV.u64 (Four.w1 (RingV.m v_2)), SV.u64 (Four.w2 (RingV.m v_2)),
          SV.u64 (Four.w3 (RingV.m v_2)), SV.u64 (RingV.back v_2), SV.u64 (Four.w0 (RingV.one v_2)),
          SV.u64 (Four.w1 (RingV.one v_2)), SV.u64 (Four.w2 (RingV.one v_2)), SV.u64 (Four.w3 (RingV.one v_2)),
          SV.u64 (Four.w0 v_3), SV.u64 (Four.w1 v_3), SV.u64 (Four.w2 v_3), SV.u64 (Four.w3 v_3)]
        (0 : Nat),
      SV.i64 (0 : Int)]))))))))))))))))) := by kernel_rfl
theorem vcNewB (m : Four) (Q : SV → Prop) : LnRaw tt spG3 9 [(1, 3, .b true)] lNew Try.f44 Q (m, ()) =
  (((Four.w0 m &&& UInt64.ofNat (Int.toNat (1 : Int)) == UInt64.ofNat (Int.toNat (0 : Int))) = true) ∧
  (Q (SV.tup [SV.val (Value.pointer none), SV.i64 (2 : Int)]))) := by kernel_rfl
theorem vcNewC (m : Four) (Q : SV → Prop) : LnRaw tt spG3 9 [(1, 3, .b false), (1, 7, .b true)] lNew Try.f44 Q (m, ()) =
  (((Four.w0 m &&& UInt64.ofNat (Int.toNat (1 : Int)) == UInt64.ofNat (Int.toNat (0 : Int))) = false) ∧
  (((Four.w0 m == UInt64.ofNat (Int.toNat (1 : Int)) &&
    (Four.w1 m == UInt64.ofNat (Int.toNat (0 : Int)) &&
      (Four.w2 m == UInt64.ofNat (Int.toNat (0 : Int)) && (Four.w3 m == UInt64.ofNat (Int.toNat (0 : Int)) && true)))) =
  true) ∧
  (Q (SV.tup [SV.val (Value.pointer none), SV.i64 (2 : Int)])))) := by kernel_rfl
end Go.Proofs.Ythechjccpljljaa
/- Package ring: what its functions come to: products, residues. -/
namespace Go.Proofs.Ythechjccpljljaa
open Go.Sym Go.Dig

--STOP R1.Sm, limb_Add, limb_Sub, limb_Select, limb_Mul, limb_Cmp

def ringOf (m : Four) : RingV := ⟨m, 0 - newt m.w0 6, dblN m 256, dblN m 512⟩
/-- May it be a modulus? -/
def goodM (m : Four) : Bool := !((m.w0 &&& 1) == 0) && !(eq4 m ⟨1, 0, 0, 0⟩)
def sNewG : SpecF := fspec (α := Four × Unit) (β := Option RingV × Int × Unit) (fun a => some (goodM a.1 = true)) (fun a => (some (ringOf a.1), 0, ()))
def sNewN : SpecF := fspec (α := Four × Unit) (β := Option RingV × Int × Unit) (fun a => some (goodM a.1 = false)) (fun _ => (none, 2, ()))

def redHi (t c over : UInt64) : UInt64 := addHi t c over
def shr1 (k : UInt64) (m : Four) (t : Eight) : Row := mulRow (t.e0 * k) m t.e0 t.e1 t.e2 t.e3
def shr2 (k : UInt64) (m : Four) (t : Eight) (r : Row) : Row := mulRow (r.r1 * k) m r.r1 r.r2 r.r3 (addLo t.e4 r.c 0)
def shr3 (k : UInt64) (m : Four) (t : Eight) (o : UInt64) (s : Row) : Row := mulRow (s.r1 * k) m s.r1 s.r2 s.r3 (addLo t.e5 s.c o)
def shr4 (k : UInt64) (m : Four) (t : Eight) (o : UInt64) (u : Row) : Row := mulRow (u.r1 * k) m u.r1 u.r2 u.r3 (addLo t.e6 u.c o)
structure ShrV where
  o1 : UInt64
  o2 : UInt64
  o3 : UInt64
  o4 : UInt64
  high : Four
def shrV (k : UInt64) (m : Four) (t : Eight) : ShrV :=
  let r := shr1 k m t
  let o1 := addHi t.e4 r.c 0
  let s := shr2 k m t r
  let o2 := addHi t.e5 s.c o1
  let u := shr3 k m t o1 s
  let o3 := addHi t.e6 u.c o2
  let v := shr4 k m t o2 u
  ⟨o1, o2, o3, addHi t.e7 v.c o3, ⟨v.r1, v.r2, v.r3, addLo t.e7 v.c o3⟩⟩
def shrinkF (k : UInt64) (m : Four) (t : Eight) : Four :=
  limb_Select ((shrV k m t).o4 ||| ((limb_Sub (shrV k m t).high m).2 ^^^ 1)) (limb_Sub (shrV k m t).high m).1 (shrV k m t).high
def spG4 : Specs := (70, sMul64) :: (62, specAdd64) :: spL0
abbrev sShrink : SpecF := fspec (α := RingV × Eight × Unit) total (fun a => shrinkF a.1.back a.1.m a.2.1)
def timesR (r : RingV) (a b : Four) : Four := shrinkF r.back r.m (limb_Mul a b)
def sTimesR : SpecF := fspec (α := RingV × Four × Four × Unit) total (fun a => timesR a.1 a.2.1 a.2.2.1)
theorem vcTimesR (r : RingV) (a b : Four) (Q : SV → Prop) : LnRaw tt ((82, sShrink) :: spL0) 3 [] {} Try.f74 Q (r, a, b, ()) =
  (Q
  (SV.agg
    [SV.u64 (Four.w0 (shrinkF (RingV.back r) (RingV.m r) (limb_Mul a b))),
      SV.u64 (Four.w1 (shrinkF (RingV.back r) (RingV.m r) (limb_Mul a b))),
      SV.u64 (Four.w2 (shrinkF (RingV.back r) (RingV.m r) (limb_Mul a b))),
      SV.u64 (Four.w3 (shrinkF (RingV.back r) (RingV.m r) (limb_Mul a b)))])) := by kernel_rfl
def isR : Option RingV → Bool
  | some r => (r.m.w0 &&& 1) == 1
  | none => false
def sIsR : SpecF := fspec (α := Option RingV × Unit) total (fun a => isR a.1)
theorem vcIsA (r : RingV) (Q : SV → Prop) : LnRaw tt [] 3 [] {} Try.f73 Q (some r, ()) =
  (Q (SV.bool (Four.w0 (RingV.m r) &&& UInt64.ofNat (Int.toNat (1 : Int)) == UInt64.ofNat (Int.toNat (1 : Int))))) := by kernel_rfl
theorem vcIsB (Q : SV → Prop) : LnRaw tt [] 3 [] {} Try.f73 Q ((none : Option RingV), ()) =
  (Q (SV.bool false)) := by kernel_rfl
def spG5 : Specs := (73, sIsR) :: (74, sTimesR) :: spG3
def onR (r : Option RingV) (f : RingV → Four) : Four :=
  match r with
  | some r => if isR (some r) = true then f r else zero4
  | none => zero4
def one4 : Four := ⟨1, 0, 0, 0⟩
def redR (r : RingV) (a : Four) : Four := timesR r (timesR r a r.two) one4
abbrev AR1 := Option RingV × Four × Unit
abbrev AR2 := Option RingV × Four × Four × Unit
def sModulus : SpecF := fspec (α := Option RingV × Unit) total (fun a => onR a.1 fun r => r.m)
def sReduce : SpecF := fspec (α := AR1) total (fun a => onR a.1 fun r => redR r a.2.1)
def sIn : SpecF := fspec (α := AR1) total (fun a => onR a.1 fun r => timesR r a.2.1 r.two)
def sOut : SpecF := fspec (α := AR1) total (fun a => onR a.1 fun r => timesR r a.2.1 one4)
theorem vcModulusA (r : RingV) (Q : SV → Prop) : LnRaw tt spG5 3 [] {} Try.f46 Q (some r, ()) =
  bcase (!isR (some r))
    ((Q
  (SV.agg
    [SV.u64 (UInt64.ofNat (Int.toNat (0 : Int))), SV.u64 (UInt64.ofNat (Int.toNat (0 : Int))),
      SV.u64 (UInt64.ofNat (Int.toNat (0 : Int))), SV.u64 (UInt64.ofNat (Int.toNat (0 : Int)))])))
    ((Q
  (SV.agg
    [SV.u64 (Four.w0 (RingV.m r)), SV.u64 (Four.w1 (RingV.m r)), SV.u64 (Four.w2 (RingV.m r)),
      SV.u64 (Four.w3 (RingV.m r))]))) := by kernel_rfl
theorem vcModulusB (Q : SV → Prop) : LnRaw tt spG5 3 [] {} Try.f46 Q ((none : Option RingV), ()) =
  (Q
  (SV.agg
    [SV.u64 (UInt64.ofNat (Int.toNat (0 : Int))), SV.u64 (UInt64.ofNat (Int.toNat (0 : Int))),
      SV.u64 (UInt64.ofNat (Int.toNat (0 : Int))), SV.u64 (UInt64.ofNat (Int.toNat (0 : Int)))])) := by kernel_rfl
theorem vcReduceA (r : RingV) (a : Four) (Q : SV → Prop) : LnRaw tt spG5 3 [] {} Try.f47 Q (some r, a, ()) =
  bcase (!isR (some r))
    ((Q
  (SV.agg
    [SV.u64 (UInt64.ofNat (Int.toNat (0 : Int))), SV.u64 (UInt64.ofNat (Int.toNat (0 : Int))),
      SV.u64 (UInt64.ofNat (Int.toNat (0 : Int))), SV.u64 (UInt64.ofNat (Int.toNat (0 : Int)))])))
    ((Q
  (SV.agg
    [SV.u64
        (Four.w0
          (timesR r (timesR r a (RingV.two r))
            (Four.mk (UInt64.ofNat (Int.toNat (1 : Int))) (UInt64.ofNat (Int.toNat (0 : Int)))
              (UInt64.ofNat (Int.toNat (0 : Int))) (UInt64.ofNat (Int.toNat (0 : Int)))))),
      SV.u64
        (Four.w1
          (timesR r (timesR r a (RingV.two r))
            (Four.mk (UInt64.ofNat (Int.toNat (1 : Int))) (UInt64.ofNat (Int.toNat (0 : Int)))
              (UInt64.ofNat (Int.toNat (0 : Int))) (UInt64.ofNat (Int.toNat (0 : Int)))))),
      SV.u64
        (Four.w2
          (timesR r (timesR r a (RingV.two r))
            (Four.mk (UInt64.ofNat (Int.toNat (1 : Int))) (UInt64.ofNat (Int.toNat (0 : Int)))
              (UInt64.ofNat (Int.toNat (0 : Int))) (UInt64.ofNat (Int.toNat (0 : Int)))))),
      SV.u64
        (Four.w3
          (timesR r (timesR r a (RingV.two r))
            (Four.mk (UInt64.ofNat (Int.toNat (1 : Int))) (UInt64.ofNat (Int.toNat (0 : Int)))
              (UInt64.ofNat (Int.toNat (0 : Int))) (UInt64.ofNat (Int.toNat (0 : Int))))))]))) := by kernel_rfl
theorem vcReduceB (a : Four) (Q : SV → Prop) : LnRaw tt spG5 3 [] {} Try.f47 Q ((none : Option RingV), a, ()) =
  (Q
  (SV.agg
    [SV.u64 (UInt64.ofNat (Int.toNat (0 : Int))), SV.u64 (UInt64.ofNat (Int.toNat (0 : Int))),
      SV.u64 (UInt64.ofNat (Int.toNat (0 : Int))), SV.u64 (UInt64.ofNat (Int.toNat (0 : Int)))])) := by kernel_rfl
theorem vcInA (r : RingV) (a : Four) (Q : SV → Prop) : LnRaw tt spG5 3 [] {} Try.f51 Q (some r, a, ()) =
  bcase (!isR (some r))
    ((Q
  (SV.agg
    [SV.u64 (UInt64.ofNat (Int.toNat (0 : Int))), SV.u64 (UInt64.ofNat (Int.toNat (0 : Int))),
      SV.u64 (UInt64.ofNat (Int.toNat (0 : Int))), SV.u64 (UInt64.ofNat (Int.toNat (0 : Int)))])))
    ((Q
  (SV.agg
    [SV.u64 (Four.w0 (timesR r a (RingV.two r))), SV.u64 (Four.w1 (timesR r a (RingV.two r))),
      SV.u64 (Four.w2 (timesR r a (RingV.two r))), SV.u64 (Four.w3 (timesR r a (RingV.two r)))]))) := by kernel_rfl
theorem vcInB (a : Four) (Q : SV → Prop) : LnRaw tt spG5 3 [] {} Try.f51 Q ((none : Option RingV), a, ()) =
  (Q
  (SV.agg
    [SV.u64 (UInt64.ofNat (Int.toNat (0 : Int))), SV.u64 (UInt64.ofNat (Int.toNat (0 : Int))),
      SV.u64 (UInt64.ofNat (Int.toNat (0 : Int))), SV.u64 (UInt64.ofNat (Int.toNat (0 : Int)))])) := by kernel_rfl
theorem vcOutA (r : RingV) (a : Four) (Q : SV → Prop) : LnRaw tt spG5 3 [] {} Try.f53 Q (some r, a, ()) =
  bcase (!isR (some r))
    ((Q
  (SV.agg
    [SV.u64 (UInt64.ofNat (Int.toNat (0 : Int))), SV.u64 (UInt64.ofNat (Int.toNat (0 : Int))),
      SV.u64 (UInt64.ofNat (Int.toNat (0 : Int))), SV.u64 (UInt64.ofNat (Int.toNat (0 : Int)))])))
    ((Q
  (SV.agg
    [SV.u64
        (Four.w0
          (timesR r a
            (Four.mk (UInt64.ofNat (Int.toNat (1 : Int))) (UInt64.ofNat (Int.toNat (0 : Int)))
              (UInt64.ofNat (Int.toNat (0 : Int))) (UInt64.ofNat (Int.toNat (0 : Int)))))),
      SV.u64
        (Four.w1
          (timesR r a
            (Four.mk (UInt64.ofNat (Int.toNat (1 : Int))) (UInt64.ofNat (Int.toNat (0 : Int)))
              (UInt64.ofNat (Int.toNat (0 : Int))) (UInt64.ofNat (Int.toNat (0 : Int)))))),
      SV.u64
        (Four.w2
          (timesR r a
            (Four.mk (UInt64.ofNat (Int.toNat (1 : Int))) (UInt64.ofNat (Int.toNat (0 : Int)))
              (UInt64.ofNat (Int.toNat (0 : Int))) (UInt64.ofNat (Int.toNat (0 : Int)))))),
      SV.u64
        (Four.w3
          (timesR r a
            (Four.mk (UInt64.ofNat (Int.toNat (1 : Int))) (UInt64.ofNat (Int.toNat (0 : Int)))
              (UInt64.ofNat (Int.toNat (0 : Int))) (UInt64.ofNat (Int.toNat (0 : Int))))))]))) := by kernel_rfl
theorem vcOutB (a : Four) (Q : SV → Prop) : LnRaw tt spG5 3 [] {} Try.f53 Q ((none : Option RingV), a, ()) =
  (Q
  (SV.agg
    [SV.u64 (UInt64.ofNat (Int.toNat (0 : Int))), SV.u64 (UInt64.ofNat (Int.toNat (0 : Int))),
      SV.u64 (UInt64.ofNat (Int.toNat (0 : Int))), SV.u64 (UInt64.ofNat (Int.toNat (0 : Int)))])) := by kernel_rfl
def resR (r : RingV) (a : Four) : Four := if limb_Cmp a r.m < 0 then a else onR (some r) fun r => redR r a
def sResidueR : SpecF := fspec (α := RingV × Four × Unit) total (fun a => resR a.1 a.2.1)
def spG6 : Specs := (47, sReduce) :: spG5
theorem vcResidueR (r : RingV) (a : Four) (Q : SV → Prop) : LnRaw tt spG6 3 [] {} Try.f78 Q (r, a, ()) =
  bcase (decide (limb_Cmp a (RingV.m r) < (0 : Int)))
    ((Q (SV.agg [SV.u64 (Four.w0 a), SV.u64 (Four.w1 a), SV.u64 (Four.w2 a), SV.u64 (Four.w3 a)])))
    ((Q
  (SV.agg
    [SV.u64 (Four.w0 (onR (some r) fun r => redR r a)), SV.u64 (Four.w1 (onR (some r) fun r => redR r a)),
      SV.u64 (Four.w2 (onR (some r) fun r => redR r a)), SV.u64 (Four.w3 (onR (some r) fun r => redR r a))]))) := by kernel_rfl
def spG7 : Specs := (78, sResidueR) :: spG6
def plusR (r : RingV) (a b : Four) : Four := ringPlus r.m (resR r a) (resR r b)
def minusR (r : RingV) (a b : Four) : Four := limb_Select (limb_Sub (resR r a) (resR r b)).2 (limb_Add (limb_Sub (resR r a) (resR r b)).1 r.m).1 (limb_Sub (resR r a) (resR r b)).1
def mulR (r : RingV) (a b : Four) : Four := timesR r (resR r a) (resR r b)
def wideR (r : RingV) (w : Eight) : Four := ringPlus r.m (redR r ⟨w.e0, w.e1, w.e2, w.e3⟩) (timesR r ⟨w.e4, w.e5, w.e6, w.e7⟩ r.two)
def sPlusR : SpecF := fspec (α := AR2) total (fun a => onR a.1 fun r => plusR r a.2.1 a.2.2.1)
def sMinusR : SpecF := fspec (α := AR2) total (fun a => onR a.1 fun r => minusR r a.2.1 a.2.2.1)
def sMulR : SpecF := fspec (α := AR2) total (fun a => onR a.1 fun r => mulR r a.2.1 a.2.2.1)
def sWideR : SpecF := fspec (α := Option RingV × Eight × Unit) total (fun a => onR a.1 fun r => wideR r a.2.1)
theorem vcPlusA (r : RingV) (a b : Four) (Q : SV → Prop) : LnRaw tt spG7 3 [] {} Try.f54 Q (some r, a, b, ()) =
  bcase (!isR (some r))
    ((Q
  (SV.agg
    [SV.u64 (UInt64.ofNat (Int.toNat (0 : Int))), SV.u64 (UInt64.ofNat (Int.toNat (0 : Int))),
      SV.u64 (UInt64.ofNat (Int.toNat (0 : Int))), SV.u64 (UInt64.ofNat (Int.toNat (0 : Int)))])))
    ((Q
  (SV.agg
    [SV.u64 (Four.w0 (ringPlus (RingV.m r) (resR r a) (resR r b))),
      SV.u64 (Four.w1 (ringPlus (RingV.m r) (resR r a) (resR r b))),
      SV.u64 (Four.w2 (ringPlus (RingV.m r) (resR r a) (resR r b))),
      SV.u64 (Four.w3 (ringPlus (RingV.m r) (resR r a) (resR r b)))]))) := by kernel_rfl
theorem vcPlusB (a b : Four) (Q : SV → Prop) : LnRaw tt spG7 3 [] {} Try.f54 Q ((none : Option RingV), a, b, ()) =
  (Q
  (SV.agg
    [SV.u64 (UInt64.ofNat (Int.toNat (0 : Int))), SV.u64 (UInt64.ofNat (Int.toNat (0 : Int))),
      SV.u64 (UInt64.ofNat (Int.toNat (0 : Int))), SV.u64 (UInt64.ofNat (Int.toNat (0 : Int)))])) := by kernel_rfl
theorem vcMinusA (r : RingV) (a b : Four) (Q : SV → Prop) : LnRaw tt spG7 3 [] {} Try.f55 Q (some r, a, b, ()) =
  bcase (!isR (some r))
    ((Q
  (SV.agg
    [SV.u64 (UInt64.ofNat (Int.toNat (0 : Int))), SV.u64 (UInt64.ofNat (Int.toNat (0 : Int))),
      SV.u64 (UInt64.ofNat (Int.toNat (0 : Int))), SV.u64 (UInt64.ofNat (Int.toNat (0 : Int)))])))
    ((Q
  (SV.agg
    [SV.u64
        (Four.w0
          (limb_Select (Prod.snd (limb_Sub (resR r a) (resR r b)))
            (Prod.fst (limb_Add (Prod.fst (limb_Sub (resR r a) (resR r b))) (RingV.m r)))
            (Prod.fst (limb_Sub (resR r a) (resR r b))))),
      SV.u64
        (Four.w1
          (limb_Select (Prod.snd (limb_Sub (resR r a) (resR r b)))
            (Prod.fst (limb_Add (Prod.fst (limb_Sub (resR r a) (resR r b))) (RingV.m r)))
            (Prod.fst (limb_Sub (resR r a) (resR r b))))),
      SV.u64
        (Four.w2
          (limb_Select (Prod.snd (limb_Sub (resR r a) (resR r b)))
            (Prod.fst (limb_Add (Prod.fst (limb_Sub (resR r a) (resR r b))) (RingV.m r)))
            (Prod.fst (limb_Sub (resR r a) (resR r b))))),
      SV.u64
        (Four.w3
          (limb_Select (Prod.snd (limb_Sub (resR r a) (resR r b)))
            (Prod.fst (limb_Add (Prod.fst (limb_Sub (resR r a) (resR r b))) (RingV.m r)))
            (Prod.fst (limb_Sub (resR r a) (resR r b)))))]))) := by kernel_rfl
theorem vcMinusB (a b : Four) (Q : SV → Prop) : LnRaw tt spG7 3 [] {} Try.f55 Q ((none : Option RingV), a, b, ()) =
  (Q
  (SV.agg
    [SV.u64 (UInt64.ofNat (Int.toNat (0 : Int))), SV.u64 (UInt64.ofNat (Int.toNat (0 : Int))),
      SV.u64 (UInt64.ofNat (Int.toNat (0 : Int))), SV.u64 (UInt64.ofNat (Int.toNat (0 : Int)))])) := by kernel_rfl
theorem vcMulA (r : RingV) (a b : Four) (Q : SV → Prop) : LnRaw tt spG7 3 [] {} Try.f57 Q (some r, a, b, ()) =
  bcase (!isR (some r))
    ((Q
  (SV.agg
    [SV.u64 (UInt64.ofNat (Int.toNat (0 : Int))), SV.u64 (UInt64.ofNat (Int.toNat (0 : Int))),
      SV.u64 (UInt64.ofNat (Int.toNat (0 : Int))), SV.u64 (UInt64.ofNat (Int.toNat (0 : Int)))])))
    ((Q
  (SV.agg
    [SV.u64 (Four.w0 (timesR r (resR r a) (resR r b))), SV.u64 (Four.w1 (timesR r (resR r a) (resR r b))),
      SV.u64 (Four.w2 (timesR r (resR r a) (resR r b))), SV.u64 (Four.w3 (timesR r (resR r a) (resR r b)))]))) := by kernel_rfl
theorem vcMulB (a b : Four) (Q : SV → Prop) : LnRaw tt spG7 3 [] {} Try.f57 Q ((none : Option RingV), a, b, ()) =
  (Q
  (SV.agg
    [SV.u64 (UInt64.ofNat (Int.toNat (0 : Int))), SV.u64 (UInt64.ofNat (Int.toNat (0 : Int))),
      SV.u64 (UInt64.ofNat (Int.toNat (0 : Int))), SV.u64 (UInt64.ofNat (Int.toNat (0 : Int)))])) := by kernel_rfl
theorem vcWideA (r : RingV) (w : Eight) (Q : SV → Prop) : LnRaw tt spG7 3 [] {} Try.f49 Q (some r, w, ()) =
  bcase (!isR (some r))
    ((Q
  (SV.agg
    [SV.u64 (UInt64.ofNat (Int.toNat (0 : Int))), SV.u64 (UInt64.ofNat (Int.toNat (0 : Int))),
      SV.u64 (UInt64.ofNat (Int.toNat (0 : Int))), SV.u64 (UInt64.ofNat (Int.toNat (0 : Int)))])))
    ((Q
  (SV.agg
    [SV.u64
        (Four.w0
          (ringPlus (RingV.m r)
            (onR (some r) fun r => redR r (Four.mk (Eight.e0 w) (Eight.e1 w) (Eight.e2 w) (Eight.e3 w)))
            (timesR r (Four.mk (Eight.e4 w) (Eight.e5 w) (Eight.e6 w) (Eight.e7 w)) (RingV.two r)))),
      SV.u64
        (Four.w1
          (ringPlus (RingV.m r)
            (onR (some r) fun r => redR r (Four.mk (Eight.e0 w) (Eight.e1 w) (Eight.e2 w) (Eight.e3 w)))
            (timesR r (Four.mk (Eight.e4 w) (Eight.e5 w) (Eight.e6 w) (Eight.e7 w)) (RingV.two r)))),
      SV.u64
        (Four.w2
          (ringPlus (RingV.m r)
            (onR (some r) fun r => redR r (Four.mk (Eight.e0 w) (Eight.e1 w) (Eight.e2 w) (Eight.e3 w)))
            (timesR r (Four.mk (Eight.e4 w) (Eight.e5 w) (Eight.e6 w) (Eight.e7 w)) (RingV.two r)))),
      SV.u64
        (Four.w3
          (ringPlus (RingV.m r)
            (onR (some r) fun r => redR r (Four.mk (Eight.e0 w) (Eight.e1 w) (Eight.e2 w) (Eight.e3 w)))
            (timesR r (Four.mk (Eight.e4 w) (Eight.e5 w) (Eight.e6 w) (Eight.e7 w)) (RingV.two r))))]))) := by kernel_rfl
theorem vcWideB (w : Eight) (Q : SV → Prop) : LnRaw tt spG7 3 [] {} Try.f49 Q ((none : Option RingV), w, ()) =
  (Q
  (SV.agg
    [SV.u64 (UInt64.ofNat (Int.toNat (0 : Int))), SV.u64 (UInt64.ofNat (Int.toNat (0 : Int))),
      SV.u64 (UInt64.ofNat (Int.toNat (0 : Int))), SV.u64 (UInt64.ofNat (Int.toNat (0 : Int)))])) := by kernel_rfl
end Go.Proofs.Ythechjccpljljaa
/- Package ring: what its functions come to is so (without powers). -/
namespace Go.Proofs.Ythechjccpljljaa
open Go.Sym Go.Dig

theorem sv_fin {y : SV} (x : SV) (h : (fun x => x = y) x) (at_ : At) (w : World) (v : Value) (r : Rel at_ w x v) : Rel at_ w y v := by have h' : x = y := h; subst h'; exact r
theorem spG1_ok : SpecsOK Try.prog spG1 := spL0_ok
theorem ok_RPlus : SpecOK Try.prog 76 sRPlus := by
  refine fn_okL (by kernel_rfl) tt_ok spG1_ok 3 Try.func76 (by decide +kernel) (by kernel_rfl) ?_
  rintro ⟨r, a, b, _⟩ _
  exact ⟨[], {}, fun x => x = (ringPlus r.m a b).sv, LnVD.of (vcPlus r a b _) rfl, sv_fin⟩
theorem spG2_ok : SpecsOK Try.prog spG2 := .cons ok_RPlus spG1_ok
theorem ok_Twice : SpecOK Try.prog 72 sTwice := by
  refine fn_okL (by kernel_rfl) tt_ok spG2_ok 3 Try.func72 (by decide +kernel) (by kernel_rfl) ?_
  rintro ⟨r, a, _⟩ _
  exact ⟨[], {}, fun x => x = (ringPlus r.m a a).sv, LnVD.of (vcTwice r a _) rfl, sv_fin⟩
theorem spG3_ok : SpecsOK Try.prog spG3 := .cons ok_Twice spG2_ok

theorem ok_NewG : SpecOK Try.prog 44 sNewG := by
  refine fn_okL (by kernel_rfl) tt_ok spG3_ok 9 Try.func44 (by decide +kernel) (by kernel_rfl) ?_
  rintro ⟨m, _⟩ hg
  replace hg : goodM m = true := hg
  refine ⟨_, lNew, fun x => x = .tup [.ro (ringOf m).cells 0, .i64 0], LnVD.of (vcNewA m _) ?_, sv_fin⟩
  unfold goodM at hg
  simp only [Bool.and_eq_true, Bool.not_eq_true'] at hg
  refine ⟨hg.1, hg.2, ⟨rfl, rfl, by omega, by omega, rfl⟩, fun v r x i ⟨e1, e2, i0, i1, e3⟩ => ?_⟩
  subst e1 e2
  rw [R1.bcase_dec]
  refine ⟨fun hi => ?_, fun hi => ?_⟩
  · rw [R1.wr (x := i + 1) (by omega)]
    refine ⟨by trivial, ⟨by trivial, by trivial, by omega, by omega, ?_⟩, by omega⟩
    rw [e3, show (i + 1).toNat = i.toNat + 1 by omega]; rfl
  · have hi6 : i.toNat = 6 := by omega
    rw [hi6] at e3
    refine ⟨⟨by omega, by omega, ?_, rfl⟩, fun r2 x2 j ⟨j0, j1, e4, e5⟩ => ?_⟩
    · simp only [oneN]; rfl
    · rw [R1.bcase_dec]
      refine ⟨fun hj => ?_, fun hj => ?_⟩
      · rw [R1.wr (x := j + 1) (by omega), R1.bcase_iff]
        have hd : dblN v (j + 1).toNat = ringPlus v (dblN v j.toNat) (dblN v j.toNat) := by rw [show (j + 1).toNat = j.toNat + 1 by omega]; rfl
        subst e4 e5
        simp only at hd ⊢
        refine ⟨fun h => ⟨by trivial, ⟨by omega, by omega, ?_, hd.symm⟩, by omega⟩, fun h => ⟨by trivial, ⟨by omega, by omega, ?_, hd.symm⟩, by omega⟩⟩
        · have : j = 255 := by simpa using h
          subst this
          have e : oneN v (255 + 1) = dblN v 256 := by unfold oneN; rw [if_neg (by omega)]
          rw [e]; rfl
        · have hne : j ≠ 255 := by simpa using h
          have e : oneN v (j + 1) = oneN v j := by
            unfold oneN
            by_cases hl : j ≤ 255
            · rw [if_pos hl, if_pos (by omega)]
            · rw [if_neg hl, if_neg (by omega)]
          rw [e]
      · have hj5 : j = 512 := by omega
        subst hj5
        subst e4 e5
        have e : oneN v 512 = dblN v 256 := by unfold oneN; rw [if_neg (by omega)]
        rw [e3]
        simp only [e]
        rfl
theorem ok_NewN : SpecOK Try.prog 44 sNewN := by
  refine fn_okL (by kernel_rfl) tt_ok spG3_ok 9 Try.func44 (by decide +kernel) (by kernel_rfl) ?_
  rintro ⟨m, _⟩ hg
  replace hg : goodM m = false := hg
  unfold goodM at hg
  cases h1 : ((m.w0 &&& 1) == 0) with
  | true => exact ⟨_, lNew, fun x => x = .tup [.val (.pointer none), .i64 2], LnVD.of (vcNewB m _) ⟨h1, rfl⟩, sv_fin⟩
  | false =>
    rw [h1] at hg
    simp only [Bool.not_false, Bool.true_and, Bool.not_eq_false'] at hg
    exact ⟨_, lNew, fun x => x = .tup [.val (.pointer none), .i64 2], LnVD.of (vcNewC m _) ⟨h1, hg, rfl⟩, sv_fin⟩

theorem spG4_ok : SpecsOK Try.prog spG4 := .cons ok_mul64 <| .cons ok_add64 spL0_ok
theorem ok_Shrink : SpecOK Try.prog 82 sShrink :=
  fn_ok mixed tt_ok spG4_ok 9 Try.func82 (by decide +kernel) rfl
    (fun a => conj (cpre (shrV a.1.back a.1.m a.2.1).o1) (conj (cpre (shrV a.1.back a.1.m a.2.1).o2) (conj (cpre (shrV a.1.back a.1.m a.2.1).o3) (Same (retSV (RetL.retL (shrinkF a.1.back a.1.m a.2.1)))))))
    (fun a => by kernel_rfl)
    (fun _ _ => cpre_conj (addHi_le _ _ _ zero_le) (cpre_conj (addHi_le _ _ _ (addHi_le _ _ _ zero_le)) (cpre_conj (addHi_le _ _ _ (addHi_le _ _ _ (addHi_le _ _ _ zero_le))) rfl)))
theorem ok_TimesR : SpecOK Try.prog 74 sTimesR := by
  refine fn_okL (by kernel_rfl) tt_ok (.cons ok_Shrink spL0_ok) 3 Try.func74 (by decide +kernel) (by kernel_rfl) ?_
  rintro ⟨r, a, b, _⟩ _
  exact ⟨[], {}, fun x => x = (timesR r a b).sv, LnVD.of (vcTimesR r a b _) rfl, sv_fin⟩
theorem ok_IsR : SpecOK Try.prog 73 sIsR := by
  refine fn_okL (by kernel_rfl) tt_ok (.nil _) 3 Try.func73 (by decide +kernel) (by kernel_rfl) ?_
  rintro ⟨r, _⟩ _
  cases r with
  | none => exact ⟨[], {}, fun x => x = .bool false, LnVD.of (vcIsB _) rfl, sv_fin⟩
  | some r => exact ⟨[], {}, fun x => x = .bool (isR (some r)), LnVD.of (vcIsA r _) rfl, sv_fin⟩
theorem spG5_ok : SpecsOK Try.prog spG5 := .cons ok_IsR <| .cons ok_TimesR spG3_ok
theorem onR_t {r : RingV} {f : RingV → Four} (h : (!isR (some r)) = false) : onR (some r) f = f r := by
  unfold onR; simp only; rw [if_pos (by simpa using h)]
theorem onR_f {r : RingV} {f : RingV → Four} (h : (!isR (some r)) = true) : onR (some r) f = zero4 := by
  unfold onR; simp only; rw [if_neg (by simpa using h)]
theorem onR_goal {r : RingV} {f : RingV → Four} {z : SV} (h0 : z = (f r).sv) : bcase (!isR (some r)) ((fun x => x = (onR (some r) f).sv) zero4.sv) ((fun x => x = (onR (some r) f).sv) z) := by
  rw [R1.bcase_iff]
  exact ⟨fun h => by show _ = _; rw [onR_f h], fun h => by show _ = _; rw [onR_t h, h0]⟩
theorem ok_Modulus : SpecOK Try.prog 46 sModulus := by
  refine fn_okL (by kernel_rfl) tt_ok spG5_ok 3 Try.func46 (by decide +kernel) (by kernel_rfl) ?_
  rintro ⟨r, _⟩ _
  cases r with
  | none => exact ⟨[], {}, fun x => x = zero4.sv, LnVD.of (vcModulusB _) rfl, sv_fin⟩
  | some r => exact ⟨[], {}, fun x => x = (onR (some r) fun r => r.m).sv, LnVD.of (vcModulusA r _) (onR_goal rfl), sv_fin⟩
theorem ok_Reduce : SpecOK Try.prog 47 sReduce := by
  refine fn_okL (by kernel_rfl) tt_ok spG5_ok 3 Try.func47 (by decide +kernel) (by kernel_rfl) ?_
  rintro ⟨r, a, _⟩ _
  cases r with
  | none => exact ⟨[], {}, fun x => x = zero4.sv, LnVD.of (vcReduceB a _) rfl, sv_fin⟩
  | some r => exact ⟨[], {}, fun x => x = (onR (some r) fun r => redR r a).sv, LnVD.of (vcReduceA r a _) (onR_goal rfl), sv_fin⟩
theorem ok_In : SpecOK Try.prog 51 sIn := by
  refine fn_okL (by kernel_rfl) tt_ok spG5_ok 3 Try.func51 (by decide +kernel) (by kernel_rfl) ?_
  rintro ⟨r, a, _⟩ _
  cases r with
  | none => exact ⟨[], {}, fun x => x = zero4.sv, LnVD.of (vcInB a _) rfl, sv_fin⟩
  | some r => exact ⟨[], {}, fun x => x = (onR (some r) fun r => timesR r a r.two).sv, LnVD.of (vcInA r a _) (onR_goal rfl), sv_fin⟩
theorem ok_Out : SpecOK Try.prog 53 sOut := by
  refine fn_okL (by kernel_rfl) tt_ok spG5_ok 3 Try.func53 (by decide +kernel) (by kernel_rfl) ?_
  rintro ⟨r, a, _⟩ _
  cases r with
  | none => exact ⟨[], {}, fun x => x = zero4.sv, LnVD.of (vcOutB a _) rfl, sv_fin⟩
  | some r => exact ⟨[], {}, fun x => x = (onR (some r) fun r => timesR r a one4).sv, LnVD.of (vcOutA r a _) (onR_goal rfl), sv_fin⟩
theorem spG6_ok : SpecsOK Try.prog spG6 := .cons ok_Reduce spG5_ok
theorem ok_ResidueR : SpecOK Try.prog 78 sResidueR := by
  refine fn_okL (by kernel_rfl) tt_ok spG6_ok 3 Try.func78 (by decide +kernel) (by kernel_rfl) ?_
  rintro ⟨r, a, _⟩ _
  refine ⟨[], {}, fun x => x = (resR r a).sv, LnVD.of (vcResidueR r a _) ?_, sv_fin⟩
  rw [R1.bcase_dec]
  refine ⟨fun h => ?_, fun h => ?_⟩
  · show _ = _; unfold resR; rw [if_pos h]; rfl
  · show _ = _; unfold resR; rw [if_neg h]; rfl
theorem spG7_ok : SpecsOK Try.prog spG7 := .cons ok_ResidueR spG6_ok
theorem ok_PlusR : SpecOK Try.prog 54 sPlusR := by
  refine fn_okL (by kernel_rfl) tt_ok spG7_ok 3 Try.func54 (by decide +kernel) (by kernel_rfl) ?_
  rintro ⟨r, a, b, _⟩ _
  cases r with
  | none => exact ⟨[], {}, fun x => x = zero4.sv, LnVD.of (vcPlusB a b _) rfl, sv_fin⟩
  | some r => exact ⟨[], {}, fun x => x = (onR (some r) fun r => plusR r a b).sv, LnVD.of (vcPlusA r a b _) (onR_goal rfl), sv_fin⟩
theorem ok_MinusR : SpecOK Try.prog 55 sMinusR := by
  refine fn_okL (by kernel_rfl) tt_ok spG7_ok 3 Try.func55 (by decide +kernel) (by kernel_rfl) ?_
  rintro ⟨r, a, b, _⟩ _
  cases r with
  | none => exact ⟨[], {}, fun x => x = zero4.sv, LnVD.of (vcMinusB a b _) rfl, sv_fin⟩
  | some r => exact ⟨[], {}, fun x => x = (onR (some r) fun r => minusR r a b).sv, LnVD.of (vcMinusA r a b _) (onR_goal rfl), sv_fin⟩
theorem ok_MulR : SpecOK Try.prog 57 sMulR := by
  refine fn_okL (by kernel_rfl) tt_ok spG7_ok 3 Try.func57 (by decide +kernel) (by kernel_rfl) ?_
  rintro ⟨r, a, b, _⟩ _
  cases r with
  | none => exact ⟨[], {}, fun x => x = zero4.sv, LnVD.of (vcMulB a b _) rfl, sv_fin⟩
  | some r => exact ⟨[], {}, fun x => x = (onR (some r) fun r => mulR r a b).sv, LnVD.of (vcMulA r a b _) (onR_goal rfl), sv_fin⟩
theorem ok_WideR : SpecOK Try.prog 49 sWideR := by
  refine fn_okL (by kernel_rfl) tt_ok spG7_ok 3 Try.func49 (by decide +kernel) (by kernel_rfl) ?_
  rintro ⟨r, a, _⟩ _
  cases r with
  | none => exact ⟨[], {}, fun x => x = zero4.sv, LnVD.of (vcWideB a _) rfl, sv_fin⟩
  | some r =>
    refine ⟨[], {}, fun x => x = (onR (some r) fun r => wideR r a).sv, LnVD.of (vcWideA r a _) ?_, sv_fin⟩
    rw [R1.bcase_iff]
    refine ⟨fun h => by show _ = _; rw [onR_f h]; rfl, fun h => ?_⟩
    show _ = _
    rw [onR_t (f := fun r => wideR r a) h]
    simp only [onR_t (f := fun r => redR r ⟨a.e0, a.e1, a.e2, a.e3⟩) h]
    rfl
end Go.Proofs.Ythechjccpljljaa
/- Package ring: plain facts on residues. -/
namespace Go.Proofs.Ythechjccpljljaa
open Go.Sym Go.Dig

/-! Modulo M. -/
theorem mod_mul_l (M x y : Nat) : x % M * y % M = x * y % M := by rw [Nat.mul_mod, Nat.mod_mod, ← Nat.mul_mod]
theorem mod_mul_r (M x y : Nat) : x * (y % M) % M = x * y % M := by rw [Nat.mul_mod, Nat.mod_mod, ← Nat.mul_mod]
theorem mod_add_l (M x y : Nat) : (x % M + y) % M = (x + y) % M := by rw [Nat.add_mod, Nat.mod_mod, ← Nat.add_mod]
theorem mod_add_r (M x y : Nat) : (x + y % M) % M = (x + y) % M := by rw [Nat.add_mod, Nat.mod_mod, ← Nat.add_mod]
/-- By 2, modulo an odd M. -/
def hf (M : Nat) : Nat := (M + 1) / 2
theorem two_hf {M : Nat} (h : M % 2 = 1) : 2 * hf M % M = 1 % M := by
  have : 2 * hf M = 1 + M := by unfold hf; omega
  rw [this, Nat.add_mod_right]
theorem pow_hf {M : Nat} (h : M % 2 = 1) (n : Nat) : 2 ^ n * hf M ^ n % M = 1 % M := by
  rw [← Nat.mul_pow, Nat.pow_mod, two_hf h, ← Nat.pow_mod, Nat.one_pow]
def unR (M t : Nat) : Nat := t * hf M ^ 256 % M
theorem unR_of {M t x : Nat} (h : M % 2 = 1) (hx : x < M) (e : x * 2 ^ 256 % M = t % M) : x = unR M t := by
  have h1 : x * (2 ^ 256 * hf M ^ 256) % M = t * hf M ^ 256 % M := by
    rw [← Nat.mul_assoc, Nat.mul_mod, e, ← Nat.mul_mod]
  rw [Nat.mul_mod, pow_hf h 256, ← Nat.mul_mod, Nat.mul_one, Nat.mod_eq_of_lt hx] at h1
  exact h1
theorem unR_lt {M : Nat} (t : Nat) (h : 0 < M) : unR M t < M := Nat.mod_lt _ h
theorem unR_mod (M t : Nat) : unR M (t % M) = unR M t := mod_mul_l _ _ _
theorem unR_mul {M : Nat} (h : M % 2 = 1) (x : Nat) : unR M (x * 2 ^ 256) = x % M := by
  unfold unR
  rw [Nat.mul_assoc, Nat.mul_mod, pow_hf h 256, ← Nat.mul_mod, Nat.mul_one]
theorem unR_back {M : Nat} (h : M % 2 = 1) (t : Nat) : unR M t * 2 ^ 256 % M = t % M := by
  unfold unR
  rw [mod_mul_l, Nat.mul_assoc, Nat.mul_comm (hf M ^ 256), Nat.mul_mod, pow_hf h 256, ← Nat.mul_mod, Nat.mul_one]

/-! Sums. -/
theorem bit_or_xor (c e : UInt64) (hc : c.toNat ≤ 1) (he : e.toNat ≤ 1) : (c ||| (e ^^^ 1)).toNat % 2 = if c.toNat = 1 ∨ e.toNat = 0 then 1 else 0 := by
  have h1 : c = 0 ∨ c = 1 := by
    have : c.toNat = 0 ∨ c.toNat = 1 := by omega
    rcases this with h | h
    · exact .inl (UInt64.toNat_inj.1 h)
    · exact .inr (UInt64.toNat_inj.1 h)
  have h2 : e = 0 ∨ e = 1 := by
    have : e.toNat = 0 ∨ e.toNat = 1 := by omega
    rcases this with h | h
    · exact .inl (UInt64.toNat_inj.1 h)
    · exact .inr (UInt64.toNat_inj.1 h)
  rcases h1 with rfl | rfl <;> rcases h2 with rfl | rfl <;> decide
/-- What lies below twice M, made less by M. -/
theorem less_nat (high m : Four) (o : UInt64) (ho : o.toNat ≤ 1) (hlt : nat4 high + 115792089237316195423570985008687907853269984665640564039457584007913129639936 * o.toNat < 2 * nat4 m) :
    nat4 (limb_Select (o ||| ((limb_Sub high m).2 ^^^ 1)) (limb_Sub high m).1 high) = (nat4 high + 115792089237316195423570985008687907853269984665640564039457584007913129639936 * o.toNat) % nat4 m := by
  have h3 := sub_nat high m; have h4 := sub_borrow high m
  have l1 := nat4_lt (limb_Sub high m).1; have l2 := nat4_lt m; have l3 := nat4_lt high
  have hb := bit_or_xor o (limb_Sub high m).2 ho h4
  by_cases hc : o.toNat = 1 ∨ (limb_Sub high m).2.toNat = 0
  · rw [if_pos hc] at hb
    rw [select_one _ _ _ hb]
    have : nat4 high + 115792089237316195423570985008687907853269984665640564039457584007913129639936 * o.toNat = nat4 (limb_Sub high m).1 + nat4 m := by omega
    rw [this, Nat.add_mod_right, Nat.mod_eq_of_lt (by omega)]
  · rw [if_neg hc] at hb
    rw [select_zero _ _ _ hb]
    have : o.toNat = 0 := by omega
    rw [this, Nat.mul_zero, Nat.add_zero, Nat.mod_eq_of_lt (by omega)]
theorem ringPlus_nat (m a b : Four) (ha : nat4 a < nat4 m) (hb : nat4 b < nat4 m) : nat4 (ringPlus m a b) = (nat4 a + nat4 b) % nat4 m := by
  have h1 := add_nat a b; have h2 := add_carry a b
  have := less_nat (limb_Add a b).1 m (limb_Add a b).2 h2 (by omega)
  rw [h1] at this
  exact this

/-! What m is -1 by, modulo 2^64. -/
theorem newt_step (w x : UInt64) : 1 - w * (x * (2 - w * x)) = (1 - w * x) * (1 - w * x) := by grind
theorem newt_inv (w : UInt64) (h : w &&& 1 = 1) : w * newt w 6 = 1 := by
  obtain ⟨c, hc⟩ : ∃ c, 1 - w = 2 * c := by
    refine ⟨UInt64.ofNat ((1 - w).toNat / 2), ?_⟩
    apply UInt64.toNat_inj.1
    have h1 := congrArg UInt64.toNat h
    rw [and_one] at h1
    have h2 : (1 - w).toNat % 2 = 0 := by
      rw [UInt64.toNat_sub]
      have := u64_lt w
      have e : (1 : UInt64).toNat = 1 := rfl
      rw [e] at h1 ⊢
      omega
    have := u64_lt (1 - w)
    rw [UInt64.toNat_mul, UInt64.toNat_ofNat', show (2 : UInt64).toNat = 2 from rfl]
    omega
  have e0 : 1 - w * newt w 0 = 2 * c := by rw [← hc]; show 1 - w * 1 = _; rw [UInt64.mul_one]
  have e1 : 1 - w * newt w 1 = 4 * (c * c) := by rw [newt, newt_step, e0]; grind
  have e2 : 1 - w * newt w 2 = 16 * (c * c * (c * c)) := by rw [newt, newt_step, e1]; grind
  generalize c * c * (c * c) = d at e2
  have e3 : 1 - w * newt w 3 = 256 * (d * d) := by rw [newt, newt_step, e2]; grind
  generalize d * d = f at e3
  have e4 : 1 - w * newt w 4 = 65536 * (f * f) := by rw [newt, newt_step, e3]; grind
  generalize f * f = g at e4
  have e5 : 1 - w * newt w 5 = 4294967296 * (g * g) := by rw [newt, newt_step, e4]; grind
  generalize g * g = i at e5
  have e6 : 1 - w * newt w 6 = 0 := by rw [newt, newt_step, e5]; grind
  grind
end Go.Proofs.Ythechjccpljljaa
/- Package ring: what its functions come to, as numbers. -/
namespace Go.Proofs.Ythechjccpljljaa
open Go.Sym Go.Dig

theorem mul64_lo (x y : UInt64) : (mul64 x y).2 = x * y := rfl
theorem row_zero (t k : UInt64) (m : Four) (o1 o2 o3 : UInt64) (hk : m.w0 * k = 0 - 1) : (mulRow (t * k) m t o1 o2 o3).r0 = 0 := by
  have : (mulRow (t * k) m t o1 o2 o3).r0 = t * k * m.w0 + t + 0 + 0 + 0 := rfl
  rw [this]
  grind
theorem shrV_nat (k : UInt64) (m : Four) (t : Eight) (hk : m.w0 * k = 0 - 1) :
    ∃ Q : Nat, Q < 115792089237316195423570985008687907853269984665640564039457584007913129639936 ∧ nat8 t + Q * nat4 m = 115792089237316195423570985008687907853269984665640564039457584007913129639936 * (nat4 (shrV k m t).high + 115792089237316195423570985008687907853269984665640564039457584007913129639936 * (shrV k m t).o4.toNat) := by
  have z : (0 : UInt64).toNat = 0 := rfl
  have zl := zero_le
  obtain ⟨r, hr⟩ : ∃ r, r = shr1 k m t := ⟨_, rfl⟩
  have r0 : r.r0.toNat = 0 := by rw [hr]; unfold shr1; rw [row_zero _ _ _ _ _ _ hk, z]
  have h1 := row_nat (t.e0 * k) m t.e0 t.e1 t.e2 t.e3
  have hr' : mulRow (t.e0 * k) m t.e0 t.e1 t.e2 t.e3 = r := hr.symm
  rw [hr', r0] at h1
  have a4 := add_word t.e4 r.c 0 zl
  have c1 : (addHi t.e4 r.c 0).toNat ≤ 1 := addHi_le _ _ _ zl
  obtain ⟨s, hs⟩ : ∃ s, s = shr2 k m t r := ⟨_, rfl⟩
  have s0 : s.r0.toNat = 0 := by rw [hs]; unfold shr2; rw [row_zero _ _ _ _ _ _ hk, z]
  have h2 := row_nat (r.r1 * k) m r.r1 r.r2 r.r3 (addLo t.e4 r.c 0)
  have hs' : mulRow (r.r1 * k) m r.r1 r.r2 r.r3 (addLo t.e4 r.c 0) = s := hs.symm
  rw [hs', s0] at h2
  obtain ⟨o1, ho1⟩ : ∃ o, o = addHi t.e4 r.c 0 := ⟨_, rfl⟩
  rw [← ho1] at a4 c1
  have a5 := add_word t.e5 s.c o1 c1
  have c2 : (addHi t.e5 s.c o1).toNat ≤ 1 := addHi_le _ _ _ c1
  obtain ⟨o2, ho2⟩ : ∃ o, o = addHi t.e5 s.c o1 := ⟨_, rfl⟩
  obtain ⟨u, hu⟩ : ∃ u, u = shr3 k m t o1 s := ⟨_, rfl⟩
  have u0 : u.r0.toNat = 0 := by rw [hu]; unfold shr3; rw [row_zero _ _ _ _ _ _ hk, z]
  have h3 := row_nat (s.r1 * k) m s.r1 s.r2 s.r3 (addLo t.e5 s.c o1)
  have hu' : mulRow (s.r1 * k) m s.r1 s.r2 s.r3 (addLo t.e5 s.c o1) = u := hu.symm
  rw [hu', u0] at h3
  rw [← ho2] at a5 c2
  have a6 := add_word t.e6 u.c o2 c2
  have c3 : (addHi t.e6 u.c o2).toNat ≤ 1 := addHi_le _ _ _ c2
  obtain ⟨o3, ho3⟩ : ∃ o, o = addHi t.e6 u.c o2 := ⟨_, rfl⟩
  obtain ⟨v, hv⟩ : ∃ v, v = shr4 k m t o2 u := ⟨_, rfl⟩
  have v0 : v.r0.toNat = 0 := by rw [hv]; unfold shr4; rw [row_zero _ _ _ _ _ _ hk, z]
  have h4 := row_nat (u.r1 * k) m u.r1 u.r2 u.r3 (addLo t.e6 u.c o2)
  have hv' : mulRow (u.r1 * k) m u.r1 u.r2 u.r3 (addLo t.e6 u.c o2) = v := hv.symm
  rw [hv', v0] at h4
  rw [← ho3] at a6 c3
  have a7 := add_word t.e7 v.c o3 c3
  have e : shrV k m t = ⟨o1, o2, o3, addHi t.e7 v.c o3, ⟨v.r1, v.r2, v.r3, addLo t.e7 v.c o3⟩⟩ := by
    rw [hv, ho3, hu, ho2, hs, ho1, hr]; rfl
  rw [e]
  have q0 := u64_lt (t.e0 * k); have q1 := u64_lt (r.r1 * k); have q2 := u64_lt (s.r1 * k); have q3 := u64_lt (u.r1 * k)
  refine ⟨(t.e0 * k).toNat + 18446744073709551616 * ((r.r1 * k).toNat + 18446744073709551616 * ((s.r1 * k).toNat + 18446744073709551616 * (u.r1 * k).toNat)), by omega, ?_⟩
  have em : ((t.e0 * k).toNat + 18446744073709551616 * ((r.r1 * k).toNat + 18446744073709551616 * ((s.r1 * k).toNat + 18446744073709551616 * (u.r1 * k).toNat))) * nat4 m = (t.e0 * k).toNat * nat4 m + 18446744073709551616 * ((r.r1 * k).toNat * nat4 m + 18446744073709551616 * ((s.r1 * k).toNat * nat4 m + 18446744073709551616 * ((u.r1 * k).toNat * nat4 m))) := by
    simp only [Nat.add_mul, Nat.mul_assoc]
  rw [em]
  generalize (t.e0 * k).toNat * nat4 m = p0 at *
  generalize (r.r1 * k).toNat * nat4 m = p1 at *
  generalize (s.r1 * k).toNat * nat4 m = p2 at *
  generalize (u.r1 * k).toNat * nat4 m = p3 at *
  simp only [nat8, nat4]
  omega
theorem p2_256 : (2 : Nat) ^ 256 = 115792089237316195423570985008687907853269984665640564039457584007913129639936 := by decide +kernel
theorem shrink_nat (k : UInt64) (m : Four) (t : Eight) (hk : m.w0 * k = 0 - 1) (ho : nat4 m % 2 = 1) (ht : nat8 t < 115792089237316195423570985008687907853269984665640564039457584007913129639936 * nat4 m) : nat4 (shrinkF k m t) = unR (nat4 m) (nat8 t) := by
  obtain ⟨Q, hQ, e⟩ := shrV_nat k m t hk
  have hm : 0 < nat4 m := by omega
  have o4 : (shrV k m t).o4.toNat ≤ 1 := addHi_le _ _ _ (addHi_le _ _ _ (addHi_le _ _ _ (addHi_le _ _ _ zero_le)))
  have hQM : Q * nat4 m < 115792089237316195423570985008687907853269984665640564039457584007913129639936 * nat4 m := Nat.mul_lt_mul_of_pos_right hQ hm
  have hH : nat4 (shrV k m t).high + 115792089237316195423570985008687907853269984665640564039457584007913129639936 * (shrV k m t).o4.toNat < 2 * nat4 m := by omega
  have hl := less_nat (shrV k m t).high m (shrV k m t).o4 o4 hH
  unfold shrinkF
  rw [hl]
  refine unR_of ho (Nat.mod_lt _ hm) ?_
  rw [mod_mul_l, p2_256, Nat.mul_comm _ 115792089237316195423570985008687907853269984665640564039457584007913129639936, ← e, Nat.add_mul_mod_self_right]

/-- What a ring's words have to be. -/
structure RGood (r : RingV) : Prop where
  odd : nat4 r.m % 2 = 1
  big : 1 < nat4 r.m
  back : r.m.w0 * r.back = 0 - 1
  one : nat4 r.one = 2 ^ 256 % nat4 r.m
  two : nat4 r.two = 2 ^ 256 * 2 ^ 256 % nat4 r.m
theorem goodM_odd {m : Four} (h : goodM m = true) : m.w0 &&& 1 = 1 ∧ nat4 m % 2 = 1 ∧ 1 < nat4 m := by
  unfold goodM at h
  simp only [Bool.and_eq_true, Bool.not_eq_true', beq_eq_false_iff_ne] at h
  have h1 : (m.w0 &&& 1).toNat = 1 := by
    have e := and_one m.w0
    by_cases h0 : (m.w0 &&& 1).toNat = 0
    · exact absurd (UInt64.toNat_inj.1 h0) h.1
    · omega
  have h2 := and_one m.w0
  have h3 : nat4 m % 2 = 1 := by simp only [nat4]; omega
  refine ⟨UInt64.toNat_inj.1 h1, h3, ?_⟩
  by_cases hone : nat4 m = 1
  · have : m = ⟨1, 0, 0, 0⟩ := nat4_inj (by rw [hone]; rfl)
    rw [this, eq4_self] at h
    cases h.2
  · omega
theorem dblN_nat {m : Four} (h : 1 < nat4 m) : ∀ n, nat4 (dblN m n) = 2 ^ n % nat4 m
  | 0 => by
    have : nat4 (dblN m 0) = 1 := rfl
    rw [this, Nat.pow_zero, Nat.mod_eq_of_lt h]
  | n + 1 => by
    have ih := dblN_nat h n
    have hl : nat4 (dblN m n) < nat4 m := by rw [ih]; exact Nat.mod_lt _ (by omega)
    have : dblN m (n + 1) = ringPlus m (dblN m n) (dblN m n) := rfl
    rw [this, ringPlus_nat _ _ _ hl hl, ih, ← Nat.add_mod, Nat.pow_succ]
    congr 1
    omega
theorem dbl2_nat {m : Four} (h : 1 < nat4 m) (k : Nat) : nat4 (dblN m (k + k)) = 2 ^ k * 2 ^ k % nat4 m := by rw [dblN_nat h, Nat.pow_add]
theorem ringOf_good {m : Four} (h : goodM m = true) : RGood (ringOf m) := by
  obtain ⟨h1, h2, h3⟩ := goodM_odd h
  refine ⟨h2, h3, ?_, dblN_nat h3 256, dbl2_nat h3 256⟩
  have := newt_inv m.w0 h1
  show m.w0 * (0 - newt m.w0 6) = 0 - 1
  grind

section
variable {r : RingV} (g : RGood r)
include g
theorem times_nat (a b : Four) (h : nat4 a < nat4 r.m ∨ nat4 b < nat4 r.m) : nat4 (timesR r a b) = unR (nat4 r.m) (nat4 a * nat4 b) := by
  have e := mul_nat a b
  have la := nat4_lt a; have lb := nat4_lt b
  have := shrink_nat r.back r.m (limb_Mul a b) g.back g.odd (by
    rw [e]
    rcases h with h | h
    · rw [Nat.mul_comm]; exact Nat.mul_lt_mul_of_lt_of_le lb (Nat.le_of_lt h) (by have := g.big; omega)
    · exact Nat.mul_lt_mul_of_lt_of_le la (Nat.le_of_lt h) (by have := g.big; omega))
  rw [e] at this
  exact this
theorem two_lt : nat4 r.two < nat4 r.m := by rw [g.two]; exact Nat.mod_lt _ (by have := g.big; omega)
theorem one_lt : nat4 r.one < nat4 r.m := by rw [g.one]; exact Nat.mod_lt _ (by have := g.big; omega)
omit g in
theorem one4_nat : nat4 one4 = 1 := rfl
theorem in_nat (a : Four) : nat4 (timesR r a r.two) = nat4 a * 2 ^ 256 % nat4 r.m := by
  rw [times_nat g a r.two (.inr (two_lt g)), g.two]
  have := unR_mul g.odd (nat4 a * 2 ^ 256)
  unfold unR at this ⊢
  rw [← mod_mul_l, mod_mul_r, mod_mul_l, ← Nat.mul_assoc, this]
theorem out_nat (a : Four) : nat4 (timesR r a one4) = unR (nat4 r.m) (nat4 a) := by
  rw [times_nat g a one4 (.inr (by rw [one4_nat]; exact g.big)), one4_nat, Nat.mul_one]
theorem redR_nat (a : Four) : nat4 (redR r a) = nat4 a % nat4 r.m := by
  unfold redR
  rw [out_nat g, in_nat g, unR_mod, unR_mul g.odd]
theorem isR_good : isR (some r) = true := by
  unfold isR
  have := g.odd
  have h1 := and_one r.m.w0
  have : (r.m.w0 &&& 1) = 1 := UInt64.toNat_inj.1 (by rw [h1]; simp only [nat4] at this; show _ = 1; omega)
  simp [this]
theorem onR_good (f : RingV → Four) : onR (some r) f = f r := onR_t (by rw [isR_good g]; rfl)
theorem resR_nat (a : Four) : nat4 (resR r a) = nat4 a % nat4 r.m := by
  have hc := cmp_nat a r.m
  unfold resR
  split
  · rename_i h
    rw [hc] at h
    rw [Nat.mod_eq_of_lt]
    split at h
    · assumption
    · split at h <;> omega
  · rw [onR_good g, redR_nat g]
theorem resR_lt (a : Four) : nat4 (resR r a) < nat4 r.m := by rw [resR_nat g]; exact Nat.mod_lt _ (by have := g.big; omega)
theorem plusR_nat (a b : Four) : nat4 (plusR r a b) = (nat4 a + nat4 b) % nat4 r.m := by
  unfold plusR
  rw [ringPlus_nat _ _ _ (resR_lt g a) (resR_lt g b), resR_nat g, resR_nat g, ← Nat.add_mod]
theorem mulR_nat (a b : Four) : nat4 (mulR r a b) = unR (nat4 r.m) (nat4 a * nat4 b) := by
  unfold mulR
  rw [times_nat g _ _ (.inl (resR_lt g a)), resR_nat g, resR_nat g]
  unfold unR
  rw [Nat.mul_mod, ← Nat.mul_mod (nat4 a), ← Nat.mul_mod]
theorem minusR_nat (a b : Four) : nat4 (minusR r a b) = (nat4 a % nat4 r.m + nat4 r.m - nat4 b % nat4 r.m) % nat4 r.m := by
  have ha := resR_nat g a; have hb := resR_nat g b
  have la := resR_lt g a; have lb := resR_lt g b
  unfold minusR
  rw [← ha, ← hb]
  generalize resR r a = x at *
  generalize resR r b = y at *
  have h1 := sub_nat x y; have h2 := sub_borrow x y
  have h3 := add_nat (limb_Sub x y).1 r.m; have h4 := add_carry (limb_Sub x y).1 r.m
  have l1 := nat4_lt (limb_Sub x y).1; have l2 := nat4_lt (limb_Add (limb_Sub x y).1 r.m).1; have l3 := nat4_lt r.m
  by_cases hc : (limb_Sub x y).2.toNat = 1
  · rw [select_one _ _ _ (by omega), Nat.mod_eq_of_lt (by omega)]
    omega
  · rw [select_zero _ _ _ (by omega)]
    have : nat4 x + nat4 r.m - nat4 y = nat4 (limb_Sub x y).1 + nat4 r.m := by omega
    rw [this, Nat.add_mod_right, Nat.mod_eq_of_lt (by omega)]
theorem wideR_nat (w : Eight) : nat4 (wideR r w) = nat8 w % nat4 r.m := by
  unfold wideR
  have h1 := redR_nat g ⟨w.e0, w.e1, w.e2, w.e3⟩
  have h2 := in_nat g ⟨w.e4, w.e5, w.e6, w.e7⟩
  have hp : 0 < nat4 r.m := by have := g.big; omega
  rw [ringPlus_nat _ _ _ (by rw [h1]; exact Nat.mod_lt _ hp) (by rw [h2]; exact Nat.mod_lt _ hp), h1, h2, ← Nat.add_mod, p2_256]
  congr 1
  simp only [nat8, nat4]
  omega
end
end Go.Proofs.Ythechjccpljljaa
