/- The reference's functions on digits (7): quotients and rests: what they say, and what their bodies come to. -/
import Derived.Test.YthechjccpljljaaRefU
namespace Go.Proofs.Ythechjccpljljaa.R1
open Go.Sym Go.Dig

--STOP Go.Dig.Dig, Dg, Can, Sm

def spDg : Specs := [(68, sSmall), (19, nCmp), (17, nSub), (64, sTrim)]
def iDgA (a : Nat) (b : List Int) (rest : Nat) (i : Int) (q : List Int) : Prop := -1 ≤ i ∧ i < (dg a).length ∧ q.length = (dg a).length ∧ Dig q ∧ (∀ k : Nat, (k : Int) ≤ i → q.getD k 0 = 0) ∧
  rest = a / 16777216 ^ (i + 1).toNat % nv b ∧ nv q = 16777216 ^ (i + 1).toNat * (a / 16777216 ^ (i + 1).toNat / nv b)
def iDgB (b : List Int) (rest : Nat) (q0 : List Int) (low high : Int) (q : List Int) : Prop := q = q0 ∧ 0 ≤ low ∧ low ≤ ((rest / nv b : Nat) : Int) ∧ ((rest / nv b : Nat) : Int) < high ∧ high ≤ 16777216
def lDigits : Plan := { loops := [(0, { β := Num × List Int × Unit, α := Num × OwnI × Int × Unit, same := [0, 1], keep := [6, 7, 8], inv := fun b _ x => iDgA b.1.n b.2.1 x.1.n x.2.2.1 x.2.1.l, meas := fun _ x => (x.2.2.1 + 1).toNat }), (2, { β := Num × List Int × Num × Int × Unit, α := OwnI × Int × Int × Unit, same := [0, 1, 6, 8], keep := [7, 10, 11], inv := fun b x0 x => iDgB b.2.1 b.2.2.1.n x0.1.l x.2.1 x.2.2.1 x.1.l, meas := fun _ x => (x.2.2.1 - x.2.1).toNat })], cuts := [(7, { β := Num × List Int × Int × Unit, γ := Num × OwnI × Unit, α := Num × OwnI × Unit, same := [0, 1, 8], pre := [6, 7], keep := [6, 7], inv := fun b g x => x.1.n = ((dg b.1.n).getD b.2.2.1.toNat 0).toNat + 16777216 * g.1.n ∧ x.2.1.l = g.2.1.l })], forks := [(10, { β := Num × List Int × Num × Int × Unit, γ := OwnI × Unit, α := OwnI × Int × Int × Unit, same := [0, 1, 6, 8], pre := [7], keep := [7, 10, 11], inv := fun b g x => iDgB b.2.1 b.2.2.1.n g.1.l x.2.1 x.2.2.1 x.1.l })] }
theorem vcDigits (a : Nat) (b : List Int) (Q : SV → Prop) : LnRaw tt spDg 3 [] lDigits Try.f83 Q ((⟨a⟩ : Num), b, ()) =
  ((((0 : Int) ≤ (↑(List.length (dg a)) : Int)) ∧
   (((↑(List.length (dg a)) : Int) = (↑(List.length (dg a)) : Int)) ∧
   ((↑(List.length (dg a)) : Int) ≤ (1099511627776 : Int)))) ∧
  ((((0 : Nat) = (0 : Nat)) ∧
   (Int.toNat (↑(List.length (dg a)) : Int) =
  List.length (List.replicate (Int.toNat (↑(List.length (dg a)) : Int)) (0 : Int)))) ∧
  ((iDgA a b (0 : Nat) (IntKind.wrap IntKind.i64 ((↑(List.length (dg a)) : Int) - (1 : Int)))
  (List.replicate (Int.toNat (↑(List.length (dg a)) : Int)) (0 : Int))) ∧
  (∀ a_1 : Num,
  (∀ l : List Int,
  (∀ a_2 : Int,
  ((iDgA a b (Num.n a_1) a_2 l) →
  bcase (decide (a_2 ≥ (0 : Int)))
    (((((0 : Int) ≤ a_2) ∧
     (a_2 < (↑(List.length (dg a)) : Int))) ∧
    ((((0 : Nat) = (0 : Nat)) ∧
     (List.length l = List.length l)) ∧
    (((((0 : Nat) + (1 : Nat) = List.length [List.getD (dg a) (Int.toNat a_2) (0 : Int)]) ∧
      (List.length
    (List.drop (0 : Nat)
        (List.take (List.length [List.getD (dg a) (Int.toNat a_2) (0 : Int)])
          [List.getD (dg a) (Int.toNat a_2) (0 : Int)]) ++
      dg (Num.n a_1)) ≤
  appLim)) ∧
     (((Dig
  (List.drop (0 : Nat)
    (List.take
      ((0 : Nat) +
        List.length
          (List.drop (0 : Nat)
              (List.take (List.length [List.getD (dg a) (Int.toNat a_2) (0 : Int)])
                [List.getD (dg a) (Int.toNat a_2) (0 : Int)]) ++
            dg (Num.n a_1)))
      (List.drop (0 : Nat)
          (List.take (List.length [List.getD (dg a) (Int.toNat a_2) (0 : Int)])
            [List.getD (dg a) (Int.toNat a_2) (0 : Int)]) ++
        dg (Num.n a_1))))) ∧
      (List.length
    (List.drop (0 : Nat)
      (List.take
        ((0 : Nat) +
          List.length
            (List.drop (0 : Nat)
                (List.take (List.length [List.getD (dg a) (Int.toNat a_2) (0 : Int)])
                  [List.getD (dg a) (Int.toNat a_2) (0 : Int)]) ++
              dg (Num.n a_1)))
        (List.drop (0 : Nat)
            (List.take (List.length [List.getD (dg a) (Int.toNat a_2) (0 : Int)])
              [List.getD (dg a) (Int.toNat a_2) (0 : Int)]) ++
          dg (Num.n a_1)))) ≤
  (4294967296 : Nat))) ∧
     ((((0 : Nat) = (0 : Nat)) ∧
      (List.length l = List.length l)) ∧
     (((Num.mk a, b, a_2, ()) = (Num.mk a, b, a_2, ())) ∧
     ((nv
    (List.drop (0 : Nat)
      (List.take
        ((0 : Nat) +
          List.length
            (List.drop (0 : Nat)
                (List.take (List.length [List.getD (dg a) (Int.toNat a_2) (0 : Int)])
                  [List.getD (dg a) (Int.toNat a_2) (0 : Int)]) ++
              dg (Num.n a_1)))
        (List.drop (0 : Nat)
            (List.take (List.length [List.getD (dg a) (Int.toNat a_2) (0 : Int)])
              [List.getD (dg a) (Int.toNat a_2) (0 : Int)]) ++
          dg (Num.n a_1)))) =
  Int.toNat (List.getD (dg a) (Int.toNat a_2) (0 : Int)) + (16777216 : Nat) * Num.n a_1) ∧
     (l = l)))))) ∧
    (∀ a_3 : Num,
    (∀ l_1 : List Int,
    (((Num.n a_3 = Int.toNat (List.getD (dg a) (Int.toNat a_2) (0 : Int)) + (16777216 : Nat) * Num.n a_1) ∧
    (l_1 = l)) →
    ((((0 : Nat) = (0 : Nat)) ∧
     (List.length l_1 = List.length l_1)) ∧
    (bcase (decide ((↑(List.length (dg (Num.n a_3))) : Int) < (↑(List.length b) : Int)))
       (((((0 : Nat) = (0 : Nat)) ∧
        (List.length l_1 = List.length l_1)) ∧
       (((Num.mk a, b, a_3, a_2, ()) = (Num.mk a, b, a_3, a_2, ())) ∧
       (iDgB b (Num.n a_3) l_1 (0 : Int) (1 : Int) l_1))))
       (((((0 : Int) ≤ IntKind.wrap IntKind.i64 ((↑(List.length (dg (Num.n a_3))) : Int) - (1 : Int))) ∧
        (IntKind.wrap IntKind.i64 ((↑(List.length (dg (Num.n a_3))) : Int) - (1 : Int)) < (↑(List.length (dg (Num.n a_3))) : Int))) ∧
       bcase (decide ((↑(List.length (dg (Num.n a_3))) : Int) > (↑(List.length b) : Int)))
         (((((0 : Int) ≤ IntKind.wrap IntKind.i64 ((↑(List.length (dg (Num.n a_3))) : Int) - (2 : Int))) ∧
          (IntKind.wrap IntKind.i64 ((↑(List.length (dg (Num.n a_3))) : Int) - (2 : Int)) < (↑(List.length (dg (Num.n a_3))) : Int))) ∧
         ((((0 : Int) ≤ IntKind.wrap IntKind.i64 ((↑(List.length b) : Int) - (1 : Int))) ∧
          (IntKind.wrap IntKind.i64 ((↑(List.length b) : Int) - (1 : Int)) < (↑(List.length b) : Int))) ∧
         ((IntKind.wrap IntKind.i64
    (List.getD b (Int.toNat (IntKind.wrap IntKind.i64 ((↑(List.length b) : Int) - (1 : Int)))) (0 : Int) + (1 : Int)) ≠
  (0 : Int)) ∧
         ((((0 : Int) ≤ IntKind.wrap IntKind.i64 ((↑(List.length b) : Int) - (1 : Int))) ∧
          (IntKind.wrap IntKind.i64 ((↑(List.length b) : Int) - (1 : Int)) < (↑(List.length b) : Int))) ∧
         ((List.getD b (Int.toNat (IntKind.wrap IntKind.i64 ((↑(List.length b) : Int) - (1 : Int)))) (0 : Int) ≠ (0 : Int)) ∧
         bcase (decide
  (IntKind.wrap IntKind.i64
      (IntKind.wrap IntKind.i64
          (Int.tdiv
            (IntKind.wrap IntKind.i64
              (IntKind.wrap IntKind.i64
                  (List.getD (dg (Num.n a_3))
                      (Int.toNat (IntKind.wrap IntKind.i64 ((↑(List.length (dg (Num.n a_3))) : Int) - (1 : Int))))
                      (0 : Int) *
                    (16777216 : Int)) +
                List.getD (dg (Num.n a_3))
                  (Int.toNat (IntKind.wrap IntKind.i64 ((↑(List.length (dg (Num.n a_3))) : Int) - (2 : Int))))
                  (0 : Int)))
            (List.getD b (Int.toNat (IntKind.wrap IntKind.i64 ((↑(List.length b) : Int) - (1 : Int)))) (0 : Int))) +
        (1 : Int)) >
    (16777216 : Int)))
           (((((0 : Nat) = (0 : Nat)) ∧
            (List.length l_1 = List.length l_1)) ∧
           (((Num.mk a, b, a_3, a_2, ()) = (Num.mk a, b, a_3, a_2, ())) ∧
           (iDgB b (Num.n a_3) l_1
  (IntKind.wrap IntKind.i64
    (Int.tdiv
      (IntKind.wrap IntKind.i64
        (IntKind.wrap IntKind.i64
            (List.getD (dg (Num.n a_3))
                (Int.toNat (IntKind.wrap IntKind.i64 ((↑(List.length (dg (Num.n a_3))) : Int) - (1 : Int)))) (0 : Int) *
              (16777216 : Int)) +
          List.getD (dg (Num.n a_3))
            (Int.toNat (IntKind.wrap IntKind.i64 ((↑(List.length (dg (Num.n a_3))) : Int) - (2 : Int)))) (0 : Int)))
      (IntKind.wrap IntKind.i64
        (List.getD b (Int.toNat (IntKind.wrap IntKind.i64 ((↑(List.length b) : Int) - (1 : Int)))) (0 : Int) +
          (1 : Int)))))
  (16777216 : Int) l_1))))
           (((((0 : Nat) = (0 : Nat)) ∧
            (List.length l_1 = List.length l_1)) ∧
           (((Num.mk a, b, a_3, a_2, ()) = (Num.mk a, b, a_3, a_2, ())) ∧
           (iDgB b (Num.n a_3) l_1
  (IntKind.wrap IntKind.i64
    (Int.tdiv
      (IntKind.wrap IntKind.i64
        (IntKind.wrap IntKind.i64
            (List.getD (dg (Num.n a_3))
                (Int.toNat (IntKind.wrap IntKind.i64 ((↑(List.length (dg (Num.n a_3))) : Int) - (1 : Int)))) (0 : Int) *
              (16777216 : Int)) +
          List.getD (dg (Num.n a_3))
            (Int.toNat (IntKind.wrap IntKind.i64 ((↑(List.length (dg (Num.n a_3))) : Int) - (2 : Int)))) (0 : Int)))
      (IntKind.wrap IntKind.i64
        (List.getD b (Int.toNat (IntKind.wrap IntKind.i64 ((↑(List.length b) : Int) - (1 : Int)))) (0 : Int) +
          (1 : Int)))))
  (IntKind.wrap IntKind.i64
    (IntKind.wrap IntKind.i64
        (Int.tdiv
          (IntKind.wrap IntKind.i64
            (IntKind.wrap IntKind.i64
                (List.getD (dg (Num.n a_3))
                    (Int.toNat (IntKind.wrap IntKind.i64 ((↑(List.length (dg (Num.n a_3))) : Int) - (1 : Int))))
                    (0 : Int) *
                  (16777216 : Int)) +
              List.getD (dg (Num.n a_3))
                (Int.toNat (IntKind.wrap IntKind.i64 ((↑(List.length (dg (Num.n a_3))) : Int) - (2 : Int)))) (0 : Int)))
          (List.getD b (Int.toNat (IntKind.wrap IntKind.i64 ((↑(List.length b) : Int) - (1 : Int)))) (0 : Int))) +
      (1 : Int)))
  l_1))))))))))
         (((((0 : Int) ≤ IntKind.wrap IntKind.i64 ((↑(List.length b) : Int) - (1 : Int))) ∧
          (IntKind.wrap IntKind.i64 ((↑(List.length b) : Int) - (1 : Int)) < (↑(List.length b) : Int))) ∧
         ((IntKind.wrap IntKind.i64
    (List.getD b (Int.toNat (IntKind.wrap IntKind.i64 ((↑(List.length b) : Int) - (1 : Int)))) (0 : Int) + (1 : Int)) ≠
  (0 : Int)) ∧
         ((((0 : Int) ≤ IntKind.wrap IntKind.i64 ((↑(List.length b) : Int) - (1 : Int))) ∧
          (IntKind.wrap IntKind.i64 ((↑(List.length b) : Int) - (1 : Int)) < (↑(List.length b) : Int))) ∧
         ((List.getD b (Int.toNat (IntKind.wrap IntKind.i64 ((↑(List.length b) : Int) - (1 : Int)))) (0 : Int) ≠ (0 : Int)) ∧
         bcase (decide
  (IntKind.wrap IntKind.i64
      (IntKind.wrap IntKind.i64
          (Int.tdiv
            (List.getD (dg (Num.n a_3))
              (Int.toNat (IntKind.wrap IntKind.i64 ((↑(List.length (dg (Num.n a_3))) : Int) - (1 : Int)))) (0 : Int))
            (List.getD b (Int.toNat (IntKind.wrap IntKind.i64 ((↑(List.length b) : Int) - (1 : Int)))) (0 : Int))) +
        (1 : Int)) >
    (16777216 : Int)))
           (((((0 : Nat) = (0 : Nat)) ∧
            (List.length l_1 = List.length l_1)) ∧
           (((Num.mk a, b, a_3, a_2, ()) = (Num.mk a, b, a_3, a_2, ())) ∧
           (iDgB b (Num.n a_3) l_1
  (IntKind.wrap IntKind.i64
    (Int.tdiv
      (List.getD (dg (Num.n a_3))
        (Int.toNat (IntKind.wrap IntKind.i64 ((↑(List.length (dg (Num.n a_3))) : Int) - (1 : Int)))) (0 : Int))
      (IntKind.wrap IntKind.i64
        (List.getD b (Int.toNat (IntKind.wrap IntKind.i64 ((↑(List.length b) : Int) - (1 : Int)))) (0 : Int) +
          (1 : Int)))))
  (16777216 : Int) l_1))))
           (((((0 : Nat) = (0 : Nat)) ∧
            (List.length l_1 = List.length l_1)) ∧
           (((Num.mk a, b, a_3, a_2, ()) = (Num.mk a, b, a_3, a_2, ())) ∧
           (iDgB b (Num.n a_3) l_1
  (IntKind.wrap IntKind.i64
    (Int.tdiv
      (List.getD (dg (Num.n a_3))
        (Int.toNat (IntKind.wrap IntKind.i64 ((↑(List.length (dg (Num.n a_3))) : Int) - (1 : Int)))) (0 : Int))
      (IntKind.wrap IntKind.i64
        (List.getD b (Int.toNat (IntKind.wrap IntKind.i64 ((↑(List.length b) : Int) - (1 : Int)))) (0 : Int) +
          (1 : Int)))))
  (IntKind.wrap IntKind.i64
    (IntKind.wrap IntKind.i64
        (Int.tdiv
          (List.getD (dg (Num.n a_3))
            (Int.toNat (IntKind.wrap IntKind.i64 ((↑(List.length (dg (Num.n a_3))) : Int) - (1 : Int)))) (0 : Int))
          (List.getD b (Int.toNat (IntKind.wrap IntKind.i64 ((↑(List.length b) : Int) - (1 : Int)))) (0 : Int))) +
      (1 : Int)))
  l_1))))))))))) ∧
    (∀ l_2 : List Int,
    (∀ a_4 : Int,
    (∀ a_5 : Int,
    ((iDgB b (Num.n a_3) l_1 a_4 a_5 l_2) →
    ((((0 : Nat) = (0 : Nat)) ∧
     (List.length l_2 = List.length l_2)) ∧
    ((iDgB b (Num.n a_3) l_2 a_4 a_5 l_2) ∧
    (∀ l_3 : List Int,
    (∀ a_6 : Int,
    (∀ a_7 : Int,
    ((iDgB b (Num.n a_3) l_2 a_6 a_7 l_3) →
    bcase (decide (IntKind.wrap IntKind.i64 (a_7 - a_6) > (1 : Int)))
      ((((Dg b) ∧
       (((0 : Int) ≤ IntKind.wrap IntKind.i64 (Int.tdiv (IntKind.wrap IntKind.i64 (a_6 + a_7)) (2 : Int))) ∧
       (IntKind.wrap IntKind.i64 (Int.tdiv (IntKind.wrap IntKind.i64 (a_6 + a_7)) (2 : Int)) < (9223372036854775808 : Int)))) ∧
      (((Sm (nv b * Int.toNat (IntKind.wrap IntKind.i64 (Int.tdiv (IntKind.wrap IntKind.i64 (a_6 + a_7)) (2 : Int))))) ∧
       (Sm (Num.n a_3))) ∧
      bcase (decide
  (cmpN (nv b * Int.toNat (IntKind.wrap IntKind.i64 (Int.tdiv (IntKind.wrap IntKind.i64 (a_6 + a_7)) (2 : Int))))
      (Num.n a_3) ≤
    (0 : Int)))
        (((((0 : Nat) = (0 : Nat)) ∧
         (List.length l_3 = List.length l_3)) ∧
        (((Num.mk a, b, a_3, a_2, ()) = (Num.mk a, b, a_3, a_2, ())) ∧
        ((iDgB b (Num.n a_3) l_2 (IntKind.wrap IntKind.i64 (Int.tdiv (IntKind.wrap IntKind.i64 (a_6 + a_7)) (2 : Int))) a_7 l_3) ∧
        (Int.toNat (a_7 - IntKind.wrap IntKind.i64 (Int.tdiv (IntKind.wrap IntKind.i64 (a_6 + a_7)) (2 : Int))) <
  Int.toNat (a_7 - a_6))))))
        (((((0 : Nat) = (0 : Nat)) ∧
         (List.length l_3 = List.length l_3)) ∧
        (((Num.mk a, b, a_3, a_2, ()) = (Num.mk a, b, a_3, a_2, ())) ∧
        ((iDgB b (Num.n a_3) l_2 a_6 (IntKind.wrap IntKind.i64 (Int.tdiv (IntKind.wrap IntKind.i64 (a_6 + a_7)) (2 : Int))) l_3) ∧
        (Int.toNat (IntKind.wrap IntKind.i64 (Int.tdiv (IntKind.wrap IntKind.i64 (a_6 + a_7)) (2 : Int)) - a_6) <
  Int.toNat (a_7 - a_6)))))))))
      (((((0 : Int) ≤ a_2) ∧
       (a_2 < (↑(List.length l_3) : Int))) ∧
      (((Dg b) ∧
       (((0 : Int) ≤ a_6) ∧
       (a_6 < (9223372036854775808 : Int)))) ∧
      (((Sm (Num.n a_3)) ∧
       ((nv b * Int.toNat a_6 ≤ Num.n a_3) ∧
       (Sm (nv b * Int.toNat a_6)))) ∧
      ((((0 : Nat) = (0 : Nat)) ∧
       (List.length l_3 = List.length (List.set l_3 ((0 : Nat) + Int.toNat a_2) a_6))) ∧
      (((Num.mk a, b, ()) = (Num.mk a, b, ())) ∧
      ((iDgA a b (Num.n a_3 - nv b * Int.toNat a_6) (IntKind.wrap IntKind.i64 (a_2 - (1 : Int)))
  (List.set l_3 ((0 : Nat) + Int.toNat a_2) a_6)) ∧
      (Int.toNat (IntKind.wrap IntKind.i64 (a_2 - (1 : Int)) + (1 : Int)) < Int.toNat (a_2 + (1 : Int)))))))))))))))))))))))))))))
    ((((Dig (List.drop (0 : Nat) (List.take ((0 : Nat) + List.length l) l))) ∧
     (List.length (List.drop (0 : Nat) (List.take ((0 : Nat) + List.length l) l)) ≤ (4294967296 : Nat))) ∧
    (Q
  (SV.tup
    [SV.lst (LV.num (nv (List.drop (0 : Nat) (List.take ((0 : Nat) + List.length l) l)))), SV.lst (LV.num (Num.n a_1))]))))))))))) := by kernel_rfl
def sDigits : SpecF := fspec (α := Num × List Int × Unit) (β := Num × Num × Unit) (fun a => some (Sm a.1.n ∧ Can a.2.1 ∧ a.2.1.length ≤ 1073741000 ∧ 0 < nv a.2.1)) (fun a => (⟨a.1.n / nv a.2.1⟩, ⟨a.1.n % nv a.2.1⟩, ()))
def spDv : Specs := [(68, nSmall), (83, sDigits)]
def lDiv : Plan := { cuts := [(1, { β := Num × Num × Unit, γ := Unit, α := Int × Unit, same := [0, 1], pre := [], keep := [6], inv := fun _ _ x => 1 ≤ x.1 ∧ x.1 ≤ 8388608 })] }
theorem vcDiv (a b : Nat) (Q : SV → Prop) : LnRaw tt spDv 3 [] lDiv Try.f75 Q ((⟨a⟩ : Num), (⟨b⟩ : Num), ()) =
  (((((0 : Int) ≤ IntKind.wrap IntKind.i64 ((↑(List.length (dg b)) : Int) - (1 : Int))) ∧
    (IntKind.wrap IntKind.i64 ((↑(List.length (dg b)) : Int) - (1 : Int)) < (↑(List.length (dg b)) : Int))) ∧
   ((IntKind.wrap IntKind.i64
    (List.getD (dg b) (Int.toNat (IntKind.wrap IntKind.i64 ((↑(List.length (dg b)) : Int) - (1 : Int)))) (0 : Int) +
      (1 : Int)) ≠
  (0 : Int)) ∧
   (((Num.mk a, Num.mk b, ()) = (Num.mk a, Num.mk b, ())) ∧
   (((1 : Int) ≤
  IntKind.wrap IntKind.i64
    (Int.tdiv (16777216 : Int)
      (IntKind.wrap IntKind.i64
        (List.getD (dg b) (Int.toNat (IntKind.wrap IntKind.i64 ((↑(List.length (dg b)) : Int) - (1 : Int)))) (0 : Int) +
          (1 : Int))))) ∧
   (IntKind.wrap IntKind.i64
    (Int.tdiv (16777216 : Int)
      (IntKind.wrap IntKind.i64
        (List.getD (dg b) (Int.toNat (IntKind.wrap IntKind.i64 ((↑(List.length (dg b)) : Int) - (1 : Int)))) (0 : Int) +
          (1 : Int)))) ≤
  (8388608 : Int)))))) ∧
  (∀ a_1 : Int,
  ((((1 : Int) ≤ a_1) ∧
  (a_1 ≤ (8388608 : Int))) →
  (((Sm a) ∧
   (((0 : Int) ≤ a_1) ∧
   (a_1 < (9223372036854775808 : Int)))) ∧
  (((Sm b) ∧
   (((0 : Int) ≤ a_1) ∧
   (a_1 < (9223372036854775808 : Int)))) ∧
  (((Sm (a * Int.toNat a_1)) ∧
   ((Can (dg (b * Int.toNat a_1))) ∧
   ((List.length (dg (b * Int.toNat a_1)) ≤ (1073741000 : Nat)) ∧
   ((0 : Nat) < nv (dg (b * Int.toNat a_1)))))) ∧
  bcase (decide (a_1 > (1 : Int)))
    ((((Sm (a * Int.toNat a_1 % nv (dg (b * Int.toNat a_1)))) ∧
     ((Can (List.drop (0 : Nat) (List.take ((0 : Nat) + (1 : Nat)) [a_1]))) ∧
     ((List.length (List.drop (0 : Nat) (List.take ((0 : Nat) + (1 : Nat)) [a_1])) ≤ (1073741000 : Nat)) ∧
     ((0 : Nat) < nv (List.drop (0 : Nat) (List.take ((0 : Nat) + (1 : Nat)) [a_1])))))) ∧
    (Q
  (SV.tup
    [SV.lst (LV.num (a * Int.toNat a_1 / nv (dg (b * Int.toNat a_1)))),
      SV.lst
        (LV.num
          (a * Int.toNat a_1 % nv (dg (b * Int.toNat a_1)) /
            nv (List.drop (0 : Nat) (List.take ((0 : Nat) + (1 : Nat)) [a_1]))))]))))
    ((Q
  (SV.tup
    [SV.lst (LV.num (a * Int.toNat a_1 / nv (dg (b * Int.toNat a_1)))),
      SV.lst (LV.num (a * Int.toNat a_1 % nv (dg (b * Int.toNat a_1))))]))))))))) := by kernel_rfl
def nDiv : SpecF := fspec (α := N2) (β := Num × Num × Unit) (fun a => some ((dg a.1.n).length ≤ 536870912 ∧ (dg a.2.1.n).length ≤ 536870912 ∧ 0 < a.2.1.n)) (fun a => (⟨a.1.n / a.2.1.n⟩, ⟨a.1.n % a.2.1.n⟩, ()))
theorem vcMod (a b : Nat) (Q : SV → Prop) : LnRaw tt [(75, nDiv)] 3 [] {} Try.f48 Q ((⟨a⟩ : Num), (⟨b⟩ : Num), ()) =
  (((List.length (dg a) ≤ (536870912 : Nat)) ∧
   ((List.length (dg b) ≤ (536870912 : Nat)) ∧
   ((0 : Nat) < b))) ∧
  (Q (SV.lst (LV.num (a % b))))) := by kernel_rfl
def nMod : SpecF := fspec (α := N2) (β := Num) (fun a => some ((dg a.1.n).length ≤ 536870912 ∧ (dg a.2.1.n).length ≤ 536870912 ∧ 0 < a.2.1.n)) (fun a => ⟨a.1.n % a.2.1.n⟩)
end Go.Proofs.Ythechjccpljljaa.R1
