/- The reference's functions on digits (1): what they say, and what their bodies come to. -/
import Derived.Test.YthechjccpljljaaSymN
import Derived.Test.YthechjccpljljaaSymL
import Derived.Test.YthechjccpljljaaTT
namespace Go.Proofs.Ythechjccpljljaa.R1
open Go.Sym Go.Dig

/-- A number out of its digits. -/
def nv (l : List Int) : Nat := (val l).toNat
/-- Digits, not too many. -/
def Dg (l : List Int) : Prop := Dig l ∧ l.length ≤ 1073741824
/-- A number's digits, not too many. -/
def Can (l : List Int) : Prop := l = dg (nv l) ∧ l.length ≤ 1073741824

--STOP Go.Dig.Dig, Dg, Can

def iTrim (a : List Int) (n : Int) : Prop := 0 ≤ n ∧ n ≤ a.length ∧ val (a.take n.toNat) = val a
def lTrim : Plan := { loops := [(0, { β := List Int × Unit, α := Int × Unit, same := [0], keep := [3], inv := fun b _ x => iTrim b.1 x.1, meas := fun _ x => x.1.toNat })] }
theorem vcTrim (a : List Int) (Q : SV → Prop) : LnRaw tt [] 3 [] lTrim Try.f64 Q (a, ()) =
  ((iTrim a (↑(List.length a) : Int)) ∧
  (∀ a_1 : Int,
  ((iTrim a a_1) →
  bcase (decide (a_1 > (0 : Int)))
    (((((0 : Int) ≤ IntKind.wrap IntKind.i64 (a_1 - (1 : Int))) ∧
     (IntKind.wrap IntKind.i64 (a_1 - (1 : Int)) < (↑(List.length a) : Int))) ∧
    bcase (List.getD a (Int.toNat (IntKind.wrap IntKind.i64 (a_1 - (1 : Int)))) (0 : Int) == (0 : Int))
      ((((a, ()) = (a, ())) ∧
      ((iTrim a (IntKind.wrap IntKind.i64 (a_1 - (1 : Int)))) ∧
      (Int.toNat (IntKind.wrap IntKind.i64 (a_1 - (1 : Int))) < Int.toNat a_1))))
      (((((0 : Int) ≤ (0 : Int)) ∧
       (((0 : Int) ≤ a_1) ∧
       (a_1 ≤ (↑(List.length a) : Int)))) ∧
      (Q (SV.lst (LV.ints (List.drop (Int.toNat (0 : Int)) (List.take (Int.toNat a_1) a)))))))))
    (((((0 : Int) ≤ (0 : Int)) ∧
     (((0 : Int) ≤ a_1) ∧
     (a_1 ≤ (↑(List.length a) : Int)))) ∧
    (Q (SV.lst (LV.ints (List.drop (Int.toNat (0 : Int)) (List.take (Int.toNat a_1) a)))))))))) := by kernel_rfl
def sTrim : SpecF := fspec (α := List Int × Unit) (β := Num) (fun a => some (Dig a.1 ∧ a.1.length ≤ 4294967296)) (fun a => ⟨nv a.1⟩)
def spRT : Specs := [(64, sTrim)]

def iInt (n0 : Int) (n : Int) (out : List Int) : Prop := 0 ≤ n ∧ n ≤ n0 ∧ n0 < 9223372036854775808 ∧ out ++ dg n.toNat = dg n0.toNat
def lInt : Plan := { loops := [(0, { β := Unit, α := Int × OwnI × Unit, same := [], keep := [0, 3], inv := fun _ x0 x => iInt x0.1 x.1 x.2.1.l, meas := fun _ x => x.1.toNat })] }
theorem vcInt (n : Int) (Q : SV → Prop) : LnRaw tt [] 3 [] lInt Try.f69 Q (n, ()) =
  ((((0 : Nat) = (0 : Nat)) ∧
   ((0 : Nat) = List.length (List.replicate (0 : Nat) (0 : Int)))) ∧
  ((iInt n n (List.replicate (0 : Nat) (0 : Int))) ∧
  (∀ a : Int,
  (∀ l : List Int,
  ((iInt n a l) →
  bcase (decide (a > (0 : Int)))
    (((((0 : Nat) + List.length l = List.length l) ∧
     (List.length
    (List.drop (0 : Nat) (List.take (List.length l) l) ++
      List.drop (0 : Nat) (List.take ((0 : Nat) + (1 : Nat)) [Int.tmod a (16777216 : Int)])) ≤
  appLim)) ∧
    ((((0 : Nat) = (0 : Nat)) ∧
     (List.length
    (List.drop (0 : Nat) (List.take (List.length l) l) ++
      List.drop (0 : Nat) (List.take ((0 : Nat) + (1 : Nat)) [Int.tmod a (16777216 : Int)])) =
  List.length
    (List.drop (0 : Nat) (List.take (List.length l) l) ++
      List.drop (0 : Nat) (List.take ((0 : Nat) + (1 : Nat)) [Int.tmod a (16777216 : Int)])))) ∧
    ((() = ()) ∧
    ((iInt n (IntKind.wrap IntKind.i64 (Int.tdiv a (16777216 : Int)))
  (List.drop (0 : Nat) (List.take (List.length l) l) ++
    List.drop (0 : Nat) (List.take ((0 : Nat) + (1 : Nat)) [Int.tmod a (16777216 : Int)]))) ∧
    (Int.toNat (IntKind.wrap IntKind.i64 (Int.tdiv a (16777216 : Int))) < Int.toNat a))))))
    ((Q (SV.lst (LV.ints (List.drop (0 : Nat) (List.take ((0 : Nat) + List.length l) l))))))))))) := by kernel_rfl
def sInt : SpecF := fspec (α := Int × Unit) (β := Num) (fun a => some (0 ≤ a.1 ∧ a.1 < 9223372036854775808)) (fun a => ⟨a.1.toNat⟩)

def iAdd (a b : List Int) (i c : Int) (out : List Int) : Prop := 0 ≤ i ∧ i ≤ (max a.length b.length : Nat) + 1 ∧ 0 ≤ c ∧ c ≤ 1 ∧ (i = (max a.length b.length : Nat) + 1 → c = 0) ∧ Dig out ∧ (out.length : Int) = i ∧
  val out + 16777216 ^ i.toNat * c = val (a.take i.toNat) + val (b.take i.toNat)
def lAdd : Plan := { loops := [(0, { β := List Int × List Int × Unit, α := OwnI × Int × Int × Unit, same := [0, 1], keep := [5, 6, 7], inv := fun b _ x => iAdd b.1 b.2.1 x.2.2.1 x.2.1 x.1.l, meas := fun b x => (max b.1.length b.2.1.length + 2 - x.2.2.1).toNat })], cuts := [(4, { β := List Int × List Int × Int × Int × Unit, γ := OwnI × Unit, α := OwnI × Bool × Unit, same := [0, 1, 6, 7], pre := [5], keep := [5, 21], inv := fun b g x => x.1.l = g.1.l ∧ x.2.1 = (decide (b.2.2.2.1 < b.1.length) || decide (b.2.2.2.1 < b.2.1.length) || decide (0 < b.2.2.1)) })], forks := [(6, { β := List Int × List Int × Int × Unit, γ := OwnI × Int × Unit, α := OwnI × Int × Unit, same := [0, 1, 7], pre := [5, 6], keep := [5, 6], inv := fun b g x => x.1.l = g.1.l ∧ x.2.1 = g.2.1 + b.1.getD b.2.2.1.toNat 0 }), (8, { β := List Int × List Int × Int × Unit, γ := OwnI × Int × Unit, α := OwnI × Int × Unit, same := [0, 1, 7], pre := [5, 6], keep := [5, 6], inv := fun b g x => x.1.l = g.1.l ∧ x.2.1 = g.2.1 + b.2.1.getD b.2.2.1.toNat 0 })] }
theorem vcAdd (a b : List Int) (Q : SV → Prop) : LnRaw tt spRT 3 [] lAdd Try.f16 Q (a, b, ()) =
  ((((0 : Nat) = (0 : Nat)) ∧
   ((0 : Nat) = List.length (List.replicate (0 : Nat) (0 : Int)))) ∧
  ((iAdd a b (0 : Int) (0 : Int) (List.replicate (0 : Nat) (0 : Int))) ∧
  (∀ l : List Int,
  (∀ a_1 : Int,
  (∀ a_2 : Int,
  ((iAdd a b a_2 a_1 l) →
  ((((0 : Nat) = (0 : Nat)) ∧
   (List.length l = List.length l)) ∧
  (bcase (decide (a_2 < (↑(List.length a) : Int)))
     (((((0 : Nat) = (0 : Nat)) ∧
      (List.length l = List.length l)) ∧
     (((a, b, a_1, a_2, ()) = (a, b, a_1, a_2, ())) ∧
     ((l = l) ∧
     (true = (decide (a_2 < (↑(List.length a) : Int)) || decide (a_2 < (↑(List.length b) : Int)) || decide ((0 : Int) < a_1)))))))
     (bcase (decide (a_2 < (↑(List.length b) : Int)))
       (((((0 : Nat) = (0 : Nat)) ∧
        (List.length l = List.length l)) ∧
       (((a, b, a_1, a_2, ()) = (a, b, a_1, a_2, ())) ∧
       ((l = l) ∧
       (true = (decide (a_2 < (↑(List.length a) : Int)) || decide (a_2 < (↑(List.length b) : Int)) || decide ((0 : Int) < a_1)))))))
       (((((0 : Nat) = (0 : Nat)) ∧
        (List.length l = List.length l)) ∧
       (((a, b, a_1, a_2, ()) = (a, b, a_1, a_2, ())) ∧
       ((l = l) ∧
       (decide (a_1 > (0 : Int)) =
  (decide (a_2 < (↑(List.length a) : Int)) || decide (a_2 < (↑(List.length b) : Int)) || decide ((0 : Int) < a_1)))))))) ∧
  (∀ l_1 : List Int,
  (∀ a_3 : Bool,
  (((l_1 = l) ∧
  (a_3 = (decide (a_2 < (↑(List.length a) : Int)) || decide (a_2 < (↑(List.length b) : Int)) || decide ((0 : Int) < a_1)))) →
  bcase (a_3)
    (((((0 : Nat) = (0 : Nat)) ∧
     (List.length l_1 = List.length l_1)) ∧
    (bcase (decide (a_2 < (↑(List.length a) : Int)))
       (((((0 : Int) ≤ a_2) ∧
        (a_2 < (↑(List.length a) : Int))) ∧
       ((((0 : Nat) = (0 : Nat)) ∧
        (List.length l_1 = List.length l_1)) ∧
       (((a, b, a_2, ()) = (a, b, a_2, ())) ∧
       ((l_1 = l_1) ∧
       (IntKind.wrap IntKind.i64 (a_1 + List.getD a (Int.toNat a_2) (0 : Int)) = a_1 + List.getD a (Int.toNat a_2) (0 : Int)))))))
       (((((0 : Nat) = (0 : Nat)) ∧
        (List.length l_1 = List.length l_1)) ∧
       (((a, b, a_2, ()) = (a, b, a_2, ())) ∧
       ((l_1 = l_1) ∧
       (a_1 = a_1 + List.getD a (Int.toNat a_2) (0 : Int)))))) ∧
    (∀ l_2 : List Int,
    (∀ a_4 : Int,
    (((l_2 = l_1) ∧
    (a_4 = a_1 + List.getD a (Int.toNat a_2) (0 : Int))) →
    ((((0 : Nat) = (0 : Nat)) ∧
     (List.length l_2 = List.length l_2)) ∧
    (bcase (decide (a_2 < (↑(List.length b) : Int)))
       (((((0 : Int) ≤ a_2) ∧
        (a_2 < (↑(List.length b) : Int))) ∧
       ((((0 : Nat) = (0 : Nat)) ∧
        (List.length l_2 = List.length l_2)) ∧
       (((a, b, a_2, ()) = (a, b, a_2, ())) ∧
       ((l_2 = l_2) ∧
       (IntKind.wrap IntKind.i64 (a_4 + List.getD b (Int.toNat a_2) (0 : Int)) = a_4 + List.getD b (Int.toNat a_2) (0 : Int)))))))
       (((((0 : Nat) = (0 : Nat)) ∧
        (List.length l_2 = List.length l_2)) ∧
       (((a, b, a_2, ()) = (a, b, a_2, ())) ∧
       ((l_2 = l_2) ∧
       (a_4 = a_4 + List.getD b (Int.toNat a_2) (0 : Int)))))) ∧
    (∀ l_3 : List Int,
    (∀ a_5 : Int,
    (((l_3 = l_2) ∧
    (a_5 = a_4 + List.getD b (Int.toNat a_2) (0 : Int))) →
    ((((0 : Nat) + List.length l_3 = List.length l_3) ∧
     (List.length
    (List.drop (0 : Nat) (List.take (List.length l_3) l_3) ++
      List.drop (0 : Nat) (List.take ((0 : Nat) + (1 : Nat)) [Int.tmod a_5 (16777216 : Int)])) ≤
  appLim)) ∧
    ((((0 : Nat) = (0 : Nat)) ∧
     (List.length
    (List.drop (0 : Nat) (List.take (List.length l_3) l_3) ++
      List.drop (0 : Nat) (List.take ((0 : Nat) + (1 : Nat)) [Int.tmod a_5 (16777216 : Int)])) =
  List.length
    (List.drop (0 : Nat) (List.take (List.length l_3) l_3) ++
      List.drop (0 : Nat) (List.take ((0 : Nat) + (1 : Nat)) [Int.tmod a_5 (16777216 : Int)])))) ∧
    (((a, b, ()) = (a, b, ())) ∧
    ((iAdd a b (IntKind.wrap IntKind.i64 (a_2 + (1 : Int))) (IntKind.wrap IntKind.i64 (Int.tdiv a_5 (16777216 : Int)))
  (List.drop (0 : Nat) (List.take (List.length l_3) l_3) ++
    List.drop (0 : Nat) (List.take ((0 : Nat) + (1 : Nat)) [Int.tmod a_5 (16777216 : Int)]))) ∧
    (Int.toNat ((↑(max (List.length a) (List.length b)) : Int) + (2 : Int) - IntKind.wrap IntKind.i64 (a_2 + (1 : Int))) <
  Int.toNat ((↑(max (List.length a) (List.length b)) : Int) + (2 : Int) - a_2)))))))))))))))))
    ((((Dig (List.drop (0 : Nat) (List.take ((0 : Nat) + List.length l_1) l_1))) ∧
     (List.length (List.drop (0 : Nat) (List.take ((0 : Nat) + List.length l_1) l_1)) ≤ (4294967296 : Nat))) ∧
    (Q (SV.lst (LV.num (nv (List.drop (0 : Nat) (List.take ((0 : Nat) + List.length l_1) l_1))))))))))))))))))) := by kernel_rfl
def sAdd : SpecF := fspec (α := List Int × List Int × Unit) (β := Num) (fun a => some (Dg a.1 ∧ Dg a.2.1)) (fun a => ⟨nv a.1 + nv a.2.1⟩)

def iSub (a b : List Int) (i c : Int) (out : List Int) : Prop := 0 ≤ i ∧ i ≤ a.length ∧ 0 ≤ c ∧ c ≤ 1 ∧ Dig out ∧ (out.length : Int) = i ∧
  val out + val (b.take i.toNat) = val (a.take i.toNat) + 16777216 ^ i.toNat * c
def lSub : Plan := { loops := [(0, { β := List Int × List Int × Unit, α := OwnI × Int × Int × Unit, same := [0, 1], keep := [5, 6, 7], inv := fun b _ x => iSub b.1 b.2.1 x.2.2.1 x.2.1 x.1.l, meas := fun b x => (b.1.length - x.2.2.1).toNat })], forks := [(8, { β := List Int × List Int × Int × Unit, γ := OwnI × Int × Int × Unit, α := OwnI × Int × Int × Unit, same := [0, 1, 7], pre := [5, 6, 8], keep := [5, 6, 8], inv := fun b g x => x.1.l = g.1.l ∧ x.2.1 = g.2.1 ∧ x.2.2.1 = g.2.2.1 - b.2.1.getD b.2.2.1.toNat 0 }), (10, { β := List Int × List Int × Int × Unit, γ := OwnI × Int × Int × Unit, α := OwnI × Int × Int × Unit, same := [0, 1, 7], pre := [5, 6, 8], keep := [5, 6, 8], inv := fun _ g x => x.1.l = g.1.l ∧ x.2.1 = (if g.2.2.1 < 0 then 1 else 0) ∧ x.2.2.1 = (if g.2.2.1 < 0 then g.2.2.1 + 16777216 else g.2.2.1) })] }
theorem vcSub (a b : List Int) (Q : SV → Prop) : LnRaw tt spRT 3 [] lSub Try.f17 Q (a, b, ()) =
  ((((0 : Nat) = (0 : Nat)) ∧
   ((0 : Nat) = List.length (List.replicate (0 : Nat) (0 : Int)))) ∧
  ((iSub a b (0 : Int) (0 : Int) (List.replicate (0 : Nat) (0 : Int))) ∧
  (∀ l : List Int,
  (∀ a_1 : Int,
  (∀ a_2 : Int,
  ((iSub a b a_2 a_1 l) →
  bcase (decide (a_2 < (↑(List.length a) : Int)))
    (((((0 : Int) ≤ a_2) ∧
     (a_2 < (↑(List.length a) : Int))) ∧
    ((((0 : Nat) = (0 : Nat)) ∧
     (List.length l = List.length l)) ∧
    (bcase (decide (a_2 < (↑(List.length b) : Int)))
       (((((0 : Int) ≤ a_2) ∧
        (a_2 < (↑(List.length b) : Int))) ∧
       ((((0 : Nat) = (0 : Nat)) ∧
        (List.length l = List.length l)) ∧
       (((a, b, a_2, ()) = (a, b, a_2, ())) ∧
       ((l = l) ∧
       (((0 : Int) = (0 : Int)) ∧
       (IntKind.wrap IntKind.i64
    (IntKind.wrap IntKind.i64 (List.getD a (Int.toNat a_2) (0 : Int) - a_1) - List.getD b (Int.toNat a_2) (0 : Int)) =
  IntKind.wrap IntKind.i64 (List.getD a (Int.toNat a_2) (0 : Int) - a_1) - List.getD b (Int.toNat a_2) (0 : Int))))))))
       (((((0 : Nat) = (0 : Nat)) ∧
        (List.length l = List.length l)) ∧
       (((a, b, a_2, ()) = (a, b, a_2, ())) ∧
       ((l = l) ∧
       (((0 : Int) = (0 : Int)) ∧
       (IntKind.wrap IntKind.i64 (List.getD a (Int.toNat a_2) (0 : Int) - a_1) =
  IntKind.wrap IntKind.i64 (List.getD a (Int.toNat a_2) (0 : Int) - a_1) - List.getD b (Int.toNat a_2) (0 : Int))))))) ∧
    (∀ l_1 : List Int,
    (∀ a_3 : Int,
    (∀ a_4 : Int,
    (((l_1 = l) ∧
    ((a_3 = (0 : Int)) ∧
    (a_4 = IntKind.wrap IntKind.i64 (List.getD a (Int.toNat a_2) (0 : Int) - a_1) - List.getD b (Int.toNat a_2) (0 : Int)))) →
    ((((0 : Nat) = (0 : Nat)) ∧
     (List.length l_1 = List.length l_1)) ∧
    (bcase (decide (a_4 < (0 : Int)))
       (((((0 : Nat) = (0 : Nat)) ∧
        (List.length l_1 = List.length l_1)) ∧
       (((a, b, a_2, ()) = (a, b, a_2, ())) ∧
       ((l_1 = l_1) ∧
       (((1 : Int) = if a_4 < (0 : Int) then (1 : Int) else (0 : Int)) ∧
       (IntKind.wrap IntKind.i64 (a_4 + (16777216 : Int)) = if a_4 < (0 : Int) then a_4 + (16777216 : Int) else a_4))))))
       (((((0 : Nat) = (0 : Nat)) ∧
        (List.length l_1 = List.length l_1)) ∧
       (((a, b, a_2, ()) = (a, b, a_2, ())) ∧
       ((l_1 = l_1) ∧
       ((a_3 = if a_4 < (0 : Int) then (1 : Int) else (0 : Int)) ∧
       (a_4 = if a_4 < (0 : Int) then a_4 + (16777216 : Int) else a_4)))))) ∧
    (∀ l_2 : List Int,
    (∀ a_5 : Int,
    (∀ a_6 : Int,
    (((l_2 = l_1) ∧
    ((a_5 = if a_4 < (0 : Int) then (1 : Int) else (0 : Int)) ∧
    (a_6 = if a_4 < (0 : Int) then a_4 + (16777216 : Int) else a_4))) →
    ((((0 : Nat) + List.length l_2 = List.length l_2) ∧
     (List.length
    (List.drop (0 : Nat) (List.take (List.length l_2) l_2) ++
      List.drop (0 : Nat) (List.take ((0 : Nat) + (1 : Nat)) [a_6])) ≤
  appLim)) ∧
    ((((0 : Nat) = (0 : Nat)) ∧
     (List.length
    (List.drop (0 : Nat) (List.take (List.length l_2) l_2) ++
      List.drop (0 : Nat) (List.take ((0 : Nat) + (1 : Nat)) [a_6])) =
  List.length
    (List.drop (0 : Nat) (List.take (List.length l_2) l_2) ++
      List.drop (0 : Nat) (List.take ((0 : Nat) + (1 : Nat)) [a_6])))) ∧
    (((a, b, ()) = (a, b, ())) ∧
    ((iSub a b (IntKind.wrap IntKind.i64 (a_2 + (1 : Int))) a_5
  (List.drop (0 : Nat) (List.take (List.length l_2) l_2) ++
    List.drop (0 : Nat) (List.take ((0 : Nat) + (1 : Nat)) [a_6]))) ∧
    (Int.toNat ((↑(List.length a) : Int) - IntKind.wrap IntKind.i64 (a_2 + (1 : Int))) <
  Int.toNat ((↑(List.length a) : Int) - a_2))))))))))))))))))))
    ((((Dig (List.drop (0 : Nat) (List.take ((0 : Nat) + List.length l) l))) ∧
     (List.length (List.drop (0 : Nat) (List.take ((0 : Nat) + List.length l) l)) ≤ (4294967296 : Nat))) ∧
    (Q (SV.lst (LV.num (nv (List.drop (0 : Nat) (List.take ((0 : Nat) + List.length l) l)))))))))))))) := by kernel_rfl
def sSub : SpecF := fspec (α := List Int × List Int × Unit) (β := Num) (fun a => some (Dg a.1 ∧ Dg a.2.1 ∧ nv a.2.1 ≤ nv a.1)) (fun a => ⟨nv a.1 - nv a.2.1⟩)

def iMulA (a b : List Int) (i : Int) (out : List Int) : Prop := 0 ≤ i ∧ i ≤ a.length ∧ Dig out ∧ out.length = a.length + b.length + 1 ∧ (∀ k, i.toNat + b.length ≤ k → out.getD k 0 = 0) ∧ val out = val (a.take i.toNat) * val b
def iMulB (a b : List Int) (i : Int) (out0 : List Int) (c j : Int) (out : List Int) : Prop := 0 ≤ j ∧ j ≤ b.length ∧ 0 ≤ c ∧ c < 16777216 ∧ Dig out ∧ out.length = a.length + b.length + 1 ∧ (∀ k, i.toNat + b.length ≤ k → out.getD k 0 = 0) ∧
  val out + 16777216 ^ (i.toNat + j.toNat) * c = val out0 + 16777216 ^ i.toNat * (a.getD i.toNat 0 * val (b.take j.toNat))
def lMul : Plan := { loops := [(0, { β := List Int × List Int × Unit, α := OwnI × Int × Unit, same := [0, 1], keep := [5, 6], inv := fun b _ x => iMulA b.1 b.2.1 x.2.1 x.1.l, meas := fun b x => (b.1.length - x.2.1).toNat }), (2, { β := List Int × List Int × Int × Unit, α := OwnI × Int × Int × Unit, same := [0, 1, 6], keep := [5, 7, 8], inv := fun b x0 x => iMulB b.1 b.2.1 b.2.2.1 x0.1.l x.2.1 x.2.2.1 x.1.l, meas := fun b x => (b.2.1.length - x.2.2.1).toNat })] }
theorem vcMul (a b : List Int) (Q : SV → Prop) : LnRaw tt spRT 3 [] lMul Try.f32 Q (a, b, ()) =
  ((((0 : Int) ≤
  IntKind.wrap IntKind.i64 (IntKind.wrap IntKind.i64 ((↑(List.length a) : Int) + (↑(List.length b) : Int)) + (1 : Int))) ∧
   ((IntKind.wrap IntKind.i64 (IntKind.wrap IntKind.i64 ((↑(List.length a) : Int) + (↑(List.length b) : Int)) + (1 : Int)) =
  IntKind.wrap IntKind.i64 (IntKind.wrap IntKind.i64 ((↑(List.length a) : Int) + (↑(List.length b) : Int)) + (1 : Int))) ∧
   (IntKind.wrap IntKind.i64 (IntKind.wrap IntKind.i64 ((↑(List.length a) : Int) + (↑(List.length b) : Int)) + (1 : Int)) ≤
  (1099511627776 : Int)))) ∧
  ((((0 : Nat) = (0 : Nat)) ∧
   (Int.toNat
    (IntKind.wrap IntKind.i64
      (IntKind.wrap IntKind.i64 ((↑(List.length a) : Int) + (↑(List.length b) : Int)) + (1 : Int))) =
  List.length
    (List.replicate
      (Int.toNat
        (IntKind.wrap IntKind.i64
          (IntKind.wrap IntKind.i64 ((↑(List.length a) : Int) + (↑(List.length b) : Int)) + (1 : Int))))
      (0 : Int)))) ∧
  ((iMulA a b (0 : Int)
  (List.replicate
    (Int.toNat
      (IntKind.wrap IntKind.i64
        (IntKind.wrap IntKind.i64 ((↑(List.length a) : Int) + (↑(List.length b) : Int)) + (1 : Int))))
    (0 : Int))) ∧
  (∀ l : List Int,
  (∀ a_1 : Int,
  ((iMulA a b a_1 l) →
  bcase (decide (a_1 < (↑(List.length a) : Int)))
    (((((0 : Nat) = (0 : Nat)) ∧
     (List.length l = List.length l)) ∧
    ((iMulB a b a_1 l (0 : Int) (0 : Int) l) ∧
    (∀ l_1 : List Int,
    (∀ a_2 : Int,
    (∀ a_3 : Int,
    ((iMulB a b a_1 l a_2 a_3 l_1) →
    bcase (decide (a_3 < (↑(List.length b) : Int)))
      (((((0 : Int) ≤ IntKind.wrap IntKind.i64 (a_1 + a_3)) ∧
       (IntKind.wrap IntKind.i64 (a_1 + a_3) < (↑(List.length l_1) : Int))) ∧
      ((((0 : Int) ≤ a_1) ∧
       (a_1 < (↑(List.length a) : Int))) ∧
      ((((0 : Int) ≤ a_3) ∧
       (a_3 < (↑(List.length b) : Int))) ∧
      ((((0 : Int) ≤ IntKind.wrap IntKind.i64 (a_1 + a_3)) ∧
       (IntKind.wrap IntKind.i64 (a_1 + a_3) < (↑(List.length l_1) : Int))) ∧
      ((((0 : Nat) = (0 : Nat)) ∧
       (List.length l_1 =
  List.length
    (List.set l_1 ((0 : Nat) + Int.toNat (IntKind.wrap IntKind.i64 (a_1 + a_3)))
      (Int.tmod
        (IntKind.wrap IntKind.i64
          (IntKind.wrap IntKind.i64
              (a_2 + List.getD l_1 ((0 : Nat) + Int.toNat (IntKind.wrap IntKind.i64 (a_1 + a_3))) (0 : Int)) +
            IntKind.wrap IntKind.i64 (List.getD a (Int.toNat a_1) (0 : Int) * List.getD b (Int.toNat a_3) (0 : Int))))
        (16777216 : Int))))) ∧
      (((a, b, a_1, ()) = (a, b, a_1, ())) ∧
      ((iMulB a b a_1 l
  (IntKind.wrap IntKind.i64
    (Int.tdiv
      (IntKind.wrap IntKind.i64
        (IntKind.wrap IntKind.i64
            (a_2 + List.getD l_1 ((0 : Nat) + Int.toNat (IntKind.wrap IntKind.i64 (a_1 + a_3))) (0 : Int)) +
          IntKind.wrap IntKind.i64 (List.getD a (Int.toNat a_1) (0 : Int) * List.getD b (Int.toNat a_3) (0 : Int))))
      (16777216 : Int)))
  (IntKind.wrap IntKind.i64 (a_3 + (1 : Int)))
  (List.set l_1 ((0 : Nat) + Int.toNat (IntKind.wrap IntKind.i64 (a_1 + a_3)))
    (Int.tmod
      (IntKind.wrap IntKind.i64
        (IntKind.wrap IntKind.i64
            (a_2 + List.getD l_1 ((0 : Nat) + Int.toNat (IntKind.wrap IntKind.i64 (a_1 + a_3))) (0 : Int)) +
          IntKind.wrap IntKind.i64 (List.getD a (Int.toNat a_1) (0 : Int) * List.getD b (Int.toNat a_3) (0 : Int))))
      (16777216 : Int)))) ∧
      (Int.toNat ((↑(List.length b) : Int) - IntKind.wrap IntKind.i64 (a_3 + (1 : Int))) <
  Int.toNat ((↑(List.length b) : Int) - a_3))))))))))
      (((((0 : Int) ≤ IntKind.wrap IntKind.i64 (a_1 + (↑(List.length b) : Int))) ∧
       (IntKind.wrap IntKind.i64 (a_1 + (↑(List.length b) : Int)) < (↑(List.length l_1) : Int))) ∧
      ((((0 : Int) ≤ IntKind.wrap IntKind.i64 (a_1 + (↑(List.length b) : Int))) ∧
       (IntKind.wrap IntKind.i64 (a_1 + (↑(List.length b) : Int)) < (↑(List.length l_1) : Int))) ∧
      ((((0 : Nat) = (0 : Nat)) ∧
       (List.length l_1 =
  List.length
    (List.set l_1 ((0 : Nat) + Int.toNat (IntKind.wrap IntKind.i64 (a_1 + (↑(List.length b) : Int))))
      (IntKind.wrap IntKind.i64
        (List.getD l_1 ((0 : Nat) + Int.toNat (IntKind.wrap IntKind.i64 (a_1 + (↑(List.length b) : Int)))) (0 : Int) +
          a_2))))) ∧
      (((a, b, ()) = (a, b, ())) ∧
      ((iMulA a b (IntKind.wrap IntKind.i64 (a_1 + (1 : Int)))
  (List.set l_1 ((0 : Nat) + Int.toNat (IntKind.wrap IntKind.i64 (a_1 + (↑(List.length b) : Int))))
    (IntKind.wrap IntKind.i64
      (List.getD l_1 ((0 : Nat) + Int.toNat (IntKind.wrap IntKind.i64 (a_1 + (↑(List.length b) : Int)))) (0 : Int) +
        a_2)))) ∧
      (Int.toNat ((↑(List.length a) : Int) - IntKind.wrap IntKind.i64 (a_1 + (1 : Int))) <
  Int.toNat ((↑(List.length a) : Int) - a_1)))))))))))))))
    ((((Dig (List.drop (0 : Nat) (List.take ((0 : Nat) + List.length l) l))) ∧
     (List.length (List.drop (0 : Nat) (List.take ((0 : Nat) + List.length l) l)) ≤ (4294967296 : Nat))) ∧
    (Q (SV.lst (LV.num (nv (List.drop (0 : Nat) (List.take ((0 : Nat) + List.length l) l)))))))))))))) := by kernel_rfl
def sMul' : SpecF := fspec (α := List Int × List Int × Unit) (β := Num) (fun a => some (Dg a.1 ∧ Dg a.2.1)) (fun a => ⟨nv a.1 * nv a.2.1⟩)
def spRM : Specs := (32, sMul') :: (69, sInt) :: spRT

theorem vcSmall (a : List Int) (n : Int) (Q : SV → Prop) : LnRaw tt spRM 3 [] {} Try.f68 Q (a, n, ()) =
  ((((0 : Int) ≤ n) ∧
   (n < (9223372036854775808 : Int))) ∧
  (((Dg a) ∧
   (Dg (dg (Int.toNat n)))) ∧
  (Q (SV.lst (LV.num (nv a * nv (dg (Int.toNat n)))))))) := by kernel_rfl
def sSmall : SpecF := fspec (α := List Int × Int × Unit) (β := Num) (fun a => some (Dg a.1 ∧ 0 ≤ a.2.1 ∧ a.2.1 < 9223372036854775808)) (fun a => ⟨nv a.1 * a.2.1.toNat⟩)

def iPow2 (n i x : Int) : Prop := 0 ≤ i ∧ i ≤ n ∧ x = 2 ^ i.toNat
def lPow2 : Plan := { loops := [(0, { β := Int × Unit, α := Int × Int × Unit, same := [0], keep := [3, 4], inv := fun b _ x => iPow2 b.1 x.2.1 x.1, meas := fun b x => (b.1 - x.2.1).toNat })] }
theorem vcPow2 (n : Int) (Q : SV → Prop) : LnRaw tt [] 3 [] lPow2 Try.f65 Q (n, ()) =
  ((iPow2 n (0 : Int) (1 : Int)) ∧
  (∀ a : Int,
  (∀ a_1 : Int,
  ((iPow2 n a_1 a) →
  bcase (decide (a_1 < n))
    ((((n, ()) = (n, ())) ∧
    ((iPow2 n (IntKind.wrap IntKind.i64 (a_1 + (1 : Int))) (IntKind.wrap IntKind.i64 ((2 : Int) * a))) ∧
    (Int.toNat (n - IntKind.wrap IntKind.i64 (a_1 + (1 : Int))) < Int.toNat (n - a_1)))))
    ((Q (SV.i64 a))))))) := by kernel_rfl
def sPow2 : SpecF := fspec (α := Int × Unit) (β := Int) (fun a => some (0 ≤ a.1 ∧ a.1 ≤ 62)) (fun a => 2 ^ a.1.toNat)

def spRS : Specs := (68, sSmall) :: (65, sPow2) :: spRM
theorem vcShift (a : List Int) (n : Int) (Q : SV → Prop) : LnRaw tt spRS 3 [] {} Try.f35 Q (a, n, ()) =
  bcase ((↑(List.length a) : Int) == (0 : Int))
    ((Q (SV.val (Value.slice none (0 : Nat) (0 : Nat)))))
    (((((0 : Int) ≤ IntKind.wrap IntKind.i64 (Int.tdiv n (24 : Int))) ∧
     ((IntKind.wrap IntKind.i64 (Int.tdiv n (24 : Int)) = IntKind.wrap IntKind.i64 (Int.tdiv n (24 : Int))) ∧
     (IntKind.wrap IntKind.i64 (Int.tdiv n (24 : Int)) ≤ (1099511627776 : Int)))) ∧
    ((((0 : Nat) + Int.toNat (IntKind.wrap IntKind.i64 (Int.tdiv n (24 : Int))) =
  List.length (List.replicate (Int.toNat (IntKind.wrap IntKind.i64 (Int.tdiv n (24 : Int)))) (0 : Int))) ∧
     (List.length
    (List.drop (0 : Nat)
        (List.take
          (List.length (List.replicate (Int.toNat (IntKind.wrap IntKind.i64 (Int.tdiv n (24 : Int)))) (0 : Int)))
          (List.replicate (Int.toNat (IntKind.wrap IntKind.i64 (Int.tdiv n (24 : Int)))) (0 : Int))) ++
      a) ≤
  appLim)) ∧
    ((((0 : Int) ≤ Int.tmod n (24 : Int)) ∧
     (Int.tmod n (24 : Int) ≤ (62 : Int))) ∧
    (((Dg
  (List.drop (0 : Nat)
    (List.take
      ((0 : Nat) +
        List.length
          (List.drop (0 : Nat)
              (List.take
                (List.length (List.replicate (Int.toNat (IntKind.wrap IntKind.i64 (Int.tdiv n (24 : Int)))) (0 : Int)))
                (List.replicate (Int.toNat (IntKind.wrap IntKind.i64 (Int.tdiv n (24 : Int)))) (0 : Int))) ++
            a))
      (List.drop (0 : Nat)
          (List.take
            (List.length (List.replicate (Int.toNat (IntKind.wrap IntKind.i64 (Int.tdiv n (24 : Int)))) (0 : Int)))
            (List.replicate (Int.toNat (IntKind.wrap IntKind.i64 (Int.tdiv n (24 : Int)))) (0 : Int))) ++
        a)))) ∧
     (((0 : Int) ≤ (2 : Int) ^ Int.toNat (Int.tmod n (24 : Int))) ∧
     ((2 : Int) ^ Int.toNat (Int.tmod n (24 : Int)) < (9223372036854775808 : Int)))) ∧
    (Q
  (SV.lst
    (LV.num
      (nv
          (List.drop (0 : Nat)
            (List.take
              ((0 : Nat) +
                List.length
                  (List.drop (0 : Nat)
                      (List.take
                        (List.length
                          (List.replicate (Int.toNat (IntKind.wrap IntKind.i64 (Int.tdiv n (24 : Int)))) (0 : Int)))
                        (List.replicate (Int.toNat (IntKind.wrap IntKind.i64 (Int.tdiv n (24 : Int)))) (0 : Int))) ++
                    a))
              (List.drop (0 : Nat)
                  (List.take
                    (List.length
                      (List.replicate (Int.toNat (IntKind.wrap IntKind.i64 (Int.tdiv n (24 : Int)))) (0 : Int)))
                    (List.replicate (Int.toNat (IntKind.wrap IntKind.i64 (Int.tdiv n (24 : Int)))) (0 : Int))) ++
                a))) *
        Int.toNat ((2 : Int) ^ Int.toNat (Int.tmod n (24 : Int)))))))))))) := by kernel_rfl
def sShift : SpecF := fspec (α := List Int × Int × Unit) (β := Num) (fun a => some (Dig a.1 ∧ a.1.length ≤ 536870912 ∧ 0 ≤ a.2.1 ∧ a.2.1 ≤ 1073741824)) (fun a => ⟨nv a.1 * 2 ^ a.2.1.toNat⟩)
def spRP : Specs := (35, sShift) :: spRS
theorem vcPower (n : Int) (Q : SV → Prop) : LnRaw tt spRP 3 [] {} Try.f18 Q (n, ()) =
  (((Dig (List.drop (0 : Nat) (List.take ((0 : Nat) + (1 : Nat)) [(1 : Int)]))) ∧
   ((List.length (List.drop (0 : Nat) (List.take ((0 : Nat) + (1 : Nat)) [(1 : Int)])) ≤ (536870912 : Nat)) ∧
   (((0 : Int) ≤ n) ∧
   (n ≤ (1073741824 : Int))))) ∧
  (Q (SV.lst (LV.num (nv (List.drop (0 : Nat) (List.take ((0 : Nat) + (1 : Nat)) [(1 : Int)])) * (2 : Nat) ^ Int.toNat n))))) := by kernel_rfl
def sPower : SpecF := fspec (α := Int × Unit) (β := Num) (fun a => some (0 ≤ a.1 ∧ a.1 ≤ 1073741824)) (fun a => ⟨2 ^ a.1.toNat⟩)

def iCmp (a b : List Int) (i : Int) : Prop := -1 ≤ i ∧ i < a.length ∧ a.length = b.length ∧ a.drop (i + 1).toNat = b.drop (i + 1).toNat
def lCmp : Plan := { loops := [(0, { β := List Int × List Int × Unit, α := Int × Unit, same := [0, 1], keep := [5], inv := fun b _ x => iCmp b.1 b.2.1 x.1, meas := fun _ x => (x.1 + 1).toNat })] }
theorem vcCmp (a b : List Int) (Q : SV → Prop) : LnRaw tt [] 3 [] lCmp Try.f19 Q (a, b, ()) =
  bcase (decide ((↑(List.length a) : Int) < (↑(List.length b) : Int)))
    ((Q (SV.i64 (-1 : Int))))
    (bcase (decide ((↑(List.length a) : Int) > (↑(List.length b) : Int)))
      ((Q (SV.i64 (1 : Int))))
      (((iCmp a b (IntKind.wrap IntKind.i64 ((↑(List.length a) : Int) - (1 : Int)))) ∧
      (∀ a_1 : Int,
      ((iCmp a b a_1) →
      bcase (decide (a_1 ≥ (0 : Int)))
        (((((0 : Int) ≤ a_1) ∧
         (a_1 < (↑(List.length a) : Int))) ∧
        ((((0 : Int) ≤ a_1) ∧
         (a_1 < (↑(List.length b) : Int))) ∧
        bcase (decide (List.getD a (Int.toNat a_1) (0 : Int) < List.getD b (Int.toNat a_1) (0 : Int)))
          ((Q (SV.i64 (-1 : Int))))
          (((((0 : Int) ≤ a_1) ∧
           (a_1 < (↑(List.length a) : Int))) ∧
          ((((0 : Int) ≤ a_1) ∧
           (a_1 < (↑(List.length b) : Int))) ∧
          bcase (decide (List.getD a (Int.toNat a_1) (0 : Int) > List.getD b (Int.toNat a_1) (0 : Int)))
            ((Q (SV.i64 (1 : Int))))
            ((((a, b, ()) = (a, b, ())) ∧
            ((iCmp a b (IntKind.wrap IntKind.i64 (a_1 - (1 : Int)))) ∧
            (Int.toNat (IntKind.wrap IntKind.i64 (a_1 - (1 : Int)) + (1 : Int)) < Int.toNat (a_1 + (1 : Int))))))))))))
        ((Q (SV.i64 (0 : Int))))))))) := by kernel_rfl
def cmpN (x y : Nat) : Int := if x < y then -1 else if y < x then 1 else 0
def sCmp : SpecF := fspec (α := List Int × List Int × Unit) (β := Int) (fun a => some (Can a.1 ∧ Can a.2.1)) (fun a => cmpN (nv a.1) (nv a.2.1))

theorem vcBit (a : List Int) (i : Int) (Q : SV → Prop) : LnRaw tt spRS 3 [] {} Try.f21 Q (a, i, ()) =
  bcase (decide (i < (0 : Int)))
    ((Q (SV.i64 (0 : Int))))
    (bcase (decide (IntKind.wrap IntKind.i64 (Int.tdiv i (24 : Int)) ≥ (↑(List.length a) : Int)))
      ((Q (SV.i64 (0 : Int))))
      (((((0 : Int) ≤ IntKind.wrap IntKind.i64 (Int.tdiv i (24 : Int))) ∧
       (IntKind.wrap IntKind.i64 (Int.tdiv i (24 : Int)) < (↑(List.length a) : Int))) ∧
      ((((0 : Int) ≤ Int.tmod i (24 : Int)) ∧
       (Int.tmod i (24 : Int) ≤ (62 : Int))) ∧
      (((2 : Int) ^ Int.toNat (Int.tmod i (24 : Int)) ≠ (0 : Int)) ∧
      (Q
  (SV.i64
    (Int.tmod
      (IntKind.wrap IntKind.i64
        (Int.tdiv (List.getD a (Int.toNat (IntKind.wrap IntKind.i64 (Int.tdiv i (24 : Int)))) (0 : Int))
          ((2 : Int) ^ Int.toNat (Int.tmod i (24 : Int)))))
      (2 : Int))))))))) := by kernel_rfl
def sBit : SpecF := fspec (α := List Int × Int × Unit) (β := Int) (fun a => some (Dg a.1 ∧ 0 ≤ a.2.1 ∧ a.2.1 ≤ 1073741824)) (fun a => ((nv a.1 / 2 ^ a.2.1.toNat % 2 : Nat) : Int))

def iBits (a : List Int) (n x : Int) : Prop := ∃ k : Nat, k ≤ 24 ∧ x = (((a.getD (a.length - 1) 0).toNat / 2 ^ k : Nat) : Int) ∧ n = 24 * ((a.length : Int) - 1) + k ∧ (0 < k → (a.getD (a.length - 1) 0).toNat / 2 ^ (k - 1) ≠ 0)
def lBits : Plan := { loops := [(0, { β := List Int × Unit, α := Int × Int × Unit, same := [0], keep := [3, 4], inv := fun b _ x => iBits b.1 x.1 x.2.1, meas := fun _ x => x.2.1.toNat })] }
theorem vcBits (a : List Int) (Q : SV → Prop) : LnRaw tt [] 3 [] lBits Try.f41 Q (a, ()) =
  bcase ((↑(List.length a) : Int) == (0 : Int))
    ((Q (SV.i64 (0 : Int))))
    (((((0 : Int) ≤ IntKind.wrap IntKind.i64 ((↑(List.length a) : Int) - (1 : Int))) ∧
     (IntKind.wrap IntKind.i64 ((↑(List.length a) : Int) - (1 : Int)) < (↑(List.length a) : Int))) ∧
    ((iBits a (IntKind.wrap IntKind.i64 ((24 : Int) * IntKind.wrap IntKind.i64 ((↑(List.length a) : Int) - (1 : Int))))
  (List.getD a (Int.toNat (IntKind.wrap IntKind.i64 ((↑(List.length a) : Int) - (1 : Int)))) (0 : Int))) ∧
    (∀ a_1 : Int,
    (∀ a_2 : Int,
    ((iBits a a_1 a_2) →
    bcase (decide (a_2 > (0 : Int)))
      ((((a, ()) = (a, ())) ∧
      ((iBits a (IntKind.wrap IntKind.i64 (a_1 + (1 : Int))) (IntKind.wrap IntKind.i64 (Int.tdiv a_2 (2 : Int)))) ∧
      (Int.toNat (IntKind.wrap IntKind.i64 (Int.tdiv a_2 (2 : Int))) < Int.toNat a_2))))
      ((Q (SV.i64 a_1))))))))) := by kernel_rfl
def bitsN (n : Nat) : Nat := if n = 0 then 0 else Nat.log2 n + 1
def sBits : SpecF := fspec (α := List Int × Unit) (β := Int) (fun a => some (Can a.1)) (fun a => bitsN (nv a.1))
end Go.Proofs.Ythechjccpljljaa.R1
