/- Layer 3's laws without powers. -/
import Derived.Test.YthechjccpljljaaP7
/- Layer 3's laws (without powers): the reference's functions and the laws: what their bodies come to. -/
namespace Go.Proofs.Ythechjccpljljaa
open Go.Sym Go.Dig

--STOP R1.Sm, limb_Add, limb_Sub, limb_Select, limb_Mul, limb_Cmp

/-! The reference's. -/
abbrev M2 := Num × Num × Unit
/-- Few digits. -/
def Fw (n : Nat) : Prop := (dg n).length ≤ 1048576
def halved (m a : Nat) : Nat := if a % 2 = 1 then (a + m) / 2 else a / 2
def halvedN (m : Nat) : Nat → Nat → Nat
  | 0, a => a
  | n + 1, a => halved m (halvedN m n a)
--STOP Fw
def resN (m a : Nat) : Nat := halvedN m 256 (a % m)
--STOP resN
def spH : Specs := (48, R1.nMod) :: R1.spN
theorem vcHalvedA (a m : Nat) (Q : SV → Prop) : LnRaw tt spH 3 [(1, 2, .b true)] {} Try.f77 Q ((⟨a⟩ : Num), (⟨m⟩ : Num), ()) =
  (((R1.Sm a) ∧
   (((0 : Int) ≤ (0 : Int)) ∧
   ((0 : Int) ≤ (1073741824 : Int)))) ∧
  ((((↑(a / (2 : Nat) ^ Int.toNat (0 : Int) % (2 : Nat)) : Int) == (1 : Int)) = true) ∧
  (((R1.Sm a) ∧
   (R1.Sm m)) ∧
  (((R1.Sm (a + m)) ∧
   (((0 : Int) ≤ (1 : Int)) ∧
   ((1 : Int) ≤ (1073741824 : Int)))) ∧
  (Q (SV.lst (LV.num ((a + m) / (2 : Nat) ^ Int.toNat (1 : Int))))))))) := by kernel_rfl
theorem vcHalvedB (a m : Nat) (Q : SV → Prop) : LnRaw tt spH 3 [(1, 2, .b false)] {} Try.f77 Q ((⟨a⟩ : Num), (⟨m⟩ : Num), ()) =
  (((R1.Sm a) ∧
   (((0 : Int) ≤ (0 : Int)) ∧
   ((0 : Int) ≤ (1073741824 : Int)))) ∧
  ((((↑(a / (2 : Nat) ^ Int.toNat (0 : Int) % (2 : Nat)) : Int) == (1 : Int)) = false) ∧
  (((R1.Sm a) ∧
   (((0 : Int) ≤ (1 : Int)) ∧
   ((1 : Int) ≤ (1073741824 : Int)))) ∧
  (Q (SV.lst (LV.num (a / (2 : Nat) ^ Int.toNat (1 : Int)))))))) := by kernel_rfl
def nHalved : SpecF := fspec (α := M2) (β := Num) (fun a => some (Fw a.1.n ∧ Fw a.2.1.n)) (fun a => ⟨halved a.2.1.n a.1.n⟩)
def iRes (a m : Nat) (x : Nat) (i : Int) : Prop := 0 ≤ i ∧ i ≤ 256 ∧ x = halvedN m i.toNat (a % m)
def lRes : Plan := { loops := [(0, { β := Num × Num × Unit, α := Num × Int × Unit, same := [0, 1], keep := [5, 6], inv := fun b _ x => iRes b.1.n b.2.1.n x.1.n x.2.1, meas := fun _ x => (256 - x.2.1).toNat })] }
theorem vcResidue (a m : Nat) (Q : SV → Prop) : LnRaw tt ((77, nHalved) :: spH) 3 [] lRes Try.f50 Q ((⟨a⟩ : Num), (⟨m⟩ : Num), ()) =
  (((List.length (dg a) ≤ (536870912 : Nat)) ∧
   ((List.length (dg m) ≤ (536870912 : Nat)) ∧
   ((0 : Nat) < m))) ∧
  ((iRes a m (a % m) (0 : Int)) ∧
  (∀ a_1 : Num,
  (∀ a_2 : Int,
  ((iRes a m (Num.n a_1) a_2) →
  bcase (decide (a_2 < (256 : Int)))
    ((((Fw (Num.n a_1)) ∧
     (Fw m)) ∧
    (((Num.mk a, Num.mk m, ()) = (Num.mk a, Num.mk m, ())) ∧
    ((iRes a m (halved m (Num.n a_1)) (IntKind.wrap IntKind.i64 (a_2 + (1 : Int)))) ∧
    (Int.toNat ((256 : Int) - IntKind.wrap IntKind.i64 (a_2 + (1 : Int))) < Int.toNat ((256 : Int) - a_2))))))
    ((Q (SV.lst (LV.num (Num.n a_1)))))))))) := by kernel_rfl
def nResidue : SpecF := fspec (α := M2) (β := Num) (fun a => some (Fw a.1.n ∧ Fw a.2.1.n ∧ 0 < a.2.1.n)) (fun a => ⟨resN a.2.1.n a.1.n⟩)
theorem vcNumeral (a m : Nat) (Q : SV → Prop) : LnRaw tt spH 3 [] {} Try.f52 Q ((⟨a⟩ : Num), (⟨m⟩ : Num), ()) =
  (((List.length (dg a) ≤ (536870912 : Nat)) ∧
   (((0 : Int) ≤ (256 : Int)) ∧
   ((256 : Int) ≤ (1073741824 : Int)))) ∧
  (((List.length (dg (a * (2 : Nat) ^ Int.toNat (256 : Int))) ≤ (536870912 : Nat)) ∧
   ((List.length (dg m) ≤ (536870912 : Nat)) ∧
   ((0 : Nat) < m))) ∧
  (Q (SV.lst (LV.num (a * (2 : Nat) ^ Int.toNat (256 : Int) % m)))))) := by kernel_rfl
def nNumeral : SpecF := fspec (α := M2) (β := Num) (fun a => some (Fw a.1.n ∧ Fw a.2.1.n ∧ 0 < a.2.1.n)) (fun a => ⟨a.1.n * 2 ^ Int.toNat 256 % a.2.1.n⟩)
theorem vcSub3 (a b m : Nat) (Q : SV → Prop) : LnRaw tt spH 3 [] {} Try.f56 Q ((⟨a⟩ : Num), (⟨b⟩ : Num), (⟨m⟩ : Num), ()) =
  (((R1.Sm a) ∧
   (R1.Sm m)) ∧
  (((R1.Sm (a + m)) ∧
   ((b ≤ a + m) ∧
   (R1.Sm b))) ∧
  (((List.length (dg (a + m - b)) ≤ (536870912 : Nat)) ∧
   ((List.length (dg m) ≤ (536870912 : Nat)) ∧
   ((0 : Nat) < m))) ∧
  (Q (SV.lst (LV.num ((a + m - b) % m))))))) := by kernel_rfl
def nSub3 : SpecF := fspec (α := Num × Num × Num × Unit) (β := Num) (fun a => some (Fw a.1.n ∧ Fw a.2.1.n ∧ Fw a.2.2.1.n ∧ 0 < a.2.2.1.n ∧ a.2.1.n ≤ a.1.n + a.2.2.1.n)) (fun a => ⟨(a.1.n + a.2.2.1.n - a.2.1.n) % a.2.2.1.n⟩)

/-! The laws. -/
def spO1 : Specs := spL0
theorem vcOddA (m : Four) (Q : SV → Prop) : LnRaw tt spO1 3 [] {} Try.f45 Q (m, ()) =
  bcase (Four.w0 m % UInt64.ofNat (Int.toNat (2 : Int)) == UInt64.ofNat (Int.toNat (1 : Int)))
    ((Q
  (SV.bool
    !(Four.w0 m == UInt64.ofNat (Int.toNat (1 : Int)) &&
        (Four.w1 m == UInt64.ofNat (Int.toNat (0 : Int)) &&
          (Four.w2 m == UInt64.ofNat (Int.toNat (0 : Int)) &&
            (Four.w3 m == UInt64.ofNat (Int.toNat (0 : Int)) && true)))))))
    ((Q (SV.bool false))) := by kernel_rfl
def sOddT : SpecF := fspec (α := Four × Unit) (fun a => some (goodM a.1 = true)) (fun _ => true)
def sOddF : SpecF := fspec (α := Four × Unit) (fun a => some (goodM a.1 = false)) (fun _ => false)
def spRg : Specs := [(46, sModulus), (47, sReduce), (49, sWideR), (51, sIn), (53, sOut), (54, sPlusR), (55, sMinusR), (57, sMulR)]
theorem vcAwake3 (Q : SV → Prop) : LnRaw tt ((44, sNewG) :: spRg) 3 [(2, 14, .b true)] {} Try.f43 Q () =
  ((goodM
    (Four.mk (UInt64.ofNat (Int.toNat (7 : Int))) (UInt64.ofNat (Int.toNat (0 : Int)))
      (UInt64.ofNat (Int.toNat (0 : Int))) (UInt64.ofNat (Int.toNat (0 : Int)))) =
  true) ∧
  (((Four.w0
        (onR
          (some
            (ringOf
              (Four.mk (UInt64.ofNat (Int.toNat (7 : Int))) (UInt64.ofNat (Int.toNat (0 : Int)))
                (UInt64.ofNat (Int.toNat (0 : Int))) (UInt64.ofNat (Int.toNat (0 : Int))))))
          fun r =>
          timesR r
            (onR
              (some
                (ringOf
                  (Four.mk (UInt64.ofNat (Int.toNat (7 : Int))) (UInt64.ofNat (Int.toNat (0 : Int)))
                    (UInt64.ofNat (Int.toNat (0 : Int))) (UInt64.ofNat (Int.toNat (0 : Int))))))
              fun r =>
              mulR r
                (onR
                  (some
                    (ringOf
                      (Four.mk (UInt64.ofNat (Int.toNat (7 : Int))) (UInt64.ofNat (Int.toNat (0 : Int)))
                        (UInt64.ofNat (Int.toNat (0 : Int))) (UInt64.ofNat (Int.toNat (0 : Int))))))
                  fun r =>
                  timesR r
                    (Four.mk (UInt64.ofNat (Int.toNat (3 : Int))) (UInt64.ofNat (Int.toNat (0 : Int)))
                      (UInt64.ofNat (Int.toNat (0 : Int))) (UInt64.ofNat (Int.toNat (0 : Int))))
                    (RingV.two r))
                (onR
                  (some
                    (ringOf
                      (Four.mk (UInt64.ofNat (Int.toNat (7 : Int))) (UInt64.ofNat (Int.toNat (0 : Int)))
                        (UInt64.ofNat (Int.toNat (0 : Int))) (UInt64.ofNat (Int.toNat (0 : Int))))))
                  fun r =>
                  timesR r
                    (Four.mk (UInt64.ofNat (Int.toNat (5 : Int))) (UInt64.ofNat (Int.toNat (0 : Int)))
                      (UInt64.ofNat (Int.toNat (0 : Int))) (UInt64.ofNat (Int.toNat (0 : Int))))
                    (RingV.two r)))
            one4) ==
      UInt64.ofNat (Int.toNat (1 : Int)) &&
    (Four.w1
          (onR
            (some
              (ringOf
                (Four.mk (UInt64.ofNat (Int.toNat (7 : Int))) (UInt64.ofNat (Int.toNat (0 : Int)))
                  (UInt64.ofNat (Int.toNat (0 : Int))) (UInt64.ofNat (Int.toNat (0 : Int))))))
            fun r =>
            timesR r
              (onR
                (some
                  (ringOf
                    (Four.mk (UInt64.ofNat (Int.toNat (7 : Int))) (UInt64.ofNat (Int.toNat (0 : Int)))
                      (UInt64.ofNat (Int.toNat (0 : Int))) (UInt64.ofNat (Int.toNat (0 : Int))))))
                fun r =>
                mulR r
                  (onR
                    (some
                      (ringOf
                        (Four.mk (UInt64.ofNat (Int.toNat (7 : Int))) (UInt64.ofNat (Int.toNat (0 : Int)))
                          (UInt64.ofNat (Int.toNat (0 : Int))) (UInt64.ofNat (Int.toNat (0 : Int))))))
                    fun r =>
                    timesR r
                      (Four.mk (UInt64.ofNat (Int.toNat (3 : Int))) (UInt64.ofNat (Int.toNat (0 : Int)))
                        (UInt64.ofNat (Int.toNat (0 : Int))) (UInt64.ofNat (Int.toNat (0 : Int))))
                      (RingV.two r))
                  (onR
                    (some
                      (ringOf
                        (Four.mk (UInt64.ofNat (Int.toNat (7 : Int))) (UInt64.ofNat (Int.toNat (0 : Int)))
                          (UInt64.ofNat (Int.toNat (0 : Int))) (UInt64.ofNat (Int.toNat (0 : Int))))))
                    fun r =>
                    timesR r
                      (Four.mk (UInt64.ofNat (Int.toNat (5 : Int))) (UInt64.ofNat (Int.toNat (0 : Int)))
                        (UInt64.ofNat (Int.toNat (0 : Int))) (UInt64.ofNat (Int.toNat (0 : Int))))
                      (RingV.two r)))
              one4) ==
        UInt64.ofNat (Int.toNat (0 : Int)) &&
      (Four.w2
            (onR
              (some
                (ringOf
                  (Four.mk (UInt64.ofNat (Int.toNat (7 : Int))) (UInt64.ofNat (Int.toNat (0 : Int)))
                    (UInt64.ofNat (Int.toNat (0 : Int))) (UInt64.ofNat (Int.toNat (0 : Int))))))
              fun r =>
              timesR r
                (onR
                  (some
                    (ringOf
                      (Four.mk (UInt64.ofNat (Int.toNat (7 : Int))) (UInt64.ofNat (Int.toNat (0 : Int)))
                        (UInt64.ofNat (Int.toNat (0 : Int))) (UInt64.ofNat (Int.toNat (0 : Int))))))
                  fun r =>
                  mulR r
                    (onR
                      (some
                        (ringOf
                          (Four.mk (UInt64.ofNat (Int.toNat (7 : Int))) (UInt64.ofNat (Int.toNat (0 : Int)))
                            (UInt64.ofNat (Int.toNat (0 : Int))) (UInt64.ofNat (Int.toNat (0 : Int))))))
                      fun r =>
                      timesR r
                        (Four.mk (UInt64.ofNat (Int.toNat (3 : Int))) (UInt64.ofNat (Int.toNat (0 : Int)))
                          (UInt64.ofNat (Int.toNat (0 : Int))) (UInt64.ofNat (Int.toNat (0 : Int))))
                        (RingV.two r))
                    (onR
                      (some
                        (ringOf
                          (Four.mk (UInt64.ofNat (Int.toNat (7 : Int))) (UInt64.ofNat (Int.toNat (0 : Int)))
                            (UInt64.ofNat (Int.toNat (0 : Int))) (UInt64.ofNat (Int.toNat (0 : Int))))))
                      fun r =>
                      timesR r
                        (Four.mk (UInt64.ofNat (Int.toNat (5 : Int))) (UInt64.ofNat (Int.toNat (0 : Int)))
                          (UInt64.ofNat (Int.toNat (0 : Int))) (UInt64.ofNat (Int.toNat (0 : Int))))
                        (RingV.two r)))
                one4) ==
          UInt64.ofNat (Int.toNat (0 : Int)) &&
        (Four.w3
              (onR
                (some
                  (ringOf
                    (Four.mk (UInt64.ofNat (Int.toNat (7 : Int))) (UInt64.ofNat (Int.toNat (0 : Int)))
                      (UInt64.ofNat (Int.toNat (0 : Int))) (UInt64.ofNat (Int.toNat (0 : Int))))))
                fun r =>
                timesR r
                  (onR
                    (some
                      (ringOf
                        (Four.mk (UInt64.ofNat (Int.toNat (7 : Int))) (UInt64.ofNat (Int.toNat (0 : Int)))
                          (UInt64.ofNat (Int.toNat (0 : Int))) (UInt64.ofNat (Int.toNat (0 : Int))))))
                    fun r =>
                    mulR r
                      (onR
                        (some
                          (ringOf
                            (Four.mk (UInt64.ofNat (Int.toNat (7 : Int))) (UInt64.ofNat (Int.toNat (0 : Int)))
                              (UInt64.ofNat (Int.toNat (0 : Int))) (UInt64.ofNat (Int.toNat (0 : Int))))))
                        fun r =>
                        timesR r
                          (Four.mk (UInt64.ofNat (Int.toNat (3 : Int))) (UInt64.ofNat (Int.toNat (0 : Int)))
                            (UInt64.ofNat (Int.toNat (0 : Int))) (UInt64.ofNat (Int.toNat (0 : Int))))
                          (RingV.two r))
                      (onR
                        (some
                          (ringOf
                            (Four.mk (UInt64.ofNat (Int.toNat (7 : Int))) (UInt64.ofNat (Int.toNat (0 : Int)))
                              (UInt64.ofNat (Int.toNat (0 : Int))) (UInt64.ofNat (Int.toNat (0 : Int))))))
                        fun r =>
                        timesR r
                          (Four.mk (UInt64.ofNat (Int.toNat (5 : Int))) (UInt64.ofNat (Int.toNat (0 : Int)))
                            (UInt64.ofNat (Int.toNat (0 : Int))) (UInt64.ofNat (Int.toNat (0 : Int))))
                          (RingV.two r)))
                  one4) ==
            UInt64.ofNat (Int.toNat (0 : Int)) &&
          true)))) =
  true) ∧
  (Q (SV.bool true)))) := by kernel_rfl
abbrev sAwake3 : SpecF := fspec (α := Unit) total fun _ => true
def spR3 : Specs := (43, sAwake3) :: (13, nOf) :: (50, nResidue) :: (52, nNumeral) :: (56, nSub3) :: (spRg ++ spH)
def spR3T : Specs := (44, sNewG) :: (45, sOddT) :: spR3
def spR3F : Specs := (44, sNewN) :: (45, sOddF) :: spR3
def dRed : Dec := dT [(15, 3), (15, 13), (15, 24)]
theorem vcReducesT (m a : Four) (w : Eight) (Q : SV → Prop) : LnRaw tt spR3T 9 dRed {} Try.f8 Q (m, a, w, ()) =
  ((goodM m = true) ∧
  ((goodM m = true) ∧
  (((1 : Nat) ≤ appLim) ∧
  ((((0 : Nat) + (1 : Nat) = (1 : Nat)) ∧
   ((2 : Nat) ≤ appLim)) ∧
  ((((0 : Nat) + (2 : Nat) = (2 : Nat)) ∧
   ((3 : Nat) ≤ appLim)) ∧
  ((((0 : Nat) + (3 : Nat) = (3 : Nat)) ∧
   ((4 : Nat) ≤ appLim)) ∧
  ((((0 : Nat) + (4 : Nat) = (4 : Nat)) ∧
   ((5 : Nat) ≤ appLim)) ∧
  ((((0 : Nat) + (5 : Nat) = (5 : Nat)) ∧
   ((6 : Nat) ≤ appLim)) ∧
  ((((0 : Nat) + (6 : Nat) = (6 : Nat)) ∧
   ((7 : Nat) ≤ appLim)) ∧
  ((((0 : Nat) + (7 : Nat) = (7 : Nat)) ∧
   ((8 : Nat) ≤ appLim)) ∧
  (((Four.w0 (onR (some (ringOf m)) fun r => RingV.m r) == Four.w0 m &&
    (Four.w1 (onR (some (ringOf m)) fun r => RingV.m r) == Four.w1 m &&
      (Four.w2 (onR (some (ringOf m)) fun r => RingV.m r) == Four.w2 m &&
        (Four.w3 (onR (some (ringOf m)) fun r => RingV.m r) == Four.w3 m && true)))) =
  true) ∧
  (((List.length (dg (nat4 a)) ≤ (536870912 : Nat)) ∧
   ((List.length (dg (nat4 m)) ≤ (536870912 : Nat)) ∧
   ((0 : Nat) < nat4 m))) ∧
  ((R1.Sm (nat4 a % nat4 m)) ∧
  (((Four.w0 (onR (some (ringOf m)) fun r => redR r a) == Four.w0 (R1.fourN (nat4 a % nat4 m)) &&
    (Four.w1 (onR (some (ringOf m)) fun r => redR r a) == Four.w1 (R1.fourN (nat4 a % nat4 m)) &&
      (Four.w2 (onR (some (ringOf m)) fun r => redR r a) == Four.w2 (R1.fourN (nat4 a % nat4 m)) &&
        (Four.w3 (onR (some (ringOf m)) fun r => redR r a) == Four.w3 (R1.fourN (nat4 a % nat4 m)) && true)))) =
  true) ∧
  (((8 : Nat) ≤ (1048576 : Nat)) ∧
  (((List.length
    (dg (R1.wv [Eight.e0 w, Eight.e1 w, Eight.e2 w, Eight.e3 w, Eight.e4 w, Eight.e5 w, Eight.e6 w, Eight.e7 w])) ≤
  (536870912 : Nat)) ∧
   ((List.length (dg (nat4 m)) ≤ (536870912 : Nat)) ∧
   ((0 : Nat) < nat4 m))) ∧
  ((R1.Sm (R1.wv [Eight.e0 w, Eight.e1 w, Eight.e2 w, Eight.e3 w, Eight.e4 w, Eight.e5 w, Eight.e6 w, Eight.e7 w] % nat4 m)) ∧
  (((Four.w0 (onR (some (ringOf m)) fun r => wideR r w) ==
      Four.w0
        (R1.fourN
          (R1.wv [Eight.e0 w, Eight.e1 w, Eight.e2 w, Eight.e3 w, Eight.e4 w, Eight.e5 w, Eight.e6 w, Eight.e7 w] %
            nat4 m)) &&
    (Four.w1 (onR (some (ringOf m)) fun r => wideR r w) ==
        Four.w1
          (R1.fourN
            (R1.wv [Eight.e0 w, Eight.e1 w, Eight.e2 w, Eight.e3 w, Eight.e4 w, Eight.e5 w, Eight.e6 w, Eight.e7 w] %
              nat4 m)) &&
      (Four.w2 (onR (some (ringOf m)) fun r => wideR r w) ==
          Four.w2
            (R1.fourN
              (R1.wv [Eight.e0 w, Eight.e1 w, Eight.e2 w, Eight.e3 w, Eight.e4 w, Eight.e5 w, Eight.e6 w, Eight.e7 w] %
                nat4 m)) &&
        (Four.w3 (onR (some (ringOf m)) fun r => wideR r w) ==
            Four.w3
              (R1.fourN
                (R1.wv
                    [Eight.e0 w, Eight.e1 w, Eight.e2 w, Eight.e3 w, Eight.e4 w, Eight.e5 w, Eight.e6 w, Eight.e7 w] %
                  nat4 m)) &&
          true)))) =
  true) ∧
  (Q (SV.bool true)))))))))))))))))))) := by kernel_rfl
theorem vcReducesF (m a : Four) (w : Eight) (Q : SV → Prop) : LnRaw tt spR3F 9 dRed {} Try.f8 Q (m, a, w, ()) =
  ((goodM m = false) ∧
  ((goodM m = false) ∧
  (Q (SV.bool ((2 : Int) == (2 : Int)))))) := by kernel_rfl
def dNum : Dec := dT [(10, 8), (10, 15), (10, 28), (10, 42), (10, 55)]
theorem vcNumeralsT (m a b : Four) (Q : SV → Prop) : LnRaw tt spR3T 9 dNum {} Try.f9 Q (m, a, b, ()) =
  ((goodM m = true) ∧
  ((goodM m = true) ∧
  (((Fw (nat4 a)) ∧
   ((Fw (nat4 m)) ∧
   ((0 : Nat) < nat4 m))) ∧
  (((Fw (nat4 b)) ∧
   ((Fw (nat4 m)) ∧
   ((0 : Nat) < nat4 m))) ∧
  (((Fw (nat4 a)) ∧
   ((Fw (nat4 m)) ∧
   ((0 : Nat) < nat4 m))) ∧
  ((R1.Sm (nat4 a * (2 : Nat) ^ Int.toNat (256 : Int) % nat4 m)) ∧
  (((Four.w0 (onR (some (ringOf m)) fun r => timesR r a (RingV.two r)) ==
      Four.w0 (R1.fourN (nat4 a * (2 : Nat) ^ Int.toNat (256 : Int) % nat4 m)) &&
    (Four.w1 (onR (some (ringOf m)) fun r => timesR r a (RingV.two r)) ==
        Four.w1 (R1.fourN (nat4 a * (2 : Nat) ^ Int.toNat (256 : Int) % nat4 m)) &&
      (Four.w2 (onR (some (ringOf m)) fun r => timesR r a (RingV.two r)) ==
          Four.w2 (R1.fourN (nat4 a * (2 : Nat) ^ Int.toNat (256 : Int) % nat4 m)) &&
        (Four.w3 (onR (some (ringOf m)) fun r => timesR r a (RingV.two r)) ==
            Four.w3 (R1.fourN (nat4 a * (2 : Nat) ^ Int.toNat (256 : Int) % nat4 m)) &&
          true)))) =
  true) ∧
  ((R1.Sm (resN (nat4 m) (nat4 a))) ∧
  (((Four.w0 (onR (some (ringOf m)) fun r => timesR r a one4) == Four.w0 (R1.fourN (resN (nat4 m) (nat4 a))) &&
    (Four.w1 (onR (some (ringOf m)) fun r => timesR r a one4) == Four.w1 (R1.fourN (resN (nat4 m) (nat4 a))) &&
      (Four.w2 (onR (some (ringOf m)) fun r => timesR r a one4) == Four.w2 (R1.fourN (resN (nat4 m) (nat4 a))) &&
        (Four.w3 (onR (some (ringOf m)) fun r => timesR r a one4) == Four.w3 (R1.fourN (resN (nat4 m) (nat4 a))) &&
          true)))) =
  true) ∧
  (((R1.Sm (resN (nat4 m) (nat4 a))) ∧
   (R1.Sm (resN (nat4 m) (nat4 b)))) ∧
  (((Fw (resN (nat4 m) (nat4 a) + resN (nat4 m) (nat4 b))) ∧
   ((Fw (nat4 m)) ∧
   ((0 : Nat) < nat4 m))) ∧
  ((R1.Sm ((resN (nat4 m) (nat4 a) + resN (nat4 m) (nat4 b)) * (2 : Nat) ^ Int.toNat (256 : Int) % nat4 m)) ∧
  (((Four.w0 (onR (some (ringOf m)) fun r => plusR r a b) ==
      Four.w0
        (R1.fourN ((resN (nat4 m) (nat4 a) + resN (nat4 m) (nat4 b)) * (2 : Nat) ^ Int.toNat (256 : Int) % nat4 m)) &&
    (Four.w1 (onR (some (ringOf m)) fun r => plusR r a b) ==
        Four.w1
          (R1.fourN ((resN (nat4 m) (nat4 a) + resN (nat4 m) (nat4 b)) * (2 : Nat) ^ Int.toNat (256 : Int) % nat4 m)) &&
      (Four.w2 (onR (some (ringOf m)) fun r => plusR r a b) ==
          Four.w2
            (R1.fourN
              ((resN (nat4 m) (nat4 a) + resN (nat4 m) (nat4 b)) * (2 : Nat) ^ Int.toNat (256 : Int) % nat4 m)) &&
        (Four.w3 (onR (some (ringOf m)) fun r => plusR r a b) ==
            Four.w3
              (R1.fourN
                ((resN (nat4 m) (nat4 a) + resN (nat4 m) (nat4 b)) * (2 : Nat) ^ Int.toNat (256 : Int) % nat4 m)) &&
          true)))) =
  true) ∧
  (((Fw (resN (nat4 m) (nat4 a))) ∧
   ((Fw (resN (nat4 m) (nat4 b))) ∧
   ((Fw (nat4 m)) ∧
   (((0 : Nat) < nat4 m) ∧
   (resN (nat4 m) (nat4 b) ≤ resN (nat4 m) (nat4 a) + nat4 m))))) ∧
  (((Fw ((resN (nat4 m) (nat4 a) + nat4 m - resN (nat4 m) (nat4 b)) % nat4 m)) ∧
   ((Fw (nat4 m)) ∧
   ((0 : Nat) < nat4 m))) ∧
  ((R1.Sm ((resN (nat4 m) (nat4 a) + nat4 m - resN (nat4 m) (nat4 b)) % nat4 m * (2 : Nat) ^ Int.toNat (256 : Int) % nat4 m)) ∧
  (((Four.w0 (onR (some (ringOf m)) fun r => minusR r a b) ==
      Four.w0
        (R1.fourN
          ((resN (nat4 m) (nat4 a) + nat4 m - resN (nat4 m) (nat4 b)) % nat4 m * (2 : Nat) ^ Int.toNat (256 : Int) %
            nat4 m)) &&
    (Four.w1 (onR (some (ringOf m)) fun r => minusR r a b) ==
        Four.w1
          (R1.fourN
            ((resN (nat4 m) (nat4 a) + nat4 m - resN (nat4 m) (nat4 b)) % nat4 m * (2 : Nat) ^ Int.toNat (256 : Int) %
              nat4 m)) &&
      (Four.w2 (onR (some (ringOf m)) fun r => minusR r a b) ==
          Four.w2
            (R1.fourN
              ((resN (nat4 m) (nat4 a) + nat4 m - resN (nat4 m) (nat4 b)) % nat4 m * (2 : Nat) ^ Int.toNat (256 : Int) %
                nat4 m)) &&
        (Four.w3 (onR (some (ringOf m)) fun r => minusR r a b) ==
            Four.w3
              (R1.fourN
                ((resN (nat4 m) (nat4 a) + nat4 m - resN (nat4 m) (nat4 b)) % nat4 m *
                    (2 : Nat) ^ Int.toNat (256 : Int) %
                  nat4 m)) &&
          true)))) =
  true) ∧
  (((R1.Sm (resN (nat4 m) (nat4 a))) ∧
   (R1.Sm (resN (nat4 m) (nat4 b)))) ∧
  (((Fw (resN (nat4 m) (nat4 a) * resN (nat4 m) (nat4 b))) ∧
   ((Fw (nat4 m)) ∧
   ((0 : Nat) < nat4 m))) ∧
  ((R1.Sm (resN (nat4 m) (nat4 a) * resN (nat4 m) (nat4 b) * (2 : Nat) ^ Int.toNat (256 : Int) % nat4 m)) ∧
  (((Four.w0 (onR (some (ringOf m)) fun r => mulR r a b) ==
      Four.w0
        (R1.fourN (resN (nat4 m) (nat4 a) * resN (nat4 m) (nat4 b) * (2 : Nat) ^ Int.toNat (256 : Int) % nat4 m)) &&
    (Four.w1 (onR (some (ringOf m)) fun r => mulR r a b) ==
        Four.w1
          (R1.fourN (resN (nat4 m) (nat4 a) * resN (nat4 m) (nat4 b) * (2 : Nat) ^ Int.toNat (256 : Int) % nat4 m)) &&
      (Four.w2 (onR (some (ringOf m)) fun r => mulR r a b) ==
          Four.w2
            (R1.fourN (resN (nat4 m) (nat4 a) * resN (nat4 m) (nat4 b) * (2 : Nat) ^ Int.toNat (256 : Int) % nat4 m)) &&
        (Four.w3 (onR (some (ringOf m)) fun r => mulR r a b) ==
            Four.w3
              (R1.fourN
                (resN (nat4 m) (nat4 a) * resN (nat4 m) (nat4 b) * (2 : Nat) ^ Int.toNat (256 : Int) % nat4 m)) &&
          true)))) =
  true) ∧
  (Q (SV.bool true))))))))))))))))))))))) := by kernel_rfl
theorem vcNumeralsF (m a b : Four) (Q : SV → Prop) : LnRaw tt spR3F 9 dNum {} Try.f9 Q (m, a, b, ()) =
  ((goodM m = false) ∧
  (Q (SV.bool true))) := by kernel_rfl
end Go.Proofs.Ythechjccpljljaa
/- Layer 3's laws (without powers): what is to be shown of their bodies is so. -/
namespace Go.Sym
open Go.RowKit
/-- As fn_okL, with the table of callees chosen by the arguments. -/
theorem fn_okS {P : Program} {tt : TT} {α β : Type} [Args α] [RetL β] (hm : P.follows .mixedOrders = true) (hT : TTOK P tt) (fuel : Nat) {f : FuncId} {fn : Func} (hf : P.funcs[f]? = some fn) (hname : (fn.name == "runtime.NumGoroutine") = false) (hb : fn.body.isSome = true) {pre : α → Option Prop} {g : α → β}
    (H : ∀ a, Ok (pre a) → ∃ sp, SpecsOK P sp ∧ ∃ D L, ∃ Q : SV → Prop, LnVD tt sp fuel D L fn Q a ∧ ∀ x, Q x → ∀ (at_ : At) (w : World) (v : Value), Rel at_ w x v → Rel at_ w (retSV (RetL.retL (g a))) v) : SpecOK P f (fspec pre g) := by
  obtain ⟨c, hc⟩ := Option.isSome_iff_exists.1 hb
  intro at_ w svs vs pr r hat hout hs hp hr
  unfold fspec at hs
  split at hs
  · rename_i a ha
    simp only [Option.some.injEq, Prod.mk.injEq] at hs
    obtain ⟨rfl, rfl⟩ := hs
    have hrun : (callFunc f (List.toArray vs)).run P w = .ok (.enter f (List.toArray vs)) w := by
      have h1 : fn.name ≠ "runtime.NumGoroutine" := by simpa using hname
      simp [callFunc, hf, h1, hc]
    rw [hrun]
    obtain ⟨sp, hS, D, L, Q, ⟨h⟩, hQ⟩ := H a hp
    unfold LnRaw at h
    rw [hc] at h
    refine (calls_of_awp hm hT hS hf hc (fun at0 w0 hcl => vcl_ok hm hT hS hcl c 0 _ _ h) (Args.nn a) hat hout (Args.ok ha hr)).mono ?_
    rintro e w' ⟨v, h1, r', h2, h3, h4⟩
    exact ⟨v, h1, hQ _ h2 _ _ _ h3, h4⟩
  · cases hs
end Go.Sym
namespace Go.Proofs.Ythechjccpljljaa
open Go.Sym Go.Dig

theorem spH_ok : SpecsOK Try.prog spH := .cons R1.ok_nMod R1.spN_ok
theorem lenC {n : Nat} (h : n < 115792089237316195423570985008687907853269984665640564039457584007913129639936 * 115792089237316195423570985008687907853269984665640564039457584007913129639936 * 115792089237316195423570985008687907853269984665640564039457584007913129639936) : (dg n).length ≤ 32 := R1.dlen 32 (Nat.lt_of_lt_of_le h (by decide +kernel))
theorem Fw.sm {n : Nat} (h : Fw n) : R1.Sm n := Nat.le_trans h (by omega)
theorem FwC {n : Nat} (h : n < 115792089237316195423570985008687907853269984665640564039457584007913129639936 * 115792089237316195423570985008687907853269984665640564039457584007913129639936 * 115792089237316195423570985008687907853269984665640564039457584007913129639936) : Fw n := Nat.le_trans (lenC h) (by omega)
theorem Fw4 (a : Four) : Fw (nat4 a) := FwC (by have := nat4_lt a; omega)
theorem dg_len_add {n m k : Nat} (h : (dg n).length ≤ k) (h' : (dg m).length ≤ k) : (dg (n + m)).length ≤ k + 1 := by
  refine dg_length_lt ?_
  have h1 := Nat.lt_of_lt_of_le (lt_of_dg_length n) (Nat.pow_le_pow_right (show 0 < 16777216 by omega) h)
  have h2 := Nat.lt_of_lt_of_le (lt_of_dg_length m) (Nat.pow_le_pow_right (show 0 < 16777216 by omega) h')
  rw [Nat.pow_succ]
  omega

/-! Halves. -/
theorem half_of {m x a : Nat} (h : m % 2 = 1) (hx : x < m) (e : x * 2 % m = a % m) : x = a * hf m % m := by
  have h1 : x * (2 * hf m) % m = a * hf m % m := by rw [← Nat.mul_assoc, Nat.mul_mod, e, ← Nat.mul_mod]
  rw [Nat.mul_mod, two_hf h, ← Nat.mul_mod, Nat.mul_one, Nat.mod_eq_of_lt hx] at h1
  exact h1
theorem halved_lt {m a : Nat} (ha : a < m) : halved m a < m := by unfold halved; split <;> omega
theorem halvedN_zero (m a : Nat) : halvedN m (Int.toNat 0) a = a := by rw [Int.toNat_zero]; rfl
theorem halvedN_lt {m a : Nat} (ha : a < m) : ∀ n, halvedN m n a < m
  | 0 => ha
  | n + 1 => halved_lt (halvedN_lt ha n)
theorem halved_eq {m a : Nat} (h : m % 2 = 1) (ha : a < m) : halved m a = a * hf m % m := by
  refine half_of h (halved_lt ha) ?_
  unfold halved
  split
  · rw [show (a + m) / 2 * 2 = a + m by omega, Nat.add_mod_right]
  · rw [show a / 2 * 2 = a by omega]
theorem halvedN_eq {m a : Nat} (h : m % 2 = 1) (ha : a < m) : ∀ n, halvedN m n a = a * hf m ^ n % m
  | 0 => by rw [Nat.pow_zero, Nat.mul_one, Nat.mod_eq_of_lt ha]; rfl
  | n + 1 => by
    have e : halvedN m (n + 1) a = halved m (halvedN m n a) := rfl
    rw [e, halved_eq h (halvedN_lt ha n), halvedN_eq h ha n, mod_mul_l, Nat.mul_assoc, ← Nat.pow_succ]
theorem residue_eq {m : Nat} (h : m % 2 = 1) (a : Nat) : resN m a = unR m a := by
  unfold resN
  rw [halvedN_eq h (Nat.mod_lt _ (by omega)), ← unR_mod]; rfl

theorem ok_nHalved : SpecOK Try.prog 77 nHalved := by
  refine fn_okL (by kernel_rfl) tt_ok spH_ok 3 Try.func77 (by decide +kernel) (by kernel_rfl) ?_
  rintro ⟨⟨a⟩, ⟨m⟩, _⟩ ⟨ha, hm⟩
  simp only at ha hm
  have h1 : (dg (a + m)).length ≤ 1048577 := dg_len_add ha hm
  have e : ((a / 2 ^ Int.toNat 0 % 2 : Nat) : Int) = ((a % 2 : Nat) : Int) := by
    rw [show Int.toNat 0 = 0 from rfl, Nat.pow_zero, Nat.div_one]
  by_cases h : a % 2 = 1
  · refine ⟨_, {}, isNum (halved m a), LnVD.of (vcHalvedA a m _) ⟨⟨ha.sm, by omega, by omega⟩, ?_, ⟨ha.sm, hm.sm⟩, ⟨Nat.le_trans h1 (by omega), by omega, by omega⟩, .inl ?_⟩, fun x h at_ w v r => isNum_ok h r⟩
    · rw [e, h]; rfl
    · unfold halved; rw [if_pos h, show (2 : Nat) ^ Int.toNat 1 = 2 from rfl]
  · refine ⟨_, {}, isNum (halved m a), LnVD.of (vcHalvedB a m _) ⟨⟨ha.sm, by omega, by omega⟩, ?_, ⟨ha.sm, by omega, by omega⟩, .inl ?_⟩, fun x h at_ w v r => isNum_ok h r⟩
    · rw [e, show a % 2 = 0 by omega]; rfl
    · unfold halved; rw [if_neg h, show (2 : Nat) ^ Int.toNat 1 = 2 from rfl]
theorem ok_nResidue : SpecOK Try.prog 50 nResidue := by
  refine fn_okL (by kernel_rfl) tt_ok (.cons ok_nHalved spH_ok) 3 Try.func50 (by decide +kernel) (by kernel_rfl) ?_
  rintro ⟨⟨a⟩, ⟨m⟩, _⟩ ⟨ha, hm, h0⟩
  simp only at ha hm h0
  refine ⟨[], lRes, isNum (resN m a), LnVD.of (vcResidue a m _) ?_, fun x h at_ w v r => by simp only [RetL.retL, retSV, Enc.enc]; exact isNum_ok h r⟩
  refine ⟨⟨Nat.le_trans ha (by omega), Nat.le_trans hm (by omega), h0⟩, ⟨by omega, by omega, (halvedN_zero m _).symm⟩, fun ⟨x⟩ i ⟨i0, i1, hx⟩ => ?_⟩
  simp only at hx ⊢
  rw [R1.bcase_dec]
  have hlt : x < m := by rw [hx]; exact halvedN_lt (Nat.mod_lt _ h0) _
  refine ⟨fun hi => ?_, fun hi => .inl ?_⟩
  · rw [R1.wr (x := i + 1) (by omega)]
    refine ⟨⟨Nat.le_trans (R1.dg_len_le (Nat.le_of_lt hlt)) hm, hm⟩, by trivial, ⟨by omega, by omega, ?_⟩, by omega⟩
    rw [hx, show (i + 1).toNat = i.toNat + 1 by omega]; rfl
  · unfold resN; rw [hx, show i.toNat = 256 by omega]
theorem ok_nNumeral : SpecOK Try.prog 52 nNumeral := by
  refine fn_okL (by kernel_rfl) tt_ok spH_ok 3 Try.func52 (by decide +kernel) (by kernel_rfl) ?_
  rintro ⟨⟨a⟩, ⟨m⟩, _⟩ ⟨ha, hm, h0⟩
  simp only at ha hm h0
  refine ⟨[], {}, isNum (a * 2 ^ Int.toNat 256 % m), LnVD.of (vcNumeral a m _) ?_, fun x h at_ w v r => isNum_ok h r⟩
  have hp : (dg (2 ^ Int.toNat 256)).length ≤ 32 := lenC (by rw [p256]; omega)
  have := R1.dg_len_mul ha hp
  exact ⟨⟨Nat.le_trans ha (by omega), by omega, by omega⟩, ⟨Nat.le_trans this (by omega), Nat.le_trans hm (by omega), h0⟩, .inl rfl⟩
theorem ok_nSub3 : SpecOK Try.prog 56 nSub3 := by
  refine fn_okL (by kernel_rfl) tt_ok spH_ok 3 Try.func56 (by decide +kernel) (by kernel_rfl) ?_
  rintro ⟨⟨a⟩, ⟨b⟩, ⟨m⟩, _⟩ ⟨ha, hb, hm, h0, hle⟩
  simp only at ha hb hm h0 hle
  refine ⟨[], {}, isNum ((a + m - b) % m), LnVD.of (vcSub3 a b m _) ?_, fun x h at_ w v r => isNum_ok h r⟩
  have h1 : (dg (a + m)).length ≤ 1048577 := dg_len_add ha hm
  have h2 := R1.dg_len_le (show a + m - b ≤ a + m by omega)
  exact ⟨⟨ha.sm, hm.sm⟩, ⟨Nat.le_trans h1 (by omega), hle, hb.sm⟩, ⟨by omega, Nat.le_trans hm (by omega), h0⟩, .inl rfl⟩

/-! odd, awake. -/
theorem odd_eq (m : Four) : goodM m = ((m.w0 % UInt64.ofNat (Int.toNat 2) == UInt64.ofNat (Int.toNat 1)) && !(eq4 m ⟨1, 0, 0, 0⟩)) := by
  unfold goodM
  congr 1
  have h1 := and_one m.w0
  have h2 : (m.w0 % UInt64.ofNat (Int.toNat 2)).toNat = m.w0.toNat % 2 := by rw [UInt64.toNat_mod]; rfl
  rw [Bool.eq_iff_iff]
  simp only [Bool.not_eq_true', beq_eq_false_iff_ne, beq_iff_eq, ne_eq, ← UInt64.toNat_inj, h1, h2]
  rw [show (0 : UInt64).toNat = 0 from rfl, show (UInt64.ofNat (Int.toNat 1)).toNat = 1 from rfl]
  omega
theorem odd_all (m : Four) (b : Bool) (h : goodM m = b) : LnRaw tt spO1 3 [] {} Try.f45 (fun x => x = .bool b) (m, ()) := by
  rw [vcOddA, R1.bcase_iff]
  rw [odd_eq] at h
  refine ⟨fun h1 => ?_, fun h1 => ?_⟩
  · rw [h1, Bool.true_and] at h
    show _ = _
    rw [← h]; rfl
  · rw [h1, Bool.false_and] at h
    show _ = _
    rw [← h]
theorem ok_OddT : SpecOK Try.prog 45 sOddT := by
  refine fn_okL (by kernel_rfl) tt_ok spL0_ok 3 Try.func45 (by decide +kernel) (by kernel_rfl) ?_
  rintro ⟨m, _⟩ h
  exact ⟨[], {}, fun x => x = .bool true, ⟨odd_all m true h⟩, sv_fin⟩
theorem ok_OddF : SpecOK Try.prog 45 sOddF := by
  refine fn_okL (by kernel_rfl) tt_ok spL0_ok 3 Try.func45 (by decide +kernel) (by kernel_rfl) ?_
  rintro ⟨m, _⟩ h
  exact ⟨[], {}, fun x => x = .bool false, ⟨odd_all m false h⟩, sv_fin⟩
theorem spRg_ok : SpecsOK Try.prog spRg := .cons ok_Modulus <| .cons ok_Reduce <| .cons ok_WideR <| .cons ok_In <| .cons ok_Out <| .cons ok_PlusR <| .cons ok_MinusR <| .cons ok_MulR <| .nil _
theorem ok_Awake3 : SpecOK Try.prog 43 sAwake3 := by
  refine fn_okL (by kernel_rfl) tt_ok (.cons ok_NewG spRg_ok) 3 Try.func43 (by decide +kernel) (by kernel_rfl) ?_
  rintro _ _
  refine ⟨_, {}, fun x => x = .bool true, LnVD.of (vcAwake3 _) ?_, sv_fin⟩
  have hg : goodM ⟨7, 0, 0, 0⟩ = true := by decide +kernel
  have g := ringOf_good hg
  refine ⟨hg, ?_, rfl⟩
  refine (eq4_of ?_ : eq4 _ one4 = true)
  have e : ∀ f : RingV → Four, onR (some (ringOf ⟨UInt64.ofNat (Int.toNat 7), UInt64.ofNat (Int.toNat 0), UInt64.ofNat (Int.toNat 0), UInt64.ofNat (Int.toNat 0)⟩)) f = f (ringOf ⟨7, 0, 0, 0⟩) := fun f => onR_good g f
  simp only [e]
  apply nat4_inj
  rw [out_nat g, mulR_nat g, in_nat g, in_nat g]
  decide +kernel
theorem spR3_ok : SpecsOK Try.prog spR3 := .cons ok_Awake3 <| .cons ok_nOf <| .cons ok_nResidue <| .cons ok_nNumeral <| .cons ok_nSub3 <| SpecsOK.append spRg_ok spH_ok
theorem spR3T_ok : SpecsOK Try.prog spR3T := .cons ok_NewG <| .cons ok_OddT spR3_ok
theorem spR3F_ok : SpecsOK Try.prog spR3F := .cons ok_NewN <| .cons ok_OddF spR3_ok

/-! The laws. -/
theorem nat8_wvs (x : Eight) : nat8 x = R1.wv [x.e0, x.e1, x.e2, x.e3, x.e4, x.e5, x.e6, x.e7] := by simp only [R1.wv, nat8]; omega
theorem nat8_lt (w : Eight) : nat8 w < 115792089237316195423570985008687907853269984665640564039457584007913129639936 * 115792089237316195423570985008687907853269984665640564039457584007913129639936 * 115792089237316195423570985008687907853269984665640564039457584007913129639936 := by
  have := u64_lt w.e0; have := u64_lt w.e1; have := u64_lt w.e2; have := u64_lt w.e3; have := u64_lt w.e4; have := u64_lt w.e5; have := u64_lt w.e6; have := u64_lt w.e7
  simp only [nat8]; omega
/-- A difference, by 2^256. -/
theorem sub_scale {m x y A C k : Nat} (h : 0 < m) (hx : A * k % m = x % m) (hy : C * k % m = y % m) (hle : C ≤ A + m) : (x % m + m - y % m) % m = (A + m - C) * k % m := by
  have ly := Nat.mod_lt y h
  have h1 : ((A + m - C) * k + y % m) % m = (x % m + m) % m := by
    rw [← hy, mod_add_r, ← Nat.add_mul, show A + m - C + C = A + m by omega, Nat.add_mul, Nat.add_mul_mod_self_left, hx, Nat.add_mod_right, Nat.mod_mod]
  have h2 : (x % m + m - y % m + y % m) % m = ((A + m - C) * k + y % m) % m := by rw [h1, show x % m + m - y % m + y % m = x % m + m by omega]
  have h3 := Nat.mod_lt (x % m + m - y % m) h
  have h4 := Nat.mod_lt ((A + m - C) * k) h
  have h3 : (x % m + m - y % m + y % m + (m - y % m)) % m = ((A + m - C) * k + y % m + (m - y % m)) % m := by rw [← mod_add_l, h2, mod_add_l]
  rw [Nat.add_assoc, Nat.add_assoc, show y % m + (m - y % m) = m by omega, Nat.add_mod_right, Nat.add_mod_right] at h3
  exact h3
theorem fourN_of {x : Four} {n : Nat} (h : nat4 x = n) : x = R1.fourN n := four_eq (by rw [← h, Nat.mod_eq_of_lt (nat4_lt x)])
abbrev sReduces : SpecF := fspec (α := Four × Four × Eight × Unit) total fun _ => true
theorem ok_Reduces : SpecOK Try.prog 8 sReduces := by
  refine fn_okS (by kernel_rfl) tt_ok 9 Try.func8 (by decide +kernel) (by kernel_rfl) ?_
  rintro ⟨m, a, w, _⟩ _
  cases hg : goodM m with
  | false => exact ⟨spR3F, spR3F_ok, _, {}, fun x => x = .bool true, LnVD.of (vcReducesF m a w _) ⟨hg, hg, rfl⟩, sv_fin⟩
  | true =>
    refine ⟨spR3T, spR3T_ok, _, {}, fun x => x = .bool true, LnVD.of (vcReducesT m a w _) ?_, sv_fin⟩
    have g := ringOf_good hg
    have h0 : 0 < nat4 m := by have := g.big; show 0 < nat4 (ringOf m).m; omega
    have la := lenC (show nat4 a < 115792089237316195423570985008687907853269984665640564039457584007913129639936 * 115792089237316195423570985008687907853269984665640564039457584007913129639936 * 115792089237316195423570985008687907853269984665640564039457584007913129639936 by have := nat4_lt a; omega)
    have lm := lenC (show nat4 m < 115792089237316195423570985008687907853269984665640564039457584007913129639936 * 115792089237316195423570985008687907853269984665640564039457584007913129639936 * 115792089237316195423570985008687907853269984665640564039457584007913129639936 by have := nat4_lt m; omega)
    have lw := lenC (nat8_lt w)
    have sm : ∀ n, R1.Sm (n % nat4 m) := fun n => SmB (by have := Nat.mod_lt n h0; have := nat4_lt m; omega)
    rw [← nat8_wvs]
    refine ⟨hg, hg, by simp [appLim], ⟨by omega, by simp [appLim]⟩, ⟨by omega, by simp [appLim]⟩, ⟨by omega, by simp [appLim]⟩, ⟨by omega, by simp [appLim]⟩, ⟨by omega, by simp [appLim]⟩, ⟨by omega, by simp [appLim]⟩, ⟨by omega, by simp [appLim]⟩, ?_, ⟨by omega, by omega, h0⟩, sm _, ?_, by omega, ⟨by omega, by omega, h0⟩, sm _, ?_, rfl⟩
    · refine (eq4_of ?_ : eq4 _ m = true)
      rw [onR_good g]; rfl
    · refine (eq4_of ?_ : eq4 _ (R1.fourN _) = true)
      rw [onR_good g]; exact fourN_of (redR_nat g a)
    · refine (eq4_of ?_ : eq4 _ (R1.fourN _) = true)
      rw [onR_good g]; exact fourN_of (wideR_nat g w)
abbrev sNumerals : SpecF := fspec (α := Four × Four × Four × Unit) total fun _ => true
theorem ok_Numerals : SpecOK Try.prog 9 sNumerals := by
  refine fn_okS (by kernel_rfl) tt_ok 9 Try.func9 (by decide +kernel) (by kernel_rfl) ?_
  rintro ⟨m, a, b, _⟩ _
  cases hg : goodM m with
  | false => exact ⟨spR3F, spR3F_ok, _, {}, fun x => x = .bool true, LnVD.of (vcNumeralsF m a b _) ⟨hg, rfl⟩, sv_fin⟩
  | true =>
    refine ⟨spR3T, spR3T_ok, _, {}, fun x => x = .bool true, LnVD.of (vcNumeralsT m a b _) ?_, sv_fin⟩
    have g := ringOf_good hg
    have ho : nat4 m % 2 = 1 := g.odd
    have h0 : 0 < nat4 m := by omega
    have lm := nat4_lt m
    have fa := Fw4 a; have fb := Fw4 b; have fm := Fw4 m
    have sm : ∀ n, R1.Sm (n % nat4 m) := fun n => SmB (by have := Nat.mod_lt n h0; omega)
    have fmod : ∀ n, Fw (n % nat4 m) := fun n => FwC (by have := Nat.mod_lt n h0; omega)
    rw [residue_eq ho, residue_eq ho, p256, ← p2_256]
    have ua := unR_lt (nat4 a) h0
    have ub := unR_lt (nat4 b) h0
    have hab : unR (nat4 m) (nat4 a) * unR (nat4 m) (nat4 b) < 115792089237316195423570985008687907853269984665640564039457584007913129639936 * 115792089237316195423570985008687907853269984665640564039457584007913129639936 := Nat.mul_lt_mul_of_lt_of_le (by omega) (by omega) (by omega)
    have va := unR_back ho (nat4 a); have vb := unR_back ho (nat4 b)
    generalize hA : unR (nat4 m) (nat4 a) = A at *
    generalize hB : unR (nat4 m) (nat4 b) = C at *
    refine ⟨hg, hg, ⟨fa, fm, h0⟩, ⟨fb, fm, h0⟩, ⟨fa, fm, h0⟩, sm _, ?_, SmB (by omega), ?_, ⟨SmB (by omega), SmB (by omega)⟩, ⟨FwC (by omega), fm, h0⟩, sm _, ?_, ⟨FwC (by omega), FwC (by omega), fm, h0, by omega⟩, ⟨fmod _, fm, h0⟩, sm _, ?_, ⟨SmB (by omega), SmB (by omega)⟩, ⟨FwC (by omega), fm, h0⟩, sm _, ?_, rfl⟩
    · refine (eq4_of ?_ : eq4 _ (R1.fourN _) = true)
      rw [onR_good g]; exact fourN_of (in_nat g a)
    · refine (eq4_of ?_ : eq4 _ (R1.fourN _) = true)
      rw [onR_good g]; exact fourN_of ((out_nat g a).trans hA)
    · refine (eq4_of ?_ : eq4 _ (R1.fourN _) = true)
      rw [onR_good g]
      refine fourN_of ((plusR_nat g a b).trans ?_)
      show (nat4 a + nat4 b) % nat4 m = _
      rw [Nat.add_mul, Nat.add_mod, ← va, ← vb, ← Nat.add_mod]
    · refine (eq4_of ?_ : eq4 _ (R1.fourN _) = true)
      rw [onR_good g]
      refine fourN_of ((minusR_nat g a b).trans ?_)
      show (nat4 a % nat4 m + nat4 m - nat4 b % nat4 m) % nat4 m = _
      rw [mod_mul_l]
      exact sub_scale h0 va vb (by omega)
    · refine (eq4_of ?_ : eq4 _ (R1.fourN _) = true)
      rw [onR_good g]
      refine fourN_of ((mulR_nat g a b).trans ?_)
      show unR (nat4 m) (nat4 a * nat4 b) = _
      rw [← unR_mod, Nat.mul_mod, ← va, ← vb, ← Nat.mul_mod, unR_mod, show A * 2 ^ 256 * (C * 2 ^ 256) = A * C * 2 ^ 256 * 2 ^ 256 by rw [Nat.mul_assoc, Nat.mul_left_comm (2 ^ 256), ← Nat.mul_assoc, ← Nat.mul_assoc], unR_mul ho]
end Go.Proofs.Ythechjccpljljaa
