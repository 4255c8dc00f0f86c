/- Layer 3's laws (without powers): the reference's functions and the laws: what their bodies come to. -/
import Derived.Test.YthechjccpljljaaRingE
import Derived.Test.YthechjccpljljaaRefE
namespace Go.Proofs.Ythechjccpljljaa
open Go.Sym Go.Dig

--STOP R1.Sm, limb_Add, limb_Sub, limb_Select, limb_Mul, limb_Cmp

/-! The reference's. -/
abbrev M2 := Num × Num × Unit
/-- Few digits. -/
def Fw (n : Nat) : Prop := (dg n).length ≤ 1048576
def halved (m a : Nat) : Nat := if a % 2 = 1 then (a + m) / 2 else a / 2
def halvedN (m : Nat) : Nat → Nat → Nat
  | 0, a => a
  | n + 1, a => halved m (halvedN m n a)
--STOP Fw
def resN (m a : Nat) : Nat := halvedN m 256 (a % m)
--STOP resN
def spH : Specs := (48, R1.nMod) :: R1.spN
theorem vcHalvedA (a m : Nat) (Q : SV → Prop) : LnRaw tt spH 3 [(1, 2, .b true)] {} Try.f77 Q ((⟨a⟩ : Num), (⟨m⟩ : Num), ()) =
  (((R1.Sm a) ∧
   (((0 : Int) ≤ (0 : Int)) ∧
   ((0 : Int) ≤ (1073741824 : Int)))) ∧
  ((((↑(a / (2 : Nat) ^ Int.toNat (0 : Int) % (2 : Nat)) : Int) == (1 : Int)) = true) ∧
  (((R1.Sm a) ∧
   (R1.Sm m)) ∧
  (((R1.Sm (a + m)) ∧
   (((0 : Int) ≤ (1 : Int)) ∧
   ((1 : Int) ≤ (1073741824 : Int)))) ∧
  (Q (SV.lst (LV.num ((a + m) / (2 : Nat) ^ Int.toNat (1 : Int))))))))) := by kernel_rfl
theorem vcHalvedB (a m : Nat) (Q : SV → Prop) : LnRaw tt spH 3 [(1, 2, .b false)] {} Try.f77 Q ((⟨a⟩ : Num), (⟨m⟩ : Num), ()) =
  (((R1.Sm a) ∧
   (((0 : Int) ≤ (0 : Int)) ∧
   ((0 : Int) ≤ (1073741824 : Int)))) ∧
  ((((↑(a / (2 : Nat) ^ Int.toNat (0 : Int) % (2 : Nat)) : Int) == (1 : Int)) = false) ∧
  (((R1.Sm a) ∧
   (((0 : Int) ≤ (1 : Int)) ∧
   ((1 : Int) ≤ (1073741824 : Int)))) ∧
  (Q (SV.lst (LV.num (a / (2 : Nat) ^ Int.toNat (1 : Int)))))))) := by kernel_rfl
def nHalved : SpecF := fspec (α := M2) (β := Num) (fun a => some (Fw a.1.n ∧ Fw a.2.1.n)) (fun a => ⟨halved a.2.1.n a.1.n⟩)
def iRes (a m : Nat) (x : Nat) (i : Int) : Prop := 0 ≤ i ∧ i ≤ 256 ∧ x = halvedN m i.toNat (a % m)
def lRes : Plan := { loops := [(0, { β := Num × Num × Unit, α := Num × Int × Unit, same := [0, 1], keep := [5, 6], inv := fun b _ x => iRes b.1.n b.2.1.n x.1.n x.2.1, meas := fun _ x => (256 - x.2.1).toNat })] }
theorem vcResidue (a m : Nat) (Q : SV → Prop) : LnRaw tt ((77, nHalved) :: spH) 3 [] lRes Try.f50 Q ((⟨a⟩ : Num), (⟨m⟩ : Num), ()) =
  (((List.length (dg a) ≤ (536870912 : Nat)) ∧
   ((List.length (dg m) ≤ (536870912 : Nat)) ∧
   ((0 : Nat) < m))) ∧
  ((iRes a m (a % m) (0 : Int)) ∧
  (∀ a_1 : Num,
  (∀ a_2 : Int,
  ((iRes a m (Num.n a_1) a_2) →
  bcase (decide (a_2 < (256 : Int)))
    ((((Fw (Num.n a_1)) ∧
     (Fw m)) ∧
    (((Num.mk a, Num.mk m, ()) = (Num.mk a, Num.mk m, ())) ∧
    ((iRes a m (halved m (Num.n a_1)) (IntKind.wrap IntKind.i64 (a_2 + (1 : Int)))) ∧
    (Int.toNat ((256 : Int) - IntKind.wrap IntKind.i64 (a_2 + (1 : Int))) < Int.toNat ((256 : Int) - a_2))))))
    ((Q (SV.lst (LV.num (Num.n a_1)))))))))) := by kernel_rfl
def nResidue : SpecF := fspec (α := M2) (β := Num) (fun a => some (Fw a.1.n ∧ Fw a.2.1.n ∧ 0 < a.2.1.n)) (fun a => ⟨resN a.2.1.n a.1.n⟩)
theorem vcNumeral (a m : Nat) (Q : SV → Prop) : LnRaw tt spH 3 [] {} Try.f52 Q ((⟨a⟩ : Num), (⟨m⟩ : Num), ()) =
  (((List.length (dg a) ≤ (536870912 : Nat)) ∧
   (((0 : Int) ≤ (256 : Int)) ∧
   ((256 : Int) ≤ (1073741824 : Int)))) ∧
  (((List.length (dg (a * (2 : Nat) ^ Int.toNat (256 : Int))) ≤ (536870912 : Nat)) ∧
   ((List.length (dg m) ≤ (536870912 : Nat)) ∧
   ((0 : Nat) < m))) ∧
  (Q (SV.lst (LV.num (a * (2 : Nat) ^ Int.toNat (256 : Int) % m)))))) := by kernel_rfl
def nNumeral : SpecF := fspec (α := M2) (β := Num) (fun a => some (Fw a.1.n ∧ Fw a.2.1.n ∧ 0 < a.2.1.n)) (fun a => ⟨a.1.n * 2 ^ Int.toNat 256 % a.2.1.n⟩)
theorem vcSub3 (a b m : Nat) (Q : SV → Prop) : LnRaw tt spH 3 [] {} Try.f56 Q ((⟨a⟩ : Num), (⟨b⟩ : Num), (⟨m⟩ : Num), ()) =
  (((R1.Sm a) ∧
   (R1.Sm m)) ∧
  (((R1.Sm (a + m)) ∧
   ((b ≤ a + m) ∧
   (R1.Sm b))) ∧
  (((List.length (dg (a + m - b)) ≤ (536870912 : Nat)) ∧
   ((List.length (dg m) ≤ (536870912 : Nat)) ∧
   ((0 : Nat) < m))) ∧
  (Q (SV.lst (LV.num ((a + m - b) % m))))))) := by kernel_rfl
def nSub3 : SpecF := fspec (α := Num × Num × Num × Unit) (β := Num) (fun a => some (Fw a.1.n ∧ Fw a.2.1.n ∧ Fw a.2.2.1.n ∧ 0 < a.2.2.1.n ∧ a.2.1.n ≤ a.1.n + a.2.2.1.n)) (fun a => ⟨(a.1.n + a.2.2.1.n - a.2.1.n) % a.2.2.1.n⟩)

/-! The laws. -/
def spO1 : Specs := spL0
theorem vcOddA (m : Four) (Q : SV → Prop) : LnRaw tt spO1 3 [] {} Try.f45 Q (m, ()) =
  bcase (Four.w0 m % UInt64.ofNat (Int.toNat (2 : Int)) == UInt64.ofNat (Int.toNat (1 : Int)))
    ((Q
  (SV.bool
    !(Four.w0 m == UInt64.ofNat (Int.toNat (1 : Int)) &&
        (Four.w1 m == UInt64.ofNat (Int.toNat (0 : Int)) &&
          (Four.w2 m == UInt64.ofNat (Int.toNat (0 : Int)) &&
            (Four.w3 m == UInt64.ofNat (Int.toNat (0 : Int)) && true)))))))
    ((Q (SV.bool false))) := by kernel_rfl
def sOddT : SpecF := fspec (α := Four × Unit) (fun a => some (goodM a.1 = true)) (fun _ => true)
def sOddF : SpecF := fspec (α := Four × Unit) (fun a => some (goodM a.1 = false)) (fun _ => false)
def spRg : Specs := [(46, sModulus), (47, sReduce), (49, sWideR), (51, sIn), (53, sOut), (54, sPlusR), (55, sMinusR), (57, sMulR)]
theorem vcAwake3 (Q : SV → Prop) : LnRaw tt ((44, sNewG) :: spRg) 3 [(2, 14, .b true)] {} Try.f43 Q () =
  ((goodM
    (Four.mk (UInt64.ofNat (Int.toNat (7 : Int))) (UInt64.ofNat (Int.toNat (0 : Int)))
      (UInt64.ofNat (Int.toNat (0 : Int))) (UInt64.ofNat (Int.toNat (0 : Int)))) =
  true) ∧
  (((Four.w0
        (onR
          (some
            (ringOf
              (Four.mk (UInt64.ofNat (Int.toNat (7 : Int))) (UInt64.ofNat (Int.toNat (0 : Int)))
                (UInt64.ofNat (Int.toNat (0 : Int))) (UInt64.ofNat (Int.toNat (0 : Int))))))
          fun r =>
          timesR r
            (onR
              (some
                (ringOf
                  (Four.mk (UInt64.ofNat (Int.toNat (7 : Int))) (UInt64.ofNat (Int.toNat (0 : Int)))
                    (UInt64.ofNat (Int.toNat (0 : Int))) (UInt64.ofNat (Int.toNat (0 : Int))))))
              fun r =>
              mulR r
                (onR
                  (some
                    (ringOf
                      (Four.mk (UInt64.ofNat (Int.toNat (7 : Int))) (UInt64.ofNat (Int.toNat (0 : Int)))
                        (UInt64.ofNat (Int.toNat (0 : Int))) (UInt64.ofNat (Int.toNat (0 : Int))))))
                  fun r =>
                  timesR r
                    (Four.mk (UInt64.ofNat (Int.toNat (3 : Int))) (UInt64.ofNat (Int.toNat (0 : Int)))
                      (UInt64.ofNat (Int.toNat (0 : Int))) (UInt64.ofNat (Int.toNat (0 : Int))))
                    (RingV.two r))
                (onR
                  (some
                    (ringOf
                      (Four.mk (UInt64.ofNat (Int.toNat (7 : Int))) (UInt64.ofNat (Int.toNat (0 : Int)))
                        (UInt64.ofNat (Int.toNat (0 : Int))) (UInt64.ofNat (Int.toNat (0 : Int))))))
                  fun r =>
                  timesR r
                    (Four.mk (UInt64.ofNat (Int.toNat (5 : Int))) (UInt64.ofNat (Int.toNat (0 : Int)))
                      (UInt64.ofNat (Int.toNat (0 : Int))) (UInt64.ofNat (Int.toNat (0 : Int))))
                    (RingV.two r)))
            one4) ==
      UInt64.ofNat (Int.toNat (1 : Int)) &&
    (Four.w1
          (onR
            (some
              (ringOf
                (Four.mk (UInt64.ofNat (Int.toNat (7 : Int))) (UInt64.ofNat (Int.toNat (0 : Int)))
                  (UInt64.ofNat (Int.toNat (0 : Int))) (UInt64.ofNat (Int.toNat (0 : Int))))))
            fun r =>
            timesR r
              (onR
                (some
                  (ringOf
                    (Four.mk (UInt64.ofNat (Int.toNat (7 : Int))) (UInt64.ofNat (Int.toNat (0 : Int)))
                      (UInt64.ofNat (Int.toNat (0 : Int))) (UInt64.ofNat (Int.toNat (0 : Int))))))
                fun r =>
                mulR r
                  (onR
                    (some
                      (ringOf
                        (Four.mk (UInt64.ofNat (Int.toNat (7 : Int))) (UInt64.ofNat (Int.toNat (0 : Int)))
                          (UInt64.ofNat (Int.toNat (0 : Int))) (UInt64.ofNat (Int.toNat (0 : Int))))))
                    fun r =>
                    timesR r
                      (Four.mk (UInt64.ofNat (Int.toNat (3 : Int))) (UInt64.ofNat (Int.toNat (0 : Int)))
                        (UInt64.ofNat (Int.toNat (0 : Int))) (UInt64.ofNat (Int.toNat (0 : Int))))
                      (RingV.two r))
                  (onR
                    (some
                      (ringOf
                        (Four.mk (UInt64.ofNat (Int.toNat (7 : Int))) (UInt64.ofNat (Int.toNat (0 : Int)))
                          (UInt64.ofNat (Int.toNat (0 : Int))) (UInt64.ofNat (Int.toNat (0 : Int))))))
                    fun r =>
                    timesR r
                      (Four.mk (UInt64.ofNat (Int.toNat (5 : Int))) (UInt64.ofNat (Int.toNat (0 : Int)))
                        (UInt64.ofNat (Int.toNat (0 : Int))) (UInt64.ofNat (Int.toNat (0 : Int))))
                      (RingV.two r)))
              one4) ==
        UInt64.ofNat (Int.toNat (0 : Int)) &&
      (Four.w2
            (onR
              (some
                (ringOf
                  (Four.mk (UInt64.ofNat (Int.toNat (7 : Int))) (UInt64.ofNat (Int.toNat (0 : Int)))
                    (UInt64.ofNat (Int.toNat (0 : Int))) (UInt64.ofNat (Int.toNat (0 : Int))))))
              fun r =>
              timesR r
                (onR
                  (some
                    (ringOf
                      (Four.mk (UInt64.ofNat (Int.toNat (7 : Int))) (UInt64.ofNat (Int.toNat (0 : Int)))
                        (UInt64.ofNat (Int.toNat (0 : Int))) (UInt64.ofNat (Int.toNat (0 : Int))))))
                  fun r =>
                  mulR r
                    (onR
                      (some
                        (ringOf
                          (Four.mk (UInt64.ofNat (Int.toNat (7 : Int))) (UInt64.ofNat (Int.toNat (0 : Int)))
                            (UInt64.ofNat (Int.toNat (0 : Int))) (UInt64.ofNat (Int.toNat (0 : Int))))))
                      fun r =>
                      timesR r
                        (Four.mk (UInt64.ofNat (Int.toNat (3 : Int))) (UInt64.ofNat (Int.toNat (0 : Int)))
                          (UInt64.ofNat (Int.toNat (0 : Int))) (UInt64.ofNat (Int.toNat (0 : Int))))
                        (RingV.two r))
                    (onR
                      (some
                        (ringOf
                          (Four.mk (UInt64.ofNat (Int.toNat (7 : Int))) (UInt64.ofNat (Int.toNat (0 : Int)))
                            (UInt64.ofNat (Int.toNat (0 : Int))) (UInt64.ofNat (Int.toNat (0 : Int))))))
                      fun r =>
                      timesR r
                        (Four.mk (UInt64.ofNat (Int.toNat (5 : Int))) (UInt64.ofNat (Int.toNat (0 : Int)))
                          (UInt64.ofNat (Int.toNat (0 : Int))) (UInt64.ofNat (Int.toNat (0 : Int))))
                        (RingV.two r)))
                one4) ==
          UInt64.ofNat (Int.toNat (0 : Int)) &&
        (Four.w3
              (onR
                (some
                  (ringOf
                    (Four.mk (UInt64.ofNat (Int.toNat (7 : Int))) (UInt64.ofNat (Int.toNat (0 : Int)))
                      (UInt64.ofNat (Int.toNat (0 : Int))) (UInt64.ofNat (Int.toNat (0 : Int))))))
                fun r =>
                timesR r
                  (onR
                    (some
                      (ringOf
                        (Four.mk (UInt64.ofNat (Int.toNat (7 : Int))) (UInt64.ofNat (Int.toNat (0 : Int)))
                          (UInt64.ofNat (Int.toNat (0 : Int))) (UInt64.ofNat (Int.toNat (0 : Int))))))
                    fun r =>
                    mulR r
                      (onR
                        (some
                          (ringOf
                            (Four.mk (UInt64.ofNat (Int.toNat (7 : Int))) (UInt64.ofNat (Int.toNat (0 : Int)))
                              (UInt64.ofNat (Int.toNat (0 : Int))) (UInt64.ofNat (Int.toNat (0 : Int))))))
                        fun r =>
                        timesR r
                          (Four.mk (UInt64.ofNat (Int.toNat (3 : Int))) (UInt64.ofNat (Int.toNat (0 : Int)))
                            (UInt64.ofNat (Int.toNat (0 : Int))) (UInt64.ofNat (Int.toNat (0 : Int))))
                          (RingV.two r))
                      (onR
                        (some
                          (ringOf
                            (Four.mk (UInt64.ofNat (Int.toNat (7 : Int))) (UInt64.ofNat (Int.toNat (0 : Int)))
                              (UInt64.ofNat (Int.toNat (0 : Int))) (UInt64.ofNat (Int.toNat (0 : Int))))))
                        fun r =>
                        timesR r
                          (Four.mk (UInt64.ofNat (Int.toNat (5 : Int))) (UInt64.ofNat (Int.toNat (0 : Int)))
                            (UInt64.ofNat (Int.toNat (0 : Int))) (UInt64.ofNat (Int.toNat (0 : Int))))
                          (RingV.two r)))
                  one4) ==
            UInt64.ofNat (Int.toNat (0 : Int)) &&
          true)))) =
  true) ∧
  (Q (SV.bool true)))) := by kernel_rfl
abbrev sAwake3 : SpecF := fspec (α := Unit) total fun _ => true
def spR3 : Specs := (43, sAwake3) :: (13, nOf) :: (50, nResidue) :: (52, nNumeral) :: (56, nSub3) :: (spRg ++ spH)
def spR3T : Specs := (44, sNewG) :: (45, sOddT) :: spR3
def spR3F : Specs := (44, sNewN) :: (45, sOddF) :: spR3
def dRed : Dec := dT [(15, 3), (15, 13), (15, 24)]
theorem vcReducesT (m a : Four) (w : Eight) (Q : SV → Prop) : LnRaw tt spR3T 9 dRed {} Try.f8 Q (m, a, w, ()) =
  ((goodM m = true) ∧
  ((goodM m = true) ∧
  (((1 : Nat) ≤ appLim) ∧
  ((((0 : Nat) + (1 : Nat) = (1 : Nat)) ∧
   ((2 : Nat) ≤ appLim)) ∧
  ((((0 : Nat) + (2 : Nat) = (2 : Nat)) ∧
   ((3 : Nat) ≤ appLim)) ∧
  ((((0 : Nat) + (3 : Nat) = (3 : Nat)) ∧
   ((4 : Nat) ≤ appLim)) ∧
  ((((0 : Nat) + (4 : Nat) = (4 : Nat)) ∧
   ((5 : Nat) ≤ appLim)) ∧
  ((((0 : Nat) + (5 : Nat) = (5 : Nat)) ∧
   ((6 : Nat) ≤ appLim)) ∧
  ((((0 : Nat) + (6 : Nat) = (6 : Nat)) ∧
   ((7 : Nat) ≤ appLim)) ∧
  ((((0 : Nat) + (7 : Nat) = (7 : Nat)) ∧
   ((8 : Nat) ≤ appLim)) ∧
  (((Four.w0 (onR (some (ringOf m)) fun r => RingV.m r) == Four.w0 m &&
    (Four.w1 (onR (some (ringOf m)) fun r => RingV.m r) == Four.w1 m &&
      (Four.w2 (onR (some (ringOf m)) fun r => RingV.m r) == Four.w2 m &&
        (Four.w3 (onR (some (ringOf m)) fun r => RingV.m r) == Four.w3 m && true)))) =
  true) ∧
  (((List.length (dg (nat4 a)) ≤ (536870912 : Nat)) ∧
   ((List.length (dg (nat4 m)) ≤ (536870912 : Nat)) ∧
   ((0 : Nat) < nat4 m))) ∧
  ((R1.Sm (nat4 a % nat4 m)) ∧
  (((Four.w0 (onR (some (ringOf m)) fun r => redR r a) == Four.w0 (R1.fourN (nat4 a % nat4 m)) &&
    (Four.w1 (onR (some (ringOf m)) fun r => redR r a) == Four.w1 (R1.fourN (nat4 a % nat4 m)) &&
      (Four.w2 (onR (some (ringOf m)) fun r => redR r a) == Four.w2 (R1.fourN (nat4 a % nat4 m)) &&
        (Four.w3 (onR (some (ringOf m)) fun r => redR r a) == Four.w3 (R1.fourN (nat4 a % nat4 m)) && true)))) =
  true) ∧
  (((8 : Nat) ≤ (1048576 : Nat)) ∧
  (((List.length
    (dg (R1.wv [Eight.e0 w, Eight.e1 w, Eight.e2 w, Eight.e3 w, Eight.e4 w, Eight.e5 w, Eight.e6 w, Eight.e7 w])) ≤
  (536870912 : Nat)) ∧
   ((List.length (dg (nat4 m)) ≤ (536870912 : Nat)) ∧
   ((0 : Nat) < nat4 m))) ∧
  ((R1.Sm (R1.wv [Eight.e0 w, Eight.e1 w, Eight.e2 w, Eight.e3 w, Eight.e4 w, Eight.e5 w, Eight.e6 w, Eight.e7 w] % nat4 m)) ∧
  (((Four.w0 (onR (some (ringOf m)) fun r => wideR r w) ==
      Four.w0
        (R1.fourN
          (R1.wv [Eight.e0 w, Eight.e1 w, Eight.e2 w, Eight.e3 w, Eight.e4 w, Eight.e5 w, Eight.e6 w, Eight.e7 w] %
            nat4 m)) &&
    (Four.w1 (onR (some (ringOf m)) fun r => wideR r w) ==
        Four.w1
          (R1.fourN
            (R1.wv [Eight.e0 w, Eight.e1 w, Eight.e2 w, Eight.e3 w, Eight.e4 w, Eight.e5 w, Eight.e6 w, Eight.e7 w] %
              nat4 m)) &&
      (Four.w2 (onR (some (ringOf m)) fun r => wideR r w) ==
          Four.w2
            (R1.fourN
              (R1.wv [Eight.e0 w, Eight.e1 w, Eight.e2 w, Eight.e3 w, Eight.e4 w, Eight.e5 w, Eight.e6 w, Eight.e7 w] %
                nat4 m)) &&
        (Four.w3 (onR (some (ringOf m)) fun r => wideR r w) ==
            Four.w3
              (R1.fourN
                (R1.wv
                    [Eight.e0 w, Eight.e1 w, Eight.e2 w, Eight.e3 w, Eight.e4 w, Eight.e5 w, Eight.e6 w, Eight.e7 w] %
                  nat4 m)) &&
          true)))) =
  true) ∧
  (Q (SV.bool true)))))))))))))))))))) := by kernel_rfl
theorem vcReducesF (m a : Four) (w : Eight) (Q : SV → Prop) : LnRaw tt spR3F 9 dRed {} Try.f8 Q (m, a, w, ()) =
  ((goodM m = false) ∧
  ((goodM m = false) ∧
  (Q (SV.bool ((2 : Int) == (2 : Int)))))) := by kernel_rfl
def dNum : Dec := dT [(10, 8), (10, 15), (10, 28), (10, 42), (10, 55)]
theorem vcNumeralsT (m a b : Four) (Q : SV → Prop) : LnRaw tt spR3T 9 dNum {} Try.f9 Q (m, a, b, ()) =
  ((goodM m = true) ∧
  ((goodM m = true) ∧
  (((Fw (nat4 a)) ∧
   ((Fw (nat4 m)) ∧
   ((0 : Nat) < nat4 m))) ∧
  (((Fw (nat4 b)) ∧
   ((Fw (nat4 m)) ∧
   ((0 : Nat) < nat4 m))) ∧
  (((Fw (nat4 a)) ∧
   ((Fw (nat4 m)) ∧
   ((0 : Nat) < nat4 m))) ∧
  ((R1.Sm (nat4 a * (2 : Nat) ^ Int.toNat (256 : Int) % nat4 m)) ∧
  (((Four.w0 (onR (some (ringOf m)) fun r => timesR r a (RingV.two r)) ==
      Four.w0 (R1.fourN (nat4 a * (2 : Nat) ^ Int.toNat (256 : Int) % nat4 m)) &&
    (Four.w1 (onR (some (ringOf m)) fun r => timesR r a (RingV.two r)) ==
        Four.w1 (R1.fourN (nat4 a * (2 : Nat) ^ Int.toNat (256 : Int) % nat4 m)) &&
      (Four.w2 (onR (some (ringOf m)) fun r => timesR r a (RingV.two r)) ==
          Four.w2 (R1.fourN (nat4 a * (2 : Nat) ^ Int.toNat (256 : Int) % nat4 m)) &&
        (Four.w3 (onR (some (ringOf m)) fun r => timesR r a (RingV.two r)) ==
            Four.w3 (R1.fourN (nat4 a * (2 : Nat) ^ Int.toNat (256 : Int) % nat4 m)) &&
          true)))) =
  true) ∧
  ((R1.Sm (resN (nat4 m) (nat4 a))) ∧
  (((Four.w0 (onR (some (ringOf m)) fun r => timesR r a one4) == Four.w0 (R1.fourN (resN (nat4 m) (nat4 a))) &&
    (Four.w1 (onR (some (ringOf m)) fun r => timesR r a one4) == Four.w1 (R1.fourN (resN (nat4 m) (nat4 a))) &&
      (Four.w2 (onR (some (ringOf m)) fun r => timesR r a one4) == Four.w2 (R1.fourN (resN (nat4 m) (nat4 a))) &&
        (Four.w3 (onR (some (ringOf m)) fun r => timesR r a one4) == Four.w3 (R1.fourN (resN (nat4 m) (nat4 a))) &&
          true)))) =
  true) ∧
  (((R1.Sm (resN (nat4 m) (nat4 a))) ∧
   (R1.Sm (resN (nat4 m) (nat4 b)))) ∧
  (((Fw (resN (nat4 m) (nat4 a) + resN (nat4 m) (nat4 b))) ∧
   ((Fw (nat4 m)) ∧
   ((0 : Nat) < nat4 m))) ∧
  ((R1.Sm ((resN (nat4 m) (nat4 a) + resN (nat4 m) (nat4 b)) * (2 : Nat) ^ Int.toNat (256 : Int) % nat4 m)) ∧
  (((Four.w0 (onR (some (ringOf m)) fun r => plusR r a b) ==
      Four.w0
        (R1.fourN ((resN (nat4 m) (nat4 a) + resN (nat4 m) (nat4 b)) * (2 : Nat) ^ Int.toNat (256 : Int) % nat4 m)) &&
    (Four.w1 (onR (some (ringOf m)) fun r => plusR r a b) ==
        Four.w1
          (R1.fourN ((resN (nat4 m) (nat4 a) + resN (nat4 m) (nat4 b)) * (2 : Nat) ^ Int.toNat (256 : Int) % nat4 m)) &&
      (Four.w2 (onR (some (ringOf m)) fun r => plusR r a b) ==
          Four.w2
            (R1.fourN
              ((resN (nat4 m) (nat4 a) + resN (nat4 m) (nat4 b)) * (2 : Nat) ^ Int.toNat (256 : Int) % nat4 m)) &&
        (Four.w3 (onR (some (ringOf m)) fun r => plusR r a b) ==
            Four.w3
              (R1.fourN
                ((resN (nat4 m) (nat4 a) + resN (nat4 m) (nat4 b)) * (2 : Nat) ^ Int.toNat (256 : Int) % nat4 m)) &&
          true)))) =
  true) ∧
  (((Fw (resN (nat4 m) (nat4 a))) ∧
   ((Fw (resN (nat4 m) (nat4 b))) ∧
   ((Fw (nat4 m)) ∧
   (((0 : Nat) < nat4 m) ∧
   (resN (nat4 m) (nat4 b) ≤ resN (nat4 m) (nat4 a) + nat4 m))))) ∧
  (((Fw ((resN (nat4 m) (nat4 a) + nat4 m - resN (nat4 m) (nat4 b)) % nat4 m)) ∧
   ((Fw (nat4 m)) ∧
   ((0 : Nat) < nat4 m))) ∧
  ((R1.Sm ((resN (nat4 m) (nat4 a) + nat4 m - resN (nat4 m) (nat4 b)) % nat4 m * (2 : Nat) ^ Int.toNat (256 : Int) % nat4 m)) ∧
  (((Four.w0 (onR (some (ringOf m)) fun r => minusR r a b) ==
      Four.w0
        (R1.fourN
          ((resN (nat4 m) (nat4 a) + nat4 m - resN (nat4 m) (nat4 b)) % nat4 m * (2 : Nat) ^ Int.toNat (256 : Int) %
            nat4 m)) &&
    (Four.w1 (onR (some (ringOf m)) fun r => minusR r a b) ==
        Four.w1
          (R1.fourN
            ((resN (nat4 m) (nat4 a) + nat4 m - resN (nat4 m) (nat4 b)) % nat4 m * (2 : Nat) ^ Int.toNat (256 : Int) %
              nat4 m)) &&
      (Four.w2 (onR (some (ringOf m)) fun r => minusR r a b) ==
          Four.w2
            (R1.fourN
              ((resN (nat4 m) (nat4 a) + nat4 m - resN (nat4 m) (nat4 b)) % nat4 m * (2 : Nat) ^ Int.toNat (256 : Int) %
                nat4 m)) &&
        (Four.w3 (onR (some (ringOf m)) fun r => minusR r a b) ==
            Four.w3
              (R1.fourN
                ((resN (nat4 m) (nat4 a) + nat4 m - resN (nat4 m) (nat4 b)) % nat4 m *
                    (2 : Nat) ^ Int.toNat (256 : Int) %
                  nat4 m)) &&
          true)))) =
  true) ∧
  (((R1.Sm (resN (nat4 m) (nat4 a))) ∧
   (R1.Sm (resN (nat4 m) (nat4 b)))) ∧
  (((Fw (resN (nat4 m) (nat4 a) * resN (nat4 m) (nat4 b))) ∧
   ((Fw (nat4 m)) ∧
   ((0 : Nat) < nat4 m))) ∧
  ((R1.Sm (resN (nat4 m) (nat4 a) * resN (nat4 m) (nat4 b) * (2 : Nat) ^ Int.toNat (256 : Int) % nat4 m)) ∧
  (((Four.w0 (onR (some (ringOf m)) fun r => mulR r a b) ==
      Four.w0
        (R1.fourN (resN (nat4 m) (nat4 a) * resN (nat4 m) (nat4 b) * (2 : Nat) ^ Int.toNat (256 : Int) % nat4 m)) &&
    (Four.w1 (onR (some (ringOf m)) fun r => mulR r a b) ==
        Four.w1
          (R1.fourN (resN (nat4 m) (nat4 a) * resN (nat4 m) (nat4 b) * (2 : Nat) ^ Int.toNat (256 : Int) % nat4 m)) &&
      (Four.w2 (onR (some (ringOf m)) fun r => mulR r a b) ==
          Four.w2
            (R1.fourN (resN (nat4 m) (nat4 a) * resN (nat4 m) (nat4 b) * (2 : Nat) ^ Int.toNat (256 : Int) % nat4 m)) &&
        (Four.w3 (onR (some (ringOf m)) fun r => mulR r a b) ==
            Four.w3
              (R1.fourN
                (resN (nat4 m) (nat4 a) * resN (nat4 m) (nat4 b) * (2 : Nat) ^ Int.toNat (256 : Int) % nat4 m)) &&
          true)))) =
  true) ∧
  (Q (SV.bool true))))))))))))))))))))))) := by kernel_rfl
theorem vcNumeralsF (m a b : Four) (Q : SV → Prop) : LnRaw tt spR3F 9 dNum {} Try.f9 Q (m, a, b, ()) =
  ((goodM m = false) ∧
  (Q (SV.bool true))) := by kernel_rfl
end Go.Proofs.Ythechjccpljljaa
