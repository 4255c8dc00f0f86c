/- A symbolic machine for Go functions, and what the functions that the law reaches come to: LawP. -/
import Derived.Test.YthechjccpljljaaQ9
/- Layer 3's laws of powers: what their bodies come to. -/
set_option maxRecDepth 10000
namespace Go.Proofs.Ythechjccpljljaa
open Go.Sym Go.Dig

--STOP R1.Sm, limb_Add, limb_Sub, limb_Select, limb_Mul, limb_Cmp, Fw

def spRp : Specs := (58, sExpR) :: (60, sInvR) :: spRg
def spR5 : Specs := (43, sAwake3) :: (13, nOf) :: (59, nExp3) :: (61, nInv3) :: (52, nNumeral) :: (spRp ++ spH)
def spR5T : Specs := (44, sNewG) :: (45, sOddT) :: spR5
def spR5F : Specs := (44, sNewN) :: (45, sOddF) :: spR5
theorem vcPowersT (m a n : Four) (Q : SV → Prop) : LnRaw tt spR5T 9 (dT [(9, 16), (9, 31)]) {} Try.f10 Q (m, a, n, ()) =
  ((goodM m = true) ∧
  ((goodM m = true) ∧
  (((List.length (dg (nat4 a)) ≤ (536870912 : Nat)) ∧
   ((List.length (dg (nat4 m)) ≤ (536870912 : Nat)) ∧
   ((0 : Nat) < nat4 m))) ∧
  (((Fw (nat4 a % nat4 m)) ∧
   ((Fw (nat4 n)) ∧
   ((Fw (nat4 m)) ∧
   ((0 : Nat) < nat4 m)))) ∧
  (((Fw ((nat4 a % nat4 m) ^ nat4 n % nat4 m)) ∧
   ((Fw (nat4 m)) ∧
   ((0 : Nat) < nat4 m))) ∧
  ((R1.Sm ((nat4 a % nat4 m) ^ nat4 n % nat4 m * (2 : Nat) ^ Int.toNat (256 : Int) % nat4 m)) ∧
  (((Four.w0 (onR (some (ringOf m)) fun r => expR r (onR (some (ringOf m)) fun r => timesR r a (RingV.two r)) n) ==
      Four.w0 (R1.fourN ((nat4 a % nat4 m) ^ nat4 n % nat4 m * (2 : Nat) ^ Int.toNat (256 : Int) % nat4 m)) &&
    (Four.w1 (onR (some (ringOf m)) fun r => expR r (onR (some (ringOf m)) fun r => timesR r a (RingV.two r)) n) ==
        Four.w1 (R1.fourN ((nat4 a % nat4 m) ^ nat4 n % nat4 m * (2 : Nat) ^ Int.toNat (256 : Int) % nat4 m)) &&
      (Four.w2 (onR (some (ringOf m)) fun r => expR r (onR (some (ringOf m)) fun r => timesR r a (RingV.two r)) n) ==
          Four.w2 (R1.fourN ((nat4 a % nat4 m) ^ nat4 n % nat4 m * (2 : Nat) ^ Int.toNat (256 : Int) % nat4 m)) &&
        (Four.w3 (onR (some (ringOf m)) fun r => expR r (onR (some (ringOf m)) fun r => timesR r a (RingV.two r)) n) ==
            Four.w3 (R1.fourN ((nat4 a % nat4 m) ^ nat4 n % nat4 m * (2 : Nat) ^ Int.toNat (256 : Int) % nat4 m)) &&
          true)))) =
  true) ∧
  (((List.length (dg (nat4 a)) ≤ (536870912 : Nat)) ∧
   ((List.length (dg (nat4 m)) ≤ (536870912 : Nat)) ∧
   ((0 : Nat) < nat4 m))) ∧
  (((Fw (nat4 a % nat4 m)) ∧
   ((Fw (nat4 m)) ∧
   ((2 : Nat) ≤ nat4 m))) ∧
  (((Fw ((nat4 a % nat4 m) ^ (nat4 m - (2 : Nat)) % nat4 m)) ∧
   ((Fw (nat4 m)) ∧
   ((0 : Nat) < nat4 m))) ∧
  ((R1.Sm ((nat4 a % nat4 m) ^ (nat4 m - (2 : Nat)) % nat4 m * (2 : Nat) ^ Int.toNat (256 : Int) % nat4 m)) ∧
  (((Four.w0 (onR (some (ringOf m)) fun r => invR r (onR (some (ringOf m)) fun r => timesR r a (RingV.two r))) ==
      Four.w0
        (R1.fourN ((nat4 a % nat4 m) ^ (nat4 m - (2 : Nat)) % nat4 m * (2 : Nat) ^ Int.toNat (256 : Int) % nat4 m)) &&
    (Four.w1 (onR (some (ringOf m)) fun r => invR r (onR (some (ringOf m)) fun r => timesR r a (RingV.two r))) ==
        Four.w1
          (R1.fourN ((nat4 a % nat4 m) ^ (nat4 m - (2 : Nat)) % nat4 m * (2 : Nat) ^ Int.toNat (256 : Int) % nat4 m)) &&
      (Four.w2 (onR (some (ringOf m)) fun r => invR r (onR (some (ringOf m)) fun r => timesR r a (RingV.two r))) ==
          Four.w2
            (R1.fourN
              ((nat4 a % nat4 m) ^ (nat4 m - (2 : Nat)) % nat4 m * (2 : Nat) ^ Int.toNat (256 : Int) % nat4 m)) &&
        (Four.w3 (onR (some (ringOf m)) fun r => invR r (onR (some (ringOf m)) fun r => timesR r a (RingV.two r))) ==
            Four.w3
              (R1.fourN
                ((nat4 a % nat4 m) ^ (nat4 m - (2 : Nat)) % nat4 m * (2 : Nat) ^ Int.toNat (256 : Int) % nat4 m)) &&
          true)))) =
  true) ∧
  (Q (SV.bool true)))))))))))))) := by kernel_rfl
theorem vcPowersF (m a n : Four) (Q : SV → Prop) : LnRaw tt spR5F 9 (dT [(9, 16), (9, 31)]) {} Try.f10 Q (m, a, n, ()) =
  ((goodM m = false) ∧
  (Q (SV.bool true))) := by kernel_rfl
/-- Three numbers of four words. -/
structure Fours3 where
  x : Four
  y : Four
  z : Four
def Fours3.sv (a : Fours3) : SV := .agg [.u64 a.x.w0, .u64 a.x.w1, .u64 a.x.w2, .u64 a.x.w3, .u64 a.y.w0, .u64 a.y.w1, .u64 a.y.w2, .u64 a.y.w3, .u64 a.z.w0, .u64 a.z.w1, .u64 a.z.w2, .u64 a.z.w3]
def dFours3 : SV → Option Fours3
  | .agg [.u64 a, .u64 b, .u64 c, .u64 d, .u64 e, .u64 f, .u64 g, .u64 h, .u64 i, .u64 j, .u64 k, .u64 l] => some ⟨⟨a, b, c, d⟩, ⟨e, f, g, h⟩, ⟨i, j, k, l⟩⟩
  | _ => none
instance : Enc Fours3 where
  enc := Fours3.sv
  dec := dFours3
  ok := by
    intro s a h at_ w v r
    unfold dFours3 at h
    split at h
    · simp only [Option.some.injEq] at h; subst h; exact r
    · cases h
  nn _ := rfl
/-- Two words of 32 bits. -/
structure Two32 where
  x : UInt32
  y : UInt32
def Two32.sv (a : Two32) : SV := .agg [.u32 a.x, .u32 a.y]
def dTwo32 : SV → Option Two32
  | .agg [.u32 a, .u32 b] => some ⟨a, b⟩
  | _ => none
instance : Enc Two32 where
  enc := Two32.sv
  dec := dTwo32
  ok := by
    intro s a h at_ w v r
    unfold dTwo32 at h
    split at h
    · simp only [Option.some.injEq] at h; subst h; exact r
    · cases h
  nn _ := rfl
def dF (l : List (Nat × Nat)) : Dec := l.map fun p => (p.1, p.2, .b false)
def dBack3 : Dec := dF [(5, 3), (5, 10), (5, 18), (5, 28), (5, 36), (5, 43), (11, 7), (11, 17), (11, 28), (11, 39), (13, 17), (13, 33)] ++ dT [(17, 14), (17, 21), (17, 31)]
theorem vcBackT (m : Four) (l : Fours3) (n : Two32) (Q : SV → Prop) : LnRaw tt spR5T 9 dBack3 {} Try.f11 Q (m, l, n, ()) =
  (((!(Four.w0 (onR none fun r => RingV.m r) == UInt64.ofNat (Int.toNat (0 : Int)) &&
      (Four.w1 (onR none fun r => RingV.m r) == UInt64.ofNat (Int.toNat (0 : Int)) &&
        (Four.w2 (onR none fun r => RingV.m r) == UInt64.ofNat (Int.toNat (0 : Int)) &&
          (Four.w3 (onR none fun r => RingV.m r) == UInt64.ofNat (Int.toNat (0 : Int)) && true))))) =
  false) ∧
  (((!(Four.w0 (onR none fun r => redR r (Fours3.x l)) == UInt64.ofNat (Int.toNat (0 : Int)) &&
      (Four.w1 (onR none fun r => redR r (Fours3.x l)) == UInt64.ofNat (Int.toNat (0 : Int)) &&
        (Four.w2 (onR none fun r => redR r (Fours3.x l)) == UInt64.ofNat (Int.toNat (0 : Int)) &&
          (Four.w3 (onR none fun r => redR r (Fours3.x l)) == UInt64.ofNat (Int.toNat (0 : Int)) && true))))) =
  false) ∧
  (((!(Four.w0 (onR none fun r => timesR r (Fours3.x l) (RingV.two r)) == UInt64.ofNat (Int.toNat (0 : Int)) &&
      (Four.w1 (onR none fun r => timesR r (Fours3.x l) (RingV.two r)) == UInt64.ofNat (Int.toNat (0 : Int)) &&
        (Four.w2 (onR none fun r => timesR r (Fours3.x l) (RingV.two r)) == UInt64.ofNat (Int.toNat (0 : Int)) &&
          (Four.w3 (onR none fun r => timesR r (Fours3.x l) (RingV.two r)) == UInt64.ofNat (Int.toNat (0 : Int)) &&
            true))))) =
  false) ∧
  (((!(Four.w0 (onR none fun r => mulR r (Fours3.x l) (Fours3.y l)) == UInt64.ofNat (Int.toNat (0 : Int)) &&
      (Four.w1 (onR none fun r => mulR r (Fours3.x l) (Fours3.y l)) == UInt64.ofNat (Int.toNat (0 : Int)) &&
        (Four.w2 (onR none fun r => mulR r (Fours3.x l) (Fours3.y l)) == UInt64.ofNat (Int.toNat (0 : Int)) &&
          (Four.w3 (onR none fun r => mulR r (Fours3.x l) (Fours3.y l)) == UInt64.ofNat (Int.toNat (0 : Int)) &&
            true))))) =
  false) ∧
  (((!(Four.w0 (onR none fun r => invR r (Fours3.x l)) == UInt64.ofNat (Int.toNat (0 : Int)) &&
      (Four.w1 (onR none fun r => invR r (Fours3.x l)) == UInt64.ofNat (Int.toNat (0 : Int)) &&
        (Four.w2 (onR none fun r => invR r (Fours3.x l)) == UInt64.ofNat (Int.toNat (0 : Int)) &&
          (Four.w3 (onR none fun r => invR r (Fours3.x l)) == UInt64.ofNat (Int.toNat (0 : Int)) && true))))) =
  false) ∧
  (((!(Four.w0
          (onR none fun r =>
            wideR r
              (Eight.mk (UInt64.ofNat (Int.toNat (1 : Int))) (UInt64.ofNat (Int.toNat (0 : Int)))
                (UInt64.ofNat (Int.toNat (0 : Int))) (UInt64.ofNat (Int.toNat (0 : Int)))
                (UInt64.ofNat (Int.toNat (0 : Int))) (UInt64.ofNat (Int.toNat (0 : Int)))
                (UInt64.ofNat (Int.toNat (0 : Int))) (UInt64.ofNat (Int.toNat (0 : Int))))) ==
        UInt64.ofNat (Int.toNat (0 : Int)) &&
      (Four.w1
            (onR none fun r =>
              wideR r
                (Eight.mk (UInt64.ofNat (Int.toNat (1 : Int))) (UInt64.ofNat (Int.toNat (0 : Int)))
                  (UInt64.ofNat (Int.toNat (0 : Int))) (UInt64.ofNat (Int.toNat (0 : Int)))
                  (UInt64.ofNat (Int.toNat (0 : Int))) (UInt64.ofNat (Int.toNat (0 : Int)))
                  (UInt64.ofNat (Int.toNat (0 : Int))) (UInt64.ofNat (Int.toNat (0 : Int))))) ==
          UInt64.ofNat (Int.toNat (0 : Int)) &&
        (Four.w2
              (onR none fun r =>
                wideR r
                  (Eight.mk (UInt64.ofNat (Int.toNat (1 : Int))) (UInt64.ofNat (Int.toNat (0 : Int)))
                    (UInt64.ofNat (Int.toNat (0 : Int))) (UInt64.ofNat (Int.toNat (0 : Int)))
                    (UInt64.ofNat (Int.toNat (0 : Int))) (UInt64.ofNat (Int.toNat (0 : Int)))
                    (UInt64.ofNat (Int.toNat (0 : Int))) (UInt64.ofNat (Int.toNat (0 : Int))))) ==
            UInt64.ofNat (Int.toNat (0 : Int)) &&
          (Four.w3
                (onR none fun r =>
                  wideR r
                    (Eight.mk (UInt64.ofNat (Int.toNat (1 : Int))) (UInt64.ofNat (Int.toNat (0 : Int)))
                      (UInt64.ofNat (Int.toNat (0 : Int))) (UInt64.ofNat (Int.toNat (0 : Int)))
                      (UInt64.ofNat (Int.toNat (0 : Int))) (UInt64.ofNat (Int.toNat (0 : Int)))
                      (UInt64.ofNat (Int.toNat (0 : Int))) (UInt64.ofNat (Int.toNat (0 : Int))))) ==
              UInt64.ofNat (Int.toNat (0 : Int)) &&
            true))))) =
  false) ∧
  ((goodM m = true) ∧
  (((!(Four.w0
          (onR (some (ringOf m)) fun r =>
            timesR r (onR (some (ringOf m)) fun r => timesR r (Fours3.x l) (RingV.two r)) one4) ==
        Four.w0 (onR (some (ringOf m)) fun r => redR r (Fours3.x l)) &&
      (Four.w1
            (onR (some (ringOf m)) fun r =>
              timesR r (onR (some (ringOf m)) fun r => timesR r (Fours3.x l) (RingV.two r)) one4) ==
          Four.w1 (onR (some (ringOf m)) fun r => redR r (Fours3.x l)) &&
        (Four.w2
              (onR (some (ringOf m)) fun r =>
                timesR r (onR (some (ringOf m)) fun r => timesR r (Fours3.x l) (RingV.two r)) one4) ==
            Four.w2 (onR (some (ringOf m)) fun r => redR r (Fours3.x l)) &&
          (Four.w3
                (onR (some (ringOf m)) fun r =>
                  timesR r (onR (some (ringOf m)) fun r => timesR r (Fours3.x l) (RingV.two r)) one4) ==
              Four.w3 (onR (some (ringOf m)) fun r => redR r (Fours3.x l)) &&
            true))))) =
  false) ∧
  (((!(Four.w0
          (onR (some (ringOf m)) fun r =>
            plusR r (onR (some (ringOf m)) fun r => timesR r (Fours3.x l) (RingV.two r))
              (onR (some (ringOf m)) fun r => timesR r (Fours3.y l) (RingV.two r))) ==
        Four.w0
          (onR (some (ringOf m)) fun r =>
            plusR r (onR (some (ringOf m)) fun r => timesR r (Fours3.y l) (RingV.two r))
              (onR (some (ringOf m)) fun r => timesR r (Fours3.x l) (RingV.two r))) &&
      (Four.w1
            (onR (some (ringOf m)) fun r =>
              plusR r (onR (some (ringOf m)) fun r => timesR r (Fours3.x l) (RingV.two r))
                (onR (some (ringOf m)) fun r => timesR r (Fours3.y l) (RingV.two r))) ==
          Four.w1
            (onR (some (ringOf m)) fun r =>
              plusR r (onR (some (ringOf m)) fun r => timesR r (Fours3.y l) (RingV.two r))
                (onR (some (ringOf m)) fun r => timesR r (Fours3.x l) (RingV.two r))) &&
        (Four.w2
              (onR (some (ringOf m)) fun r =>
                plusR r (onR (some (ringOf m)) fun r => timesR r (Fours3.x l) (RingV.two r))
                  (onR (some (ringOf m)) fun r => timesR r (Fours3.y l) (RingV.two r))) ==
            Four.w2
              (onR (some (ringOf m)) fun r =>
                plusR r (onR (some (ringOf m)) fun r => timesR r (Fours3.y l) (RingV.two r))
                  (onR (some (ringOf m)) fun r => timesR r (Fours3.x l) (RingV.two r))) &&
          (Four.w3
                (onR (some (ringOf m)) fun r =>
                  plusR r (onR (some (ringOf m)) fun r => timesR r (Fours3.x l) (RingV.two r))
                    (onR (some (ringOf m)) fun r => timesR r (Fours3.y l) (RingV.two r))) ==
              Four.w3
                (onR (some (ringOf m)) fun r =>
                  plusR r (onR (some (ringOf m)) fun r => timesR r (Fours3.y l) (RingV.two r))
                    (onR (some (ringOf m)) fun r => timesR r (Fours3.x l) (RingV.two r))) &&
            true))))) =
  false) ∧
  (((!(Four.w0
          (onR (some (ringOf m)) fun r =>
            mulR r (onR (some (ringOf m)) fun r => timesR r (Fours3.x l) (RingV.two r))
              (onR (some (ringOf m)) fun r => timesR r (Fours3.y l) (RingV.two r))) ==
        Four.w0
          (onR (some (ringOf m)) fun r =>
            mulR r (onR (some (ringOf m)) fun r => timesR r (Fours3.y l) (RingV.two r))
              (onR (some (ringOf m)) fun r => timesR r (Fours3.x l) (RingV.two r))) &&
      (Four.w1
            (onR (some (ringOf m)) fun r =>
              mulR r (onR (some (ringOf m)) fun r => timesR r (Fours3.x l) (RingV.two r))
                (onR (some (ringOf m)) fun r => timesR r (Fours3.y l) (RingV.two r))) ==
          Four.w1
            (onR (some (ringOf m)) fun r =>
              mulR r (onR (some (ringOf m)) fun r => timesR r (Fours3.y l) (RingV.two r))
                (onR (some (ringOf m)) fun r => timesR r (Fours3.x l) (RingV.two r))) &&
        (Four.w2
              (onR (some (ringOf m)) fun r =>
                mulR r (onR (some (ringOf m)) fun r => timesR r (Fours3.x l) (RingV.two r))
                  (onR (some (ringOf m)) fun r => timesR r (Fours3.y l) (RingV.two r))) ==
            Four.w2
              (onR (some (ringOf m)) fun r =>
                mulR r (onR (some (ringOf m)) fun r => timesR r (Fours3.y l) (RingV.two r))
                  (onR (some (ringOf m)) fun r => timesR r (Fours3.x l) (RingV.two r))) &&
          (Four.w3
                (onR (some (ringOf m)) fun r =>
                  mulR r (onR (some (ringOf m)) fun r => timesR r (Fours3.x l) (RingV.two r))
                    (onR (some (ringOf m)) fun r => timesR r (Fours3.y l) (RingV.two r))) ==
              Four.w3
                (onR (some (ringOf m)) fun r =>
                  mulR r (onR (some (ringOf m)) fun r => timesR r (Fours3.y l) (RingV.two r))
                    (onR (some (ringOf m)) fun r => timesR r (Fours3.x l) (RingV.two r))) &&
            true))))) =
  false) ∧
  (((!(Four.w0
          (onR (some (ringOf m)) fun r =>
            minusR r
              (onR (some (ringOf m)) fun r =>
                plusR r (onR (some (ringOf m)) fun r => timesR r (Fours3.x l) (RingV.two r))
                  (onR (some (ringOf m)) fun r => timesR r (Fours3.y l) (RingV.two r)))
              (onR (some (ringOf m)) fun r => timesR r (Fours3.y l) (RingV.two r))) ==
        Four.w0 (onR (some (ringOf m)) fun r => timesR r (Fours3.x l) (RingV.two r)) &&
      (Four.w1
            (onR (some (ringOf m)) fun r =>
              minusR r
                (onR (some (ringOf m)) fun r =>
                  plusR r (onR (some (ringOf m)) fun r => timesR r (Fours3.x l) (RingV.two r))
                    (onR (some (ringOf m)) fun r => timesR r (Fours3.y l) (RingV.two r)))
                (onR (some (ringOf m)) fun r => timesR r (Fours3.y l) (RingV.two r))) ==
          Four.w1 (onR (some (ringOf m)) fun r => timesR r (Fours3.x l) (RingV.two r)) &&
        (Four.w2
              (onR (some (ringOf m)) fun r =>
                minusR r
                  (onR (some (ringOf m)) fun r =>
                    plusR r (onR (some (ringOf m)) fun r => timesR r (Fours3.x l) (RingV.two r))
                      (onR (some (ringOf m)) fun r => timesR r (Fours3.y l) (RingV.two r)))
                  (onR (some (ringOf m)) fun r => timesR r (Fours3.y l) (RingV.two r))) ==
            Four.w2 (onR (some (ringOf m)) fun r => timesR r (Fours3.x l) (RingV.two r)) &&
          (Four.w3
                (onR (some (ringOf m)) fun r =>
                  minusR r
                    (onR (some (ringOf m)) fun r =>
                      plusR r (onR (some (ringOf m)) fun r => timesR r (Fours3.x l) (RingV.two r))
                        (onR (some (ringOf m)) fun r => timesR r (Fours3.y l) (RingV.two r)))
                    (onR (some (ringOf m)) fun r => timesR r (Fours3.y l) (RingV.two r))) ==
              Four.w3 (onR (some (ringOf m)) fun r => timesR r (Fours3.x l) (RingV.two r)) &&
            true))))) =
  false) ∧
  (((!(Four.w0
          (onR (some (ringOf m)) fun r =>
            mulR r (onR (some (ringOf m)) fun r => timesR r (Fours3.x l) (RingV.two r))
              (onR (some (ringOf m)) fun r =>
                plusR r (onR (some (ringOf m)) fun r => timesR r (Fours3.y l) (RingV.two r))
                  (onR (some (ringOf m)) fun r => timesR r (Fours3.z l) (RingV.two r)))) ==
        Four.w0
          (onR (some (ringOf m)) fun r =>
            plusR r
              (onR (some (ringOf m)) fun r =>
                mulR r (onR (some (ringOf m)) fun r => timesR r (Fours3.x l) (RingV.two r))
                  (onR (some (ringOf m)) fun r => timesR r (Fours3.y l) (RingV.two r)))
              (onR (some (ringOf m)) fun r =>
                mulR r (onR (some (ringOf m)) fun r => timesR r (Fours3.x l) (RingV.two r))
                  (onR (some (ringOf m)) fun r => timesR r (Fours3.z l) (RingV.two r)))) &&
      (Four.w1
            (onR (some (ringOf m)) fun r =>
              mulR r (onR (some (ringOf m)) fun r => timesR r (Fours3.x l) (RingV.two r))
                (onR (some (ringOf m)) fun r =>
                  plusR r (onR (some (ringOf m)) fun r => timesR r (Fours3.y l) (RingV.two r))
                    (onR (some (ringOf m)) fun r => timesR r (Fours3.z l) (RingV.two r)))) ==
          Four.w1
            (onR (some (ringOf m)) fun r =>
              plusR r
                (onR (some (ringOf m)) fun r =>
                  mulR r (onR (some (ringOf m)) fun r => timesR r (Fours3.x l) (RingV.two r))
                    (onR (some (ringOf m)) fun r => timesR r (Fours3.y l) (RingV.two r)))
                (onR (some (ringOf m)) fun r =>
                  mulR r (onR (some (ringOf m)) fun r => timesR r (Fours3.x l) (RingV.two r))
                    (onR (some (ringOf m)) fun r => timesR r (Fours3.z l) (RingV.two r)))) &&
        (Four.w2
              (onR (some (ringOf m)) fun r =>
                mulR r (onR (some (ringOf m)) fun r => timesR r (Fours3.x l) (RingV.two r))
                  (onR (some (ringOf m)) fun r =>
                    plusR r (onR (some (ringOf m)) fun r => timesR r (Fours3.y l) (RingV.two r))
                      (onR (some (ringOf m)) fun r => timesR r (Fours3.z l) (RingV.two r)))) ==
            Four.w2
              (onR (some (ringOf m)) fun r =>
                plusR r
                  (onR (some (ringOf m)) fun r =>
                    mulR r (onR (some (ringOf m)) fun r => timesR r (Fours3.x l) (RingV.two r))
                      (onR (some (ringOf m)) fun r => timesR r (Fours3.y l) (RingV.two r)))
                  (onR (some (ringOf m)) fun r =>
                    mulR r (onR (some (ringOf m)) fun r => timesR r (Fours3.x l) (RingV.two r))
                      (onR (some (ringOf m)) fun r => timesR r (Fours3.z l) (RingV.two r)))) &&
          (Four.w3
                (onR (some (ringOf m)) fun r =>
                  mulR r (onR (some (ringOf m)) fun r => timesR r (Fours3.x l) (RingV.two r))
                    (onR (some (ringOf m)) fun r =>
                      plusR r (onR (some (ringOf m)) fun r => timesR r (Fours3.y l) (RingV.two r))
                        (onR (some (ringOf m)) fun r => timesR r (Fours3.z l) (RingV.two r)))) ==
              Four.w3
                (onR (some (ringOf m)) fun r =>
                  plusR r
                    (onR (some (ringOf m)) fun r =>
                      mulR r (onR (some (ringOf m)) fun r => timesR r (Fours3.x l) (RingV.two r))
                        (onR (some (ringOf m)) fun r => timesR r (Fours3.y l) (RingV.two r)))
                    (onR (some (ringOf m)) fun r =>
                      mulR r (onR (some (ringOf m)) fun r => timesR r (Fours3.x l) (RingV.two r))
                        (onR (some (ringOf m)) fun r => timesR r (Fours3.z l) (RingV.two r)))) &&
            true))))) =
  false) ∧
  (((!(Four.w0
          (onR (some (ringOf m)) fun r =>
            mulR r
              (onR (some (ringOf m)) fun r =>
                mulR r (onR (some (ringOf m)) fun r => timesR r (Fours3.x l) (RingV.two r))
                  (onR (some (ringOf m)) fun r => timesR r (Fours3.y l) (RingV.two r)))
              (onR (some (ringOf m)) fun r => timesR r (Fours3.z l) (RingV.two r))) ==
        Four.w0
          (onR (some (ringOf m)) fun r =>
            mulR r (onR (some (ringOf m)) fun r => timesR r (Fours3.x l) (RingV.two r))
              (onR (some (ringOf m)) fun r =>
                mulR r (onR (some (ringOf m)) fun r => timesR r (Fours3.y l) (RingV.two r))
                  (onR (some (ringOf m)) fun r => timesR r (Fours3.z l) (RingV.two r)))) &&
      (Four.w1
            (onR (some (ringOf m)) fun r =>
              mulR r
                (onR (some (ringOf m)) fun r =>
                  mulR r (onR (some (ringOf m)) fun r => timesR r (Fours3.x l) (RingV.two r))
                    (onR (some (ringOf m)) fun r => timesR r (Fours3.y l) (RingV.two r)))
                (onR (some (ringOf m)) fun r => timesR r (Fours3.z l) (RingV.two r))) ==
          Four.w1
            (onR (some (ringOf m)) fun r =>
              mulR r (onR (some (ringOf m)) fun r => timesR r (Fours3.x l) (RingV.two r))
                (onR (some (ringOf m)) fun r =>
                  mulR r (onR (some (ringOf m)) fun r => timesR r (Fours3.y l) (RingV.two r))
                    (onR (some (ringOf m)) fun r => timesR r (Fours3.z l) (RingV.two r)))) &&
        (Four.w2
              (onR (some (ringOf m)) fun r =>
                mulR r
                  (onR (some (ringOf m)) fun r =>
                    mulR r (onR (some (ringOf m)) fun r => timesR r (Fours3.x l) (RingV.two r))
                      (onR (some (ringOf m)) fun r => timesR r (Fours3.y l) (RingV.two r)))
                  (onR (some (ringOf m)) fun r => timesR r (Fours3.z l) (RingV.two r))) ==
            Four.w2
              (onR (some (ringOf m)) fun r =>
                mulR r (onR (some (ringOf m)) fun r => timesR r (Fours3.x l) (RingV.two r))
                  (onR (some (ringOf m)) fun r =>
                    mulR r (onR (some (ringOf m)) fun r => timesR r (Fours3.y l) (RingV.two r))
                      (onR (some (ringOf m)) fun r => timesR r (Fours3.z l) (RingV.two r)))) &&
          (Four.w3
                (onR (some (ringOf m)) fun r =>
                  mulR r
                    (onR (some (ringOf m)) fun r =>
                      mulR r (onR (some (ringOf m)) fun r => timesR r (Fours3.x l) (RingV.two r))
                        (onR (some (ringOf m)) fun r => timesR r (Fours3.y l) (RingV.two r)))
                    (onR (some (ringOf m)) fun r => timesR r (Fours3.z l) (RingV.two r))) ==
              Four.w3
                (onR (some (ringOf m)) fun r =>
                  mulR r (onR (some (ringOf m)) fun r => timesR r (Fours3.x l) (RingV.two r))
                    (onR (some (ringOf m)) fun r =>
                      mulR r (onR (some (ringOf m)) fun r => timesR r (Fours3.y l) (RingV.two r))
                        (onR (some (ringOf m)) fun r => timesR r (Fours3.z l) (RingV.two r)))) &&
            true))))) =
  false) ∧
  (((Four.w0
        (onR (some (ringOf m)) fun r =>
          mulR r
            (onR (some (ringOf m)) fun r =>
              expR r (onR (some (ringOf m)) fun r => timesR r (Fours3.x l) (RingV.two r))
                (Four.mk (UInt32.toUInt64 (Two32.x n)) (UInt64.ofNat (Int.toNat (0 : Int)))
                  (UInt64.ofNat (Int.toNat (0 : Int))) (UInt64.ofNat (Int.toNat (0 : Int)))))
            (onR (some (ringOf m)) fun r =>
              expR r (onR (some (ringOf m)) fun r => timesR r (Fours3.x l) (RingV.two r))
                (Four.mk (UInt32.toUInt64 (Two32.y n)) (UInt64.ofNat (Int.toNat (0 : Int)))
                  (UInt64.ofNat (Int.toNat (0 : Int))) (UInt64.ofNat (Int.toNat (0 : Int)))))) ==
      Four.w0
        (onR (some (ringOf m)) fun r =>
          expR r (onR (some (ringOf m)) fun r => timesR r (Fours3.x l) (RingV.two r))
            (Four.mk (UInt32.toUInt64 (Two32.x n) + UInt32.toUInt64 (Two32.y n)) (UInt64.ofNat (Int.toNat (0 : Int)))
              (UInt64.ofNat (Int.toNat (0 : Int))) (UInt64.ofNat (Int.toNat (0 : Int))))) &&
    (Four.w1
          (onR (some (ringOf m)) fun r =>
            mulR r
              (onR (some (ringOf m)) fun r =>
                expR r (onR (some (ringOf m)) fun r => timesR r (Fours3.x l) (RingV.two r))
                  (Four.mk (UInt32.toUInt64 (Two32.x n)) (UInt64.ofNat (Int.toNat (0 : Int)))
                    (UInt64.ofNat (Int.toNat (0 : Int))) (UInt64.ofNat (Int.toNat (0 : Int)))))
              (onR (some (ringOf m)) fun r =>
                expR r (onR (some (ringOf m)) fun r => timesR r (Fours3.x l) (RingV.two r))
                  (Four.mk (UInt32.toUInt64 (Two32.y n)) (UInt64.ofNat (Int.toNat (0 : Int)))
                    (UInt64.ofNat (Int.toNat (0 : Int))) (UInt64.ofNat (Int.toNat (0 : Int)))))) ==
        Four.w1
          (onR (some (ringOf m)) fun r =>
            expR r (onR (some (ringOf m)) fun r => timesR r (Fours3.x l) (RingV.two r))
              (Four.mk (UInt32.toUInt64 (Two32.x n) + UInt32.toUInt64 (Two32.y n)) (UInt64.ofNat (Int.toNat (0 : Int)))
                (UInt64.ofNat (Int.toNat (0 : Int))) (UInt64.ofNat (Int.toNat (0 : Int))))) &&
      (Four.w2
            (onR (some (ringOf m)) fun r =>
              mulR r
                (onR (some (ringOf m)) fun r =>
                  expR r (onR (some (ringOf m)) fun r => timesR r (Fours3.x l) (RingV.two r))
                    (Four.mk (UInt32.toUInt64 (Two32.x n)) (UInt64.ofNat (Int.toNat (0 : Int)))
                      (UInt64.ofNat (Int.toNat (0 : Int))) (UInt64.ofNat (Int.toNat (0 : Int)))))
                (onR (some (ringOf m)) fun r =>
                  expR r (onR (some (ringOf m)) fun r => timesR r (Fours3.x l) (RingV.two r))
                    (Four.mk (UInt32.toUInt64 (Two32.y n)) (UInt64.ofNat (Int.toNat (0 : Int)))
                      (UInt64.ofNat (Int.toNat (0 : Int))) (UInt64.ofNat (Int.toNat (0 : Int)))))) ==
          Four.w2
            (onR (some (ringOf m)) fun r =>
              expR r (onR (some (ringOf m)) fun r => timesR r (Fours3.x l) (RingV.two r))
                (Four.mk (UInt32.toUInt64 (Two32.x n) + UInt32.toUInt64 (Two32.y n))
                  (UInt64.ofNat (Int.toNat (0 : Int))) (UInt64.ofNat (Int.toNat (0 : Int)))
                  (UInt64.ofNat (Int.toNat (0 : Int))))) &&
        (Four.w3
              (onR (some (ringOf m)) fun r =>
                mulR r
                  (onR (some (ringOf m)) fun r =>
                    expR r (onR (some (ringOf m)) fun r => timesR r (Fours3.x l) (RingV.two r))
                      (Four.mk (UInt32.toUInt64 (Two32.x n)) (UInt64.ofNat (Int.toNat (0 : Int)))
                        (UInt64.ofNat (Int.toNat (0 : Int))) (UInt64.ofNat (Int.toNat (0 : Int)))))
                  (onR (some (ringOf m)) fun r =>
                    expR r (onR (some (ringOf m)) fun r => timesR r (Fours3.x l) (RingV.two r))
                      (Four.mk (UInt32.toUInt64 (Two32.y n)) (UInt64.ofNat (Int.toNat (0 : Int)))
                        (UInt64.ofNat (Int.toNat (0 : Int))) (UInt64.ofNat (Int.toNat (0 : Int)))))) ==
            Four.w3
              (onR (some (ringOf m)) fun r =>
                expR r (onR (some (ringOf m)) fun r => timesR r (Fours3.x l) (RingV.two r))
                  (Four.mk (UInt32.toUInt64 (Two32.x n) + UInt32.toUInt64 (Two32.y n))
                    (UInt64.ofNat (Int.toNat (0 : Int))) (UInt64.ofNat (Int.toNat (0 : Int)))
                    (UInt64.ofNat (Int.toNat (0 : Int))))) &&
          true)))) =
  true) ∧
  (((Four.w0
        (onR (some (ringOf m)) fun r =>
          expR r (onR (some (ringOf m)) fun r => timesR r (Fours3.x l) (RingV.two r))
            (Four.mk (UInt64.ofNat (Int.toNat (1 : Int))) (UInt64.ofNat (Int.toNat (0 : Int)))
              (UInt64.ofNat (Int.toNat (0 : Int))) (UInt64.ofNat (Int.toNat (0 : Int))))) ==
      Four.w0 (onR (some (ringOf m)) fun r => timesR r (Fours3.x l) (RingV.two r)) &&
    (Four.w1
          (onR (some (ringOf m)) fun r =>
            expR r (onR (some (ringOf m)) fun r => timesR r (Fours3.x l) (RingV.two r))
              (Four.mk (UInt64.ofNat (Int.toNat (1 : Int))) (UInt64.ofNat (Int.toNat (0 : Int)))
                (UInt64.ofNat (Int.toNat (0 : Int))) (UInt64.ofNat (Int.toNat (0 : Int))))) ==
        Four.w1 (onR (some (ringOf m)) fun r => timesR r (Fours3.x l) (RingV.two r)) &&
      (Four.w2
            (onR (some (ringOf m)) fun r =>
              expR r (onR (some (ringOf m)) fun r => timesR r (Fours3.x l) (RingV.two r))
                (Four.mk (UInt64.ofNat (Int.toNat (1 : Int))) (UInt64.ofNat (Int.toNat (0 : Int)))
                  (UInt64.ofNat (Int.toNat (0 : Int))) (UInt64.ofNat (Int.toNat (0 : Int))))) ==
          Four.w2 (onR (some (ringOf m)) fun r => timesR r (Fours3.x l) (RingV.two r)) &&
        (Four.w3
              (onR (some (ringOf m)) fun r =>
                expR r (onR (some (ringOf m)) fun r => timesR r (Fours3.x l) (RingV.two r))
                  (Four.mk (UInt64.ofNat (Int.toNat (1 : Int))) (UInt64.ofNat (Int.toNat (0 : Int)))
                    (UInt64.ofNat (Int.toNat (0 : Int))) (UInt64.ofNat (Int.toNat (0 : Int))))) ==
            Four.w3 (onR (some (ringOf m)) fun r => timesR r (Fours3.x l) (RingV.two r)) &&
          true)))) =
  true) ∧
  (((Four.w0
        (onR (some (ringOf m)) fun r =>
          expR r (onR (some (ringOf m)) fun r => timesR r (Fours3.x l) (RingV.two r))
            (Four.mk (UInt64.ofNat (Int.toNat (0 : Int))) (UInt64.ofNat (Int.toNat (0 : Int)))
              (UInt64.ofNat (Int.toNat (0 : Int))) (UInt64.ofNat (Int.toNat (0 : Int))))) ==
      Four.w0
        (onR (some (ringOf m)) fun r =>
          timesR r
            (Four.mk (UInt64.ofNat (Int.toNat (1 : Int))) (UInt64.ofNat (Int.toNat (0 : Int)))
              (UInt64.ofNat (Int.toNat (0 : Int))) (UInt64.ofNat (Int.toNat (0 : Int))))
            (RingV.two r)) &&
    (Four.w1
          (onR (some (ringOf m)) fun r =>
            expR r (onR (some (ringOf m)) fun r => timesR r (Fours3.x l) (RingV.two r))
              (Four.mk (UInt64.ofNat (Int.toNat (0 : Int))) (UInt64.ofNat (Int.toNat (0 : Int)))
                (UInt64.ofNat (Int.toNat (0 : Int))) (UInt64.ofNat (Int.toNat (0 : Int))))) ==
        Four.w1
          (onR (some (ringOf m)) fun r =>
            timesR r
              (Four.mk (UInt64.ofNat (Int.toNat (1 : Int))) (UInt64.ofNat (Int.toNat (0 : Int)))
                (UInt64.ofNat (Int.toNat (0 : Int))) (UInt64.ofNat (Int.toNat (0 : Int))))
              (RingV.two r)) &&
      (Four.w2
            (onR (some (ringOf m)) fun r =>
              expR r (onR (some (ringOf m)) fun r => timesR r (Fours3.x l) (RingV.two r))
                (Four.mk (UInt64.ofNat (Int.toNat (0 : Int))) (UInt64.ofNat (Int.toNat (0 : Int)))
                  (UInt64.ofNat (Int.toNat (0 : Int))) (UInt64.ofNat (Int.toNat (0 : Int))))) ==
          Four.w2
            (onR (some (ringOf m)) fun r =>
              timesR r
                (Four.mk (UInt64.ofNat (Int.toNat (1 : Int))) (UInt64.ofNat (Int.toNat (0 : Int)))
                  (UInt64.ofNat (Int.toNat (0 : Int))) (UInt64.ofNat (Int.toNat (0 : Int))))
                (RingV.two r)) &&
        (Four.w3
              (onR (some (ringOf m)) fun r =>
                expR r (onR (some (ringOf m)) fun r => timesR r (Fours3.x l) (RingV.two r))
                  (Four.mk (UInt64.ofNat (Int.toNat (0 : Int))) (UInt64.ofNat (Int.toNat (0 : Int)))
                    (UInt64.ofNat (Int.toNat (0 : Int))) (UInt64.ofNat (Int.toNat (0 : Int))))) ==
            Four.w3
              (onR (some (ringOf m)) fun r =>
                timesR r
                  (Four.mk (UInt64.ofNat (Int.toNat (1 : Int))) (UInt64.ofNat (Int.toNat (0 : Int)))
                    (UInt64.ofNat (Int.toNat (0 : Int))) (UInt64.ofNat (Int.toNat (0 : Int))))
                  (RingV.two r)) &&
          true)))) =
  true) ∧
  (Q (SV.bool true)))))))))))))))))) := by kernel_rfl
theorem vcBackF (m : Four) (l : Fours3) (n : Two32) (Q : SV → Prop) : LnRaw tt spR5F 9 dBack3 {} Try.f11 Q (m, l, n, ()) =
  (((!(Four.w0 (onR none fun r => RingV.m r) == UInt64.ofNat (Int.toNat (0 : Int)) &&
      (Four.w1 (onR none fun r => RingV.m r) == UInt64.ofNat (Int.toNat (0 : Int)) &&
        (Four.w2 (onR none fun r => RingV.m r) == UInt64.ofNat (Int.toNat (0 : Int)) &&
          (Four.w3 (onR none fun r => RingV.m r) == UInt64.ofNat (Int.toNat (0 : Int)) && true))))) =
  false) ∧
  (((!(Four.w0 (onR none fun r => redR r (Fours3.x l)) == UInt64.ofNat (Int.toNat (0 : Int)) &&
      (Four.w1 (onR none fun r => redR r (Fours3.x l)) == UInt64.ofNat (Int.toNat (0 : Int)) &&
        (Four.w2 (onR none fun r => redR r (Fours3.x l)) == UInt64.ofNat (Int.toNat (0 : Int)) &&
          (Four.w3 (onR none fun r => redR r (Fours3.x l)) == UInt64.ofNat (Int.toNat (0 : Int)) && true))))) =
  false) ∧
  (((!(Four.w0 (onR none fun r => timesR r (Fours3.x l) (RingV.two r)) == UInt64.ofNat (Int.toNat (0 : Int)) &&
      (Four.w1 (onR none fun r => timesR r (Fours3.x l) (RingV.two r)) == UInt64.ofNat (Int.toNat (0 : Int)) &&
        (Four.w2 (onR none fun r => timesR r (Fours3.x l) (RingV.two r)) == UInt64.ofNat (Int.toNat (0 : Int)) &&
          (Four.w3 (onR none fun r => timesR r (Fours3.x l) (RingV.two r)) == UInt64.ofNat (Int.toNat (0 : Int)) &&
            true))))) =
  false) ∧
  (((!(Four.w0 (onR none fun r => mulR r (Fours3.x l) (Fours3.y l)) == UInt64.ofNat (Int.toNat (0 : Int)) &&
      (Four.w1 (onR none fun r => mulR r (Fours3.x l) (Fours3.y l)) == UInt64.ofNat (Int.toNat (0 : Int)) &&
        (Four.w2 (onR none fun r => mulR r (Fours3.x l) (Fours3.y l)) == UInt64.ofNat (Int.toNat (0 : Int)) &&
          (Four.w3 (onR none fun r => mulR r (Fours3.x l) (Fours3.y l)) == UInt64.ofNat (Int.toNat (0 : Int)) &&
            true))))) =
  false) ∧
  (((!(Four.w0 (onR none fun r => invR r (Fours3.x l)) == UInt64.ofNat (Int.toNat (0 : Int)) &&
      (Four.w1 (onR none fun r => invR r (Fours3.x l)) == UInt64.ofNat (Int.toNat (0 : Int)) &&
        (Four.w2 (onR none fun r => invR r (Fours3.x l)) == UInt64.ofNat (Int.toNat (0 : Int)) &&
          (Four.w3 (onR none fun r => invR r (Fours3.x l)) == UInt64.ofNat (Int.toNat (0 : Int)) && true))))) =
  false) ∧
  (((!(Four.w0
          (onR none fun r =>
            wideR r
              (Eight.mk (UInt64.ofNat (Int.toNat (1 : Int))) (UInt64.ofNat (Int.toNat (0 : Int)))
                (UInt64.ofNat (Int.toNat (0 : Int))) (UInt64.ofNat (Int.toNat (0 : Int)))
                (UInt64.ofNat (Int.toNat (0 : Int))) (UInt64.ofNat (Int.toNat (0 : Int)))
                (UInt64.ofNat (Int.toNat (0 : Int))) (UInt64.ofNat (Int.toNat (0 : Int))))) ==
        UInt64.ofNat (Int.toNat (0 : Int)) &&
      (Four.w1
            (onR none fun r =>
              wideR r
                (Eight.mk (UInt64.ofNat (Int.toNat (1 : Int))) (UInt64.ofNat (Int.toNat (0 : Int)))
                  (UInt64.ofNat (Int.toNat (0 : Int))) (UInt64.ofNat (Int.toNat (0 : Int)))
                  (UInt64.ofNat (Int.toNat (0 : Int))) (UInt64.ofNat (Int.toNat (0 : Int)))
                  (UInt64.ofNat (Int.toNat (0 : Int))) (UInt64.ofNat (Int.toNat (0 : Int))))) ==
          UInt64.ofNat (Int.toNat (0 : Int)) &&
        (Four.w2
              (onR none fun r =>
                wideR r
                  (Eight.mk (UInt64.ofNat (Int.toNat (1 : Int))) (UInt64.ofNat (Int.toNat (0 : Int)))
                    (UInt64.ofNat (Int.toNat (0 : Int))) (UInt64.ofNat (Int.toNat (0 : Int)))
                    (UInt64.ofNat (Int.toNat (0 : Int))) (UInt64.ofNat (Int.toNat (0 : Int)))
                    (UInt64.ofNat (Int.toNat (0 : Int))) (UInt64.ofNat (Int.toNat (0 : Int))))) ==
            UInt64.ofNat (Int.toNat (0 : Int)) &&
          (Four.w3
                (onR none fun r =>
                  wideR r
                    (Eight.mk (UInt64.ofNat (Int.toNat (1 : Int))) (UInt64.ofNat (Int.toNat (0 : Int)))
                      (UInt64.ofNat (Int.toNat (0 : Int))) (UInt64.ofNat (Int.toNat (0 : Int)))
                      (UInt64.ofNat (Int.toNat (0 : Int))) (UInt64.ofNat (Int.toNat (0 : Int)))
                      (UInt64.ofNat (Int.toNat (0 : Int))) (UInt64.ofNat (Int.toNat (0 : Int))))) ==
              UInt64.ofNat (Int.toNat (0 : Int)) &&
            true))))) =
  false) ∧
  ((goodM m = false) ∧
  ((goodM m = false) ∧
  (Q (SV.bool true)))))))))) := by kernel_rfl
end Go.Proofs.Ythechjccpljljaa
