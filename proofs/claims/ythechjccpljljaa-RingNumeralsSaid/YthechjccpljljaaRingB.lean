/- Package ring: what its functions come to: products, residues. -/
import Derived.Test.YthechjccpljljaaRingA
namespace Go.Proofs.Ythechjccpljljaa
open Go.Sym Go.Dig

--STOP R1.Sm, limb_Add, limb_Sub, limb_Select, limb_Mul, limb_Cmp

def ringOf (m : Four) : RingV := ⟨m, 0 - newt m.w0 6, dblN m 256, dblN m 512⟩
/-- May it be a modulus? -/
def goodM (m : Four) : Bool := !((m.w0 &&& 1) == 0) && !(eq4 m ⟨1, 0, 0, 0⟩)
def sNewG : SpecF := fspec (α := Four × Unit) (β := Option RingV × Int × Unit) (fun a => some (goodM a.1 = true)) (fun a => (some (ringOf a.1), 0, ()))
def sNewN : SpecF := fspec (α := Four × Unit) (β := Option RingV × Int × Unit) (fun a => some (goodM a.1 = false)) (fun _ => (none, 2, ()))

def redHi (t c over : UInt64) : UInt64 := addHi t c over
def shr1 (k : UInt64) (m : Four) (t : Eight) : Row := mulRow (t.e0 * k) m t.e0 t.e1 t.e2 t.e3
def shr2 (k : UInt64) (m : Four) (t : Eight) (r : Row) : Row := mulRow (r.r1 * k) m r.r1 r.r2 r.r3 (addLo t.e4 r.c 0)
def shr3 (k : UInt64) (m : Four) (t : Eight) (o : UInt64) (s : Row) : Row := mulRow (s.r1 * k) m s.r1 s.r2 s.r3 (addLo t.e5 s.c o)
def shr4 (k : UInt64) (m : Four) (t : Eight) (o : UInt64) (u : Row) : Row := mulRow (u.r1 * k) m u.r1 u.r2 u.r3 (addLo t.e6 u.c o)
structure ShrV where
  o1 : UInt64
  o2 : UInt64
  o3 : UInt64
  o4 : UInt64
  high : Four
def shrV (k : UInt64) (m : Four) (t : Eight) : ShrV :=
  let r := shr1 k m t
  let o1 := addHi t.e4 r.c 0
  let s := shr2 k m t r
  let o2 := addHi t.e5 s.c o1
  let u := shr3 k m t o1 s
  let o3 := addHi t.e6 u.c o2
  let v := shr4 k m t o2 u
  ⟨o1, o2, o3, addHi t.e7 v.c o3, ⟨v.r1, v.r2, v.r3, addLo t.e7 v.c o3⟩⟩
def shrinkF (k : UInt64) (m : Four) (t : Eight) : Four :=
  limb_Select ((shrV k m t).o4 ||| ((limb_Sub (shrV k m t).high m).2 ^^^ 1)) (limb_Sub (shrV k m t).high m).1 (shrV k m t).high
def spG4 : Specs := (70, sMul64) :: (62, specAdd64) :: spL0
abbrev sShrink : SpecF := fspec (α := RingV × Eight × Unit) total (fun a => shrinkF a.1.back a.1.m a.2.1)
def timesR (r : RingV) (a b : Four) : Four := shrinkF r.back r.m (limb_Mul a b)
def sTimesR : SpecF := fspec (α := RingV × Four × Four × Unit) total (fun a => timesR a.1 a.2.1 a.2.2.1)
theorem vcTimesR (r : RingV) (a b : Four) (Q : SV → Prop) : LnRaw tt ((82, sShrink) :: spL0) 3 [] {} Try.f74 Q (r, a, b, ()) =
  (Q
  (SV.agg
    [SV.u64 (Four.w0 (shrinkF (RingV.back r) (RingV.m r) (limb_Mul a b))),
      SV.u64 (Four.w1 (shrinkF (RingV.back r) (RingV.m r) (limb_Mul a b))),
      SV.u64 (Four.w2 (shrinkF (RingV.back r) (RingV.m r) (limb_Mul a b))),
      SV.u64 (Four.w3 (shrinkF (RingV.back r) (RingV.m r) (limb_Mul a b)))])) := by kernel_rfl
def isR : Option RingV → Bool
  | some r => (r.m.w0 &&& 1) == 1
  | none => false
def sIsR : SpecF := fspec (α := Option RingV × Unit) total (fun a => isR a.1)
theorem vcIsA (r : RingV) (Q : SV → Prop) : LnRaw tt [] 3 [] {} Try.f73 Q (some r, ()) =
  (Q (SV.bool (Four.w0 (RingV.m r) &&& UInt64.ofNat (Int.toNat (1 : Int)) == UInt64.ofNat (Int.toNat (1 : Int))))) := by kernel_rfl
theorem vcIsB (Q : SV → Prop) : LnRaw tt [] 3 [] {} Try.f73 Q ((none : Option RingV), ()) =
  (Q (SV.bool false)) := by kernel_rfl
def spG5 : Specs := (73, sIsR) :: (74, sTimesR) :: spG3
def onR (r : Option RingV) (f : RingV → Four) : Four :=
  match r with
  | some r => if isR (some r) = true then f r else zero4
  | none => zero4
def one4 : Four := ⟨1, 0, 0, 0⟩
def redR (r : RingV) (a : Four) : Four := timesR r (timesR r a r.two) one4
abbrev AR1 := Option RingV × Four × Unit
abbrev AR2 := Option RingV × Four × Four × Unit
def sModulus : SpecF := fspec (α := Option RingV × Unit) total (fun a => onR a.1 fun r => r.m)
def sReduce : SpecF := fspec (α := AR1) total (fun a => onR a.1 fun r => redR r a.2.1)
def sIn : SpecF := fspec (α := AR1) total (fun a => onR a.1 fun r => timesR r a.2.1 r.two)
def sOut : SpecF := fspec (α := AR1) total (fun a => onR a.1 fun r => timesR r a.2.1 one4)
theorem vcModulusA (r : RingV) (Q : SV → Prop) : LnRaw tt spG5 3 [] {} Try.f46 Q (some r, ()) =
  bcase (!isR (some r))
    ((Q
  (SV.agg
    [SV.u64 (UInt64.ofNat (Int.toNat (0 : Int))), SV.u64 (UInt64.ofNat (Int.toNat (0 : Int))),
      SV.u64 (UInt64.ofNat (Int.toNat (0 : Int))), SV.u64 (UInt64.ofNat (Int.toNat (0 : Int)))])))
    ((Q
  (SV.agg
    [SV.u64 (Four.w0 (RingV.m r)), SV.u64 (Four.w1 (RingV.m r)), SV.u64 (Four.w2 (RingV.m r)),
      SV.u64 (Four.w3 (RingV.m r))]))) := by kernel_rfl
theorem vcModulusB (Q : SV → Prop) : LnRaw tt spG5 3 [] {} Try.f46 Q ((none : Option RingV), ()) =
  (Q
  (SV.agg
    [SV.u64 (UInt64.ofNat (Int.toNat (0 : Int))), SV.u64 (UInt64.ofNat (Int.toNat (0 : Int))),
      SV.u64 (UInt64.ofNat (Int.toNat (0 : Int))), SV.u64 (UInt64.ofNat (Int.toNat (0 : Int)))])) := by kernel_rfl
theorem vcReduceA (r : RingV) (a : Four) (Q : SV → Prop) : LnRaw tt spG5 3 [] {} Try.f47 Q (some r, a, ()) =
  bcase (!isR (some r))
    ((Q
  (SV.agg
    [SV.u64 (UInt64.ofNat (Int.toNat (0 : Int))), SV.u64 (UInt64.ofNat (Int.toNat (0 : Int))),
      SV.u64 (UInt64.ofNat (Int.toNat (0 : Int))), SV.u64 (UInt64.ofNat (Int.toNat (0 : Int)))])))
    ((Q
  (SV.agg
    [SV.u64
        (Four.w0
          (timesR r (timesR r a (RingV.two r))
            (Four.mk (UInt64.ofNat (Int.toNat (1 : Int))) (UInt64.ofNat (Int.toNat (0 : Int)))
              (UInt64.ofNat (Int.toNat (0 : Int))) (UInt64.ofNat (Int.toNat (0 : Int)))))),
      SV.u64
        (Four.w1
          (timesR r (timesR r a (RingV.two r))
            (Four.mk (UInt64.ofNat (Int.toNat (1 : Int))) (UInt64.ofNat (Int.toNat (0 : Int)))
              (UInt64.ofNat (Int.toNat (0 : Int))) (UInt64.ofNat (Int.toNat (0 : Int)))))),
      SV.u64
        (Four.w2
          (timesR r (timesR r a (RingV.two r))
            (Four.mk (UInt64.ofNat (Int.toNat (1 : Int))) (UInt64.ofNat (Int.toNat (0 : Int)))
              (UInt64.ofNat (Int.toNat (0 : Int))) (UInt64.ofNat (Int.toNat (0 : Int)))))),
      SV.u64
        (Four.w3
          (timesR r (timesR r a (RingV.two r))
            (Four.mk (UInt64.ofNat (Int.toNat (1 : Int))) (UInt64.ofNat (Int.toNat (0 : Int)))
              (UInt64.ofNat (Int.toNat (0 : Int))) (UInt64.ofNat (Int.toNat (0 : Int))))))]))) := by kernel_rfl
theorem vcReduceB (a : Four) (Q : SV → Prop) : LnRaw tt spG5 3 [] {} Try.f47 Q ((none : Option RingV), a, ()) =
  (Q
  (SV.agg
    [SV.u64 (UInt64.ofNat (Int.toNat (0 : Int))), SV.u64 (UInt64.ofNat (Int.toNat (0 : Int))),
      SV.u64 (UInt64.ofNat (Int.toNat (0 : Int))), SV.u64 (UInt64.ofNat (Int.toNat (0 : Int)))])) := by kernel_rfl
theorem vcInA (r : RingV) (a : Four) (Q : SV → Prop) : LnRaw tt spG5 3 [] {} Try.f51 Q (some r, a, ()) =
  bcase (!isR (some r))
    ((Q
  (SV.agg
    [SV.u64 (UInt64.ofNat (Int.toNat (0 : Int))), SV.u64 (UInt64.ofNat (Int.toNat (0 : Int))),
      SV.u64 (UInt64.ofNat (Int.toNat (0 : Int))), SV.u64 (UInt64.ofNat (Int.toNat (0 : Int)))])))
    ((Q
  (SV.agg
    [SV.u64 (Four.w0 (timesR r a (RingV.two r))), SV.u64 (Four.w1 (timesR r a (RingV.two r))),
      SV.u64 (Four.w2 (timesR r a (RingV.two r))), SV.u64 (Four.w3 (timesR r a (RingV.two r)))]))) := by kernel_rfl
theorem vcInB (a : Four) (Q : SV → Prop) : LnRaw tt spG5 3 [] {} Try.f51 Q ((none : Option RingV), a, ()) =
  (Q
  (SV.agg
    [SV.u64 (UInt64.ofNat (Int.toNat (0 : Int))), SV.u64 (UInt64.ofNat (Int.toNat (0 : Int))),
      SV.u64 (UInt64.ofNat (Int.toNat (0 : Int))), SV.u64 (UInt64.ofNat (Int.toNat (0 : Int)))])) := by kernel_rfl
theorem vcOutA (r : RingV) (a : Four) (Q : SV → Prop) : LnRaw tt spG5 3 [] {} Try.f53 Q (some r, a, ()) =
  bcase (!isR (some r))
    ((Q
  (SV.agg
    [SV.u64 (UInt64.ofNat (Int.toNat (0 : Int))), SV.u64 (UInt64.ofNat (Int.toNat (0 : Int))),
      SV.u64 (UInt64.ofNat (Int.toNat (0 : Int))), SV.u64 (UInt64.ofNat (Int.toNat (0 : Int)))])))
    ((Q
  (SV.agg
    [SV.u64
        (Four.w0
          (timesR r a
            (Four.mk (UInt64.ofNat (Int.toNat (1 : Int))) (UInt64.ofNat (Int.toNat (0 : Int)))
              (UInt64.ofNat (Int.toNat (0 : Int))) (UInt64.ofNat (Int.toNat (0 : Int)))))),
      SV.u64
        (Four.w1
          (timesR r a
            (Four.mk (UInt64.ofNat (Int.toNat (1 : Int))) (UInt64.ofNat (Int.toNat (0 : Int)))
              (UInt64.ofNat (Int.toNat (0 : Int))) (UInt64.ofNat (Int.toNat (0 : Int)))))),
      SV.u64
        (Four.w2
          (timesR r a
            (Four.mk (UInt64.ofNat (Int.toNat (1 : Int))) (UInt64.ofNat (Int.toNat (0 : Int)))
              (UInt64.ofNat (Int.toNat (0 : Int))) (UInt64.ofNat (Int.toNat (0 : Int)))))),
      SV.u64
        (Four.w3
          (timesR r a
            (Four.mk (UInt64.ofNat (Int.toNat (1 : Int))) (UInt64.ofNat (Int.toNat (0 : Int)))
              (UInt64.ofNat (Int.toNat (0 : Int))) (UInt64.ofNat (Int.toNat (0 : Int))))))]))) := by kernel_rfl
theorem vcOutB (a : Four) (Q : SV → Prop) : LnRaw tt spG5 3 [] {} Try.f53 Q ((none : Option RingV), a, ()) =
  (Q
  (SV.agg
    [SV.u64 (UInt64.ofNat (Int.toNat (0 : Int))), SV.u64 (UInt64.ofNat (Int.toNat (0 : Int))),
      SV.u64 (UInt64.ofNat (Int.toNat (0 : Int))), SV.u64 (UInt64.ofNat (Int.toNat (0 : Int)))])) := by kernel_rfl
def resR (r : RingV) (a : Four) : Four := if limb_Cmp a r.m < 0 then a else onR (some r) fun r => redR r a
def sResidueR : SpecF := fspec (α := RingV × Four × Unit) total (fun a => resR a.1 a.2.1)
def spG6 : Specs := (47, sReduce) :: spG5
theorem vcResidueR (r : RingV) (a : Four) (Q : SV → Prop) : LnRaw tt spG6 3 [] {} Try.f78 Q (r, a, ()) =
  bcase (decide (limb_Cmp a (RingV.m r) < (0 : Int)))
    ((Q (SV.agg [SV.u64 (Four.w0 a), SV.u64 (Four.w1 a), SV.u64 (Four.w2 a), SV.u64 (Four.w3 a)])))
    ((Q
  (SV.agg
    [SV.u64 (Four.w0 (onR (some r) fun r => redR r a)), SV.u64 (Four.w1 (onR (some r) fun r => redR r a)),
      SV.u64 (Four.w2 (onR (some r) fun r => redR r a)), SV.u64 (Four.w3 (onR (some r) fun r => redR r a))]))) := by kernel_rfl
def spG7 : Specs := (78, sResidueR) :: spG6
def plusR (r : RingV) (a b : Four) : Four := ringPlus r.m (resR r a) (resR r b)
def minusR (r : RingV) (a b : Four) : Four := limb_Select (limb_Sub (resR r a) (resR r b)).2 (limb_Add (limb_Sub (resR r a) (resR r b)).1 r.m).1 (limb_Sub (resR r a) (resR r b)).1
def mulR (r : RingV) (a b : Four) : Four := timesR r (resR r a) (resR r b)
def wideR (r : RingV) (w : Eight) : Four := ringPlus r.m (redR r ⟨w.e0, w.e1, w.e2, w.e3⟩) (timesR r ⟨w.e4, w.e5, w.e6, w.e7⟩ r.two)
def sPlusR : SpecF := fspec (α := AR2) total (fun a => onR a.1 fun r => plusR r a.2.1 a.2.2.1)
def sMinusR : SpecF := fspec (α := AR2) total (fun a => onR a.1 fun r => minusR r a.2.1 a.2.2.1)
def sMulR : SpecF := fspec (α := AR2) total (fun a => onR a.1 fun r => mulR r a.2.1 a.2.2.1)
def sWideR : SpecF := fspec (α := Option RingV × Eight × Unit) total (fun a => onR a.1 fun r => wideR r a.2.1)
theorem vcPlusA (r : RingV) (a b : Four) (Q : SV → Prop) : LnRaw tt spG7 3 [] {} Try.f54 Q (some r, a, b, ()) =
  bcase (!isR (some r))
    ((Q
  (SV.agg
    [SV.u64 (UInt64.ofNat (Int.toNat (0 : Int))), SV.u64 (UInt64.ofNat (Int.toNat (0 : Int))),
      SV.u64 (UInt64.ofNat (Int.toNat (0 : Int))), SV.u64 (UInt64.ofNat (Int.toNat (0 : Int)))])))
    ((Q
  (SV.agg
    [SV.u64 (Four.w0 (ringPlus (RingV.m r) (resR r a) (resR r b))),
      SV.u64 (Four.w1 (ringPlus (RingV.m r) (resR r a) (resR r b))),
      SV.u64 (Four.w2 (ringPlus (RingV.m r) (resR r a) (resR r b))),
      SV.u64 (Four.w3 (ringPlus (RingV.m r) (resR r a) (resR r b)))]))) := by kernel_rfl
theorem vcPlusB (a b : Four) (Q : SV → Prop) : LnRaw tt spG7 3 [] {} Try.f54 Q ((none : Option RingV), a, b, ()) =
  (Q
  (SV.agg
    [SV.u64 (UInt64.ofNat (Int.toNat (0 : Int))), SV.u64 (UInt64.ofNat (Int.toNat (0 : Int))),
      SV.u64 (UInt64.ofNat (Int.toNat (0 : Int))), SV.u64 (UInt64.ofNat (Int.toNat (0 : Int)))])) := by kernel_rfl
theorem vcMinusA (r : RingV) (a b : Four) (Q : SV → Prop) : LnRaw tt spG7 3 [] {} Try.f55 Q (some r, a, b, ()) =
  bcase (!isR (some r))
    ((Q
  (SV.agg
    [SV.u64 (UInt64.ofNat (Int.toNat (0 : Int))), SV.u64 (UInt64.ofNat (Int.toNat (0 : Int))),
      SV.u64 (UInt64.ofNat (Int.toNat (0 : Int))), SV.u64 (UInt64.ofNat (Int.toNat (0 : Int)))])))
    ((Q
  (SV.agg
    [SV.u64
        (Four.w0
          (limb_Select (Prod.snd (limb_Sub (resR r a) (resR r b)))
            (Prod.fst (limb_Add (Prod.fst (limb_Sub (resR r a) (resR r b))) (RingV.m r)))
            (Prod.fst (limb_Sub (resR r a) (resR r b))))),
      SV.u64
        (Four.w1
          (limb_Select (Prod.snd (limb_Sub (resR r a) (resR r b)))
            (Prod.fst (limb_Add (Prod.fst (limb_Sub (resR r a) (resR r b))) (RingV.m r)))
            (Prod.fst (limb_Sub (resR r a) (resR r b))))),
      SV.u64
        (Four.w2
          (limb_Select (Prod.snd (limb_Sub (resR r a) (resR r b)))
            (Prod.fst (limb_Add (Prod.fst (limb_Sub (resR r a) (resR r b))) (RingV.m r)))
            (Prod.fst (limb_Sub (resR r a) (resR r b))))),
      SV.u64
        (Four.w3
          (limb_Select (Prod.snd (limb_Sub (resR r a) (resR r b)))
            (Prod.fst (limb_Add (Prod.fst (limb_Sub (resR r a) (resR r b))) (RingV.m r)))
            (Prod.fst (limb_Sub (resR r a) (resR r b)))))]))) := by kernel_rfl
theorem vcMinusB (a b : Four) (Q : SV → Prop) : LnRaw tt spG7 3 [] {} Try.f55 Q ((none : Option RingV), a, b, ()) =
  (Q
  (SV.agg
    [SV.u64 (UInt64.ofNat (Int.toNat (0 : Int))), SV.u64 (UInt64.ofNat (Int.toNat (0 : Int))),
      SV.u64 (UInt64.ofNat (Int.toNat (0 : Int))), SV.u64 (UInt64.ofNat (Int.toNat (0 : Int)))])) := by kernel_rfl
theorem vcMulA (r : RingV) (a b : Four) (Q : SV → Prop) : LnRaw tt spG7 3 [] {} Try.f57 Q (some r, a, b, ()) =
  bcase (!isR (some r))
    ((Q
  (SV.agg
    [SV.u64 (UInt64.ofNat (Int.toNat (0 : Int))), SV.u64 (UInt64.ofNat (Int.toNat (0 : Int))),
      SV.u64 (UInt64.ofNat (Int.toNat (0 : Int))), SV.u64 (UInt64.ofNat (Int.toNat (0 : Int)))])))
    ((Q
  (SV.agg
    [SV.u64 (Four.w0 (timesR r (resR r a) (resR r b))), SV.u64 (Four.w1 (timesR r (resR r a) (resR r b))),
      SV.u64 (Four.w2 (timesR r (resR r a) (resR r b))), SV.u64 (Four.w3 (timesR r (resR r a) (resR r b)))]))) := by kernel_rfl
theorem vcMulB (a b : Four) (Q : SV → Prop) : LnRaw tt spG7 3 [] {} Try.f57 Q ((none : Option RingV), a, b, ()) =
  (Q
  (SV.agg
    [SV.u64 (UInt64.ofNat (Int.toNat (0 : Int))), SV.u64 (UInt64.ofNat (Int.toNat (0 : Int))),
      SV.u64 (UInt64.ofNat (Int.toNat (0 : Int))), SV.u64 (UInt64.ofNat (Int.toNat (0 : Int)))])) := by kernel_rfl
theorem vcWideA (r : RingV) (w : Eight) (Q : SV → Prop) : LnRaw tt spG7 3 [] {} Try.f49 Q (some r, w, ()) =
  bcase (!isR (some r))
    ((Q
  (SV.agg
    [SV.u64 (UInt64.ofNat (Int.toNat (0 : Int))), SV.u64 (UInt64.ofNat (Int.toNat (0 : Int))),
      SV.u64 (UInt64.ofNat (Int.toNat (0 : Int))), SV.u64 (UInt64.ofNat (Int.toNat (0 : Int)))])))
    ((Q
  (SV.agg
    [SV.u64
        (Four.w0
          (ringPlus (RingV.m r)
            (onR (some r) fun r => redR r (Four.mk (Eight.e0 w) (Eight.e1 w) (Eight.e2 w) (Eight.e3 w)))
            (timesR r (Four.mk (Eight.e4 w) (Eight.e5 w) (Eight.e6 w) (Eight.e7 w)) (RingV.two r)))),
      SV.u64
        (Four.w1
          (ringPlus (RingV.m r)
            (onR (some r) fun r => redR r (Four.mk (Eight.e0 w) (Eight.e1 w) (Eight.e2 w) (Eight.e3 w)))
            (timesR r (Four.mk (Eight.e4 w) (Eight.e5 w) (Eight.e6 w) (Eight.e7 w)) (RingV.two r)))),
      SV.u64
        (Four.w2
          (ringPlus (RingV.m r)
            (onR (some r) fun r => redR r (Four.mk (Eight.e0 w) (Eight.e1 w) (Eight.e2 w) (Eight.e3 w)))
            (timesR r (Four.mk (Eight.e4 w) (Eight.e5 w) (Eight.e6 w) (Eight.e7 w)) (RingV.two r)))),
      SV.u64
        (Four.w3
          (ringPlus (RingV.m r)
            (onR (some r) fun r => redR r (Four.mk (Eight.e0 w) (Eight.e1 w) (Eight.e2 w) (Eight.e3 w)))
            (timesR r (Four.mk (Eight.e4 w) (Eight.e5 w) (Eight.e6 w) (Eight.e7 w)) (RingV.two r))))]))) := by kernel_rfl
theorem vcWideB (w : Eight) (Q : SV → Prop) : LnRaw tt spG7 3 [] {} Try.f49 Q ((none : Option RingV), w, ()) =
  (Q
  (SV.agg
    [SV.u64 (UInt64.ofNat (Int.toNat (0 : Int))), SV.u64 (UInt64.ofNat (Int.toNat (0 : Int))),
      SV.u64 (UInt64.ofNat (Int.toNat (0 : Int))), SV.u64 (UInt64.ofNat (Int.toNat (0 : Int)))])) := by kernel_rfl
end Go.Proofs.Ythechjccpljljaa
