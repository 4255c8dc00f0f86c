/- A symbolic machine for Go functions, and what the functions that the law reaches come to: EdB. -/
import Derived.Test.YtigkddloeikpbaaGreatDoorQ16
import Derived.Test.YtigkddloeikpbaaGreatDoorQ4
/- Package edwards: what its functions compute, and what their bodies come to. -/
set_option maxRecDepth 10000
namespace Go.Proofs.YtigkddloeikpbaaGreatDoor.E10
open Go.Sym Go.Dig R1 F4
--STOP fCarry, fMul, fSub, fAdd, fNeg, fSq, fSame, fNegB, fSel, fInv, fRootV, fBytesO, fOfO, eSides, eFlat, ePair, eAdd, eDouble, eNeg, eEight, eSame, eFrom, eOf, smallV

/-- A point of four elements. -/
structure Pt where
  x : Five
  y : Five
  z : Five
  t : Five
def Pt.cells (p : Pt) : List SV := [.u64 p.x.x0, .u64 p.x.x1, .u64 p.x.x2, .u64 p.x.x3, .u64 p.x.x4, .u64 p.y.x0, .u64 p.y.x1, .u64 p.y.x2, .u64 p.y.x3, .u64 p.y.x4,
  .u64 p.z.x0, .u64 p.z.x1, .u64 p.z.x2, .u64 p.z.x3, .u64 p.z.x4, .u64 p.t.x0, .u64 p.t.x1, .u64 p.t.x2, .u64 p.t.x3, .u64 p.t.x4]
def Pt.sv (p : Pt) : SV := .agg p.cells
def dPtC : List SV → Option Pt
  | [.u64 a0, .u64 a1, .u64 a2, .u64 a3, .u64 a4, .u64 b0, .u64 b1, .u64 b2, .u64 b3, .u64 b4, .u64 c0, .u64 c1, .u64 c2, .u64 c3, .u64 c4, .u64 d0, .u64 d1, .u64 d2, .u64 d3, .u64 d4] =>
    some ⟨⟨a0, a1, a2, a3, a4⟩, ⟨b0, b1, b2, b3, b4⟩, ⟨c0, c1, c2, c3, c4⟩, ⟨d0, d1, d2, d3, d4⟩⟩
  | _ => none
theorem dPtC_ok {cs : List SV} {p : Pt} (h : dPtC cs = some p) : cs = p.cells := by
  unfold dPtC at h
  split at h
  · simp only [Option.some.injEq] at h; subst h; rfl
  · cases h
def dPt : SV → Option Pt
  | .agg cs => dPtC cs
  | _ => none
instance : Enc Pt where
  enc := Pt.sv
  dec := dPt
  ok := by
    intro s a h at_ w v r
    unfold dPt at h
    split at h
    · rw [dPtC_ok h] at r; exact r
    · cases h
  nn _ := rfl
theorem dc_ex : ∃ d : Five × Five, d = (⟨929955233495203, 466365720129213, 1662059464998953, 2033849074728123, 1442794654840575⟩, ⟨1859910466990425, 932731440258426, 1072319116312658, 1815898335770999, 633789495995903⟩) := ⟨_, rfl⟩
/-- d and twice it, told so that no machine computes with them. -/
noncomputable def dC : Five := (Classical.choose dc_ex).1
noncomputable def dC2 : Five := (Classical.choose dc_ex).2
theorem dC_eq : dC = ⟨929955233495203, 466365720129213, 1662059464998953, 2033849074728123, 1442794654840575⟩ := congrArg Prod.fst (Classical.choose_spec dc_ex)
theorem dC2_eq : dC2 = ⟨1859910466990425, 932731440258426, 1072319116312658, 1815898335770999, 633789495995903⟩ := congrArg Prod.snd (Classical.choose_spec dc_ex)
noncomputable def eOne : Five := smallV 1
noncomputable def eSides (y : Five) : Five × Five := (fSub (fMul y y) eOne, fAdd (fMul dC (fMul y y)) eOne)
noncomputable def eFlat (x y : Five) : Pt := ⟨x, y, eOne, fMul x y⟩
noncomputable def eMade (e f g h : Five) : Pt := ⟨fMul e f, fMul g h, fMul f g, fMul e h⟩
noncomputable def ePair0 (p : Pt) : Five × Five := (fMul p.x (fInv p.z), fMul p.y (fInv p.z))
theorem ep_ex : ∃ f : Pt → Five × Five, f = ePair0 := ⟨_, rfl⟩
noncomputable def ePair : Pt → Five × Five := Classical.choose ep_ex
theorem ePair_eq : ePair = ePair0 := Classical.choose_spec ep_ex
noncomputable def eAdd (p q : Pt) : Pt :=
  eMade (fSub (fMul (fAdd p.y p.x) (fAdd q.y q.x)) (fMul (fSub p.y p.x) (fSub q.y q.x))) (fSub (fMul (fAdd p.z p.z) q.z) (fMul (fMul p.t dC2) q.t))
    (fAdd (fMul (fAdd p.z p.z) q.z) (fMul (fMul p.t dC2) q.t)) (fAdd (fMul (fAdd p.y p.x) (fAdd q.y q.x)) (fMul (fSub p.y p.x) (fSub q.y q.x)))
noncomputable def eDouble (p : Pt) : Pt :=
  eMade (fSub (fSub (fMul (fAdd p.x p.y) (fAdd p.x p.y)) (fMul p.x p.x)) (fMul p.y p.y)) (fSub (fSub (fMul p.y p.y) (fMul p.x p.x)) (fAdd (fMul p.z p.z) (fMul p.z p.z)))
    (fSub (fMul p.y p.y) (fMul p.x p.x)) (fNeg (fAdd (fMul p.x p.x) (fMul p.y p.y)))
theorem en_ex : ∃ f : Pt → Pt, f = fun p => ⟨fNeg p.x, p.y, p.z, fNeg p.t⟩ := ⟨_, rfl⟩
noncomputable def eNeg : Pt → Pt := Classical.choose en_ex
theorem eNeg_eq (p : Pt) : eNeg p = ⟨fNeg p.x, p.y, p.z, fNeg p.t⟩ := congrFun (Classical.choose_spec en_ex) p
noncomputable def eEight (p : Pt) : Pt := eDouble (eDouble (eDouble p))
def eSame (p q : Pt) : Bool := fSame (fMul p.x q.z) (fMul q.x p.z) && fSame (fMul p.y q.z) (fMul q.y p.z)
def ptNil : Pt := ⟨fZero, fZero, fZero, fZero⟩
noncomputable def eFrom0 (x y : Five) : Pt × Bool := if fSame (fMul (fMul x x) (eSides y).2) (eSides y).1 = true then (eFlat x y, true) else (ptNil, false)
theorem ef_ex : ∃ f : Five → Five → Pt × Bool, f = eFrom0 := ⟨_, rfl⟩
noncomputable def eFrom : Five → Five → Pt × Bool := Classical.choose ef_ex
theorem eFrom_eq : eFrom = eFrom0 := Classical.choose_spec ef_ex
theorem ez_ex : ∃ p : Pt, p = eFlat fZero eOne := ⟨_, rfl⟩
noncomputable def eZero : Pt := Classical.choose ez_ex
theorem eZero_eq : eZero = eFlat fZero eOne := Classical.choose_spec ez_ex
noncomputable def eSmall (p : Pt) : Bool := eSame (eEight p) eZero
/-- Bytes without the sign. -/
def unsigned (b : List UInt8) : List UInt8 := List.drop 0 (List.take (0 + b.length) (b.set (0 + Int.toNat 31) (b.getD (0 + Int.toNat 31) 0 &&& UInt8.ofNat (Int.toNat 127))))
def signOf (b : List UInt8) : UInt8 := shr8 (b.getD (0 + Int.toNat 31) 0) (UInt64.toNat (UInt64.ofNat (Int.toNat 7)))
/-- A point of bytes: y; x, of either sign. -/
noncomputable def eOfX (b : List UInt8) : Five × Bool := fRootV (eSides (fOfO (unsigned b)).1).1 (eSides (fOfO (unsigned b)).1).2
noncomputable def eOfB (b : List UInt8) : Pt × Bool :=
  if b.length ≠ 32 then (ptNil, false) else if (fOfO (unsigned b)).2 = false then (ptNil, false) else if (eOfX b).2 = false then (ptNil, false)
  else if (signOf b == 1) = true then (if fSame (eOfX b).1 fZero = true then (ptNil, false) else (eFlat (fNeg (eOfX b).1) (fOfO (unsigned b)).1, true))
  else (eFlat (eOfX b).1 (fOfO (unsigned b)).1, true)
theorem eo_ex : ∃ f : List UInt8 → Pt × Bool, f = eOfB := ⟨_, rfl⟩
noncomputable def eOf : List UInt8 → Pt × Bool := Classical.choose eo_ex
theorem eOf_eq : eOf = eOfB := Classical.choose_spec eo_ex
def baseB : List UInt8 := 88 :: List.replicate 31 102
theorem eb_ex : ∃ p : Pt, p = (eOf baseB).1 := ⟨_, rfl⟩
noncomputable def eBase : Pt := Classical.choose eb_ex
theorem eBase_eq : eBase = (eOf baseB).1 := Classical.choose_spec eb_ex
noncomputable def eBytesB (p : Pt) : List UInt8 :=
  if fNegB (ePair p).1 = true then (fBytesO (ePair p).2).set 31 ((fBytesO (ePair p).2).getD 31 0 ||| 128) else fBytesO (ePair p).2
theorem ey_ex : ∃ f : Pt → List UInt8, f = eBytesB := ⟨_, rfl⟩
noncomputable def eBytes : Pt → List UInt8 := Classical.choose ey_ex
theorem eBytes_eq : eBytes = eBytesB := Classical.choose_spec ey_ex

/-! Slices. -/
def sClone : SpecF := fspec (α := List UInt8 × Unit) (β := List UInt8) (fun a => some (0 < a.1.length ∧ a.1.length ≤ appLim)) (fun a => a.1)
theorem vcClone (b : List UInt8) (Q : SV → Prop) : LfRaw tt [] 9 [(1, 1, .b false)] {} Tryz.f61 Q (b, ()) =
 (((0 : Nat) < List.length b) ∧
 ((false = false) ∧
 ((((0 : Nat) + (0 : Nat) = (0 : Nat)) ∧
 (List.length ([] ++ b) ≤ appLim)) ∧
 (Q (SV.lst (LV.bytes (List.drop (0 : Nat) (List.take ((0 : Nat) + List.length ([] ++ b)) ([] ++ b))))))))) := by kernel_rfl
def sMulW : SpecF := fspec (α := UInt64 × UInt64 × Unit) (β := UInt64 × UInt64 × Unit) total (fun a => ((mul64 a.1 a.2.1).1, (mul64 a.1 a.2.1).2, ()))
def spRp : Specs := (1000006, Sym.sNo) :: sp2
/-- Thirty-two bytes, all the same. -/
def sRepeat : SpecF := fspec (α := List UInt8 × Int × Unit) (β := List UInt8) (fun a => some (a.1 = [a.1.headD 0] ∧ a.2.1 = 32)) (fun a => List.replicate 32 (a.1.headD 0))
def iRep (c : UInt8) (l : List UInt8) (n : Int) : Prop := l.length = 32 ∧ 0 < n ∧ n ≤ 32 ∧ l.take n.toNat = List.replicate n.toNat c
def lRep : Plan := { loops := [(0, { β := List UInt8 × Unit, α := OwnB × Int × Unit, same := [0], keep := [7, 8], inv := fun b _ x => iRep (b.1.headD 0) x.1.l x.2.1, meas := fun _ x => (32 - x.2.1).toNat })] }
/-! The package's functions. -/
noncomputable def sCurve : SpecF := fspec (α := Unit) total (fun _ => dC)
noncomputable def sCurve2 : SpecF := fspec (α := Unit) total (fun _ => dC2)
noncomputable def spE0 : Specs := (61, .fresh sClone) :: (1000007, Sym.sNo) :: (98, sCurve) :: (1000005, Sym.sNo) :: spFd
noncomputable def sSides : SpecF := fspec (α := Five × Unit) total (fun a => eSides a.1)
noncomputable def sFlat : SpecF := fspec (α := Five × Five × Unit) total (fun a => eFlat a.1 a.2.1)
noncomputable def sMade : SpecF := fspec (α := Five × Five × Five × Five × Unit) total (fun a => eMade a.1 a.2.1 a.2.2.1 a.2.2.2.1)
noncomputable def sEPair : SpecF := fspec (α := Pt × Unit) total (fun a => ePair a.1)
noncomputable def spE1 : Specs := (86, sSides) :: (60, sFlat) :: (91, sMade) :: (44, sEPair) :: spE0
noncomputable def sEAdd : SpecF := fspec (α := Pt × Pt × Unit) total (fun a => eAdd a.1 a.2.1)
noncomputable def sEDouble : SpecF := fspec (α := Pt × Unit) total (fun a => eDouble a.1)
noncomputable def sENeg : SpecF := fspec (α := Pt × Unit) total (fun a => eNeg a.1)
noncomputable def sEZero : SpecF := fspec (α := Unit) total (fun _ => eZero)
def sESame : SpecF := fspec (α := Pt × Pt × Unit) total (fun a => eSame a.1 a.2.1)
theorem vcSameF (p q : Pt) (Q : SV → Prop) : LnRaw tt spE1 9 [(1, 14, .b false)] {} Tryz.f20 Q (p, q, ()) =
 ((fSame (fMul (Pt.x p) (Pt.z q)) (fMul (Pt.x q) (Pt.z p)) = false) ∧
 (Q (SV.bool false))) := by kernel_rfl
theorem vcSameT (p q : Pt) (Q : SV → Prop) : LnRaw tt spE1 9 [(1, 14, .b true)] {} Tryz.f20 Q (p, q, ()) =
 ((fSame (fMul (Pt.x p) (Pt.z q)) (fMul (Pt.x q) (Pt.z p)) = true) ∧
 (Q (SV.bool (fSame (fMul (Pt.y p) (Pt.z q)) (fMul (Pt.y q) (Pt.z p)))))) := by kernel_rfl
noncomputable def sEFrom : SpecF := fspec (α := Five × Five × Unit) total (fun a => eFrom a.1 a.2.1)
noncomputable def vFrom (D : Dec) (t : Pt × Bool) (x y : Five) : Prop := LnRaw tt spE1 9 D {} Tryz.f58 (fun z => z = retSV (RetL.retL t)) (x, y, ())
theorem vcFromF (x y : Five) : vFrom [(2, 6, .b false)] (ptNil, false) x y = (fSame (fMul (fMul x x) (eSides y).2) (eSides y).1 = false ∧ Same (.tup [ptNil.sv, .bool false])) := by kernel_rfl
theorem vcFromT (x y : Five) : vFrom [(2, 6, .b true)] (eFlat x y, true) x y = (fSame (fMul (fMul x x) (eSides y).2) (eSides y).1 = true ∧ Same (.tup [(eFlat x y).sv, .bool true])) := by kernel_rfl
noncomputable def sEOf : SpecF := fspec (α := List UInt8 × Unit) total (fun a => eOf a.1)
noncomputable def spE2 : Specs := (1000000, Sym.sNo) :: (64, sEDouble) :: (1000001, Sym.sNo) :: (21, sEZero) ::
  (20, sESame) :: (58, sEFrom) :: (1000004, Sym.sNo) :: spE1
noncomputable def sEEight : SpecF := fspec (α := Pt × Unit) total (fun a => eEight a.1)
noncomputable def sEBase : SpecF := fspec (α := Unit) total (fun _ => eBase)
def baseL : List UInt8 := List.drop 0 (List.take (0 + 32) ((List.replicate 32 (List.headD [UInt8.ofNat (Int.toNat 102)] 0)).set (0 + Int.toNat 0) (UInt8.ofNat (Int.toNat 88))))
noncomputable def sEBytes : SpecF := fspec (α := Pt × Unit) (β := List UInt8) total (fun a => eBytes a.1)
theorem vcEBytesF (p : Pt) (Q : SV → Prop) : LfRaw tt spE2 9 [(3, 1, .b false)] {} Tryz.f13 Q (p, ()) =
 ((fNegB (Prod.fst (ePair p)) = false) ∧
 (Q
 (SV.lst
 (LV.bytes
 (List.drop (0 : Nat)
 (List.take ((0 : Nat) + List.length (fBytesO (Prod.snd (ePair p)))) (fBytesO (Prod.snd (ePair p))))))))) := by kernel_rfl
theorem vcEBytesT (p : Pt) (Q : SV → Prop) : LfRaw tt spE2 9 [(3, 1, .b true)] {} Tryz.f13 Q (p, ()) =
 ((fNegB (Prod.fst (ePair p)) = true) ∧
 ((((0 : Int) ≤ (31 : Int)) ∧
 ((31 : Int) < (↑(List.length (fBytesO (Prod.snd (ePair p)))) : Int))) ∧
 ((((0 : Int) ≤ (31 : Int)) ∧
 ((31 : Int) < (↑(List.length (fBytesO (Prod.snd (ePair p)))) : Int))) ∧
 (Q
 (SV.lst
 (LV.bytes
 (List.drop (0 : Nat)
 (List.take ((0 : Nat) + List.length (fBytesO (Prod.snd (ePair p))))
 (List.set (fBytesO (Prod.snd (ePair p))) ((0 : Nat) + Int.toNat (31 : Int))
 (List.getD (fBytesO (Prod.snd (ePair p))) ((0 : Nat) + Int.toNat (31 : Int)) (0 : UInt8) |||
 UInt8.ofNat (Int.toNat (128 : Int)))))))))))) := by kernel_rfl
noncomputable def spE3 : Specs := (24, sEEight) :: (1000003, Sym.sNo) :: (13, .fresh sEBytes) :: spE2
noncomputable def sESmall : SpecF := fspec (α := Pt × Unit) total (fun a => eSmall a.1)
noncomputable def spE4 : Specs := (1000002, Sym.sNo) :: spE3
end Go.Proofs.YtigkddloeikpbaaGreatDoor.E10
