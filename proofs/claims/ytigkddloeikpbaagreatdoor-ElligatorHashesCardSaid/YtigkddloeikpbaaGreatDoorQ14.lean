/- A symbolic machine for Go functions, and what the functions that the law reaches come to: FieldD, FieldG, FieldE, RefF, RefG, Law4. -/
import Derived.Test.YtigkddloeikpbaaGreatDoorQ13
import Derived.Test.YtigkddloeikpbaaGreatDoorQ4
import Derived.Test.YtigkddloeikpbaaGreatDoorQ7
/- Package field: powers, inverses, roots: what the bodies come to. -/
set_option maxRecDepth 10000
namespace Go.Proofs.YtigkddloeikpbaaGreatDoor
open Go.Sym

--STOP fCarry, fMul, fSub, fAdd, fNeg, fSq, dPlus, fWhole, fSel, mul64, addLo, addHi, fSame, fNegB, f250, fEleven, fEven, fZero

/-- A loop's own element. -/
structure PFive where
  v : Five
def dFiveC : List SV → Option Five
  | [.u64 a, .u64 b, .u64 c, .u64 d, .u64 e] => some ⟨a, b, c, d, e⟩
  | _ => none
theorem dFiveC_ok {cs : List SV} {r : Five} (h : dFiveC cs = some r) : cs = [.u64 r.x0, .u64 r.x1, .u64 r.x2, .u64 r.x3, .u64 r.x4] := by
  unfold dFiveC at h
  split at h
  · simp only [Option.some.injEq] at h; subst h; rfl
  · cases h
instance : LEnc PFive where
  kind := none
  enc nx a := (.ptr nx 0, [[.u64 a.v.x0, .u64 a.v.x1, .u64 a.v.x2, .u64 a.v.x3, .u64 a.v.x4]])
  dec nx s M := match s, M with
    | .ptr b 0, some cs :: M' => if b = nx then (dFiveC cs).map fun r => (none, ⟨r⟩, M') else none
    | _, _ => none
  all P := ∀ v, P ⟨v⟩
  all_ok h a := h a.v
  ok := by
    intro nx s M p a M' h hp
    split at h
    · split at h
      · rename_i hb
        obtain ⟨r, h1, h2⟩ := Option.map_eq_some_iff.1 h
        simp only [Prod.mk.injEq] at h2
        obtain ⟨_, rfl, rfl⟩ := h2
        subst hb
        rw [dFiveC_ok h1]
        exact ⟨rfl, fun r => r⟩
      · cases h
    · cases h

def sqM (n : Int) : Int := if 1000 < n then 1000 else n
def iSq (a z : Five) (m : Int) (v z' : Five) (i : Int) : Prop := 0 ≤ i ∧ (i ≤ m ∨ i = 0) ∧ v = fSq i.toNat a ∧ z' = z
def lSq : Plan := { loops := [(0, { β := Int × Unit, α := PFive × PFive × Int × Unit, same := [6], keep := [2, 4, 7], inv := fun b x0 x => iSq x0.1.v x0.2.1.v b.1 x.1.v x.2.1.v x.2.2.1, meas := fun b x => (b.1 - x.2.2.1).toNat })] }
noncomputable def spF5 : Specs := spF4
theorem vcSq (a : Five) (n : Int) (Q : SV → Prop) : LnRaw tt spF5 9 [] lSq Tryz.f83 Q (a, n, ()) =
 ((iSq a
 (Five.mk (UInt64.ofNat (Int.toNat (0 : Int))) (UInt64.ofNat (Int.toNat (0 : Int)))
 (UInt64.ofNat (Int.toNat (0 : Int))) (UInt64.ofNat (Int.toNat (0 : Int))) (UInt64.ofNat (Int.toNat (0 : Int))))
 (if (1000 : Int) < n then (1000 : Int) else n) a
 (Five.mk (UInt64.ofNat (Int.toNat (0 : Int))) (UInt64.ofNat (Int.toNat (0 : Int)))
 (UInt64.ofNat (Int.toNat (0 : Int))) (UInt64.ofNat (Int.toNat (0 : Int))) (UInt64.ofNat (Int.toNat (0 : Int))))
 (0 : Int)) ∧
 (∀ v : Five,
 (∀ v_1 : Five,
 (∀ a_1 : Int,
 ((iSq a
 (Five.mk (UInt64.ofNat (Int.toNat (0 : Int))) (UInt64.ofNat (Int.toNat (0 : Int)))
 (UInt64.ofNat (Int.toNat (0 : Int))) (UInt64.ofNat (Int.toNat (0 : Int))) (UInt64.ofNat (Int.toNat (0 : Int))))
 (if (1000 : Int) < n then (1000 : Int) else n) v v_1 a_1) →
 bcase (decide (a_1 < if (1000 : Int) < n then (1000 : Int) else n))
 ((((if (1000 : Int) < n then (1000 : Int) else n, ()) = (if (1000 : Int) < n then (1000 : Int) else n, ())) ∧
 ((iSq a
 (Five.mk (UInt64.ofNat (Int.toNat (0 : Int))) (UInt64.ofNat (Int.toNat (0 : Int)))
 (UInt64.ofNat (Int.toNat (0 : Int))) (UInt64.ofNat (Int.toNat (0 : Int))) (UInt64.ofNat (Int.toNat (0 : Int))))
 (if (1000 : Int) < n then (1000 : Int) else n) (fMul v v) v_1 (IntKind.wrap IntKind.i64 (a_1 + (1 : Int)))) ∧
 (Int.toNat ((if (1000 : Int) < n then (1000 : Int) else n) - IntKind.wrap IntKind.i64 (a_1 + (1 : Int))) <
 Int.toNat ((if (1000 : Int) < n then (1000 : Int) else n) - a_1)))))
 ((Q (SV.agg [SV.u64 (Five.x0 v), SV.u64 (Five.x1 v), SV.u64 (Five.x2 v), SV.u64 (Five.x3 v), SV.u64 (Five.x4 v)])))))))) := by kernel_rfl
def sFSq : SpecF := fspec (α := Five × Int × Unit) total (fun a => fSq (sqM a.2.1).toNat a.1)
noncomputable def spF6 : Specs := (83, sFSq) :: (19, sFSame) :: (46, sFNegB) :: spF5
def fParts (a : Five) : Five × Five := (f250 a, fEleven a)
def sParts : SpecF := fspec (α := Five × Unit) total (fun a => fParts a.1)
theorem vcEven (a : Five) (Q : SV → Prop) : LnRaw tt spF6 9 [] {} Tryz.f85 Q (a, ()) =
 bcase (fNegB a)
 ((Q
 (SV.agg
 [SV.u64 (Five.x0 (fSel (UInt64.ofNat (Int.toNat (1 : Int))) (fNeg a) a)),
 SV.u64 (Five.x1 (fSel (UInt64.ofNat (Int.toNat (1 : Int))) (fNeg a) a)),
 SV.u64 (Five.x2 (fSel (UInt64.ofNat (Int.toNat (1 : Int))) (fNeg a) a)),
 SV.u64 (Five.x3 (fSel (UInt64.ofNat (Int.toNat (1 : Int))) (fNeg a) a)),
 SV.u64 (Five.x4 (fSel (UInt64.ofNat (Int.toNat (1 : Int))) (fNeg a) a))])))
 ((Q
 (SV.agg
 [SV.u64 (Five.x0 (fSel (UInt64.ofNat (Int.toNat (0 : Int))) (fNeg a) a)),
 SV.u64 (Five.x1 (fSel (UInt64.ofNat (Int.toNat (0 : Int))) (fNeg a) a)),
 SV.u64 (Five.x2 (fSel (UInt64.ofNat (Int.toNat (0 : Int))) (fNeg a) a)),
 SV.u64 (Five.x3 (fSel (UInt64.ofNat (Int.toNat (0 : Int))) (fNeg a) a)),
 SV.u64 (Five.x4 (fSel (UInt64.ofNat (Int.toNat (0 : Int))) (fNeg a) a))]))) := by kernel_rfl
def sEven : SpecF := fspec (α := Five × Unit) total (fun a => fEven a.1)
noncomputable def spF7 : Specs := (82, sParts) :: (85, sEven) :: spF6
theorem im_ex : ∃ i : Five, i = fEven (fMul (fSq 3 (f250 (smallV 2))) (smallV 8)) := ⟨_, rfl⟩
/-- The root of -1, told so that no machine computes with it. -/
noncomputable def imV : Five := Classical.choose im_ex
theorem imV_eq : imV = fEven (fMul (fSq 3 (f250 (smallV 2))) (smallV 8)) := Classical.choose_spec im_ex
noncomputable def sImag : SpecF := fspec (α := Unit) total (fun _ => imV)
def sFInv : SpecF := fspec (α := Five × Unit) total (fun a => fInv a.1)
noncomputable def spF8 : Specs := (84, sImag) :: (55, sFInv) :: spF7
def v3 (v : Five) : Five := fMul (fMul v v) v
def uv7 (u v : Five) : Five := fMul (fMul (v3 v) (v3 v)) (fMul v u)
def fCand (u v : Five) : Five := fMul (fMul u (v3 v)) (fMul (fSq 2 (f250 (uv7 u v))) (uv7 u v))
def fCheck (u v : Five) : Five := fMul v (fMul (fCand u v) (fCand u v))
noncomputable def fRootE (u v x : Five) : Five × Bool := if (fSame v fZero && !fSame u fZero) = true then (fZero, false) else (fEven x, true)
noncomputable def fRoot (u v : Five) : Five × Bool :=
  if fSame (fCheck u v) u = true then fRootE u v (fCand u v) else if fSame (fCheck u v) (fNeg u) = true then fRootE u v (fMul (fCand u v) imV) else (fZero, false)
noncomputable def vRoot (D : Dec) (t : Five × Bool) (a : Five × Five × Unit) : Prop := LnRaw tt spF8 9 D {} Tryz.f56 (fun x => x = retSV (RetL.retL t)) a
theorem root_C (u v : Five) : vRoot [(6, 2, .b false), (7, 3, .b false)] (fZero, false) (u, v, ()) = (fSame (fCheck u v) u = false ∧ fSame (fCheck u v) (fNeg u) = false ∧ Same (.tup [fZero.sv, .bool false])) := by kernel_rfl
theorem root_A1 (u v : Five) : vRoot [(6, 2, .b true), (10, 2, .b false)] (fEven (fCand u v), true) (u, v, ()) = (fSame (fCheck u v) u = true ∧ fSame v fZero = false ∧ Same (.tup [(fEven (fCand u v)).sv, .bool true])) := by kernel_rfl
theorem root_A2 (u v : Five) : vRoot [(6, 2, .b true), (10, 2, .b true), (10, 6, .b true)] (fEven (fCand u v), true) (u, v, ()) = (fSame (fCheck u v) u = true ∧ fSame v fZero = true ∧ fSame u fZero = true ∧ Same (.tup [(fEven (fCand u v)).sv, .bool true])) := by kernel_rfl
theorem root_A3 (u v : Five) : vRoot [(6, 2, .b true), (10, 2, .b true), (10, 6, .b false)] (fZero, false) (u, v, ()) = (fSame (fCheck u v) u = true ∧ fSame v fZero = true ∧ fSame u fZero = false ∧ Same (.tup [fZero.sv, .bool false])) := by kernel_rfl
theorem root_B1 (u v : Five) : vRoot [(6, 2, .b false), (7, 3, .b true), (10, 2, .b false)] (fEven (fMul (fCand u v) imV), true) (u, v, ()) = (fSame (fCheck u v) u = false ∧ fSame (fCheck u v) (fNeg u) = true ∧ fSame v fZero = false ∧ Same (.tup [(fEven (fMul (fCand u v) imV)).sv, .bool true])) := by kernel_rfl
theorem root_B2 (u v : Five) : vRoot [(6, 2, .b false), (7, 3, .b true), (10, 2, .b true), (10, 6, .b true)] (fEven (fMul (fCand u v) imV), true) (u, v, ()) = (fSame (fCheck u v) u = false ∧ fSame (fCheck u v) (fNeg u) = true ∧ fSame v fZero = true ∧ fSame u fZero = true ∧ Same (.tup [(fEven (fMul (fCand u v) imV)).sv, .bool true])) := by kernel_rfl
theorem root_B3 (u v : Five) : vRoot [(6, 2, .b false), (7, 3, .b true), (10, 2, .b true), (10, 6, .b false)] (fZero, false) (u, v, ()) = (fSame (fCheck u v) u = false ∧ fSame (fCheck u v) (fNeg u) = true ∧ fSame v fZero = true ∧ fSame u fZero = false ∧ Same (.tup [fZero.sv, .bool false])) := by kernel_rfl

noncomputable def fWideL (b : List UInt8) : Five := b.foldl (fun acc c => fAdd (fMul acc (smallV 256)) (smallV c.toUInt32)) fZero
noncomputable def iWide (b : List UInt8) (m : Int) (z z' v : Five) (i : Int) : Prop := 0 ≤ i ∧ i ≤ m ∧ v = fWideL (b.take i.toNat) ∧ z' = z
noncomputable def lWide : Plan := { loops := [(0, { β := List UInt8 × Int × Unit, α := PFive × PFive × Int × Unit, same := [11, 12], keep := [2, 4, 13], inv := fun b x0 x => iWide b.1 b.2.1 x0.1.v x.1.v x.2.1.v x.2.2.1, meas := fun b x => (b.2.1 - x.2.2.1).toNat })] }
theorem vcWideA (b : List UInt8) (Q : SV → Prop) : LnRaw tt spF8 9 [(1, 2, .b false)] lWide Tryz.f23 Q (b, ()) =
 ((decide ((↑(List.length b) : Int) > (64 : Int)) = false) ∧
 ((iWide b (↑(List.length b) : Int)
 (Five.mk (UInt64.ofNat (Int.toNat (0 : Int))) (UInt64.ofNat (Int.toNat (0 : Int)))
 (UInt64.ofNat (Int.toNat (0 : Int))) (UInt64.ofNat (Int.toNat (0 : Int))) (UInt64.ofNat (Int.toNat (0 : Int))))
 (Five.mk (UInt64.ofNat (Int.toNat (0 : Int))) (UInt64.ofNat (Int.toNat (0 : Int)))
 (UInt64.ofNat (Int.toNat (0 : Int))) (UInt64.ofNat (Int.toNat (0 : Int))) (UInt64.ofNat (Int.toNat (0 : Int))))
 (Five.mk (UInt64.ofNat (Int.toNat (0 : Int))) (UInt64.ofNat (Int.toNat (0 : Int)))
 (UInt64.ofNat (Int.toNat (0 : Int))) (UInt64.ofNat (Int.toNat (0 : Int))) (UInt64.ofNat (Int.toNat (0 : Int))))
 (0 : Int)) ∧
 (∀ v : Five,
 (∀ v_1 : Five,
 (∀ a : Int,
 ((iWide b (↑(List.length b) : Int)
 (Five.mk (UInt64.ofNat (Int.toNat (0 : Int))) (UInt64.ofNat (Int.toNat (0 : Int)))
 (UInt64.ofNat (Int.toNat (0 : Int))) (UInt64.ofNat (Int.toNat (0 : Int))) (UInt64.ofNat (Int.toNat (0 : Int))))
 v v_1 a) →
 bcase (decide (a < (↑(List.length b) : Int)))
 (((((0 : Int) ≤ a) ∧
 (a < (↑(List.length b) : Int))) ∧
 (((b, (↑(List.length b) : Int), ()) = (b, (↑(List.length b) : Int), ())) ∧
 ((iWide b (↑(List.length b) : Int)
 (Five.mk (UInt64.ofNat (Int.toNat (0 : Int))) (UInt64.ofNat (Int.toNat (0 : Int)))
 (UInt64.ofNat (Int.toNat (0 : Int))) (UInt64.ofNat (Int.toNat (0 : Int))) (UInt64.ofNat (Int.toNat (0 : Int))))
 v
 (fAdd (fMul v_1 (smallV (UInt32.ofNat (Int.toNat (256 : Int)))))
 (smallV (UInt8.toUInt32 (List.getD b (Int.toNat a) (0 : UInt8)))))
 (IntKind.wrap IntKind.i64 (a + (1 : Int)))) ∧
 (Int.toNat ((↑(List.length b) : Int) - IntKind.wrap IntKind.i64 (a + (1 : Int))) <
 Int.toNat ((↑(List.length b) : Int) - a))))))
 ((Q
 (SV.tup
 [SV.agg
 [SV.u64 (Five.x0 v_1), SV.u64 (Five.x1 v_1), SV.u64 (Five.x2 v_1), SV.u64 (Five.x3 v_1), SV.u64 (Five.x4 v_1)],
 SV.bool true]))))))))) := by kernel_rfl
theorem vcWideB (b : List UInt8) (Q : SV → Prop) : LnRaw tt spF8 9 [(1, 2, .b true)] lWide Tryz.f23 Q (b, ()) =
 ((decide ((↑(List.length b) : Int) > (64 : Int)) = true) ∧
 (Q
 (SV.tup
 [SV.agg
 [SV.u64 (UInt64.ofNat (Int.toNat (0 : Int))), SV.u64 (UInt64.ofNat (Int.toNat (0 : Int))),
 SV.u64 (UInt64.ofNat (Int.toNat (0 : Int))), SV.u64 (UInt64.ofNat (Int.toNat (0 : Int))),
 SV.u64 (UInt64.ofNat (Int.toNat (0 : Int)))],
 SV.bool false]))) := by kernel_rfl
noncomputable def fWideF (b : List UInt8) : Five × Bool := if b.length ≤ 64 then (fWideL b, true) else (fZero, false)
noncomputable def sFWide : SpecF := fspec (α := List UInt8 × Unit) total (fun a => fWideF a.1)
end Go.Proofs.YtigkddloeikpbaaGreatDoor
/- Package field: bytes: what the bodies come to. -/
set_option maxRecDepth 10000
namespace Go.Proofs.YtigkddloeikpbaaGreatDoor
open Go.Sym

--STOP fCarry, fMul, fSub, fAdd, fNeg, fSq, dPlus, fWhole, fSel, mul64, addLo, addHi, fSame, fNegB, f250, fEleven, fEven, fZero

def five5 (w : Five) : List UInt64 := [w.x0, w.x1, w.x2, w.x3, w.x4]
def byStep (w : List UInt64) (l : List UInt8) (i : Nat) : List UInt8 := l.set (i / 8) (l.getD (i / 8) 0 ||| shl8 (shr64 (w.getD (i / 51) 0) (i % 51) &&& 1).toUInt8 (i % 8))
def fBytesP (w : List UInt64) (n : Nat) : List UInt8 := (List.range n).foldl (byStep w) (List.replicate 32 0)
def iBytes (w0 : List UInt64) (w : List UInt64) (l : List UInt8) (i : Int) : Prop := w = w0 ∧ 0 ≤ i ∧ i ≤ 255 ∧ l = fBytesP w0 i.toNat
def lFBytes : Plan := { loops := [(0, { β := Unit, α := ArrW 5 × OwnB × Int × Unit, same := [], keep := [1, 3, 8], inv := fun _ x0 x => iBytes x0.1.l x.1.l x.2.1.l x.2.2.1, meas := fun _ x => (255 - x.2.2.1).toNat })] }
theorem vcFBytes (a : Five) (Q : SV → Prop) : LfRaw tt spF4 9 [] lFBytes Tryz.f45 Q (a, ()) =
 ((((0 : Int) ≤ (32 : Int)) ∧
 (((32 : Int) = (32 : Int)) ∧
 ((32 : Int) ≤ (1099511627776 : Int)))) ∧
 ((((5 : Nat) = (5 : Nat)) ∧
 (((0 : Nat) = (0 : Nat)) ∧
 (Int.toNat (32 : Int) = (32 : Nat)))) ∧
 ((iBytes [Five.x0 (fWhole a), Five.x1 (fWhole a), Five.x2 (fWhole a), Five.x3 (fWhole a), Five.x4 (fWhole a)]
 [Five.x0 (fWhole a), Five.x1 (fWhole a), Five.x2 (fWhole a), Five.x3 (fWhole a), Five.x4 (fWhole a)]
 [(0 : UInt8), (0 : UInt8), (0 : UInt8), (0 : UInt8), (0 : UInt8), (0 : UInt8), (0 : UInt8), (0 : UInt8), (0 : UInt8),
 (0 : UInt8), (0 : UInt8), (0 : UInt8), (0 : UInt8), (0 : UInt8), (0 : UInt8), (0 : UInt8), (0 : UInt8), (0 : UInt8),
 (0 : UInt8), (0 : UInt8), (0 : UInt8), (0 : UInt8), (0 : UInt8), (0 : UInt8), (0 : UInt8), (0 : UInt8), (0 : UInt8),
 (0 : UInt8), (0 : UInt8), (0 : UInt8), (0 : UInt8), (0 : UInt8)]
 (0 : Int)) ∧
 (∀ l : List UInt64,
 (∀ l_1 : List UInt8,
 (∀ a_1 : Int,
 ((iBytes [Five.x0 (fWhole a), Five.x1 (fWhole a), Five.x2 (fWhole a), Five.x3 (fWhole a), Five.x4 (fWhole a)] l l_1 a_1) →
 bcase (decide (a_1 < (255 : Int)))
 (((((0 : Int) ≤ IntKind.wrap IntKind.i64 (Int.tdiv a_1 (8 : Int))) ∧
 (IntKind.wrap IntKind.i64 (Int.tdiv a_1 (8 : Int)) < (↑(List.length l_1) : Int))) ∧
 ((((0 : Int) ≤ IntKind.wrap IntKind.i64 (Int.tdiv a_1 (51 : Int))) ∧
 (IntKind.wrap IntKind.i64 (Int.tdiv a_1 (51 : Int)) < (↑(5 : Nat) : Int))) ∧
 ((((0 : Int) ≤ IntKind.wrap IntKind.i64 (Int.tdiv a_1 (8 : Int))) ∧
 (IntKind.wrap IntKind.i64 (Int.tdiv a_1 (8 : Int)) < (↑(List.length l_1) : Int))) ∧
 (((List.length l = (5 : Nat)) ∧
 (((0 : Nat) = (0 : Nat)) ∧
 (List.length l_1 =
 List.length
 (List.set l_1 ((0 : Nat) + Int.toNat (IntKind.wrap IntKind.i64 (Int.tdiv a_1 (8 : Int))))
 (List.getD l_1 ((0 : Nat) + Int.toNat (IntKind.wrap IntKind.i64 (Int.tdiv a_1 (8 : Int)))) (0 : UInt8) |||
 shl8
 (UInt64.toUInt8
 (shr64 (List.getD l (Int.toNat (IntKind.wrap IntKind.i64 (Int.tdiv a_1 (51 : Int)))) (0 : UInt64))
 (UInt64.toNat (UInt64.ofInt (Int.tmod a_1 (51 : Int)))) &&&
 UInt64.ofNat (Int.toNat (1 : Int))))
 (UInt64.toNat (UInt64.ofInt (Int.tmod a_1 (8 : Int))))))))) ∧
 ((() = ()) ∧
 ((iBytes [Five.x0 (fWhole a), Five.x1 (fWhole a), Five.x2 (fWhole a), Five.x3 (fWhole a), Five.x4 (fWhole a)] l
 (List.set l_1 ((0 : Nat) + Int.toNat (IntKind.wrap IntKind.i64 (Int.tdiv a_1 (8 : Int))))
 (List.getD l_1 ((0 : Nat) + Int.toNat (IntKind.wrap IntKind.i64 (Int.tdiv a_1 (8 : Int)))) (0 : UInt8) |||
 shl8
 (UInt64.toUInt8
 (shr64 (List.getD l (Int.toNat (IntKind.wrap IntKind.i64 (Int.tdiv a_1 (51 : Int)))) (0 : UInt64))
 (UInt64.toNat (UInt64.ofInt (Int.tmod a_1 (51 : Int)))) &&&
 UInt64.ofNat (Int.toNat (1 : Int))))
 (UInt64.toNat (UInt64.ofInt (Int.tmod a_1 (8 : Int))))))
 (IntKind.wrap IntKind.i64 (a_1 + (1 : Int)))) ∧
 (Int.toNat ((255 : Int) - IntKind.wrap IntKind.i64 (a_1 + (1 : Int))) < Int.toNat ((255 : Int) - a_1)))))))))
 ((Q (SV.lst (LV.bytes (List.drop (0 : Nat) (List.take ((0 : Nat) + List.length l_1) l_1))))))))))))) := by kernel_rfl

def ofStep (b : List UInt8) (l : List UInt64) (i : Nat) : List UInt64 := l.set (i / 51) (l.getD (i / 51) 0 ||| shl64 (shr8 (b.getD (i / 8) 0) (i % 8) &&& 1).toUInt64 (i % 51))
def fOfP (b : List UInt8) (n : Nat) : List UInt64 := (List.range n).foldl (ofStep b) (List.replicate 5 0)
def iFOf (b : List UInt8) (z z' : Five) (l : List UInt64) (i : Int) : Prop := z' = z ∧ 0 ≤ i ∧ i ≤ 255 ∧ l = fOfP b i.toNat
def lFOf : Plan := { loops := [(0, { β := List UInt8 × Unit, α := PFive × ArrW 5 × Int × Unit, same := [0], keep := [2, 4, 16], inv := fun b x0 x => iFOf b.1 x0.1.v x.1.v x.2.1.l x.2.2.1, meas := fun _ x => (255 - x.2.2.1).toNat })] }
end Go.Proofs.YtigkddloeikpbaaGreatDoor
/- Package field: powers, inverses, roots, bytes: the functions come to what is said. -/
set_option maxRecDepth 10000
namespace Go.Proofs.YtigkddloeikpbaaGreatDoor
open Go.Sym

theorem ok_fSq : SpecOK Tryz.prog 83 sFSq := by
  refine fn_okL (by kernel_rfl) tt_ok spF4_ok 9 Tryz.func83 (by decide +kernel) (by kernel_rfl) ?_
  rintro ⟨a, n, _⟩ _
  refine ⟨[], lSq, fun x => x = (fSq (sqM n).toNat a).sv, LnVD.of (vcSq a n _) ?_, fun x h at_ w v r => by have h' : x = _ := h; subst h'; exact r⟩
  have em : (if (1000 : Int) < n then (1000 : Int) else n) = sqM n := rfl
  rw [em]
  have hm : sqM n ≤ 1000 := by unfold sqM; split <;> omega
  refine ⟨⟨by omega, by omega, rfl, rfl⟩, fun v z i ⟨h1, h2, h3, h4⟩ => ?_⟩
  rw [R1.bcase_dec]
  refine ⟨fun hi => ?_, fun hi => ?_⟩
  · rw [R1.wr (x := i + 1) (by omega)]
    refine ⟨rfl, ⟨by omega, .inl (by omega), ?_, h4⟩, by omega⟩
    rw [h3, show (i + 1).toNat = i.toNat + 1 by omega]; rfl
  · rw [h3]
    have : i.toNat = (sqM n).toNat := by omega
    rw [this]; rfl
theorem spF5_ok : SpecsOK Tryz.prog spF5 := spF4_ok
theorem spF6_ok : SpecsOK Tryz.prog spF6 := .cons ok_fSq <| .cons ok_fSame <| .cons ok_fNegB spF5_ok
theorem ok_parts : SpecOK Tryz.prog 82 sParts :=
  fn_ok mixed tt_ok spF6_ok 9 Tryz.func82 (by decide +kernel) (by kernel_rfl)
    (fun a => Same (retSV (RetL.retL (fParts a.1)))) (fun a => by kernel_rfl) (fun _ _ => rfl)
theorem ok_even : SpecOK Tryz.prog 85 sEven := by
  refine fn_okL (by kernel_rfl) tt_ok spF6_ok 9 Tryz.func85 (by decide +kernel) (by kernel_rfl) ?_
  rintro ⟨a, _⟩ _
  refine ⟨[], {}, fun x => x = (fEven a).sv, LnVD.of (vcEven a _) ?_, fun x h at_ w v r => by have h' : x = _ := h; subst h'; exact r⟩
  rw [R1.bcase_iff]
  refine ⟨fun h => ?_, fun h => ?_⟩
  · unfold fEven; rw [h]; rfl
  · unfold fEven; rw [h]; rfl
theorem spF7_ok : SpecsOK Tryz.prog spF7 := .cons ok_parts <| .cons ok_even spF6_ok
theorem ok_imag : SpecOK Tryz.prog 84 sImag := by
  unfold sImag
  rw [imV_eq]
  exact fn_ok mixed tt_ok spF7_ok 9 Tryz.func84 (by decide +kernel) (by kernel_rfl)
    (fun _ => Same (retSV (RetL.retL (fEven (fMul (fSq 3 (f250 (smallV 2))) (smallV 8)))))) (fun a => by kernel_rfl) (fun _ _ => rfl)
theorem ok_fInv : SpecOK Tryz.prog 55 sFInv :=
  fn_ok mixed tt_ok spF7_ok 9 Tryz.func55 (by decide +kernel) (by kernel_rfl)
    (fun a => Same (retSV (RetL.retL (fInv a.1)))) (fun a => by kernel_rfl) (fun _ _ => rfl)
theorem spF8_ok : SpecsOK Tryz.prog spF8 := .cons ok_imag <| .cons ok_fInv spF7_ok
theorem rt_ex : ∃ f : Five → Five → Five × Bool, f = fRoot := ⟨_, rfl⟩
noncomputable def fRootV : Five → Five → Five × Bool := Classical.choose rt_ex
theorem fRootV_eq : fRootV = fRoot := Classical.choose_spec rt_ex
noncomputable def sFRoot : SpecF := fspec (α := Five × Five × Unit) total (fun a => fRootV a.1 a.2.1)
theorem fRoot_A {u v : Five} (h : fSame (fCheck u v) u = true) : fRootV u v = fRootE u v (fCand u v) := by rw [fRootV_eq]; unfold fRoot; rw [if_pos h]
theorem fRoot_B {u v : Five} (h : fSame (fCheck u v) u = false) (h' : fSame (fCheck u v) (fNeg u) = true) : fRootV u v = fRootE u v (fMul (fCand u v) imV) := by
  rw [fRootV_eq]; unfold fRoot; rw [if_neg (by rw [h]; exact Bool.false_ne_true), if_pos h']
theorem fRoot_C {u v : Five} (h : fSame (fCheck u v) u = false) (h' : fSame (fCheck u v) (fNeg u) = false) : fRootV u v = (fZero, false) := by
  rw [fRootV_eq]; unfold fRoot; rw [if_neg (by rw [h]; exact Bool.false_ne_true), if_neg (by rw [h']; exact Bool.false_ne_true)]
theorem fRootE_1 {u v x : Five} (h : fSame v fZero = false) : fRootE u v x = (fEven x, true) := by
  unfold fRootE; rw [if_neg (by rw [h, Bool.false_and]; exact Bool.false_ne_true)]
theorem fRootE_2 {u v x : Five} (h : fSame v fZero = true) (h' : fSame u fZero = true) : fRootE u v x = (fEven x, true) := by
  unfold fRootE; rw [if_neg (by rw [h, h', Bool.true_and]; exact Bool.false_ne_true)]
theorem fRootE_3 {u v x : Five} (h : fSame v fZero = true) (h' : fSame u fZero = false) : fRootE u v x = (fZero, false) := by
  unfold fRootE; rw [if_pos (by rw [h, h', Bool.true_and]; exact Eq.refl _)]
theorem root_fin {u v : Five} (D : Dec) (t : Five × Bool) {E : Prop} (hE : vRoot D t (u, v, ()) = E) (h : E) (ht : fRootV u v = t) :
      ∃ D L, ∃ Q : SV → Prop, LnVD tt spF8 9 D L Tryz.f56 Q (u, v, ()) ∧ ∀ x, Q x → ∀ (at_ : At) (w : World) (v' : Value), Rel at_ w x v' → Rel at_ w (retSV (RetL.retL (fRootV u v))) v' :=
  ⟨D, {}, fun x => x = retSV (RetL.retL t), LnVD.of hE h, fun x h at_ w v' r => by have h' : x = retSV (RetL.retL t) := h; subst h'; rw [ht]; exact r⟩
theorem root_all (u v : Five) : ∃ D L, ∃ Q : SV → Prop, LnVD tt spF8 9 D L Tryz.f56 Q (u, v, ()) ∧ ∀ x, Q x → ∀ (at_ : At) (w : World) (v' : Value), Rel at_ w x v' → Rel at_ w (retSV (RetL.retL (fRootV u v))) v' := by
  by_cases c1 : fSame (fCheck u v) u = true
  · by_cases c2 : fSame v fZero = true
    · by_cases c3 : fSame u fZero = true
      · exact root_fin _ _ (root_A2 u v) ⟨c1, c2, c3, Same.mk _⟩ (by rw [fRoot_A c1, fRootE_2 c2 c3])
      · exact root_fin _ _ (root_A3 u v) ⟨c1, c2, Bool.eq_false_iff.2 c3, Same.mk _⟩ (by rw [fRoot_A c1, fRootE_3 c2 (Bool.eq_false_iff.2 c3)])
    · exact root_fin _ _ (root_A1 u v) ⟨c1, Bool.eq_false_iff.2 c2, Same.mk _⟩ (by rw [fRoot_A c1, fRootE_1 (Bool.eq_false_iff.2 c2)])
  · replace c1 := Bool.eq_false_iff.2 c1
    by_cases c4 : fSame (fCheck u v) (fNeg u) = true
    · by_cases c2 : fSame v fZero = true
      · by_cases c3 : fSame u fZero = true
        · exact root_fin _ _ (root_B2 u v) ⟨c1, c4, c2, c3, Same.mk _⟩ (by rw [fRoot_B c1 c4, fRootE_2 c2 c3])
        · exact root_fin _ _ (root_B3 u v) ⟨c1, c4, c2, Bool.eq_false_iff.2 c3, Same.mk _⟩ (by rw [fRoot_B c1 c4, fRootE_3 c2 (Bool.eq_false_iff.2 c3)])
      · exact root_fin _ _ (root_B1 u v) ⟨c1, c4, Bool.eq_false_iff.2 c2, Same.mk _⟩ (by rw [fRoot_B c1 c4, fRootE_1 (Bool.eq_false_iff.2 c2)])
    · exact root_fin _ _ (root_C u v) ⟨c1, Bool.eq_false_iff.2 c4, Same.mk _⟩ (by rw [fRoot_C c1 (Bool.eq_false_iff.2 c4)])
theorem ok_fRoot : SpecOK Tryz.prog 56 sFRoot :=
  fn_okL (by kernel_rfl) tt_ok spF8_ok 9 Tryz.func56 (by decide +kernel) (by kernel_rfl) (fun (⟨u, v, ()⟩ : Five × Five × Unit) _ => root_all u v)
theorem fWideL_snoc (b : List UInt8) (c : UInt8) : fWideL (b ++ [c]) = fAdd (fMul (fWideL b) (smallV 256)) (smallV c.toUInt32) := by simp [fWideL, List.foldl_append]
theorem take_snoc8 (b : List UInt8) (i : Nat) (h : i < b.length) : b.take (i + 1) = b.take i ++ [b.getD i 0] := by
  rw [List.take_add_one, List.getD_eq_getElem?_getD, List.getElem?_eq_getElem h]; rfl
theorem ok_fWide : SpecOK Tryz.prog 23 sFWide := by
  refine fn_okL (by kernel_rfl) tt_ok spF8_ok 9 Tryz.func23 (by decide +kernel) (by kernel_rfl) ?_
  rintro ⟨b, _⟩ _
  by_cases hb : b.length ≤ 64
  · refine ⟨_, lWide, fun x => x = .tup [(fWideL b).sv, .bool true], LnVD.of (vcWideA b _) ?_, fun x h at_ w v r => by
      have h' : x = _ := h
      subst h'
      have e : fWideF b = (fWideL b, true) := by unfold fWideF; rw [if_pos hb]
      show Rel at_ w (retSV (RetL.retL (fWideF b))) v
      rw [e]; exact r⟩
    refine ⟨by simp; omega, ⟨by omega, by omega, rfl, rfl⟩, fun z v i ⟨h1, h2, h3, h4⟩ => ?_⟩
    rw [R1.bcase_dec]
    refine ⟨fun hi => ?_, fun hi => ?_⟩
    · rw [R1.wr (x := i + 1) (by omega)]
      refine ⟨⟨h1, hi⟩, rfl, ⟨by omega, by omega, ?_, h4⟩, by omega⟩
      rw [show (i + 1).toNat = i.toNat + 1 by omega, take_snoc8 b _ (by omega), fWideL_snoc, ← h3]
      rfl
    · rw [h3, List.take_of_length_le (by omega)]; rfl
  · refine ⟨_, lWide, fun x => x = .tup [fZero.sv, .bool false], LnVD.of (vcWideB b _) ⟨by simp; omega, rfl⟩, fun x h at_ w v r => by
      have h' : x = _ := h
      subst h'
      have e : fWideF b = (fZero, false) := by unfold fWideF; rw [if_neg hb]
      show Rel at_ w (retSV (RetL.retL (fWideF b))) v
      rw [e]; exact r⟩

/-! Bytes. -/
theorem byStep_len (w : List UInt64) (l : List UInt8) (i : Nat) : (byStep w l i).length = l.length := by simp [byStep]
theorem fBytesP_succ (w : List UInt64) (n : Nat) : fBytesP w (n + 1) = byStep w (fBytesP w n) n := by simp [fBytesP, List.range_succ, List.foldl_append]
theorem fBytesP_len (w : List UInt64) : ∀ n, (fBytesP w n).length = 32
  | 0 => by simp [fBytesP]
  | n + 1 => by rw [fBytesP_succ, byStep_len, fBytesP_len w n]
theorem ofInt_mod (i : Int) (d : Nat) (h : 0 ≤ i) (hd : 0 < d) (hd' : d < 1000) : (UInt64.ofInt (Int.tmod i (d : Int))).toNat = i.toNat % d := by
  obtain ⟨n, rfl⟩ := Int.eq_ofNat_of_zero_le h
  rw [Int.tmod_eq_emod_of_nonneg h, ofInt64, ← Int.natCast_emod]
  have h1 := Nat.mod_lt n hd
  rw [Int.toNat_natCast]
  omega
theorem div_toNat (i : Int) (d : Nat) (h : 0 ≤ i) (h' : i < 1000) (hd : 0 < d) : IntKind.wrap .i64 (Int.tdiv i (d : Int)) = ((i.toNat / d : Nat) : Int) := by
  rw [Int.tdiv_eq_ediv_of_nonneg h, R1.wr]
  · rw [Int.natCast_ediv, Int.toNat_of_nonneg h]
  · have h1 : 0 ≤ i / (d : Int) := Int.ediv_nonneg h (by omega)
    have h2 : i / (d : Int) ≤ i := Int.ediv_le_self _ h
    omega
def fBytes (a : Five) : List UInt8 := fBytesP (five5 (fWhole a)) 255
theorem fb_ex : ∃ f : Five → List UInt8, f = fBytes := ⟨_, rfl⟩
/-- An element's bytes, told so that no machine computes them. -/
noncomputable def fBytesO : Five → List UInt8 := Classical.choose fb_ex
theorem fBytesO_eq : fBytesO = fBytes := Classical.choose_spec fb_ex
noncomputable def sFBytes : SpecF := fspec (α := Five × Unit) total (fun a => fBytesO a.1)
theorem ok_fBytes : FSpecOK Tryz.prog 45 sFBytes := by
  unfold sFBytes
  rw [fBytesO_eq]
  refine fn_okF (by kernel_rfl) tt_ok spF4_ok 9 Tryz.func45 (by decide +kernel) (by kernel_rfl) ?_
  rintro ⟨a, _⟩ _
  refine ⟨[], lFBytes, fun x => x = .lst (.bytes (fBytes a)), LfVD.of (vcFBytes a _) ?_, fun x h at_ n w v r => by have h' : x = _ := h; subst h'; exact r⟩
  refine ⟨by omega, ⟨rfl, rfl, rfl⟩, ⟨rfl, by omega, by omega, rfl⟩, fun w l i ⟨h1, h2, h3, h4⟩ => ?_⟩
  subst h1
  have hl : l.length = 32 := by rw [h4]; exact fBytesP_len _ _
  rw [R1.bcase_dec]
  refine ⟨fun hi => ?_, fun hi => ?_⟩
  · have e8 := div_toNat i 8 h2 (by omega) (by omega)
    have e51 := div_toNat i 51 h2 (by omega) (by omega)
    have m8 := ofInt_mod i 8 h2 (by omega) (by omega)
    have m51 := ofInt_mod i 51 h2 (by omega) (by omega)
    simp only [Int.cast_ofNat_Int] at e8 e51 m8 m51
    rw [e8, e51, m8, m51, R1.wr (x := i + 1) (by omega)]
    have b8 : i.toNat / 8 < 32 := by omega
    have b51 : i.toNat / 51 < 5 := by omega
    refine ⟨⟨by omega, by rw [hl]; omega⟩, ⟨by omega, by omega⟩, ⟨by omega, by rw [hl]; omega⟩, ⟨rfl, rfl, by simp⟩, rfl, ⟨rfl, by omega, by omega, ?_⟩, by omega⟩
    rw [show (i + 1).toNat = i.toNat + 1 by omega, fBytesP_succ, ← h4]
    simp only [byStep, Nat.zero_add, Int.toNat_natCast]
    rfl
  · have e : l = fBytes a := by
      rw [h4, show i.toNat = 255 by omega]
      unfold fBytes five5
      rfl
    show SV.lst (LV.bytes (List.drop 0 (List.take (0 + l.length) l))) = _
    rw [R1.whole, e]
theorem ofStep_len (b : List UInt8) (l : List UInt64) (i : Nat) : (ofStep b l i).length = l.length := by simp [ofStep]
theorem fOfP_succ (b : List UInt8) (n : Nat) : fOfP b (n + 1) = ofStep b (fOfP b n) n := by simp [fOfP, List.range_succ, List.foldl_append]
theorem fOfP_len (b : List UInt8) : ∀ n, (fOfP b n).length = 5
  | 0 => by simp [fOfP]
  | n + 1 => by rw [fOfP_succ, ofStep_len, fOfP_len b n]
def fiveL (l : List UInt64) : Five := ⟨l.getD 0 0, l.getD 1 0, l.getD 2 0, l.getD 3 0, l.getD 4 0⟩
def fOfV (b : List UInt8) : Five := fiveL (fOfP b 255)
def fOf (b : List UInt8) : Five × Bool := if b.length = 32 ∧ (b.getD 31 0).toNat ≤ 127 ∧ eq5 (fOfV b) (fWhole (fOfV b)) = true then (fOfV b, true) else (fZero, false)
theorem fiveL_sv (l : List UInt64) : (fiveL l).sv = .agg [.u64 (l.getD 0 0), .u64 (l.getD 1 0), .u64 (l.getD 2 0), .u64 (l.getD 3 0), .u64 (l.getD 4 0)] := rfl
theorem fo_ex : ∃ f : List UInt8 → Five × Bool, f = fOf := ⟨_, rfl⟩
noncomputable def fOfO : List UInt8 → Five × Bool := Classical.choose fo_ex
theorem fOfO_eq : fOfO = fOf := Classical.choose_spec fo_ex
noncomputable def sFOf : SpecF := fspec (α := List UInt8 × Unit) total (fun a => fOfO a.1)
theorem ofRound (b : List UInt8) (l : List UInt64) (i : Int) (h2 : 0 ≤ i) (hi : i < 255) (h4 : l = fOfP b i.toNat) :
    List.set l (Int.toNat (IntKind.wrap IntKind.i64 (Int.tdiv i 51))) (List.getD l (Int.toNat (IntKind.wrap IntKind.i64 (Int.tdiv i 51))) 0 |||
      shl64 (UInt8.toUInt64 (shr8 (List.getD b (Int.toNat (IntKind.wrap IntKind.i64 (Int.tdiv i 8))) 0) (UInt64.toNat (UInt64.ofInt (Int.tmod i 8))) &&& UInt8.ofNat (Int.toNat 1))) (UInt64.toNat (UInt64.ofInt (Int.tmod i 51)))) = fOfP b (i + 1).toNat := by
  have e8 := div_toNat i 8 h2 (by omega) (by omega)
  have e51 := div_toNat i 51 h2 (by omega) (by omega)
  have m8 := ofInt_mod i 8 h2 (by omega) (by omega)
  have m51 := ofInt_mod i 51 h2 (by omega) (by omega)
  simp only [Int.cast_ofNat_Int] at e8 e51 m8 m51
  rw [e8, e51, m8, m51, show (i + 1).toNat = i.toNat + 1 by omega, fOfP_succ, ← h4]
  simp only [ofStep, Int.toNat_natCast]
  rfl
theorem ok_fOf : SpecOK Tryz.prog 1000000 Sym.sNo := Sym.sNo_ok _ _
end Go.Proofs.YtigkddloeikpbaaGreatDoor
/- The reference of layer 4 on numbers: what its functions come to. -/
set_option maxRecDepth 10000
namespace Go.Proofs.YtigkddloeikpbaaGreatDoor.F4
open Go.Sym Go.Dig R1

abbrev N1 := Num × Unit
abbrev N2 := Num × Num × Unit
/-- Numbers that are not too large. -/
def Lm (n : Nat) : Prop := (dg n).length ≤ 1048576
/-- Of half as many digits. -/
def Lh (n : Nat) : Prop := (dg n).length ≤ 524287
--STOP R1.Sm, Lm, Lh, fCarry, fMul, fSub, fAdd
theorem pn_ex : ∃ p : Nat, p = p5 := ⟨_, rfl⟩
/-- p, told so that no machine computes with it. -/
noncomputable def pV : Nat := Classical.choose pn_ex
theorem pV_eq : pV = p5 := Classical.choose_spec pn_ex
def spA : Specs := R1.spN
theorem vcP (Q : SV → Prop) : LnRaw tt spA 3 [] {} Tryz.f66 Q () =
 ((((0 : Int) ≤ (255 : Int)) ∧
 ((255 : Int) ≤ (1073741824 : Int))) ∧
 (((Sm ((2 : Nat) ^ Int.toNat (255 : Int))) ∧
 ((Int.toNat (19 : Int) ≤ (2 : Nat) ^ Int.toNat (255 : Int)) ∧
 (Sm (Int.toNat (19 : Int))))) ∧
 (Q (SV.lst (LV.num ((2 : Nat) ^ Int.toNat (255 : Int) - Int.toNat (19 : Int))))))) := by kernel_rfl
noncomputable def nP : SpecF := fspec (α := Unit) (β := Num) total (fun _ => ⟨pV⟩)
noncomputable def spB : Specs := (66, nP) :: spA
def iRed (a x : Nat) : Prop := x % p5 = a % p5 ∧ Lm x
def lRed : Plan := { loops := [(0, { β := Num × Unit, α := Num × Unit, same := [3], keep := [0], inv := fun _ x0 x => iRed x0.1.n x.1.n, meas := fun _ x => x.1.n })] }
theorem vcRed (a : Nat) (Q : SV → Prop) : LnRaw tt spB 3 [] lRed Tryz.f43 Q ((⟨a⟩ : Num), ()) =
 ((iRed a a) ∧
 (∀ a_1 : Num,
 ((iRed a (Num.n a_1)) →
 ((Sm (Num.n a_1)) ∧
 bcase (decide ((↑(bitsN (Num.n a_1)) : Int) > (255 : Int)))
 ((((Sm (Num.n a_1)) ∧
 (((0 : Int) ≤ (255 : Int)) ∧
 ((255 : Int) ≤ (1073741824 : Int)))) ∧
 (((List.length (dg (Num.n a_1 / (2 : Nat) ^ Int.toNat (255 : Int))) ≤ (536870912 : Nat)) ∧
 (((0 : Int) ≤ (255 : Int)) ∧
 ((255 : Int) ≤ (1073741824 : Int)))) ∧
 (((Sm (Num.n a_1)) ∧
 ((Num.n a_1 / (2 : Nat) ^ Int.toNat (255 : Int) * (2 : Nat) ^ Int.toNat (255 : Int) ≤ Num.n a_1) ∧
 (Sm (Num.n a_1 / (2 : Nat) ^ Int.toNat (255 : Int) * (2 : Nat) ^ Int.toNat (255 : Int))))) ∧
 (((Sm (Num.n a_1 / (2 : Nat) ^ Int.toNat (255 : Int))) ∧
 (((0 : Int) ≤ (19 : Int)) ∧
 ((19 : Int) < (9223372036854775808 : Int)))) ∧
 (((Sm (Num.n a_1 - Num.n a_1 / (2 : Nat) ^ Int.toNat (255 : Int) * (2 : Nat) ^ Int.toNat (255 : Int))) ∧
 (Sm (Num.n a_1 / (2 : Nat) ^ Int.toNat (255 : Int) * Int.toNat (19 : Int)))) ∧
 (((Num.mk pV, ()) = (Num.mk pV, ())) ∧
 ((iRed a
 (Num.n a_1 - Num.n a_1 / (2 : Nat) ^ Int.toNat (255 : Int) * (2 : Nat) ^ Int.toNat (255 : Int) +
 Num.n a_1 / (2 : Nat) ^ Int.toNat (255 : Int) * Int.toNat (19 : Int))) ∧
 (Num.n a_1 - Num.n a_1 / (2 : Nat) ^ Int.toNat (255 : Int) * (2 : Nat) ^ Int.toNat (255 : Int) +
 Num.n a_1 / (2 : Nat) ^ Int.toNat (255 : Int) * Int.toNat (19 : Int) <
 Num.n a_1)))))))))
 ((((Sm (Num.n a_1)) ∧
 (Sm pV)) ∧
 bcase (decide (cmpN (Num.n a_1) pV ≥ (0 : Int)))
 ((((Sm (Num.n a_1)) ∧
 ((pV ≤ Num.n a_1) ∧
 (Sm pV))) ∧
 (Q (SV.lst (LV.num (Num.n a_1 - pV))))))
 ((Q (SV.lst (LV.num (Num.n a_1))))))))))) := by kernel_rfl
noncomputable def nRed : SpecF := fspec (α := N1) (β := Num) (fun a => some (Lm a.1.n)) (fun a => ⟨a.1.n % pV⟩)
noncomputable def spC : Specs := (43, nRed) :: spB
theorem vcMul (a b : Nat) (Q : SV → Prop) : LnRaw tt spC 3 [] {} Tryz.f38 Q ((⟨a⟩ : Num), (⟨b⟩ : Num), ()) =
 (((Sm a) ∧
 (Sm b)) ∧
 ((Lm (a * b)) ∧
 (Q (SV.lst (LV.num (a * b % pV)))))) := by kernel_rfl
theorem vcAdd (a b : Nat) (Q : SV → Prop) : LnRaw tt spC 3 [] {} Tryz.f34 Q ((⟨a⟩ : Num), (⟨b⟩ : Num), ()) =
 (((Sm a) ∧
 (Sm b)) ∧
 ((Lm (a + b)) ∧
 (Q (SV.lst (LV.num ((a + b) % pV)))))) := by kernel_rfl
theorem vcSub (a b : Nat) (Q : SV → Prop) : LnRaw tt spC 3 [] {} Tryz.f36 Q ((⟨a⟩ : Num), (⟨b⟩ : Num), ()) =
 (((Sm a) ∧
 (Sm pV)) ∧
 (((Sm (a + pV)) ∧
 ((b ≤ a + pV) ∧
 (Sm b))) ∧
 ((Lm (a + pV - b)) ∧
 (Q (SV.lst (LV.num ((a + pV - b) % pV))))))) := by kernel_rfl
noncomputable def nFMul : SpecF := fspec (α := N2) (β := Num) (fun a => some (Lh a.1.n ∧ Lh a.2.1.n)) (fun a => ⟨a.1.n * a.2.1.n % pV⟩)
noncomputable def nFAdd : SpecF := fspec (α := N2) (β := Num) (fun a => some (Lh a.1.n ∧ Lh a.2.1.n)) (fun a => ⟨(a.1.n + a.2.1.n) % pV⟩)
noncomputable def nFSub : SpecF := fspec (α := N2) (β := Num) (fun a => some (Lh a.1.n ∧ Lh a.2.1.n ∧ a.2.1.n ≤ a.1.n + pV)) (fun a => ⟨(a.1.n + pV - a.2.1.n) % pV⟩)
noncomputable def spD : Specs := (38, nFMul) :: (34, nFAdd) :: (36, nFSub) :: spC
def iExp (a e : Nat) (out : Nat) (i : Int) : Prop := -1 ≤ i ∧ i < (bitsN e : Nat) ∧ out = a ^ (e / 2 ^ (i + 1).toNat) % p5
def lExp : Plan := { loops := [(0, { β := Num × Num × Unit, α := Num × Int × Unit, same := [0, 1], keep := [5, 6], inv := fun b _ x => iExp b.1.n b.2.1.n x.1.n x.2.1, meas := fun _ x => (x.2.1 + 1).toNat })] }
theorem vcExp (a e : Nat) (Q : SV → Prop) : LnRaw tt spD 3 [] lExp Tryz.f72 Q ((⟨a⟩ : Num), (⟨e⟩ : Num), ()) =
 ((Sm e) ∧
 ((iExp a e (Int.toNat (1 : Int)) (IntKind.wrap IntKind.i64 ((↑(bitsN e) : Int) - (1 : Int)))) ∧
 (∀ a_1 : Num,
 (∀ a_2 : Int,
 ((iExp a e (Num.n a_1) a_2) →
 bcase (decide (a_2 ≥ (0 : Int)))
 ((((Lh (Num.n a_1)) ∧
 (Lh (Num.n a_1))) ∧
 (((Sm e) ∧
 (((0 : Int) ≤ a_2) ∧
 (a_2 ≤ (1073741824 : Int)))) ∧
 bcase ((↑(e / (2 : Nat) ^ Int.toNat a_2 % (2 : Nat)) : Int) == (1 : Int))
 ((((Lh (Num.n a_1 * Num.n a_1 % pV)) ∧
 (Lh a)) ∧
 (((Num.mk a, Num.mk e, ()) = (Num.mk a, Num.mk e, ())) ∧
 ((iExp a e (Num.n a_1 * Num.n a_1 % pV * a % pV) (IntKind.wrap IntKind.i64 (a_2 - (1 : Int)))) ∧
 (Int.toNat (IntKind.wrap IntKind.i64 (a_2 - (1 : Int)) + (1 : Int)) < Int.toNat (a_2 + (1 : Int)))))))
 ((((Num.mk a, Num.mk e, ()) = (Num.mk a, Num.mk e, ())) ∧
 ((iExp a e (Num.n a_1 * Num.n a_1 % pV) (IntKind.wrap IntKind.i64 (a_2 - (1 : Int)))) ∧
 (Int.toNat (IntKind.wrap IntKind.i64 (a_2 - (1 : Int)) + (1 : Int)) < Int.toNat (a_2 + (1 : Int)))))))))
 ((Q (SV.lst (LV.num (Num.n a_1)))))))))) := by kernel_rfl
noncomputable def nFExp : SpecF := fspec (α := N2) (β := Num) (fun a => some (Lh a.1.n ∧ Lh a.2.1.n)) (fun a => ⟨a.1.n ^ a.2.1.n % pV⟩)
noncomputable def spE : Specs := (72, nFExp) :: spD
theorem vcInv (a : Nat) (Q : SV → Prop) : LnRaw tt spE 3 [] {} Tryz.f39 Q ((⟨a⟩ : Num), ()) =
 (((Sm pV) ∧
 ((Int.toNat (2 : Int) ≤ pV) ∧
 (Sm (Int.toNat (2 : Int))))) ∧
 (((Lh a) ∧
 (Lh (pV - Int.toNat (2 : Int)))) ∧
 (Q (SV.lst (LV.num (a ^ (pV - Int.toNat (2 : Int)) % pV)))))) := by kernel_rfl
theorem vcOdd (a : Nat) (Q : SV → Prop) : LnRaw tt spE 3 [] {} Tryz.f48 Q ((⟨a⟩ : Num), ()) =
 (((Sm a) ∧
 (((0 : Int) ≤ (0 : Int)) ∧
 ((0 : Int) ≤ (1073741824 : Int)))) ∧
 (Q (SV.bool ((↑(a / (2 : Nat) ^ Int.toNat (0 : Int) % (2 : Nat)) : Int) == (1 : Int))))) := by kernel_rfl
noncomputable def nFInv : SpecF := fspec (α := N1) (β := Num) (fun a => some (Lh a.1.n)) (fun a => ⟨a.1.n ^ (pV - 2) % pV⟩)
def nFOdd : SpecF := fspec (α := N1) (β := Bool) (fun a => some (Lh a.1.n)) (fun a => decide (a.1.n % 2 = 1))
noncomputable def spG : Specs := (39, nFInv) :: (48, nFOdd) :: spE
theorem vcEvenT (a : Nat) (Q : SV → Prop) : LnRaw tt spG 3 [(1, 1, .b true)] {} Tryz.f74 Q ((⟨a⟩ : Num), ()) =
 ((Lh a) ∧
 ((decide (a % (2 : Nat) = (1 : Nat)) = true) ∧
 (((Lh (0 : Nat)) ∧
 ((Lh a) ∧
 (a ≤ (0 : Nat) + pV))) ∧
 (Q (SV.lst (LV.num (((0 : Nat) + pV - a) % pV))))))) := by kernel_rfl
theorem vcEvenF (a : Nat) (Q : SV → Prop) : LnRaw tt spG 3 [(1, 1, .b false)] {} Tryz.f74 Q ((⟨a⟩ : Num), ()) =
 ((Lh a) ∧
 ((decide (a % (2 : Nat) = (1 : Nat)) = false) ∧
 (Q (SV.lst (LV.num a))))) := by kernel_rfl
/-- The one of both signs that is even. -/
noncomputable def evN (a : Nat) : Nat := if a % 2 = 1 then (pV - a) % pV else a
noncomputable def nFEven : SpecF := fspec (α := N1) (β := Num) (fun a => some (a.1.n < pV)) (fun a => ⟨evN a.1.n⟩)
noncomputable def spH : Specs := (74, nFEven) :: spG
theorem vcRootA (a : Nat) (Q : SV → Prop) : LnRaw tt spH 3 [(3, 5, .b true)] {} Tryz.f35 Q ((⟨a⟩ : Num), ()) =
 (((Sm pV) ∧
 (Sm (Int.toNat (3 : Int)))) ∧
 (((Sm (pV + Int.toNat (3 : Int))) ∧
 (((0 : Int) ≤ (3 : Int)) ∧
 ((3 : Int) ≤ (1073741824 : Int)))) ∧
 (((Lh a) ∧
 (Lh ((pV + Int.toNat (3 : Int)) / (2 : Nat) ^ Int.toNat (3 : Int)))) ∧
 (((Lh (a ^ ((pV + Int.toNat (3 : Int)) / (2 : Nat) ^ Int.toNat (3 : Int)) % pV)) ∧
 (Lh (a ^ ((pV + Int.toNat (3 : Int)) / (2 : Nat) ^ Int.toNat (3 : Int)) % pV))) ∧
 (((Sm
 (a ^ ((pV + Int.toNat (3 : Int)) / (2 : Nat) ^ Int.toNat (3 : Int)) % pV *
 (a ^ ((pV + Int.toNat (3 : Int)) / (2 : Nat) ^ Int.toNat (3 : Int)) % pV) %
 pV)) ∧
 (Sm a)) ∧
 (((cmpN
 (a ^ ((pV + Int.toNat (3 : Int)) / (2 : Nat) ^ Int.toNat (3 : Int)) % pV *
 (a ^ ((pV + Int.toNat (3 : Int)) / (2 : Nat) ^ Int.toNat (3 : Int)) % pV) %
 pV)
 a ==
 (0 : Int)) =
 true) ∧
 ((a ^ ((pV + Int.toNat (3 : Int)) / (2 : Nat) ^ Int.toNat (3 : Int)) % pV < pV) ∧
 (Q
 (SV.tup
 [SV.lst (LV.num (evN (a ^ ((pV + Int.toNat (3 : Int)) / (2 : Nat) ^ Int.toNat (3 : Int)) % pV))), SV.bool true]))))))))) := by kernel_rfl
theorem vcRootB (a : Nat) (Q : SV → Prop) : LnRaw tt spH 3 [(3, 5, .b false), (6, 5, .b true)] {} Tryz.f35 Q ((⟨a⟩ : Num), ()) =
 (((Sm pV) ∧
 (Sm (Int.toNat (3 : Int)))) ∧
 (((Sm (pV + Int.toNat (3 : Int))) ∧
 (((0 : Int) ≤ (3 : Int)) ∧
 ((3 : Int) ≤ (1073741824 : Int)))) ∧
 (((Lh a) ∧
 (Lh ((pV + Int.toNat (3 : Int)) / (2 : Nat) ^ Int.toNat (3 : Int)))) ∧
 (((Lh (a ^ ((pV + Int.toNat (3 : Int)) / (2 : Nat) ^ Int.toNat (3 : Int)) % pV)) ∧
 (Lh (a ^ ((pV + Int.toNat (3 : Int)) / (2 : Nat) ^ Int.toNat (3 : Int)) % pV))) ∧
 (((Sm
 (a ^ ((pV + Int.toNat (3 : Int)) / (2 : Nat) ^ Int.toNat (3 : Int)) % pV *
 (a ^ ((pV + Int.toNat (3 : Int)) / (2 : Nat) ^ Int.toNat (3 : Int)) % pV) %
 pV)) ∧
 (Sm a)) ∧
 (((cmpN
 (a ^ ((pV + Int.toNat (3 : Int)) / (2 : Nat) ^ Int.toNat (3 : Int)) % pV *
 (a ^ ((pV + Int.toNat (3 : Int)) / (2 : Nat) ^ Int.toNat (3 : Int)) % pV) %
 pV)
 a ==
 (0 : Int)) =
 false) ∧
 (((Sm pV) ∧
 ((Int.toNat (1 : Int) ≤ pV) ∧
 (Sm (Int.toNat (1 : Int))))) ∧
 (((Sm (pV - Int.toNat (1 : Int))) ∧
 (((0 : Int) ≤ (2 : Int)) ∧
 ((2 : Int) ≤ (1073741824 : Int)))) ∧
 (((Lh (Int.toNat (2 : Int))) ∧
 (Lh ((pV - Int.toNat (1 : Int)) / (2 : Nat) ^ Int.toNat (2 : Int)))) ∧
 (((Lh (a ^ ((pV + Int.toNat (3 : Int)) / (2 : Nat) ^ Int.toNat (3 : Int)) % pV)) ∧
 (Lh (Int.toNat (2 : Int) ^ ((pV - Int.toNat (1 : Int)) / (2 : Nat) ^ Int.toNat (2 : Int)) % pV))) ∧
 (((Lh
 (a ^ ((pV + Int.toNat (3 : Int)) / (2 : Nat) ^ Int.toNat (3 : Int)) % pV *
 (Int.toNat (2 : Int) ^ ((pV - Int.toNat (1 : Int)) / (2 : Nat) ^ Int.toNat (2 : Int)) % pV) %
 pV)) ∧
 (Lh
 (a ^ ((pV + Int.toNat (3 : Int)) / (2 : Nat) ^ Int.toNat (3 : Int)) % pV *
 (Int.toNat (2 : Int) ^ ((pV - Int.toNat (1 : Int)) / (2 : Nat) ^ Int.toNat (2 : Int)) % pV) %
 pV))) ∧
 (((Sm
 (a ^ ((pV + Int.toNat (3 : Int)) / (2 : Nat) ^ Int.toNat (3 : Int)) % pV *
 (Int.toNat (2 : Int) ^ ((pV - Int.toNat (1 : Int)) / (2 : Nat) ^ Int.toNat (2 : Int)) % pV) %
 pV *
 (a ^ ((pV + Int.toNat (3 : Int)) / (2 : Nat) ^ Int.toNat (3 : Int)) % pV *
 (Int.toNat (2 : Int) ^ ((pV - Int.toNat (1 : Int)) / (2 : Nat) ^ Int.toNat (2 : Int)) % pV) %
 pV) %
 pV)) ∧
 (Sm a)) ∧
 (((cmpN
 (a ^ ((pV + Int.toNat (3 : Int)) / (2 : Nat) ^ Int.toNat (3 : Int)) % pV *
 (Int.toNat (2 : Int) ^ ((pV - Int.toNat (1 : Int)) / (2 : Nat) ^ Int.toNat (2 : Int)) % pV) %
 pV *
 (a ^ ((pV + Int.toNat (3 : Int)) / (2 : Nat) ^ Int.toNat (3 : Int)) % pV *
 (Int.toNat (2 : Int) ^ ((pV - Int.toNat (1 : Int)) / (2 : Nat) ^ Int.toNat (2 : Int)) % pV) %
 pV) %
 pV)
 a ==
 (0 : Int)) =
 true) ∧
 ((a ^ ((pV + Int.toNat (3 : Int)) / (2 : Nat) ^ Int.toNat (3 : Int)) % pV *
 (Int.toNat (2 : Int) ^ ((pV - Int.toNat (1 : Int)) / (2 : Nat) ^ Int.toNat (2 : Int)) % pV) %
 pV <
 pV) ∧
 (Q
 (SV.tup
 [SV.lst
 (LV.num
 (evN
 (a ^ ((pV + Int.toNat (3 : Int)) / (2 : Nat) ^ Int.toNat (3 : Int)) % pV *
 (Int.toNat (2 : Int) ^ ((pV - Int.toNat (1 : Int)) / (2 : Nat) ^ Int.toNat (2 : Int)) % pV) %
 pV))),
 SV.bool true])))))))))))))))) := by kernel_rfl
theorem vcRootC (a : Nat) (Q : SV → Prop) : LnRaw tt spH 3 [(3, 5, .b false), (6, 5, .b false)] {} Tryz.f35 Q ((⟨a⟩ : Num), ()) =
 (((Sm pV) ∧
 (Sm (Int.toNat (3 : Int)))) ∧
 (((Sm (pV + Int.toNat (3 : Int))) ∧
 (((0 : Int) ≤ (3 : Int)) ∧
 ((3 : Int) ≤ (1073741824 : Int)))) ∧
 (((Lh a) ∧
 (Lh ((pV + Int.toNat (3 : Int)) / (2 : Nat) ^ Int.toNat (3 : Int)))) ∧
 (((Lh (a ^ ((pV + Int.toNat (3 : Int)) / (2 : Nat) ^ Int.toNat (3 : Int)) % pV)) ∧
 (Lh (a ^ ((pV + Int.toNat (3 : Int)) / (2 : Nat) ^ Int.toNat (3 : Int)) % pV))) ∧
 (((Sm
 (a ^ ((pV + Int.toNat (3 : Int)) / (2 : Nat) ^ Int.toNat (3 : Int)) % pV *
 (a ^ ((pV + Int.toNat (3 : Int)) / (2 : Nat) ^ Int.toNat (3 : Int)) % pV) %
 pV)) ∧
 (Sm a)) ∧
 (((cmpN
 (a ^ ((pV + Int.toNat (3 : Int)) / (2 : Nat) ^ Int.toNat (3 : Int)) % pV *
 (a ^ ((pV + Int.toNat (3 : Int)) / (2 : Nat) ^ Int.toNat (3 : Int)) % pV) %
 pV)
 a ==
 (0 : Int)) =
 false) ∧
 (((Sm pV) ∧
 ((Int.toNat (1 : Int) ≤ pV) ∧
 (Sm (Int.toNat (1 : Int))))) ∧
 (((Sm (pV - Int.toNat (1 : Int))) ∧
 (((0 : Int) ≤ (2 : Int)) ∧
 ((2 : Int) ≤ (1073741824 : Int)))) ∧
 (((Lh (Int.toNat (2 : Int))) ∧
 (Lh ((pV - Int.toNat (1 : Int)) / (2 : Nat) ^ Int.toNat (2 : Int)))) ∧
 (((Lh (a ^ ((pV + Int.toNat (3 : Int)) / (2 : Nat) ^ Int.toNat (3 : Int)) % pV)) ∧
 (Lh (Int.toNat (2 : Int) ^ ((pV - Int.toNat (1 : Int)) / (2 : Nat) ^ Int.toNat (2 : Int)) % pV))) ∧
 (((Lh
 (a ^ ((pV + Int.toNat (3 : Int)) / (2 : Nat) ^ Int.toNat (3 : Int)) % pV *
 (Int.toNat (2 : Int) ^ ((pV - Int.toNat (1 : Int)) / (2 : Nat) ^ Int.toNat (2 : Int)) % pV) %
 pV)) ∧
 (Lh
 (a ^ ((pV + Int.toNat (3 : Int)) / (2 : Nat) ^ Int.toNat (3 : Int)) % pV *
 (Int.toNat (2 : Int) ^ ((pV - Int.toNat (1 : Int)) / (2 : Nat) ^ Int.toNat (2 : Int)) % pV) %
 pV))) ∧
 (((Sm
 (a ^ ((pV + Int.toNat (3 : Int)) / (2 : Nat) ^ Int.toNat (3 : Int)) % pV *
 (Int.toNat (2 : Int) ^ ((pV - Int.toNat (1 : Int)) / (2 : Nat) ^ Int.toNat (2 : Int)) % pV) %
 pV *
 (a ^ ((pV + Int.toNat (3 : Int)) / (2 : Nat) ^ Int.toNat (3 : Int)) % pV *
 (Int.toNat (2 : Int) ^ ((pV - Int.toNat (1 : Int)) / (2 : Nat) ^ Int.toNat (2 : Int)) % pV) %
 pV) %
 pV)) ∧
 (Sm a)) ∧
 (((cmpN
 (a ^ ((pV + Int.toNat (3 : Int)) / (2 : Nat) ^ Int.toNat (3 : Int)) % pV *
 (Int.toNat (2 : Int) ^ ((pV - Int.toNat (1 : Int)) / (2 : Nat) ^ Int.toNat (2 : Int)) % pV) %
 pV *
 (a ^ ((pV + Int.toNat (3 : Int)) / (2 : Nat) ^ Int.toNat (3 : Int)) % pV *
 (Int.toNat (2 : Int) ^ ((pV - Int.toNat (1 : Int)) / (2 : Nat) ^ Int.toNat (2 : Int)) % pV) %
 pV) %
 pV)
 a ==
 (0 : Int)) =
 false) ∧
 (Q (SV.tup [SV.val (Value.slice none (0 : Nat) (0 : Nat)), SV.bool false]))))))))))))))) := by kernel_rfl
/-- What the reference tries for a root. -/
noncomputable def rt1 (a : Nat) : Nat := a ^ ((pV + 3) / 8) % pV
noncomputable def rt2 (a : Nat) : Nat := rt1 a * (2 ^ ((pV - 1) / 4) % pV) % pV
noncomputable def rootN (a : Nat) : Num × Bool × Unit := if rt1 a * rt1 a % pV = a then (⟨evN (rt1 a)⟩, true, ()) else if rt2 a * rt2 a % pV = a then (⟨evN (rt2 a)⟩, true, ()) else (⟨0⟩, false, ())
noncomputable def nFRoot : SpecF := fspec (α := N1) (β := Num × Bool × Unit) (fun a => some (a.1.n < pV)) (fun a => rootN a.1.n)
noncomputable def spI : Specs := (35, nFRoot) :: spH
noncomputable def ratioN (u v : Nat) : Num × Bool × Unit := if v = 0 ∧ 0 < u then (⟨0⟩, false, ()) else rootN (u * (v ^ (pV - 2) % pV) % pV)
noncomputable def nFRatio : SpecF := fspec (α := N2) (β := Num × Bool × Unit) (fun a => some (a.1.n < pV ∧ a.2.1.n < pV)) (fun a => ratioN a.1.n a.2.1.n)
theorem vcMul3 (a b m : Nat) (Q : SV → Prop) : LnRaw tt ((92, R1.nMod) :: spA) 3 [] {} Tryz.f65 Q ((⟨a⟩ : Num), (⟨b⟩ : Num), (⟨m⟩ : Num), ()) =
 (((Sm a) ∧
 (Sm b)) ∧
 (((List.length (dg (a * b)) ≤ (536870912 : Nat)) ∧
 ((List.length (dg m) ≤ (536870912 : Nat)) ∧
 ((0 : Nat) < m))) ∧
 (Q (SV.lst (LV.num (a * b % m)))))) := by kernel_rfl
def nMul3 : SpecF := fspec (α := Num × Num × Num × Unit) (β := Num) (fun a => some (Lh a.1.n ∧ Lh a.2.1.n ∧ Lh a.2.2.1.n ∧ 0 < a.2.2.1.n)) (fun a => ⟨a.1.n * a.2.1.n % a.2.2.1.n⟩)
theorem vcModF (a : Nat) (Q : SV → Prop) : LnRaw tt ((65, nMul3) :: spB) 3 [] {} Tryz.f25 Q ((⟨a⟩ : Num), ()) =
 (((Lh a) ∧
 ((Lh (Int.toNat (1 : Int))) ∧
 ((Lh pV) ∧
 ((0 : Nat) < pV)))) ∧
 (Q (SV.lst (LV.num (a * Int.toNat (1 : Int) % pV))))) := by kernel_rfl
noncomputable def nFMod : SpecF := fspec (α := N1) (β := Num) (fun a => some (Lh a.1.n)) (fun a => ⟨a.1.n % pV⟩)
theorem vcOfF (a : Five) (Q : SV → Prop) : LnRaw tt spC 9 [] {} Tryz.f11 Q (a, ()) =
 (((List.length (dg (0 : Nat)) ≤ (536870912 : Nat)) ∧
 (((0 : Int) ≤ (51 : Int)) ∧
 ((51 : Int) ≤ (1073741824 : Int)))) ∧
 (((1 : Nat) ≤ (1048576 : Nat)) ∧
 (((Sm ((0 : Nat) * (2 : Nat) ^ Int.toNat (51 : Int))) ∧
 (Sm (wv [Five.x4 a]))) ∧
 (((List.length (dg ((0 : Nat) * (2 : Nat) ^ Int.toNat (51 : Int) + wv [Five.x4 a])) ≤ (536870912 : Nat)) ∧
 (((0 : Int) ≤ (51 : Int)) ∧
 ((51 : Int) ≤ (1073741824 : Int)))) ∧
 (((1 : Nat) ≤ (1048576 : Nat)) ∧
 (((Sm (((0 : Nat) * (2 : Nat) ^ Int.toNat (51 : Int) + wv [Five.x4 a]) * (2 : Nat) ^ Int.toNat (51 : Int))) ∧
 (Sm (wv [Five.x3 a]))) ∧
 (((List.length
 (dg
 (((0 : Nat) * (2 : Nat) ^ Int.toNat (51 : Int) + wv [Five.x4 a]) * (2 : Nat) ^ Int.toNat (51 : Int) +
 wv [Five.x3 a])) ≤
 (536870912 : Nat)) ∧
 (((0 : Int) ≤ (51 : Int)) ∧
 ((51 : Int) ≤ (1073741824 : Int)))) ∧
 (((1 : Nat) ≤ (1048576 : Nat)) ∧
 (((Sm
 ((((0 : Nat) * (2 : Nat) ^ Int.toNat (51 : Int) + wv [Five.x4 a]) * (2 : Nat) ^ Int.toNat (51 : Int) +
 wv [Five.x3 a]) *
 (2 : Nat) ^ Int.toNat (51 : Int))) ∧
 (Sm (wv [Five.x2 a]))) ∧
 (((List.length
 (dg
 ((((0 : Nat) * (2 : Nat) ^ Int.toNat (51 : Int) + wv [Five.x4 a]) * (2 : Nat) ^ Int.toNat (51 : Int) +
 wv [Five.x3 a]) *
 (2 : Nat) ^ Int.toNat (51 : Int) +
 wv [Five.x2 a])) ≤
 (536870912 : Nat)) ∧
 (((0 : Int) ≤ (51 : Int)) ∧
 ((51 : Int) ≤ (1073741824 : Int)))) ∧
 (((1 : Nat) ≤ (1048576 : Nat)) ∧
 (((Sm
 (((((0 : Nat) * (2 : Nat) ^ Int.toNat (51 : Int) + wv [Five.x4 a]) * (2 : Nat) ^ Int.toNat (51 : Int) +
 wv [Five.x3 a]) *
 (2 : Nat) ^ Int.toNat (51 : Int) +
 wv [Five.x2 a]) *
 (2 : Nat) ^ Int.toNat (51 : Int))) ∧
 (Sm (wv [Five.x1 a]))) ∧
 (((List.length
 (dg
 (((((0 : Nat) * (2 : Nat) ^ Int.toNat (51 : Int) + wv [Five.x4 a]) * (2 : Nat) ^ Int.toNat (51 : Int) +
 wv [Five.x3 a]) *
 (2 : Nat) ^ Int.toNat (51 : Int) +
 wv [Five.x2 a]) *
 (2 : Nat) ^ Int.toNat (51 : Int) +
 wv [Five.x1 a])) ≤
 (536870912 : Nat)) ∧
 (((0 : Int) ≤ (51 : Int)) ∧
 ((51 : Int) ≤ (1073741824 : Int)))) ∧
 (((1 : Nat) ≤ (1048576 : Nat)) ∧
 (((Sm
 ((((((0 : Nat) * (2 : Nat) ^ Int.toNat (51 : Int) + wv [Five.x4 a]) * (2 : Nat) ^ Int.toNat (51 : Int) +
 wv [Five.x3 a]) *
 (2 : Nat) ^ Int.toNat (51 : Int) +
 wv [Five.x2 a]) *
 (2 : Nat) ^ Int.toNat (51 : Int) +
 wv [Five.x1 a]) *
 (2 : Nat) ^ Int.toNat (51 : Int))) ∧
 (Sm (wv [Five.x0 a]))) ∧
 ((Lm
 ((((((0 : Nat) * (2 : Nat) ^ Int.toNat (51 : Int) + wv [Five.x4 a]) * (2 : Nat) ^ Int.toNat (51 : Int) +
 wv [Five.x3 a]) *
 (2 : Nat) ^ Int.toNat (51 : Int) +
 wv [Five.x2 a]) *
 (2 : Nat) ^ Int.toNat (51 : Int) +
 wv [Five.x1 a]) *
 (2 : Nat) ^ Int.toNat (51 : Int) +
 wv [Five.x0 a])) ∧
 (Q
 (SV.lst
 (LV.num
 (((((((0 : Nat) * (2 : Nat) ^ Int.toNat (51 : Int) + wv [Five.x4 a]) * (2 : Nat) ^ Int.toNat (51 : Int) +
 wv [Five.x3 a]) *
 (2 : Nat) ^ Int.toNat (51 : Int) +
 wv [Five.x2 a]) *
 (2 : Nat) ^ Int.toNat (51 : Int) +
 wv [Five.x1 a]) *
 (2 : Nat) ^ Int.toNat (51 : Int) +
 wv [Five.x0 a]) %
 pV)))))))))))))))))))) := by kernel_rfl
noncomputable def nOfF : SpecF := fspec (α := Five × Unit) (β := Num) total (fun a => ⟨V a.1 % pV⟩)
end Go.Proofs.YtigkddloeikpbaaGreatDoor.F4
/- The reference of layer 4 on numbers: its functions come to what is said. -/
set_option maxRecDepth 10000
namespace Go.Proofs.YtigkddloeikpbaaGreatDoor.F4
open Go.Sym Go.Dig R1

theorem t255 : (2 : Nat) ^ Int.toNat 255 = 57896044618658097711785492504343953926634992332820282019728792003956564819968 := by decide +kernel
theorem pV_lit : pV = 57896044618658097711785492504343953926634992332820282019728792003956564819949 := pV_eq
theorem pV_pos : 0 < pV := by rw [pV_lit]; decide
theorem len_lt {n : Nat} (k : Nat) (h : n < 16777216 ^ k) : (dg n).length ≤ k := dg_length_lt h
theorem len11 {n : Nat} (h : n < 2 * pV) : (dg n).length ≤ 11 := len_lt 11 (Nat.lt_of_lt_of_le h (by rw [pV_lit]; decide))
theorem lenS {n : Nat} (h : n < 16777216) : (dg n).length ≤ 1 := len_lt 1 (by simpa using h)
theorem Lh.of {n : Nat} (h : (dg n).length ≤ 524287) : Lh n := h
theorem Lh.sm {n : Nat} (h : Lh n) : Sm n := Nat.le_trans h (by decide)
theorem Lm.sm {n : Nat} (h : Lm n) : Sm n := Nat.le_trans h (by decide)
theorem Lh.lm {n : Nat} (h : Lh n) : Lm n := Nat.le_trans h (by decide)
theorem lhP {n : Nat} (h : n < 2 * pV) : Lh n := Nat.le_trans (len11 h) (by decide)
theorem lhS {n : Nat} (h : n < 16777216) : Lh n := Nat.le_trans (lenS h) (by decide)
theorem lhMod (n : Nat) : Lh (n % pV) := lhP (by have := Nat.mod_lt n pV_pos; omega)
theorem bitsN_gt {n k : Nat} : k < bitsN n ↔ 2 ^ k ≤ n := by
  unfold bitsN
  split
  · rename_i h
    subst h
    have := Nat.two_pow_pos k
    omega
  · rename_i h
    rw [← Nat.le_log2 h]; omega
theorem cmp0 (x y : Nat) : (cmpN x y == 0) = decide (x = y) := by
  unfold cmpN
  split
  · rename_i h; rw [decide_eq_false (by omega)]; rfl
  · split
    · rename_i h; rw [decide_eq_false (by omega)]; rfl
    · rw [decide_eq_true (by omega)]; rfl
theorem cmpGe (x y : Nat) : decide (cmpN x y ≥ 0) = decide (y ≤ x) := by
  unfold cmpN
  split
  · rename_i h; rw [decide_eq_false (by omega), decide_eq_false (by omega)]
  · split
    · rename_i h; rw [decide_eq_true (by omega), decide_eq_true (by omega)]
    · rw [decide_eq_true (by omega), decide_eq_true (by omega)]

theorem ok_P : SpecOK Tryz.prog 66 nP := by
  refine fn_okL (by kernel_rfl) tt_ok spN_ok 3 Tryz.func66 (by decide +kernel) (by kernel_rfl) ?_
  rintro _ _
  refine ⟨[], {}, fun x => x = .lst (.num pV), LnVD.of (vcP _) ?_, fun x h at_ w v r => by have h' : x = _ := h; subst h'; exact r⟩
  rw [t255, show Int.toNat 19 = 19 from rfl]
  refine ⟨⟨by omega, by omega⟩, ⟨Nat.le_trans (len_lt 11 (by decide)) (by decide), by omega, (lhS (by omega)).sm⟩, ?_⟩
  rw [pV_lit]
theorem spB_ok : SpecsOK Tryz.prog spB := .cons ok_P spN_ok
theorem ok_Red : SpecOK Tryz.prog 43 nRed := by
  refine fn_okL (by kernel_rfl) tt_ok spB_ok 3 Tryz.func43 (by decide +kernel) (by kernel_rfl) ?_
  rintro ⟨⟨a⟩, _⟩ ha
  replace ha : Lm a := ha
  refine ⟨[], lRed, fun x => x = .lst (.num (a % pV)), LnVD.of (vcRed a _) ?_, fun x h at_ w v r => by have h' : x = _ := h; subst h'; exact r⟩
  rw [t255, show Int.toNat 19 = 19 from rfl]
  refine ⟨⟨rfl, ha⟩, fun ⟨x⟩ ⟨h1, h2⟩ => ?_⟩
  simp only at h1 h2 ⊢
  refine ⟨h2.sm, ?_⟩
  have hp : p5 = 57896044618658097711785492504343953926634992332820282019728792003956564819949 := rfl
  have t : (2 : Nat) ^ 255 = 57896044618658097711785492504343953926634992332820282019728792003956564819968 := t255
  rw [bcase_dec]
  refine ⟨fun hb => ?_, fun hb => ?_⟩
  · have hx : 57896044618658097711785492504343953926634992332820282019728792003956564819968 ≤ x := by
      rw [← t]; exact bitsN_gt.1 (by omega)
    have hle : ∀ {y : Nat}, y ≤ x → Lm y := fun h => Nat.le_trans (dg_len_le h) h2
    have m1 : x / 57896044618658097711785492504343953926634992332820282019728792003956564819968 ≤ x := Nat.div_le_self _ _
    refine ⟨⟨h2.sm, by omega, by omega⟩, ⟨Nat.le_trans (hle m1) (by decide), by omega, by omega⟩, ⟨h2.sm, by omega, (hle (by omega)).sm⟩, ⟨(hle m1).sm, by omega, by omega⟩, ⟨(hle (by omega)).sm, (hle (by omega)).sm⟩, trivial, ⟨?_, hle (by omega)⟩, by omega⟩
    rw [← h1]
    have : x = (x - x / 57896044618658097711785492504343953926634992332820282019728792003956564819968 * 57896044618658097711785492504343953926634992332820282019728792003956564819968 + x / 57896044618658097711785492504343953926634992332820282019728792003956564819968 * 19) + p5 * (x / 57896044618658097711785492504343953926634992332820282019728792003956564819968) := by rw [hp]; omega
    conv => rhs; rw [this]
    rw [Nat.add_mul_mod_self_left]
  · have hx : x < 57896044618658097711785492504343953926634992332820282019728792003956564819968 := by
      rw [← t]
      apply Nat.lt_of_not_le
      intro h
      have := bitsN_gt.2 h
      omega
    rw [cmpGe, bcase_dec, pV_lit]
    have sp : Sm 57896044618658097711785492504343953926634992332820282019728792003956564819949 := by rw [← pV_lit]; exact (lhP (by have := pV_pos; omega)).sm
    have ea : a % 57896044618658097711785492504343953926634992332820282019728792003956564819949 = x % 57896044618658097711785492504343953926634992332820282019728792003956564819949 := h1.symm
    refine ⟨⟨h2.sm, sp⟩, fun h => ⟨⟨h2.sm, h, sp⟩, ?_⟩, fun h => ?_⟩
    · rw [ea]; exact congrArg (fun n => SV.lst (LV.num n)) (by omega)
    · rw [ea]; exact congrArg (fun n => SV.lst (LV.num n)) (by omega)
theorem spC_ok : SpecsOK Tryz.prog spC := .cons ok_Red spB_ok
theorem ok_Mul : SpecOK Tryz.prog 38 nFMul := by
  refine fn_okL (by kernel_rfl) tt_ok spC_ok 3 Tryz.func38 (by decide +kernel) (by kernel_rfl) ?_
  rintro ⟨⟨a⟩, ⟨b⟩, _⟩ ⟨ha, hb⟩
  refine ⟨[], {}, fun x => x = .lst (.num (a * b % pV)), LnVD.of (vcMul a b _) ⟨⟨ha.sm, hb.sm⟩, ?_, rfl⟩, fun x h at_ w v r => by have h' : x = _ := h; subst h'; exact r⟩
  exact Nat.le_trans (dg_len_mul ha hb) (by decide)
theorem dg_len_add {n m k : Nat} (h : (dg n).length ≤ k) (h' : (dg m).length ≤ k) : (dg (n + m)).length ≤ k + 1 := by
  refine dg_length_lt ?_
  have h1 := Nat.lt_of_lt_of_le (lt_of_dg_length n) (Nat.pow_le_pow_right (show 0 < 16777216 by omega) h)
  have h2 := Nat.lt_of_lt_of_le (lt_of_dg_length m) (Nat.pow_le_pow_right (show 0 < 16777216 by omega) h')
  rw [Nat.pow_succ]
  omega
theorem ok_Add : SpecOK Tryz.prog 34 nFAdd := by
  refine fn_okL (by kernel_rfl) tt_ok spC_ok 3 Tryz.func34 (by decide +kernel) (by kernel_rfl) ?_
  rintro ⟨⟨a⟩, ⟨b⟩, _⟩ ⟨ha, hb⟩
  refine ⟨[], {}, fun x => x = .lst (.num ((a + b) % pV)), LnVD.of (vcAdd a b _) ⟨⟨ha.sm, hb.sm⟩, ?_, rfl⟩, fun x h at_ w v r => by have h' : x = _ := h; subst h'; exact r⟩
  exact Nat.le_trans (dg_len_add ha hb) (by decide)
theorem lhV : Lh pV := lhP (by have := pV_pos; omega)
theorem ok_Sub : SpecOK Tryz.prog 36 nFSub := by
  refine fn_okL (by kernel_rfl) tt_ok spC_ok 3 Tryz.func36 (by decide +kernel) (by kernel_rfl) ?_
  rintro ⟨⟨a⟩, ⟨b⟩, _⟩ ⟨ha, hb, hle⟩
  have h1 : (dg (a + pV)).length ≤ 524288 := dg_len_add ha lhV
  refine ⟨[], {}, fun x => x = .lst (.num ((a + pV - b) % pV)), LnVD.of (vcSub a b _) ⟨⟨ha.sm, lhV.sm⟩, ⟨Nat.le_trans h1 (by decide), hle, hb.sm⟩, ?_, rfl⟩, fun x h at_ w v r => by have h' : x = _ := h; subst h'; exact r⟩
  exact Nat.le_trans (dg_len_le (Nat.sub_le _ _)) (Nat.le_trans h1 (by decide))
theorem spD_ok : SpecsOK Tryz.prog spD := .cons ok_Mul <| .cons ok_Add <| .cons ok_Sub spC_ok
theorem exp_step (a e i p x : Nat) (hx : x = a ^ (e / 2 ^ (i + 1)) % p) : (e / 2 ^ i % 2 = 1 → x * x % p * a % p = a ^ (e / 2 ^ i) % p) ∧ (e / 2 ^ i % 2 ≠ 1 → x * x % p = a ^ (e / 2 ^ i) % p) := by
  have e1 : e / 2 ^ (i + 1) = e / 2 ^ i / 2 := by rw [Nat.pow_succ, Nat.div_div_eq_div_mul]
  generalize e / 2 ^ i = q at *
  rw [e1] at hx
  have sq : x * x % p = a ^ (q / 2 + q / 2) % p := by rw [hx, ← Nat.mul_mod, ← Nat.pow_add]
  refine ⟨fun h => ?_, fun h => ?_⟩
  · rw [sq, Nat.mod_mul_mod, ← Nat.pow_succ]; congr 2; omega
  · rw [sq]; congr 2; omega
theorem ok_Exp : SpecOK Tryz.prog 72 nFExp := by
  refine fn_okL (by kernel_rfl) tt_ok spD_ok 3 Tryz.func72 (by decide +kernel) (by kernel_rfl) ?_
  rintro ⟨⟨a⟩, ⟨e⟩, _⟩ ⟨ha, he⟩
  replace ha : Lh a := ha
  replace he : Lh e := he
  refine ⟨[], lExp, fun x => x = .lst (.num (a ^ e % pV)), LnVD.of (vcExp a e _) ?_, fun x h at_ w v r => by have h' : x = _ := h; subst h'; exact r⟩
  have key : ∀ k, (dg e).length ≤ k → bitsN e ≤ 24 * k := fun k hk => by
    apply Nat.le_of_not_lt
    intro h
    have h1 := bitsN_gt.1 h
    have h2 := Nat.lt_of_lt_of_le (lt_of_dg_length e) (Nat.pow_le_pow_right (show 0 < 16777216 by omega) hk)
    rw [show (16777216 : Nat) = 2 ^ 24 from rfl, ← Nat.pow_mul] at h2
    omega
  have hbits : bitsN e ≤ 24 * 524287 := key _ he
  rw [wr (x := (bitsN e : Int) - 1) (by omega)]
  refine ⟨he.sm, ⟨by omega, by omega, ?_⟩, fun ⟨x⟩ i ⟨h1, h2, h3⟩ => ?_⟩
  · rw [show ((bitsN e : Int) - 1 + 1).toNat = bitsN e by omega]
    have : e < 2 ^ bitsN e := by
      apply Nat.lt_of_not_le
      intro h
      have := bitsN_gt.2 h
      omega
    rw [Nat.div_eq_of_lt this, Nat.pow_zero]; rfl
  · simp only at h3 ⊢
    rw [bcase_dec]
    refine ⟨fun hi => ?_, fun hi => ?_⟩
    · rw [wr (x := i - 1) (by omega)]
      have hx : x < pV := by rw [h3, ← pV_eq]; exact Nat.mod_lt _ pV_pos
      have hxl : Lh x := lhP (by omega)
      have st := exp_step a e i.toNat p5 x (by rw [h3, show (i + 1).toNat = i.toNat + 1 by omega])
      refine ⟨⟨hxl, hxl⟩, ⟨he.sm, hi, by omega⟩, ?_⟩
      rw [bcase_iff]
      refine ⟨fun hb => ⟨⟨lhMod _, ha⟩, trivial, ⟨by omega, by omega, ?_⟩, by omega⟩, fun hb => ⟨trivial, ⟨by omega, by omega, ?_⟩, by omega⟩⟩
      · rw [pV_eq, show (i - 1 + 1).toNat = i.toNat by omega]
        refine st.1 ?_
        have := eq_of_beq hb
        omega
      · rw [pV_eq, show (i - 1 + 1).toNat = i.toNat by omega]
        refine st.2 fun h => ?_
        rw [h] at hb
        simp at hb
    · rw [h3, show (i + 1).toNat = 0 by omega, Nat.pow_zero, Nat.div_one, pV_eq]
theorem spE_ok : SpecsOK Tryz.prog spE := .cons ok_Exp spD_ok
theorem ok_Inv : SpecOK Tryz.prog 39 nFInv := by
  refine fn_okL (by kernel_rfl) tt_ok spE_ok 3 Tryz.func39 (by decide +kernel) (by kernel_rfl) ?_
  rintro ⟨⟨a⟩, _⟩ ha
  replace ha : Lh a := ha
  have h2 : 2 ≤ pV := by rw [pV_lit]; decide
  exact ⟨[], {}, fun x => x = .lst (.num (a ^ (pV - 2) % pV)), LnVD.of (vcInv a _) ⟨⟨lhV.sm, h2, (lhS (by decide)).sm⟩, ⟨ha, lhP (by show pV - 2 < _; omega)⟩, rfl⟩, fun x h at_ w v r => by have h' : x = _ := h; subst h'; exact r⟩
theorem ok_Odd : SpecOK Tryz.prog 48 nFOdd := by
  refine fn_okL (by kernel_rfl) tt_ok spE_ok 3 Tryz.func48 (by decide +kernel) (by kernel_rfl) ?_
  rintro ⟨⟨a⟩, _⟩ ha
  replace ha : Lh a := ha
  refine ⟨[], {}, fun x => x = .bool (decide (a % 2 = 1)), LnVD.of (vcOdd a _) ⟨⟨ha.sm, by omega, by omega⟩, ?_⟩, fun x h at_ w v r => by have h' : x = _ := h; subst h'; exact r⟩
  rw [show Int.toNat 0 = 0 from rfl, Nat.pow_zero, Nat.div_one]
  congr 1
  rw [Bool.eq_iff_iff]
  simp only [beq_iff_eq, decide_eq_true_eq]
  omega
theorem spG_ok : SpecsOK Tryz.prog spG := .cons ok_Inv <| .cons ok_Odd spE_ok
theorem ok_Even : SpecOK Tryz.prog 74 nFEven := by
  refine fn_okL (by kernel_rfl) tt_ok spG_ok 3 Tryz.func74 (by decide +kernel) (by kernel_rfl) ?_
  rintro ⟨⟨a⟩, _⟩ ha
  replace ha : a < pV := ha
  have hl : Lh a := lhP (by omega)
  by_cases h : a % 2 = 1
  · refine ⟨_, {}, fun x => x = .lst (.num (evN a)), LnVD.of (vcEvenT a _) ⟨hl, decide_eq_true h, ⟨lhS (by decide), hl, by omega⟩, ?_⟩, fun x h at_ w v r => by have h' : x = _ := h; subst h'; exact r⟩
    unfold evN; rw [if_pos h, Nat.zero_add]
  · refine ⟨_, {}, fun x => x = .lst (.num (evN a)), LnVD.of (vcEvenF a _) ⟨hl, decide_eq_false h, ?_⟩, fun x h at_ w v r => by have h' : x = _ := h; subst h'; exact r⟩
    unfold evN; rw [if_neg h]
theorem spH_ok : SpecsOK Tryz.prog spH := .cons ok_Even spG_ok
theorem p3 : (pV + Int.toNat 3) / 2 ^ Int.toNat 3 = (pV + 3) / 8 := rfl
theorem p1 : (pV - Int.toNat 1) / 2 ^ Int.toNat 2 = (pV - 1) / 4 := rfl
theorem modV (n : Nat) : n % pV < pV := Nat.mod_lt _ pV_pos
theorem ok_Root : SpecOK Tryz.prog 35 nFRoot := by
  refine fn_okL (by kernel_rfl) tt_ok spH_ok 3 Tryz.func35 (by decide +kernel) (by kernel_rfl) ?_
  rintro ⟨⟨a⟩, _⟩ ha
  replace ha : a < pV := ha
  have hl : Lh a := lhP (by omega)
  have h3 : Sm (pV + Int.toNat 3) := (lhP (by show pV + 3 < _; rw [pV_lit]; omega)).sm
  have h4 : Lh ((pV + 3) / 8) := lhP (by omega)
  have h5 : Sm (pV - Int.toNat 1) := (lhP (by show pV - 1 < _; have := pV_pos; omega)).sm
  have h6 : Lh ((pV - 1) / 4) := lhP (by omega)
  have s3 : Sm (Int.toNat 3) := (lhS (by decide)).sm
  have s1 : Sm (Int.toNat 1) := (lhS (by decide)).sm
  have l2 : Lh (Int.toNat 2) := lhS (by decide)
  have hp1 : Int.toNat 1 ≤ pV := pV_pos
  by_cases c1 : rt1 a * rt1 a % pV = a
  · refine ⟨_, {}, fun x => x = .tup [.lst (.num (evN (rt1 a))), .bool true], LnVD.of (vcRootA a _) ?_, fun x h at_ w v r => ?_⟩
    · rw [p3, cmp0]
      exact ⟨⟨lhV.sm, s3⟩, ⟨h3, by omega, by omega⟩, ⟨hl, h4⟩, ⟨lhMod _, lhMod _⟩, ⟨(lhMod _).sm, hl.sm⟩, decide_eq_true c1, modV _, rfl⟩
    · have h' : x = _ := h
      subst h'
      have e : rootN a = (⟨evN (rt1 a)⟩, true, ()) := by unfold rootN; rw [if_pos c1]
      show Rel at_ w (retSV (RetL.retL (rootN a))) v
      rw [e]; exact r
  · by_cases c2 : rt2 a * rt2 a % pV = a
    · refine ⟨_, {}, fun x => x = .tup [.lst (.num (evN (rt2 a))), .bool true], LnVD.of (vcRootB a _) ?_, fun x h at_ w v r => ?_⟩
      · rw [p3, p1, cmp0, cmp0]
        exact ⟨⟨lhV.sm, s3⟩, ⟨h3, by omega, by omega⟩, ⟨hl, h4⟩, ⟨lhMod _, lhMod _⟩, ⟨(lhMod _).sm, hl.sm⟩, decide_eq_false c1, ⟨lhV.sm, hp1, s1⟩, ⟨h5, by omega, by omega⟩, ⟨l2, h6⟩, ⟨lhMod _, lhMod _⟩, ⟨lhMod _, lhMod _⟩, ⟨(lhMod _).sm, hl.sm⟩, decide_eq_true c2, modV _, rfl⟩
      · have h' : x = _ := h
        subst h'
        have e : rootN a = (⟨evN (rt2 a)⟩, true, ()) := by unfold rootN; rw [if_neg c1, if_pos c2]
        show Rel at_ w (retSV (RetL.retL (rootN a))) v
        rw [e]; exact r
    · refine ⟨_, {}, fun x => x = .tup [.val (.slice none 0 0), .bool false], LnVD.of (vcRootC a _) ?_, fun x h at_ w v r => ?_⟩
      · rw [p3, p1, cmp0, cmp0]
        exact ⟨⟨lhV.sm, s3⟩, ⟨h3, by omega, by omega⟩, ⟨hl, h4⟩, ⟨lhMod _, lhMod _⟩, ⟨(lhMod _).sm, hl.sm⟩, decide_eq_false c1, ⟨lhV.sm, hp1, s1⟩, ⟨h5, by omega, by omega⟩, ⟨l2, h6⟩, ⟨lhMod _, lhMod _⟩, ⟨lhMod _, lhMod _⟩, ⟨(lhMod _).sm, hl.sm⟩, decide_eq_false c2, rfl⟩
      · have h' : x = _ := h
        subst h'
        have e : rootN a = (⟨0⟩, false, ()) := by unfold rootN; rw [if_neg c1, if_neg c2]
        show Rel at_ w (retSV (RetL.retL (rootN a))) v
        rw [e]
        simp only [Rel, RelL] at r
        obtain ⟨vs, rfl, u, us, rfl, r1, r2⟩ := r
        simp only [RetL.retL, retSV, Enc.enc]
        show Rel at_ w (.tup [.lst (.num 0), .bool false]) _
        simp only [Rel]
        exact ⟨_, rfl, RelL.cons (nil_lst (by simp [LV.len, Dig.dg_zero]) ⟨0, rfl⟩ (by simp only [Rel]; exact r1)) (by simp only [RelL, Rel]; exact r2)⟩
theorem spI_ok : SpecsOK Tryz.prog spI := .cons ok_Root spH_ok
theorem dg_len0 (n : Nat) : (((dg n).length : Int) == 0) = decide (n = 0) := by
  by_cases h : n = 0
  · subst h; simp [Dig.dg_zero]
  · rw [decide_eq_false h]
    have : (dg n) ≠ [] := fun e => h (dg_nil_iff.1 e)
    have := List.length_pos_iff.2 this
    rw [beq_eq_false_iff_ne]; omega
theorem rel_num0 {at_ : At} {w : World} {v : Value} (r : Rel at_ w (.tup [.val (.slice none 0 0), .bool false]) v) : Rel at_ w (.tup [.lst (.num 0), .bool false]) v := by
  simp only [Rel, RelL] at r
  obtain ⟨vs, rfl, u, us, rfl, r1, r2⟩ := r
  simp only [Rel]
  exact ⟨_, rfl, RelL.cons (nil_lst (by simp [LV.len, Dig.dg_zero]) ⟨0, rfl⟩ (by simp only [Rel]; exact r1)) (by simp only [RelL, Rel]; exact r2)⟩
theorem ok_Ratio : SpecOK Tryz.prog 1000000 Sym.sNo := Sym.sNo_ok _ _
theorem ok_Mul3 : SpecOK Tryz.prog 65 nMul3 := by
  refine fn_okL (by kernel_rfl) tt_ok (.cons ok_nMod spN_ok) 3 Tryz.func65 (by decide +kernel) (by kernel_rfl) ?_
  rintro ⟨⟨a⟩, ⟨b⟩, ⟨m⟩, _⟩ ⟨ha, hb, hm, h0⟩
  simp only at ha hb hm h0
  refine ⟨[], {}, fun x => x = .lst (.num (a * b % m)), LnVD.of (vcMul3 a b m _) ⟨⟨ha.sm, hb.sm⟩, ⟨Nat.le_trans (dg_len_mul ha hb) (by decide), Nat.le_trans hm (by decide), h0⟩, rfl⟩, fun x h at_ w v r => by have h' : x = _ := h; subst h'; exact r⟩
theorem ok_ModF : SpecOK Tryz.prog 25 nFMod := by
  refine fn_okL (by kernel_rfl) tt_ok (.cons ok_Mul3 spB_ok) 3 Tryz.func25 (by decide +kernel) (by kernel_rfl) ?_
  rintro ⟨⟨a⟩, _⟩ ha
  replace ha : Lh a := ha
  refine ⟨[], {}, fun x => x = .lst (.num (a * 1 % pV)), LnVD.of (vcModF a _) ⟨⟨ha, lhS (by decide), lhV, pV_pos⟩, rfl⟩, fun x h at_ w v r => by have h' : x = _ := h; subst h'; rw [Nat.mul_one] at r; exact r⟩
theorem t51 : (2 : Nat) ^ Int.toNat 51 = 2251799813685248 := by decide +kernel
theorem ok_OfF : SpecOK Tryz.prog 11 nOfF := by
  refine fn_okL (by kernel_rfl) tt_ok spC_ok 9 Tryz.func11 (by decide +kernel) (by kernel_rfl) ?_
  rintro ⟨a, _⟩ _
  have h0 := u64_lt a.x0; have h1 := u64_lt a.x1; have h2 := u64_lt a.x2; have h3 := u64_lt a.x3; have h4 := u64_lt a.x4
  refine ⟨[], {}, fun x => x = .lst (.num (V a % pV)), LnVD.of (vcOfF a _) ?_, fun x h at_ w v r => by have h' : x = _ := h; subst h'; exact r⟩
  rw [t51]
  simp only [wv, Nat.mul_zero, Nat.add_zero, Nat.zero_mul, Nat.zero_add]
  have sm : ∀ {n : Nat}, n < 16777216 ^ 12 → (dg n).length ≤ 12 := fun h => len_lt 12 h
  have B : (16777216 : Nat) ^ 12 = 497323236409786642155382248146820840100456150797347717440463976893159497012533375533056 := by decide +kernel
  rw [B] at sm
  have sS : ∀ {n : Nat}, n < 497323236409786642155382248146820840100456150797347717440463976893159497012533375533056 → Sm n := fun h => Nat.le_trans (sm h) (by decide)
  have s5 : ∀ {n : Nat}, n < 497323236409786642155382248146820840100456150797347717440463976893159497012533375533056 → (dg n).length ≤ 536870912 := fun h => Nat.le_trans (sm h) (by decide)
  have sL : ∀ {n : Nat}, n < 497323236409786642155382248146820840100456150797347717440463976893159497012533375533056 → Lm n := fun h => Nat.le_trans (sm h) (by decide)
  refine ⟨⟨s5 (by omega), by omega, by omega⟩, by omega, ⟨sS (by omega), sS (by omega)⟩, ⟨s5 (by omega), by omega, by omega⟩, by omega, ⟨sS (by omega), sS (by omega)⟩, ⟨s5 (by omega), by omega, by omega⟩, by omega, ⟨sS (by omega), sS (by omega)⟩,
    ⟨s5 (by omega), by omega, by omega⟩, by omega, ⟨sS (by omega), sS (by omega)⟩, ⟨s5 (by omega), by omega, by omega⟩, by omega, ⟨sS (by omega), sS (by omega)⟩, sL (by omega), ?_⟩
  exact congrArg (fun n => SV.lst (LV.num (n % pV))) (by unfold V; omega)
end Go.Proofs.YtigkddloeikpbaaGreatDoor.F4
/- Layer 4's laws: what their bodies come to. -/
set_option maxRecDepth 10000
namespace Go.Sym
theorem SpecOK.or [GLob] {P : Program} {f : FuncId} {s t : SpecF} (h : SpecOK P f s) (k : SpecOK P f t) : SpecOK P f (fun l => match s l with | some r => some r | none => t l) := by
  intro at_ w svs vs pre r h1 h2 h3 e
  replace e : (match s svs with | some r => some r | none => t svs) = some (pre, r) := e
  split at e
  · rename_i q hq
    exact h at_ w svs vs pre r h1 h2 h3 (by rw [hq]; exact e)
  · exact k at_ w svs vs pre r h1 h2 h3 e
end Go.Sym
namespace Go.Proofs.YtigkddloeikpbaaGreatDoor.F4
open Go.Sym Go.Dig R1
--STOP R1.Sm, Lm, Lh, fCarry, fMul, fSub, fAdd, fNeg, fSq, fSame, fNegB, fSel, fInv, tm

/-- Are all limbs below 2^52? -/
def tm (a : Five) : Bool := !(decide (4503599627370496 ≤ a.x0)) && (!(decide (4503599627370496 ≤ a.x1)) && (!(decide (4503599627370496 ≤ a.x2)) && (!(decide (4503599627370496 ≤ a.x3)) && !(decide (4503599627370496 ≤ a.x4)))))
def cells5 (a : Five) : List SV := [.u64 a.x0, .u64 a.x1, .u64 a.x2, .u64 a.x3, .u64 a.x4]
/-- Lists of one, two, three elements. -/
structure L1 where
  a : Five
structure L2 where
  a : Five
  b : Five
structure L3 where
  a : Five
  b : Five
  c : Five
instance : Enc L1 where
  enc x := .rsl (cells5 x.a) 0 1
  dec | .rsl [.u64 a, .u64 b, .u64 c, .u64 d, .u64 e] 0 1 => some ⟨⟨a, b, c, d, e⟩⟩
      | _ => none
  ok := by
    intro s a h at_ w v r
    split at h
    · simp only [Option.some.injEq] at h; subst h; exact r
    · cases h
  nn _ := rfl
instance : Enc L2 where
  enc x := .rsl (cells5 x.a ++ cells5 x.b) 0 2
  dec | .rsl [.u64 a, .u64 b, .u64 c, .u64 d, .u64 e, .u64 a', .u64 b', .u64 c', .u64 d', .u64 e'] 0 2 => some ⟨⟨a, b, c, d, e⟩, ⟨a', b', c', d', e'⟩⟩
      | _ => none
  ok := by
    intro s a h at_ w v r
    split at h
    · simp only [Option.some.injEq] at h; subst h; exact r
    · cases h
  nn _ := rfl
instance : Enc L3 where
  enc x := .rsl (cells5 x.a ++ (cells5 x.b ++ cells5 x.c)) 0 3
  dec | .rsl [.u64 a, .u64 b, .u64 c, .u64 d, .u64 e, .u64 a', .u64 b', .u64 c', .u64 d', .u64 e', .u64 a2, .u64 b2, .u64 c2, .u64 d2, .u64 e2] 0 3 => some ⟨⟨a, b, c, d, e⟩, ⟨a', b', c', d', e'⟩, ⟨a2, b2, c2, d2, e2⟩⟩
      | _ => none
  ok := by
    intro s a h at_ w v r
    split at h
    · simp only [Option.some.injEq] at h; subst h; exact r
    · cases h
  nn _ := rfl
/-- Tame: so it is; not: so it is not. -/
def sT1 (b : Bool) : SpecF := fspec (α := L1 × Unit) (fun x => some (tm x.1.a = b)) (fun _ => b)
def sT2 (b : Bool) : SpecF := fspec (α := L2 × Unit) (fun x => some ((tm x.1.a && tm x.1.b) = b)) (fun _ => b)
def sT3 (b : Bool) : SpecF := fspec (α := L3 × Unit) (fun x => some ((tm x.1.a && (tm x.1.b && tm x.1.c)) = b)) (fun _ => b)
def sTame (p q r : Bool) : SpecF := fun l => match sT1 p l with | some x => some x | none => (match sT2 q l with | some x => some x | none => sT3 r l)
noncomputable def spK : Specs := (1000002, Sym.sNo) :: (11, nOfF) :: spC
noncomputable def sIs : SpecF := fspec (α := Five × Num × Unit) (fun x => some (tm x.1 = true ∧ V x.1 % pV = x.2.1.n ∧ Lh x.2.1.n)) (fun _ => true)
/-- Package field. -/
noncomputable def spFd : Specs := (56, sFRoot) :: (1000003, Sym.sNo) :: (45, .fresh sFBytes) :: (23, sFWide) :: spF8
end Go.Proofs.YtigkddloeikpbaaGreatDoor.F4
