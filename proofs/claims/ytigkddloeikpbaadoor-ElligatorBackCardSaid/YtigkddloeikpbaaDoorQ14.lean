/- A symbolic machine for Go functions, and what the functions that the law reaches come to: FieldD, FieldG, FieldE, RefF, RefG, Law4. -/
import Derived.Test.YtigkddloeikpbaaDoorQ13
import Derived.Test.YtigkddloeikpbaaDoorQ4
import Derived.Test.YtigkddloeikpbaaDoorQ7
/- Package field: powers, inverses, roots: what the bodies come to. -/
set_option maxRecDepth 10000
namespace Go.Proofs.YtigkddloeikpbaaDoor
open Go.Sym

--STOP fCarry, fMul, fSub, fAdd, fNeg, fSq, dPlus, fWhole, fSel, mul64, addLo, addHi, fSame, fNegB, f250, fEleven, fEven, fZero

/-- A loop's own element. -/
structure PFive where
  v : Five
def dFiveC : List SV → Option Five
  | [.u64 a, .u64 b, .u64 c, .u64 d, .u64 e] => some ⟨a, b, c, d, e⟩
  | _ => none
theorem dFiveC_ok {cs : List SV} {r : Five} (h : dFiveC cs = some r) : cs = [.u64 r.x0, .u64 r.x1, .u64 r.x2, .u64 r.x3, .u64 r.x4] := by
  unfold dFiveC at h
  split at h
  · simp only [Option.some.injEq] at h; subst h; rfl
  · cases h
instance : LEnc PFive where
  kind := none
  enc nx a := (.ptr nx 0, [[.u64 a.v.x0, .u64 a.v.x1, .u64 a.v.x2, .u64 a.v.x3, .u64 a.v.x4]])
  dec nx s M := match s, M with
    | .ptr b 0, some cs :: M' => if b = nx then (dFiveC cs).map fun r => (none, ⟨r⟩, M') else none
    | _, _ => none
  all P := ∀ v, P ⟨v⟩
  all_ok h a := h a.v
  ok := by
    intro nx s M p a M' h hp
    split at h
    · split at h
      · rename_i hb
        obtain ⟨r, h1, h2⟩ := Option.map_eq_some_iff.1 h
        simp only [Prod.mk.injEq] at h2
        obtain ⟨_, rfl, rfl⟩ := h2
        subst hb
        rw [dFiveC_ok h1]
        exact ⟨rfl, fun r => r⟩
      · cases h
    · cases h

def sqM (n : Int) : Int := if 1000 < n then 1000 else n
def iSq (a z : Five) (m : Int) (v z' : Five) (i : Int) : Prop := 0 ≤ i ∧ (i ≤ m ∨ i = 0) ∧ v = fSq i.toNat a ∧ z' = z
def lSq : Plan := { loops := [(0, { β := Int × Unit, α := PFive × PFive × Int × Unit, same := [6], keep := [2, 4, 7], inv := fun b x0 x => iSq x0.1.v x0.2.1.v b.1 x.1.v x.2.1.v x.2.2.1, meas := fun b x => (b.1 - x.2.2.1).toNat })] }
noncomputable def spF5 : Specs := spF4
theorem vcSq (a : Five) (n : Int) (Q : SV → Prop) : LnRaw tt spF5 9 [] lSq Tryd.f37 Q (a, n, ()) =
  ((iSq a
  (Five.mk (UInt64.ofNat (Int.toNat (0 : Int))) (UInt64.ofNat (Int.toNat (0 : Int)))
    (UInt64.ofNat (Int.toNat (0 : Int))) (UInt64.ofNat (Int.toNat (0 : Int))) (UInt64.ofNat (Int.toNat (0 : Int))))
  (if (1000 : Int) < n then (1000 : Int) else n) a
  (Five.mk (UInt64.ofNat (Int.toNat (0 : Int))) (UInt64.ofNat (Int.toNat (0 : Int)))
    (UInt64.ofNat (Int.toNat (0 : Int))) (UInt64.ofNat (Int.toNat (0 : Int))) (UInt64.ofNat (Int.toNat (0 : Int))))
  (0 : Int)) ∧
  (∀ v : Five,
  (∀ v_1 : Five,
  (∀ a_1 : Int,
  ((iSq a
  (Five.mk (UInt64.ofNat (Int.toNat (0 : Int))) (UInt64.ofNat (Int.toNat (0 : Int)))
    (UInt64.ofNat (Int.toNat (0 : Int))) (UInt64.ofNat (Int.toNat (0 : Int))) (UInt64.ofNat (Int.toNat (0 : Int))))
  (if (1000 : Int) < n then (1000 : Int) else n) v v_1 a_1) →
  bcase (decide (a_1 < if (1000 : Int) < n then (1000 : Int) else n))
    ((((if (1000 : Int) < n then (1000 : Int) else n, ()) = (if (1000 : Int) < n then (1000 : Int) else n, ())) ∧
    ((iSq a
  (Five.mk (UInt64.ofNat (Int.toNat (0 : Int))) (UInt64.ofNat (Int.toNat (0 : Int)))
    (UInt64.ofNat (Int.toNat (0 : Int))) (UInt64.ofNat (Int.toNat (0 : Int))) (UInt64.ofNat (Int.toNat (0 : Int))))
  (if (1000 : Int) < n then (1000 : Int) else n) (fMul v v) v_1 (IntKind.wrap IntKind.i64 (a_1 + (1 : Int)))) ∧
    (Int.toNat ((if (1000 : Int) < n then (1000 : Int) else n) - IntKind.wrap IntKind.i64 (a_1 + (1 : Int))) <
  Int.toNat ((if (1000 : Int) < n then (1000 : Int) else n) - a_1)))))
    ((Q (SV.agg [SV.u64 (Five.x0 v), SV.u64 (Five.x1 v), SV.u64 (Five.x2 v), SV.u64 (Five.x3 v), SV.u64 (Five.x4 v)])))))))) := by kernel_rfl
def sFSq : SpecF := fspec (α := Five × Int × Unit) total (fun a => fSq (sqM a.2.1).toNat a.1)
noncomputable def spF6 : Specs := (37, sFSq) :: (10, sFSame) :: (49, sFNegB) :: spF5
def fParts (a : Five) : Five × Five := (f250 a, fEleven a)
def sParts : SpecF := fspec (α := Five × Unit) total (fun a => fParts a.1)
theorem vcEven (a : Five) (Q : SV → Prop) : LnRaw tt spF6 9 [] {} Tryd.f39 Q (a, ()) =
  bcase (fNegB a)
    ((Q
  (SV.agg
    [SV.u64 (Five.x0 (fSel (UInt64.ofNat (Int.toNat (1 : Int))) (fNeg a) a)),
      SV.u64 (Five.x1 (fSel (UInt64.ofNat (Int.toNat (1 : Int))) (fNeg a) a)),
      SV.u64 (Five.x2 (fSel (UInt64.ofNat (Int.toNat (1 : Int))) (fNeg a) a)),
      SV.u64 (Five.x3 (fSel (UInt64.ofNat (Int.toNat (1 : Int))) (fNeg a) a)),
      SV.u64 (Five.x4 (fSel (UInt64.ofNat (Int.toNat (1 : Int))) (fNeg a) a))])))
    ((Q
  (SV.agg
    [SV.u64 (Five.x0 (fSel (UInt64.ofNat (Int.toNat (0 : Int))) (fNeg a) a)),
      SV.u64 (Five.x1 (fSel (UInt64.ofNat (Int.toNat (0 : Int))) (fNeg a) a)),
      SV.u64 (Five.x2 (fSel (UInt64.ofNat (Int.toNat (0 : Int))) (fNeg a) a)),
      SV.u64 (Five.x3 (fSel (UInt64.ofNat (Int.toNat (0 : Int))) (fNeg a) a)),
      SV.u64 (Five.x4 (fSel (UInt64.ofNat (Int.toNat (0 : Int))) (fNeg a) a))]))) := by kernel_rfl
def sEven : SpecF := fspec (α := Five × Unit) total (fun a => fEven a.1)
noncomputable def spF7 : Specs := (36, sParts) :: (39, sEven) :: spF6
theorem im_ex : ∃ i : Five, i = fEven (fMul (fSq 3 (f250 (smallV 2))) (smallV 8)) := ⟨_, rfl⟩
/-- The root of -1, told so that no machine computes with it. -/
noncomputable def imV : Five := Classical.choose im_ex
theorem imV_eq : imV = fEven (fMul (fSq 3 (f250 (smallV 2))) (smallV 8)) := Classical.choose_spec im_ex
noncomputable def sImag : SpecF := fspec (α := Unit) total (fun _ => imV)
def sFInv : SpecF := fspec (α := Five × Unit) total (fun a => fInv a.1)
noncomputable def spF8 : Specs := (38, sImag) :: (22, sFInv) :: spF7
def v3 (v : Five) : Five := fMul (fMul v v) v
def uv7 (u v : Five) : Five := fMul (fMul (v3 v) (v3 v)) (fMul v u)
def fCand (u v : Five) : Five := fMul (fMul u (v3 v)) (fMul (fSq 2 (f250 (uv7 u v))) (uv7 u v))
def fCheck (u v : Five) : Five := fMul v (fMul (fCand u v) (fCand u v))
noncomputable def fRootE (u v x : Five) : Five × Bool := if (fSame v fZero && !fSame u fZero) = true then (fZero, false) else (fEven x, true)
noncomputable def fRoot (u v : Five) : Five × Bool :=
  if fSame (fCheck u v) u = true then fRootE u v (fCand u v) else if fSame (fCheck u v) (fNeg u) = true then fRootE u v (fMul (fCand u v) imV) else (fZero, false)
noncomputable def vRoot (D : Dec) (t : Five × Bool) (a : Five × Five × Unit) : Prop := LnRaw tt spF8 9 D {} Tryd.f23 (fun x => x = retSV (RetL.retL t)) a
theorem root_C (u v : Five) : vRoot [(6, 2, .b false), (7, 3, .b false)] (fZero, false) (u, v, ()) = (fSame (fCheck u v) u = false ∧ fSame (fCheck u v) (fNeg u) = false ∧ Same (.tup [fZero.sv, .bool false])) := by kernel_rfl
theorem root_A1 (u v : Five) : vRoot [(6, 2, .b true), (10, 2, .b false)] (fEven (fCand u v), true) (u, v, ()) = (fSame (fCheck u v) u = true ∧ fSame v fZero = false ∧ Same (.tup [(fEven (fCand u v)).sv, .bool true])) := by kernel_rfl
theorem root_A2 (u v : Five) : vRoot [(6, 2, .b true), (10, 2, .b true), (10, 6, .b true)] (fEven (fCand u v), true) (u, v, ()) = (fSame (fCheck u v) u = true ∧ fSame v fZero = true ∧ fSame u fZero = true ∧ Same (.tup [(fEven (fCand u v)).sv, .bool true])) := by kernel_rfl
theorem root_A3 (u v : Five) : vRoot [(6, 2, .b true), (10, 2, .b true), (10, 6, .b false)] (fZero, false) (u, v, ()) = (fSame (fCheck u v) u = true ∧ fSame v fZero = true ∧ fSame u fZero = false ∧ Same (.tup [fZero.sv, .bool false])) := by kernel_rfl
theorem root_B1 (u v : Five) : vRoot [(6, 2, .b false), (7, 3, .b true), (10, 2, .b false)] (fEven (fMul (fCand u v) imV), true) (u, v, ()) = (fSame (fCheck u v) u = false ∧ fSame (fCheck u v) (fNeg u) = true ∧ fSame v fZero = false ∧ Same (.tup [(fEven (fMul (fCand u v) imV)).sv, .bool true])) := by kernel_rfl
theorem root_B2 (u v : Five) : vRoot [(6, 2, .b false), (7, 3, .b true), (10, 2, .b true), (10, 6, .b true)] (fEven (fMul (fCand u v) imV), true) (u, v, ()) = (fSame (fCheck u v) u = false ∧ fSame (fCheck u v) (fNeg u) = true ∧ fSame v fZero = true ∧ fSame u fZero = true ∧ Same (.tup [(fEven (fMul (fCand u v) imV)).sv, .bool true])) := by kernel_rfl
theorem root_B3 (u v : Five) : vRoot [(6, 2, .b false), (7, 3, .b true), (10, 2, .b true), (10, 6, .b false)] (fZero, false) (u, v, ()) = (fSame (fCheck u v) u = false ∧ fSame (fCheck u v) (fNeg u) = true ∧ fSame v fZero = true ∧ fSame u fZero = false ∧ Same (.tup [fZero.sv, .bool false])) := by kernel_rfl

noncomputable def fWideL (b : List UInt8) : Five := b.foldl (fun acc c => fAdd (fMul acc (smallV 256)) (smallV c.toUInt32)) fZero
noncomputable def iWide (b : List UInt8) (m : Int) (z z' v : Five) (i : Int) : Prop := 0 ≤ i ∧ i ≤ m ∧ v = fWideL (b.take i.toNat) ∧ z' = z
noncomputable def lWide : Plan := { loops := [(0, { β := List UInt8 × Int × Unit, α := PFive × PFive × Int × Unit, same := [11, 12], keep := [2, 4, 13], inv := fun b x0 x => iWide b.1 b.2.1 x0.1.v x.1.v x.2.1.v x.2.2.1, meas := fun b x => (b.2.1 - x.2.2.1).toNat })] }
theorem vcWideA (b : List UInt8) (Q : SV → Prop) : LnRaw tt spF8 9 [(1, 2, .b false)] lWide Tryd.f43 Q (b, ()) =
  ((decide ((↑(List.length b) : Int) > (64 : Int)) = false) ∧
  ((iWide b (↑(List.length b) : Int)
  (Five.mk (UInt64.ofNat (Int.toNat (0 : Int))) (UInt64.ofNat (Int.toNat (0 : Int)))
    (UInt64.ofNat (Int.toNat (0 : Int))) (UInt64.ofNat (Int.toNat (0 : Int))) (UInt64.ofNat (Int.toNat (0 : Int))))
  (Five.mk (UInt64.ofNat (Int.toNat (0 : Int))) (UInt64.ofNat (Int.toNat (0 : Int)))
    (UInt64.ofNat (Int.toNat (0 : Int))) (UInt64.ofNat (Int.toNat (0 : Int))) (UInt64.ofNat (Int.toNat (0 : Int))))
  (Five.mk (UInt64.ofNat (Int.toNat (0 : Int))) (UInt64.ofNat (Int.toNat (0 : Int)))
    (UInt64.ofNat (Int.toNat (0 : Int))) (UInt64.ofNat (Int.toNat (0 : Int))) (UInt64.ofNat (Int.toNat (0 : Int))))
  (0 : Int)) ∧
  (∀ v : Five,
  (∀ v_1 : Five,
  (∀ a : Int,
  ((iWide b (↑(List.length b) : Int)
  (Five.mk (UInt64.ofNat (Int.toNat (0 : Int))) (UInt64.ofNat (Int.toNat (0 : Int)))
    (UInt64.ofNat (Int.toNat (0 : Int))) (UInt64.ofNat (Int.toNat (0 : Int))) (UInt64.ofNat (Int.toNat (0 : Int))))
  v v_1 a) →
  bcase (decide (a < (↑(List.length b) : Int)))
    (((((0 : Int) ≤ a) ∧
     (a < (↑(List.length b) : Int))) ∧
    (((b, (↑(List.length b) : Int), ()) = (b, (↑(List.length b) : Int), ())) ∧
    ((iWide b (↑(List.length b) : Int)
  (Five.mk (UInt64.ofNat (Int.toNat (0 : Int))) (UInt64.ofNat (Int.toNat (0 : Int)))
    (UInt64.ofNat (Int.toNat (0 : Int))) (UInt64.ofNat (Int.toNat (0 : Int))) (UInt64.ofNat (Int.toNat (0 : Int))))
  v
  (fAdd (fMul v_1 (smallV (UInt32.ofNat (Int.toNat (256 : Int)))))
    (smallV (UInt8.toUInt32 (List.getD b (Int.toNat a) (0 : UInt8)))))
  (IntKind.wrap IntKind.i64 (a + (1 : Int)))) ∧
    (Int.toNat ((↑(List.length b) : Int) - IntKind.wrap IntKind.i64 (a + (1 : Int))) <
  Int.toNat ((↑(List.length b) : Int) - a))))))
    ((Q
  (SV.tup
    [SV.agg
        [SV.u64 (Five.x0 v_1), SV.u64 (Five.x1 v_1), SV.u64 (Five.x2 v_1), SV.u64 (Five.x3 v_1), SV.u64 (Five.x4 v_1)],
      SV.bool true]))))))))) := by kernel_rfl
theorem vcWideB (b : List UInt8) (Q : SV → Prop) : LnRaw tt spF8 9 [(1, 2, .b true)] lWide Tryd.f43 Q (b, ()) =
  ((decide ((↑(List.length b) : Int) > (64 : Int)) = true) ∧
  (Q
  (SV.tup
    [SV.agg
        [SV.u64 (UInt64.ofNat (Int.toNat (0 : Int))), SV.u64 (UInt64.ofNat (Int.toNat (0 : Int))),
          SV.u64 (UInt64.ofNat (Int.toNat (0 : Int))), SV.u64 (UInt64.ofNat (Int.toNat (0 : Int))),
          SV.u64 (UInt64.ofNat (Int.toNat (0 : Int)))],
      SV.bool false]))) := by kernel_rfl
noncomputable def fWideF (b : List UInt8) : Five × Bool := if b.length ≤ 64 then (fWideL b, true) else (fZero, false)
noncomputable def sFWide : SpecF := fspec (α := List UInt8 × Unit) total (fun a => fWideF a.1)
end Go.Proofs.YtigkddloeikpbaaDoor
/- Package field: bytes: what the bodies come to. -/
set_option maxRecDepth 10000
namespace Go.Proofs.YtigkddloeikpbaaDoor
open Go.Sym

--STOP fCarry, fMul, fSub, fAdd, fNeg, fSq, dPlus, fWhole, fSel, mul64, addLo, addHi, fSame, fNegB, f250, fEleven, fEven, fZero

def five5 (w : Five) : List UInt64 := [w.x0, w.x1, w.x2, w.x3, w.x4]
def byStep (w : List UInt64) (l : List UInt8) (i : Nat) : List UInt8 := l.set (i / 8) (l.getD (i / 8) 0 ||| shl8 (shr64 (w.getD (i / 51) 0) (i % 51) &&& 1).toUInt8 (i % 8))
def fBytesP (w : List UInt64) (n : Nat) : List UInt8 := (List.range n).foldl (byStep w) (List.replicate 32 0)
def iBytes (w0 : List UInt64) (w : List UInt64) (l : List UInt8) (i : Int) : Prop := w = w0 ∧ 0 ≤ i ∧ i ≤ 255 ∧ l = fBytesP w0 i.toNat
def lFBytes : Plan := { loops := [(0, { β := Unit, α := ArrW 5 × OwnB × Int × Unit, same := [], keep := [1, 3, 8], inv := fun _ x0 x => iBytes x0.1.l x.1.l x.2.1.l x.2.2.1, meas := fun _ x => (255 - x.2.2.1).toNat })] }
def ofStep (b : List UInt8) (l : List UInt64) (i : Nat) : List UInt64 := l.set (i / 51) (l.getD (i / 51) 0 ||| shl64 (shr8 (b.getD (i / 8) 0) (i % 8) &&& 1).toUInt64 (i % 51))
def fOfP (b : List UInt8) (n : Nat) : List UInt64 := (List.range n).foldl (ofStep b) (List.replicate 5 0)
def iFOf (b : List UInt8) (z z' : Five) (l : List UInt64) (i : Int) : Prop := z' = z ∧ 0 ≤ i ∧ i ≤ 255 ∧ l = fOfP b i.toNat
def lFOf : Plan := { loops := [(0, { β := List UInt8 × Unit, α := PFive × ArrW 5 × Int × Unit, same := [0], keep := [2, 4, 16], inv := fun b x0 x => iFOf b.1 x0.1.v x.1.v x.2.1.l x.2.2.1, meas := fun _ x => (255 - x.2.2.1).toNat })] }
end Go.Proofs.YtigkddloeikpbaaDoor
/- Package field: powers, inverses, roots, bytes: the functions come to what is said. -/
set_option maxRecDepth 10000
namespace Go.Proofs.YtigkddloeikpbaaDoor
open Go.Sym

theorem ok_fSq : SpecOK Tryd.prog 37 sFSq := by
  refine fn_okL (by kernel_rfl) tt_ok spF4_ok 9 Tryd.func37 (by decide +kernel) (by kernel_rfl) ?_
  rintro ⟨a, n, _⟩ _
  refine ⟨[], lSq, fun x => x = (fSq (sqM n).toNat a).sv, LnVD.of (vcSq a n _) ?_, fun x h at_ w v r => by have h' : x = _ := h; subst h'; exact r⟩
  have em : (if (1000 : Int) < n then (1000 : Int) else n) = sqM n := rfl
  rw [em]
  have hm : sqM n ≤ 1000 := by unfold sqM; split <;> omega
  refine ⟨⟨by omega, by omega, rfl, rfl⟩, fun v z i ⟨h1, h2, h3, h4⟩ => ?_⟩
  rw [R1.bcase_dec]
  refine ⟨fun hi => ?_, fun hi => ?_⟩
  · rw [R1.wr (x := i + 1) (by omega)]
    refine ⟨rfl, ⟨by omega, .inl (by omega), ?_, h4⟩, by omega⟩
    rw [h3, show (i + 1).toNat = i.toNat + 1 by omega]; rfl
  · rw [h3]
    have : i.toNat = (sqM n).toNat := by omega
    rw [this]; rfl
theorem spF5_ok : SpecsOK Tryd.prog spF5 := spF4_ok
theorem spF6_ok : SpecsOK Tryd.prog spF6 := .cons ok_fSq <| .cons ok_fSame <| .cons ok_fNegB spF5_ok
theorem ok_parts : SpecOK Tryd.prog 36 sParts :=
  fn_ok mixed tt_ok spF6_ok 9 Tryd.func36 (by decide +kernel) (by kernel_rfl)
    (fun a => Same (retSV (RetL.retL (fParts a.1)))) (fun a => by kernel_rfl) (fun _ _ => rfl)
theorem ok_even : SpecOK Tryd.prog 39 sEven := by
  refine fn_okL (by kernel_rfl) tt_ok spF6_ok 9 Tryd.func39 (by decide +kernel) (by kernel_rfl) ?_
  rintro ⟨a, _⟩ _
  refine ⟨[], {}, fun x => x = (fEven a).sv, LnVD.of (vcEven a _) ?_, fun x h at_ w v r => by have h' : x = _ := h; subst h'; exact r⟩
  rw [R1.bcase_iff]
  refine ⟨fun h => ?_, fun h => ?_⟩
  · unfold fEven; rw [h]; rfl
  · unfold fEven; rw [h]; rfl
theorem spF7_ok : SpecsOK Tryd.prog spF7 := .cons ok_parts <| .cons ok_even spF6_ok
theorem ok_imag : SpecOK Tryd.prog 38 sImag := by
  unfold sImag
  rw [imV_eq]
  exact fn_ok mixed tt_ok spF7_ok 9 Tryd.func38 (by decide +kernel) (by kernel_rfl)
    (fun _ => Same (retSV (RetL.retL (fEven (fMul (fSq 3 (f250 (smallV 2))) (smallV 8)))))) (fun a => by kernel_rfl) (fun _ _ => rfl)
theorem ok_fInv : SpecOK Tryd.prog 22 sFInv :=
  fn_ok mixed tt_ok spF7_ok 9 Tryd.func22 (by decide +kernel) (by kernel_rfl)
    (fun a => Same (retSV (RetL.retL (fInv a.1)))) (fun a => by kernel_rfl) (fun _ _ => rfl)
theorem spF8_ok : SpecsOK Tryd.prog spF8 := .cons ok_imag <| .cons ok_fInv spF7_ok
theorem rt_ex : ∃ f : Five → Five → Five × Bool, f = fRoot := ⟨_, rfl⟩
noncomputable def fRootV : Five → Five → Five × Bool := Classical.choose rt_ex
theorem fRootV_eq : fRootV = fRoot := Classical.choose_spec rt_ex
noncomputable def sFRoot : SpecF := fspec (α := Five × Five × Unit) total (fun a => fRootV a.1 a.2.1)
theorem fRoot_A {u v : Five} (h : fSame (fCheck u v) u = true) : fRootV u v = fRootE u v (fCand u v) := by rw [fRootV_eq]; unfold fRoot; rw [if_pos h]
theorem fRoot_B {u v : Five} (h : fSame (fCheck u v) u = false) (h' : fSame (fCheck u v) (fNeg u) = true) : fRootV u v = fRootE u v (fMul (fCand u v) imV) := by
  rw [fRootV_eq]; unfold fRoot; rw [if_neg (by rw [h]; exact Bool.false_ne_true), if_pos h']
theorem fRoot_C {u v : Five} (h : fSame (fCheck u v) u = false) (h' : fSame (fCheck u v) (fNeg u) = false) : fRootV u v = (fZero, false) := by
  rw [fRootV_eq]; unfold fRoot; rw [if_neg (by rw [h]; exact Bool.false_ne_true), if_neg (by rw [h']; exact Bool.false_ne_true)]
theorem fRootE_1 {u v x : Five} (h : fSame v fZero = false) : fRootE u v x = (fEven x, true) := by
  unfold fRootE; rw [if_neg (by rw [h, Bool.false_and]; exact Bool.false_ne_true)]
theorem fRootE_2 {u v x : Five} (h : fSame v fZero = true) (h' : fSame u fZero = true) : fRootE u v x = (fEven x, true) := by
  unfold fRootE; rw [if_neg (by rw [h, h', Bool.true_and]; exact Bool.false_ne_true)]
theorem fRootE_3 {u v x : Five} (h : fSame v fZero = true) (h' : fSame u fZero = false) : fRootE u v x = (fZero, false) := by
  unfold fRootE; rw [if_pos (by rw [h, h', Bool.true_and]; exact Eq.refl _)]
theorem root_fin {u v : Five} (D : Dec) (t : Five × Bool) {E : Prop} (hE : vRoot D t (u, v, ()) = E) (h : E) (ht : fRootV u v = t) :
      ∃ D L, ∃ Q : SV → Prop, LnVD tt spF8 9 D L Tryd.f23 Q (u, v, ()) ∧ ∀ x, Q x → ∀ (at_ : At) (w : World) (v' : Value), Rel at_ w x v' → Rel at_ w (retSV (RetL.retL (fRootV u v))) v' :=
  ⟨D, {}, fun x => x = retSV (RetL.retL t), LnVD.of hE h, fun x h at_ w v' r => by have h' : x = retSV (RetL.retL t) := h; subst h'; rw [ht]; exact r⟩
theorem root_all (u v : Five) : ∃ D L, ∃ Q : SV → Prop, LnVD tt spF8 9 D L Tryd.f23 Q (u, v, ()) ∧ ∀ x, Q x → ∀ (at_ : At) (w : World) (v' : Value), Rel at_ w x v' → Rel at_ w (retSV (RetL.retL (fRootV u v))) v' := by
  by_cases c1 : fSame (fCheck u v) u = true
  · by_cases c2 : fSame v fZero = true
    · by_cases c3 : fSame u fZero = true
      · exact root_fin _ _ (root_A2 u v) ⟨c1, c2, c3, Same.mk _⟩ (by rw [fRoot_A c1, fRootE_2 c2 c3])
      · exact root_fin _ _ (root_A3 u v) ⟨c1, c2, Bool.eq_false_iff.2 c3, Same.mk _⟩ (by rw [fRoot_A c1, fRootE_3 c2 (Bool.eq_false_iff.2 c3)])
    · exact root_fin _ _ (root_A1 u v) ⟨c1, Bool.eq_false_iff.2 c2, Same.mk _⟩ (by rw [fRoot_A c1, fRootE_1 (Bool.eq_false_iff.2 c2)])
  · replace c1 := Bool.eq_false_iff.2 c1
    by_cases c4 : fSame (fCheck u v) (fNeg u) = true
    · by_cases c2 : fSame v fZero = true
      · by_cases c3 : fSame u fZero = true
        · exact root_fin _ _ (root_B2 u v) ⟨c1, c4, c2, c3, Same.mk _⟩ (by rw [fRoot_B c1 c4, fRootE_2 c2 c3])
        · exact root_fin _ _ (root_B3 u v) ⟨c1, c4, c2, Bool.eq_false_iff.2 c3, Same.mk _⟩ (by rw [fRoot_B c1 c4, fRootE_3 c2 (Bool.eq_false_iff.2 c3)])
      · exact root_fin _ _ (root_B1 u v) ⟨c1, c4, Bool.eq_false_iff.2 c2, Same.mk _⟩ (by rw [fRoot_B c1 c4, fRootE_1 (Bool.eq_false_iff.2 c2)])
    · exact root_fin _ _ (root_C u v) ⟨c1, Bool.eq_false_iff.2 c4, Same.mk _⟩ (by rw [fRoot_C c1 (Bool.eq_false_iff.2 c4)])
theorem ok_fRoot : SpecOK Tryd.prog 23 sFRoot :=
  fn_okL (by kernel_rfl) tt_ok spF8_ok 9 Tryd.func23 (by decide +kernel) (by kernel_rfl) (fun (⟨u, v, ()⟩ : Five × Five × Unit) _ => root_all u v)
theorem fWideL_snoc (b : List UInt8) (c : UInt8) : fWideL (b ++ [c]) = fAdd (fMul (fWideL b) (smallV 256)) (smallV c.toUInt32) := by simp [fWideL, List.foldl_append]
theorem take_snoc8 (b : List UInt8) (i : Nat) (h : i < b.length) : b.take (i + 1) = b.take i ++ [b.getD i 0] := by
  rw [List.take_add_one, List.getD_eq_getElem?_getD, List.getElem?_eq_getElem h]; rfl
theorem ok_fWide : SpecOK Tryd.prog 43 sFWide := by
  refine fn_okL (by kernel_rfl) tt_ok spF8_ok 9 Tryd.func43 (by decide +kernel) (by kernel_rfl) ?_
  rintro ⟨b, _⟩ _
  by_cases hb : b.length ≤ 64
  · refine ⟨_, lWide, fun x => x = .tup [(fWideL b).sv, .bool true], LnVD.of (vcWideA b _) ?_, fun x h at_ w v r => by
      have h' : x = _ := h
      subst h'
      have e : fWideF b = (fWideL b, true) := by unfold fWideF; rw [if_pos hb]
      show Rel at_ w (retSV (RetL.retL (fWideF b))) v
      rw [e]; exact r⟩
    refine ⟨by simp; omega, ⟨by omega, by omega, rfl, rfl⟩, fun z v i ⟨h1, h2, h3, h4⟩ => ?_⟩
    rw [R1.bcase_dec]
    refine ⟨fun hi => ?_, fun hi => ?_⟩
    · rw [R1.wr (x := i + 1) (by omega)]
      refine ⟨⟨h1, hi⟩, rfl, ⟨by omega, by omega, ?_, h4⟩, by omega⟩
      rw [show (i + 1).toNat = i.toNat + 1 by omega, take_snoc8 b _ (by omega), fWideL_snoc, ← h3]
      rfl
    · rw [h3, List.take_of_length_le (by omega)]; rfl
  · refine ⟨_, lWide, fun x => x = .tup [fZero.sv, .bool false], LnVD.of (vcWideB b _) ⟨by simp; omega, rfl⟩, fun x h at_ w v r => by
      have h' : x = _ := h
      subst h'
      have e : fWideF b = (fZero, false) := by unfold fWideF; rw [if_neg hb]
      show Rel at_ w (retSV (RetL.retL (fWideF b))) v
      rw [e]; exact r⟩

/-! Bytes. -/
theorem byStep_len (w : List UInt64) (l : List UInt8) (i : Nat) : (byStep w l i).length = l.length := by simp [byStep]
theorem fBytesP_succ (w : List UInt64) (n : Nat) : fBytesP w (n + 1) = byStep w (fBytesP w n) n := by simp [fBytesP, List.range_succ, List.foldl_append]
theorem fBytesP_len (w : List UInt64) : ∀ n, (fBytesP w n).length = 32
  | 0 => by simp [fBytesP]
  | n + 1 => by rw [fBytesP_succ, byStep_len, fBytesP_len w n]
theorem ofInt_mod (i : Int) (d : Nat) (h : 0 ≤ i) (hd : 0 < d) (hd' : d < 1000) : (UInt64.ofInt (Int.tmod i (d : Int))).toNat = i.toNat % d := by
  obtain ⟨n, rfl⟩ := Int.eq_ofNat_of_zero_le h
  rw [Int.tmod_eq_emod_of_nonneg h, ofInt64, ← Int.natCast_emod]
  have h1 := Nat.mod_lt n hd
  rw [Int.toNat_natCast]
  omega
theorem div_toNat (i : Int) (d : Nat) (h : 0 ≤ i) (h' : i < 1000) (hd : 0 < d) : IntKind.wrap .i64 (Int.tdiv i (d : Int)) = ((i.toNat / d : Nat) : Int) := by
  rw [Int.tdiv_eq_ediv_of_nonneg h, R1.wr]
  · rw [Int.natCast_ediv, Int.toNat_of_nonneg h]
  · have h1 : 0 ≤ i / (d : Int) := Int.ediv_nonneg h (by omega)
    have h2 : i / (d : Int) ≤ i := Int.ediv_le_self _ h
    omega
def fBytes (a : Five) : List UInt8 := fBytesP (five5 (fWhole a)) 255
theorem fb_ex : ∃ f : Five → List UInt8, f = fBytes := ⟨_, rfl⟩
/-- An element's bytes, told so that no machine computes them. -/
noncomputable def fBytesO : Five → List UInt8 := Classical.choose fb_ex
theorem fBytesO_eq : fBytesO = fBytes := Classical.choose_spec fb_ex
noncomputable def sFBytes : SpecF := fspec (α := Five × Unit) total (fun a => fBytesO a.1)
theorem ok_fBytes : SpecOK Tryd.prog 1000000 Sym.sNo := Sym.sNo_ok _ _
theorem ofStep_len (b : List UInt8) (l : List UInt64) (i : Nat) : (ofStep b l i).length = l.length := by simp [ofStep]
theorem fOfP_succ (b : List UInt8) (n : Nat) : fOfP b (n + 1) = ofStep b (fOfP b n) n := by simp [fOfP, List.range_succ, List.foldl_append]
theorem fOfP_len (b : List UInt8) : ∀ n, (fOfP b n).length = 5
  | 0 => by simp [fOfP]
  | n + 1 => by rw [fOfP_succ, ofStep_len, fOfP_len b n]
def fiveL (l : List UInt64) : Five := ⟨l.getD 0 0, l.getD 1 0, l.getD 2 0, l.getD 3 0, l.getD 4 0⟩
def fOfV (b : List UInt8) : Five := fiveL (fOfP b 255)
def fOf (b : List UInt8) : Five × Bool := if b.length = 32 ∧ (b.getD 31 0).toNat ≤ 127 ∧ eq5 (fOfV b) (fWhole (fOfV b)) = true then (fOfV b, true) else (fZero, false)
theorem fiveL_sv (l : List UInt64) : (fiveL l).sv = .agg [.u64 (l.getD 0 0), .u64 (l.getD 1 0), .u64 (l.getD 2 0), .u64 (l.getD 3 0), .u64 (l.getD 4 0)] := rfl
theorem fo_ex : ∃ f : List UInt8 → Five × Bool, f = fOf := ⟨_, rfl⟩
noncomputable def fOfO : List UInt8 → Five × Bool := Classical.choose fo_ex
theorem fOfO_eq : fOfO = fOf := Classical.choose_spec fo_ex
noncomputable def sFOf : SpecF := fspec (α := List UInt8 × Unit) total (fun a => fOfO a.1)
theorem ofRound (b : List UInt8) (l : List UInt64) (i : Int) (h2 : 0 ≤ i) (hi : i < 255) (h4 : l = fOfP b i.toNat) :
    List.set l (Int.toNat (IntKind.wrap IntKind.i64 (Int.tdiv i 51))) (List.getD l (Int.toNat (IntKind.wrap IntKind.i64 (Int.tdiv i 51))) 0 |||
      shl64 (UInt8.toUInt64 (shr8 (List.getD b (Int.toNat (IntKind.wrap IntKind.i64 (Int.tdiv i 8))) 0) (UInt64.toNat (UInt64.ofInt (Int.tmod i 8))) &&& UInt8.ofNat (Int.toNat 1))) (UInt64.toNat (UInt64.ofInt (Int.tmod i 51)))) = fOfP b (i + 1).toNat := by
  have e8 := div_toNat i 8 h2 (by omega) (by omega)
  have e51 := div_toNat i 51 h2 (by omega) (by omega)
  have m8 := ofInt_mod i 8 h2 (by omega) (by omega)
  have m51 := ofInt_mod i 51 h2 (by omega) (by omega)
  simp only [Int.cast_ofNat_Int] at e8 e51 m8 m51
  rw [e8, e51, m8, m51, show (i + 1).toNat = i.toNat + 1 by omega, fOfP_succ, ← h4]
  simp only [ofStep, Int.toNat_natCast]
  rfl
theorem ok_fOf : SpecOK Tryd.prog 1000001 Sym.sNo := Sym.sNo_ok _ _
end Go.Proofs.YtigkddloeikpbaaDoor
/- The reference of layer 4 on numbers: what its functions come to. -/
set_option maxRecDepth 10000
namespace Go.Proofs.YtigkddloeikpbaaDoor.F4
open Go.Sym Go.Dig R1

abbrev N1 := Num × Unit
abbrev N2 := Num × Num × Unit
/-- Numbers that are not too large. -/
def Lm (n : Nat) : Prop := (dg n).length ≤ 1048576
/-- Of half as many digits. -/
def Lh (n : Nat) : Prop := (dg n).length ≤ 524287
--STOP R1.Sm, Lm, Lh, fCarry, fMul, fSub, fAdd
theorem pn_ex : ∃ p : Nat, p = p5 := ⟨_, rfl⟩
/-- p, told so that no machine computes with it. -/
noncomputable def pV : Nat := Classical.choose pn_ex
theorem pV_eq : pV = p5 := Classical.choose_spec pn_ex
def spA : Specs := R1.spN
noncomputable def nP : SpecF := fspec (α := Unit) (β := Num) total (fun _ => ⟨pV⟩)
noncomputable def spB : Specs := (1000010, Sym.sNo) :: spA
def iRed (a x : Nat) : Prop := x % p5 = a % p5 ∧ Lm x
def lRed : Plan := { loops := [(0, { β := Num × Unit, α := Num × Unit, same := [3], keep := [0], inv := fun _ x0 x => iRed x0.1.n x.1.n, meas := fun _ x => x.1.n })] }
noncomputable def nRed : SpecF := fspec (α := N1) (β := Num) (fun a => some (Lm a.1.n)) (fun a => ⟨a.1.n % pV⟩)
noncomputable def spC : Specs := (1000012, Sym.sNo) :: spB
noncomputable def nFMul : SpecF := fspec (α := N2) (β := Num) (fun a => some (Lh a.1.n ∧ Lh a.2.1.n)) (fun a => ⟨a.1.n * a.2.1.n % pV⟩)
noncomputable def nFAdd : SpecF := fspec (α := N2) (β := Num) (fun a => some (Lh a.1.n ∧ Lh a.2.1.n)) (fun a => ⟨(a.1.n + a.2.1.n) % pV⟩)
noncomputable def nFSub : SpecF := fspec (α := N2) (β := Num) (fun a => some (Lh a.1.n ∧ Lh a.2.1.n ∧ a.2.1.n ≤ a.1.n + pV)) (fun a => ⟨(a.1.n + pV - a.2.1.n) % pV⟩)
noncomputable def spD : Specs := (1000007, Sym.sNo) :: (1000002, Sym.sNo) :: (1000014, Sym.sNo) :: spC
def iExp (a e : Nat) (out : Nat) (i : Int) : Prop := -1 ≤ i ∧ i < (bitsN e : Nat) ∧ out = a ^ (e / 2 ^ (i + 1).toNat) % p5
def lExp : Plan := { loops := [(0, { β := Num × Num × Unit, α := Num × Int × Unit, same := [0, 1], keep := [5, 6], inv := fun b _ x => iExp b.1.n b.2.1.n x.1.n x.2.1, meas := fun _ x => (x.2.1 + 1).toNat })] }
noncomputable def nFExp : SpecF := fspec (α := N2) (β := Num) (fun a => some (Lh a.1.n ∧ Lh a.2.1.n)) (fun a => ⟨a.1.n ^ a.2.1.n % pV⟩)
noncomputable def spE : Specs := (1000004, Sym.sNo) :: spD
noncomputable def nFInv : SpecF := fspec (α := N1) (β := Num) (fun a => some (Lh a.1.n)) (fun a => ⟨a.1.n ^ (pV - 2) % pV⟩)
def nFOdd : SpecF := fspec (α := N1) (β := Bool) (fun a => some (Lh a.1.n)) (fun a => decide (a.1.n % 2 = 1))
noncomputable def spG : Specs := (1000005, Sym.sNo) :: (1000008, Sym.sNo) :: spE
/-- The one of both signs that is even. -/
noncomputable def evN (a : Nat) : Nat := if a % 2 = 1 then (pV - a) % pV else a
noncomputable def nFEven : SpecF := fspec (α := N1) (β := Num) (fun a => some (a.1.n < pV)) (fun a => ⟨evN a.1.n⟩)
noncomputable def spH : Specs := (1000003, Sym.sNo) :: spG
/-- What the reference tries for a root. -/
noncomputable def rt1 (a : Nat) : Nat := a ^ ((pV + 3) / 8) % pV
noncomputable def rt2 (a : Nat) : Nat := rt1 a * (2 ^ ((pV - 1) / 4) % pV) % pV
noncomputable def rootN (a : Nat) : Num × Bool × Unit := if rt1 a * rt1 a % pV = a then (⟨evN (rt1 a)⟩, true, ()) else if rt2 a * rt2 a % pV = a then (⟨evN (rt2 a)⟩, true, ()) else (⟨0⟩, false, ())
noncomputable def nFRoot : SpecF := fspec (α := N1) (β := Num × Bool × Unit) (fun a => some (a.1.n < pV)) (fun a => rootN a.1.n)
noncomputable def spI : Specs := (1000013, Sym.sNo) :: spH
noncomputable def ratioN (u v : Nat) : Num × Bool × Unit := if v = 0 ∧ 0 < u then (⟨0⟩, false, ()) else rootN (u * (v ^ (pV - 2) % pV) % pV)
noncomputable def nFRatio : SpecF := fspec (α := N2) (β := Num × Bool × Unit) (fun a => some (a.1.n < pV ∧ a.2.1.n < pV)) (fun a => ratioN a.1.n a.2.1.n)
def nMul3 : SpecF := fspec (α := Num × Num × Num × Unit) (β := Num) (fun a => some (Lh a.1.n ∧ Lh a.2.1.n ∧ Lh a.2.2.1.n ∧ 0 < a.2.2.1.n)) (fun a => ⟨a.1.n * a.2.1.n % a.2.2.1.n⟩)
noncomputable def nFMod : SpecF := fspec (α := N1) (β := Num) (fun a => some (Lh a.1.n)) (fun a => ⟨a.1.n % pV⟩)
noncomputable def nOfF : SpecF := fspec (α := Five × Unit) (β := Num) total (fun a => ⟨V a.1 % pV⟩)
end Go.Proofs.YtigkddloeikpbaaDoor.F4
/- The reference of layer 4 on numbers: its functions come to what is said. -/
set_option maxRecDepth 10000
namespace Go.Proofs.YtigkddloeikpbaaDoor.F4
open Go.Sym Go.Dig R1

theorem t255 : (2 : Nat) ^ Int.toNat 255 = 57896044618658097711785492504343953926634992332820282019728792003956564819968 := by decide +kernel
theorem pV_lit : pV = 57896044618658097711785492504343953926634992332820282019728792003956564819949 := pV_eq
theorem pV_pos : 0 < pV := by rw [pV_lit]; decide
theorem len_lt {n : Nat} (k : Nat) (h : n < 16777216 ^ k) : (dg n).length ≤ k := dg_length_lt h
theorem len11 {n : Nat} (h : n < 2 * pV) : (dg n).length ≤ 11 := len_lt 11 (Nat.lt_of_lt_of_le h (by rw [pV_lit]; decide))
theorem lenS {n : Nat} (h : n < 16777216) : (dg n).length ≤ 1 := len_lt 1 (by simpa using h)
theorem Lh.of {n : Nat} (h : (dg n).length ≤ 524287) : Lh n := h
theorem Lh.sm {n : Nat} (h : Lh n) : Sm n := Nat.le_trans h (by decide)
theorem Lm.sm {n : Nat} (h : Lm n) : Sm n := Nat.le_trans h (by decide)
theorem Lh.lm {n : Nat} (h : Lh n) : Lm n := Nat.le_trans h (by decide)
theorem lhP {n : Nat} (h : n < 2 * pV) : Lh n := Nat.le_trans (len11 h) (by decide)
theorem lhS {n : Nat} (h : n < 16777216) : Lh n := Nat.le_trans (lenS h) (by decide)
theorem lhMod (n : Nat) : Lh (n % pV) := lhP (by have := Nat.mod_lt n pV_pos; omega)
theorem bitsN_gt {n k : Nat} : k < bitsN n ↔ 2 ^ k ≤ n := by
  unfold bitsN
  split
  · rename_i h
    subst h
    have := Nat.two_pow_pos k
    omega
  · rename_i h
    rw [← Nat.le_log2 h]; omega
theorem cmp0 (x y : Nat) : (cmpN x y == 0) = decide (x = y) := by
  unfold cmpN
  split
  · rename_i h; rw [decide_eq_false (by omega)]; rfl
  · split
    · rename_i h; rw [decide_eq_false (by omega)]; rfl
    · rw [decide_eq_true (by omega)]; rfl
theorem cmpGe (x y : Nat) : decide (cmpN x y ≥ 0) = decide (y ≤ x) := by
  unfold cmpN
  split
  · rename_i h; rw [decide_eq_false (by omega), decide_eq_false (by omega)]
  · split
    · rename_i h; rw [decide_eq_true (by omega), decide_eq_true (by omega)]
    · rw [decide_eq_true (by omega), decide_eq_true (by omega)]

theorem ok_P : SpecOK Tryd.prog 1000009 Sym.sNo := Sym.sNo_ok _ _
theorem spB_ok : SpecsOK Tryd.prog spB := .cons ok_P spN_ok
theorem ok_Red : SpecOK Tryd.prog 1000011 Sym.sNo := Sym.sNo_ok _ _
theorem spC_ok : SpecsOK Tryd.prog spC := .cons ok_Red spB_ok
theorem ok_Mul : SpecOK Tryd.prog 1000006 Sym.sNo := Sym.sNo_ok _ _
theorem dg_len_add {n m k : Nat} (h : (dg n).length ≤ k) (h' : (dg m).length ≤ k) : (dg (n + m)).length ≤ k + 1 := by
  refine dg_length_lt ?_
  have h1 := Nat.lt_of_lt_of_le (lt_of_dg_length n) (Nat.pow_le_pow_right (show 0 < 16777216 by omega) h)
  have h2 := Nat.lt_of_lt_of_le (lt_of_dg_length m) (Nat.pow_le_pow_right (show 0 < 16777216 by omega) h')
  rw [Nat.pow_succ]
  omega
theorem ok_Add : SpecOK Tryd.prog 1000001 Sym.sNo := Sym.sNo_ok _ _
theorem lhV : Lh pV := lhP (by have := pV_pos; omega)
theorem ok_Sub : SpecOK Tryd.prog 1000013 Sym.sNo := Sym.sNo_ok _ _
theorem spD_ok : SpecsOK Tryd.prog spD := .cons ok_Mul <| .cons ok_Add <| .cons ok_Sub spC_ok
theorem exp_step (a e i p x : Nat) (hx : x = a ^ (e / 2 ^ (i + 1)) % p) : (e / 2 ^ i % 2 = 1 → x * x % p * a % p = a ^ (e / 2 ^ i) % p) ∧ (e / 2 ^ i % 2 ≠ 1 → x * x % p = a ^ (e / 2 ^ i) % p) := by
  have e1 : e / 2 ^ (i + 1) = e / 2 ^ i / 2 := by rw [Nat.pow_succ, Nat.div_div_eq_div_mul]
  generalize e / 2 ^ i = q at *
  rw [e1] at hx
  have sq : x * x % p = a ^ (q / 2 + q / 2) % p := by rw [hx, ← Nat.mul_mod, ← Nat.pow_add]
  refine ⟨fun h => ?_, fun h => ?_⟩
  · rw [sq, Nat.mod_mul_mod, ← Nat.pow_succ]; congr 2; omega
  · rw [sq]; congr 2; omega
theorem ok_Exp : SpecOK Tryd.prog 1000003 Sym.sNo := Sym.sNo_ok _ _
theorem spE_ok : SpecsOK Tryd.prog spE := .cons ok_Exp spD_ok
theorem ok_Inv : SpecOK Tryd.prog 1000004 Sym.sNo := Sym.sNo_ok _ _
theorem ok_Odd : SpecOK Tryd.prog 1000007 Sym.sNo := Sym.sNo_ok _ _
theorem spG_ok : SpecsOK Tryd.prog spG := .cons ok_Inv <| .cons ok_Odd spE_ok
theorem ok_Even : SpecOK Tryd.prog 1000002 Sym.sNo := Sym.sNo_ok _ _
theorem spH_ok : SpecsOK Tryd.prog spH := .cons ok_Even spG_ok
theorem p3 : (pV + Int.toNat 3) / 2 ^ Int.toNat 3 = (pV + 3) / 8 := rfl
theorem p1 : (pV - Int.toNat 1) / 2 ^ Int.toNat 2 = (pV - 1) / 4 := rfl
theorem modV (n : Nat) : n % pV < pV := Nat.mod_lt _ pV_pos
theorem ok_Root : SpecOK Tryd.prog 1000012 Sym.sNo := Sym.sNo_ok _ _
theorem spI_ok : SpecsOK Tryd.prog spI := .cons ok_Root spH_ok
theorem dg_len0 (n : Nat) : (((dg n).length : Int) == 0) = decide (n = 0) := by
  by_cases h : n = 0
  · subst h; simp [Dig.dg_zero]
  · rw [decide_eq_false h]
    have : (dg n) ≠ [] := fun e => h (dg_nil_iff.1 e)
    have := List.length_pos_iff.2 this
    rw [beq_eq_false_iff_ne]; omega
theorem rel_num0 {at_ : At} {w : World} {v : Value} (r : Rel at_ w (.tup [.val (.slice none 0 0), .bool false]) v) : Rel at_ w (.tup [.lst (.num 0), .bool false]) v := by
  simp only [Rel, RelL] at r
  obtain ⟨vs, rfl, u, us, rfl, r1, r2⟩ := r
  simp only [Rel]
  exact ⟨_, rfl, RelL.cons (nil_lst (by simp [LV.len, Dig.dg_zero]) ⟨0, rfl⟩ (by simp only [Rel]; exact r1)) (by simp only [RelL, Rel]; exact r2)⟩
theorem ok_Ratio : SpecOK Tryd.prog 1000010 Sym.sNo := Sym.sNo_ok _ _
theorem ok_Mul3 : SpecOK Tryd.prog 1000000 Sym.sNo := Sym.sNo_ok _ _
theorem ok_ModF : SpecOK Tryd.prog 1000005 Sym.sNo := Sym.sNo_ok _ _
theorem t51 : (2 : Nat) ^ Int.toNat 51 = 2251799813685248 := by decide +kernel
theorem ok_OfF : SpecOK Tryd.prog 1000008 Sym.sNo := Sym.sNo_ok _ _
end Go.Proofs.YtigkddloeikpbaaDoor.F4
/- Layer 4's laws: what their bodies come to. -/
set_option maxRecDepth 10000
namespace Go.Sym
theorem SpecOK.or [GLob] {P : Program} {f : FuncId} {s t : SpecF} (h : SpecOK P f s) (k : SpecOK P f t) : SpecOK P f (fun l => match s l with | some r => some r | none => t l) := by
  intro at_ w svs vs pre r h1 h2 h3 e
  replace e : (match s svs with | some r => some r | none => t svs) = some (pre, r) := e
  split at e
  · rename_i q hq
    exact h at_ w svs vs pre r h1 h2 h3 (by rw [hq]; exact e)
  · exact k at_ w svs vs pre r h1 h2 h3 e
end Go.Sym
namespace Go.Proofs.YtigkddloeikpbaaDoor.F4
open Go.Sym Go.Dig R1
--STOP R1.Sm, Lm, Lh, fCarry, fMul, fSub, fAdd, fNeg, fSq, fSame, fNegB, fSel, fInv, tm

/-- Are all limbs below 2^52? -/
def tm (a : Five) : Bool := !(decide (4503599627370496 ≤ a.x0)) && (!(decide (4503599627370496 ≤ a.x1)) && (!(decide (4503599627370496 ≤ a.x2)) && (!(decide (4503599627370496 ≤ a.x3)) && !(decide (4503599627370496 ≤ a.x4)))))
def cells5 (a : Five) : List SV := [.u64 a.x0, .u64 a.x1, .u64 a.x2, .u64 a.x3, .u64 a.x4]
/-- Lists of one, two, three elements. -/
structure L1 where
  a : Five
structure L2 where
  a : Five
  b : Five
structure L3 where
  a : Five
  b : Five
  c : Five
instance : Enc L1 where
  enc x := .rsl (cells5 x.a) 0 1
  dec | .rsl [.u64 a, .u64 b, .u64 c, .u64 d, .u64 e] 0 1 => some ⟨⟨a, b, c, d, e⟩⟩
      | _ => none
  ok := by
    intro s a h at_ w v r
    split at h
    · simp only [Option.some.injEq] at h; subst h; exact r
    · cases h
  nn _ := rfl
instance : Enc L2 where
  enc x := .rsl (cells5 x.a ++ cells5 x.b) 0 2
  dec | .rsl [.u64 a, .u64 b, .u64 c, .u64 d, .u64 e, .u64 a', .u64 b', .u64 c', .u64 d', .u64 e'] 0 2 => some ⟨⟨a, b, c, d, e⟩, ⟨a', b', c', d', e'⟩⟩
      | _ => none
  ok := by
    intro s a h at_ w v r
    split at h
    · simp only [Option.some.injEq] at h; subst h; exact r
    · cases h
  nn _ := rfl
instance : Enc L3 where
  enc x := .rsl (cells5 x.a ++ (cells5 x.b ++ cells5 x.c)) 0 3
  dec | .rsl [.u64 a, .u64 b, .u64 c, .u64 d, .u64 e, .u64 a', .u64 b', .u64 c', .u64 d', .u64 e', .u64 a2, .u64 b2, .u64 c2, .u64 d2, .u64 e2] 0 3 => some ⟨⟨a, b, c, d, e⟩, ⟨a', b', c', d', e'⟩, ⟨a2, b2, c2, d2, e2⟩⟩
      | _ => none
  ok := by
    intro s a h at_ w v r
    split at h
    · simp only [Option.some.injEq] at h; subst h; exact r
    · cases h
  nn _ := rfl
/-- Tame: so it is; not: so it is not. -/
def sT1 (b : Bool) : SpecF := fspec (α := L1 × Unit) (fun x => some (tm x.1.a = b)) (fun _ => b)
def sT2 (b : Bool) : SpecF := fspec (α := L2 × Unit) (fun x => some ((tm x.1.a && tm x.1.b) = b)) (fun _ => b)
def sT3 (b : Bool) : SpecF := fspec (α := L3 × Unit) (fun x => some ((tm x.1.a && (tm x.1.b && tm x.1.c)) = b)) (fun _ => b)
def sTame (p q r : Bool) : SpecF := fun l => match sT1 p l with | some x => some x | none => (match sT2 q l with | some x => some x | none => sT3 r l)
noncomputable def spK : Specs := (1000002, Sym.sNo) :: (1000003, Sym.sNo) :: spC
noncomputable def sIs : SpecF := fspec (α := Five × Num × Unit) (fun x => some (tm x.1 = true ∧ V x.1 % pV = x.2.1.n ∧ Lh x.2.1.n)) (fun _ => true)
/-- Package field. -/
noncomputable def spFd : Specs := (23, sFRoot) :: (1000005, Sym.sNo) :: (1000004, Sym.sNo) :: (43, sFWide) :: spF8
end Go.Proofs.YtigkddloeikpbaaDoor.F4
