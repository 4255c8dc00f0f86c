/- A symbolic machine for Go functions, and what the functions that the law reaches come to: ComA. -/
import Derived.Test.YtigkddloeikpbaaGreatDoorQ23
import Derived.Test.YtigkddloeikpbaaGreatDoorQ4
/- Package combo: multiples of points: what the functions come to. -/
set_option maxRecDepth 100000
namespace Go.Proofs.YtigkddloeikpbaaGreatDoor.C11
open Go.Sym Go.Dig R1 F4 E10

/-! Sums of points, doubles, eight times: as functions that nothing opens. -/
theorem oa_ex : ∃ f : Pt → Pt → Pt, f = eAdd := ⟨_, rfl⟩
noncomputable def oAdd : Pt → Pt → Pt := Classical.choose oa_ex
theorem oAdd_eq : oAdd = eAdd := Classical.choose_spec oa_ex
theorem od_ex : ∃ f : Pt → Pt, f = eDouble := ⟨_, rfl⟩
noncomputable def oDbl : Pt → Pt := Classical.choose od_ex
theorem oDbl_eq : oDbl = eDouble := Classical.choose_spec od_ex
theorem oe_ex : ∃ f : Pt → Pt, f = eEight := ⟨_, rfl⟩
noncomputable def oEight : Pt → Pt := Classical.choose oe_ex
theorem oEight_eq : oEight = eEight := Classical.choose_spec oe_ex
noncomputable def sOAdd : SpecF := fspec (α := Pt × Pt × Unit) total (fun a => oAdd a.1 a.2.1)
noncomputable def sODbl : SpecF := fspec (α := Pt × Unit) total (fun a => oDbl a.1)
noncomputable def sOEight : SpecF := fspec (α := Pt × Unit) total (fun a => oEight a.1)
theorem ok_oAdd : SpecOK Tryz.prog 1000000 Sym.sNo := Sym.sNo_ok _ _
theorem ok_oDbl : SpecOK Tryz.prog 64 sODbl := by unfold sODbl; rw [oDbl_eq]; exact ok_eDouble
theorem ok_oEight : SpecOK Tryz.prog 24 sOEight := by unfold sOEight; rw [oEight_eq]; exact ok_eEight
noncomputable def spC0 : Specs := (1000000, Sym.sNo) :: (64, sODbl) :: (24, sOEight) :: spE4
theorem spC0_ok : SpecsOK Tryz.prog spC0 := .cons ok_oAdd <| .cons ok_oDbl <| .cons ok_oEight spE4_ok
/-- A point's multiples. -/
noncomputable def tabF (p : Pt) : Nat → Pt
  | 0 => eZero
  | n + 1 => oAdd (tabF p n) p
noncomputable def tabCells (p : Pt) : List SV := (List.range 16).flatMap fun k => (tabF p k).cells
structure TabV where
  p : Pt
noncomputable instance : RetL TabV := ⟨fun t => [.agg (tabCells t.p)]⟩
noncomputable def sTable : SpecF := fspec (α := Pt × Unit) total (fun a => (⟨a.1⟩ : TabV))
noncomputable def sSixteen : SpecF := fspec (α := Pt × Unit) total (fun a => oDbl (oEight a.1))

/-! What is kept while a loop runs. -/
abbrev c4 (a : Four) : List SV := [.u64 a.w0, .u64 a.w1, .u64 a.w2, .u64 a.w3]
def dFourC : List SV → Option Four
  | [.u64 a, .u64 b, .u64 c, .u64 d] => some ⟨a, b, c, d⟩
  | _ => none
theorem dFourC_ok {cs : List SV} {r : Four} (h : dFourC cs = some r) : cs = c4 r := by
  unfold dFourC at h
  split at h
  · simp only [Option.some.injEq] at h; subst h; rfl
  · cases h
structure PFour where
  v : Four
instance : LEnc PFour where
  kind := none
  enc nx a := (.ptr nx 0, [c4 a.v])
  dec nx s M := match s, M with
    | .ptr b 0, some cs :: M' => if b = nx then (dFourC cs).map fun r => (none, ⟨r⟩, M') else none
    | _, _ => none
  all P := ∀ v, P ⟨v⟩
  all_ok h a := h a.v
  ok := by
    intro nx s M p a M' h hp
    split at h
    · split at h
      · rename_i hb
        obtain ⟨r, h1, h2⟩ := Option.map_eq_some_iff.1 h
        simp only [Prod.mk.injEq] at h2
        obtain ⟨_, rfl, rfl⟩ := h2
        subst hb
        rw [dFourC_ok h1]
        exact ⟨rfl, fun r => r⟩
      · cases h
    · cases h
structure PPt where
  v : Pt
instance : LEnc PPt where
  kind := none
  enc nx a := (.ptr nx 0, [a.v.cells])
  dec nx s M := match s, M with
    | .ptr b 0, some cs :: M' => if b = nx then (dPtC cs).map fun r => (none, ⟨r⟩, M') else none
    | _, _ => none
  all P := ∀ v, P ⟨v⟩
  all_ok h a := h a.v
  ok := by
    intro nx s M p a M' h hp
    split at h
    · split at h
      · rename_i hb
        obtain ⟨r, h1, h2⟩ := Option.map_eq_some_iff.1 h
        simp only [Prod.mk.injEq] at h2
        obtain ⟨_, rfl, rfl⟩ := h2
        subst hb
        rw [dPtC_ok h1]
        exact ⟨rfl, fun r => r⟩
      · cases h
    · cases h
structure ValV where
  v : Value
instance : Enc ValV where
  enc a := .val a.v
  dec | .val v => some ⟨v⟩
      | _ => none
  ok := by
    intro s a h at_ w v r
    cases s <;> simp only at h <;> first | (cases h; done) | (simp only [Option.some.injEq] at h; subst h; exact r)
  nn _ := rfl
structure RoFour where
  v : Four
instance : Enc RoFour where
  enc a := .ro (c4 a.v) 0
  dec | .ro cs 0 => (dFourC cs).map RoFour.mk
      | _ => none
  ok := by
    intro s a h at_ w v r
    split at h
    · obtain ⟨x, h1, h2⟩ := Option.map_eq_some_iff.1 h
      subst h2
      rw [dFourC_ok h1] at r; exact r
    · cases h
  nn _ := rfl
noncomputable def tabW (p : Pt) : List UInt64 := (List.range 16).flatMap fun k => [(tabF p k).x.x0, (tabF p k).x.x1, (tabF p k).x.x2, (tabF p k).x.x3, (tabF p k).x.x4, (tabF p k).y.x0, (tabF p k).y.x1, (tabF p k).y.x2, (tabF p k).y.x3, (tabF p k).y.x4,
  (tabF p k).z.x0, (tabF p k).z.x1, (tabF p k).z.x2, (tabF p k).z.x3, (tabF p k).z.x4, (tabF p k).t.x0, (tabF p k).t.x1, (tabF p k).t.x2, (tabF p k).t.x3, (tabF p k).t.x4]
structure MulS where
  k : Four
  p : Pt
  z : Pt
  l : List UInt64
  out : Pt
def MulS.pk (s : MulS) : List (Option Blk) := [some (c4 s.k), some s.p.cells, some s.z.cells, some [.own (.words s.l)], none, some s.out.cells, none]
def MulS.mk5 (l : List UInt64) : Option Four → Option Pt → Option Pt → Option Pt → Option MulS
  | some k, some p, some z, some o => some ⟨k, p, z, l, o⟩
  | _, _, _, _ => none
def MulS.pd : List (Option Blk) → Option MulS
  | [some kc, some pc, some zc, some [.own (.words l)], none, some oc, none] => MulS.mk5 l (dFourC kc) (dPtC pc) (dPtC zc) (dPtC oc)
  | _ => none
theorem MulS.pok {M : List (Option Blk)} {s : MulS} (h : MulS.pd M = some s) : M = s.pk := by
  unfold MulS.pd at h
  split at h
  · unfold MulS.mk5 at h
    split at h
    · rename_i h1 h2 h3 h4
      simp only [Option.some.injEq] at h; subst h
      simp only [MulS.pk, dFourC_ok h1, dPtC_ok h2, dPtC_ok h3, dPtC_ok h4]
    · cases h
  · cases h
noncomputable def cMul (p : Pt → List UInt64) : CSpec := { β := Unit, γ := PFour × PPt × PPt × Unit, α := PFour × PPt × PPt × ArrW 320 × Unit, same := [], pre := [2, 3, 4], keep := [2, 3, 4, 5], inv := fun _ g a => a.1.v = g.1.v ∧ a.2.1.v = g.2.1.v ∧ a.2.2.1.v = g.2.2.1.v ∧ a.2.2.2.1.l = p g.2.1.v }
/-- Of the words of a number. -/
def wordK (k : Four) : Nat → UInt64
  | 0 => k.w0
  | 1 => k.w1
  | 2 => k.w2
  | _ => k.w3
/-- The nibble at a place, from above. -/
def nibV (k : Four) (c : Nat) : Nat := nat4 k / 2 ^ (252 - 4 * c) % 16
noncomputable def mulAcc (k : Four) (p : Pt) : Nat → Pt
  | 0 => eZero
  | c + 1 => oAdd (oDbl (oEight (mulAcc k p c))) (tabF p (nibV k c))
def iMul (k : Four) (p z : Pt) (tw : List UInt64) (acc : Nat → Pt) (i : Int) (s : MulS) (n : Int) : Prop := s.k = k ∧ s.p = p ∧ s.z = z ∧ s.l = tw ∧ -4 ≤ n ∧ n ≤ 60 ∧ n % 4 = 0 ∧ s.out = acc ((3 - i).toNat * 16 + ((60 - n) / 4).toNat)
noncomputable def spC1 : Specs := (1000005, Sym.sNo) :: (1000004, Sym.sNo) :: (1000002, Sym.sNo) :: spC0
def zF : Five := ⟨UInt64.ofNat (Int.toNat 0), UInt64.ofNat (Int.toNat 0), UInt64.ofNat (Int.toNat 0), UInt64.ofNat (Int.toNat 0), UInt64.ofNat (Int.toNat 0)⟩
def zPt : Pt := ⟨zF, zF, zF, zF⟩
/-- The nibble that is told. -/
def nibI (w : UInt64) (n : Int) : Int := IntKind.wrap .i64 ((shr64 w (UInt64.ofInt n).toNat &&& UInt64.ofNat (Int.toNat 15)).toNat : Int)
/-- A row of a table of points. -/
def rowP (l : List UInt64) (j : Nat) : Pt :=
  ⟨⟨l.getD (j * 20 + 0) 0, l.getD (j * 20 + 1) 0, l.getD (j * 20 + 2) 0, l.getD (j * 20 + 3) 0, l.getD (j * 20 + 4) 0⟩, ⟨l.getD (j * 20 + 5) 0, l.getD (j * 20 + 6) 0, l.getD (j * 20 + 7) 0, l.getD (j * 20 + 8) 0, l.getD (j * 20 + 9) 0⟩,
   ⟨l.getD (j * 20 + 10) 0, l.getD (j * 20 + 11) 0, l.getD (j * 20 + 12) 0, l.getD (j * 20 + 13) 0, l.getD (j * 20 + 14) 0⟩, ⟨l.getD (j * 20 + 15) 0, l.getD (j * 20 + 16) 0, l.getD (j * 20 + 17) 0, l.getD (j * 20 + 18) 0, l.getD (j * 20 + 19) 0⟩⟩
/-- The words, one after the other. -/
noncomputable def chainM (I : Int → MulS → Int → Prop) (v : Four) (l1 : Nat) (Q : SV → Prop) : List (Int × UInt64) → MulS → Prop
  | [], s => Q s.out.sv
  | (i, w) :: r, s0 => I i s0 60 ∧ ∀ (s : MulS) (n : Int), I i s n → bcase (decide (n ≥ 0))
      ((l1 = l1) ∧ (0 ≤ nibI w n ∧ nibI w n < ((16 : Nat) : Int)) ∧ ((nibI w n).toNat * 20 + 20 ≤ s.l.length) ∧ (((ValV.mk (.func (.yield l1) ⟨[]⟩ ⟨[]⟩), RoFour.mk v, i, ()) : ValV × RoFour × Int × Unit) = (ValV.mk (.func (.yield l1) ⟨[]⟩ ⟨[]⟩), RoFour.mk v, i, ())) ∧
        (I i ⟨s.k, s.p, s.z, s.l, oAdd (oDbl (oEight s.out)) (rowP s.l (nibI w n).toNat)⟩ (IntKind.wrap .i64 (n - 4))) ∧ ((IntKind.wrap .i64 (n - 4) + 4).toNat < (n + 4).toNat))
      (chainM I v l1 Q r s)
end Go.Proofs.YtigkddloeikpbaaGreatDoor.C11
