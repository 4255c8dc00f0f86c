/- A symbolic machine for Go functions, and what the functions that the law reaches come to: PrA. -/
import Derived.Test.YtficbeeoafiiaaaGreatDoorQ12
import Derived.Test.YtficbeeoafiiaaaGreatDoorQ4
/- Package prime: what its functions compute, and what their bodies come to. -/
set_option maxRecDepth 10000
namespace Go.Proofs.YtficbeeoafiiaaaGreatDoor.P12
open Go.Sym Go.Dig R1
--STOP R1.Sm, limb_Add, limb_Sub, limb_Select, limb_Mul, limb_Cmp, limb_Right, limb_Of, limb_Bytes, timesR, resR, mulR, plusR, minusR, expR, invR, onR, pT, pS, pA, pI, pO, pE, pV, pSide, zero4

theorem mp_ex : ∃ m : Four, m = ⟨18446744073709551615, 4294967295, 0, 18446744069414584321⟩ := ⟨_, rfl⟩
/-- The modulus, told so that no machine computes with it. -/
noncomputable def mP : Four := Classical.choose mp_ex
theorem mP_eq : mP = ⟨18446744073709551615, 4294967295, 0, 18446744069414584321⟩ := Classical.choose_spec mp_ex
theorem op_ex : ∃ m : Four, m = ⟨17562291160714782033, 13611842547513532036, 18446744073709551615, 18446744069414584320⟩ := ⟨_, rfl⟩
/-- The order. -/
noncomputable def oP : Four := Classical.choose op_ex
theorem oP_eq : oP = ⟨17562291160714782033, 13611842547513532036, 18446744073709551615, 18446744069414584320⟩ := Classical.choose_spec op_ex
theorem rp_ex : ∃ r : RingV, r = ringOf mP := ⟨_, rfl⟩
noncomputable def rP : RingV := Classical.choose rp_ex
theorem rP_eq : rP = ringOf mP := Classical.choose_spec rp_ex
noncomputable def pT (a b : Four) : Four := onR (some rP) fun r => mulR r a b
noncomputable def pA (a b : Four) : Four := onR (some rP) fun r => plusR r a b
noncomputable def pS (a b : Four) : Four := onR (some rP) fun r => minusR r a b
noncomputable def pI (a : Four) : Four := onR (some rP) fun r => timesR r a r.two
noncomputable def pO (a : Four) : Four := onR (some rP) fun r => timesR r a one4
noncomputable def pE (a e : Four) : Four := onR (some rP) fun r => expR r a e
noncomputable def pV (a : Four) : Four := onR (some rP) fun r => invR r a
noncomputable def pOne : Four := pI ⟨1, 0, 0, 0⟩
noncomputable def pB : Four := pI ⟨4309448131093880907, 7285987128567378166, 12964664127075681980, 6540974713487397863⟩
noncomputable def pSide (x : Four) : Four := pA (pS (pT (pT x x) x) (pA x (pA x x))) pB

/-- A point: its ring, three numerals. -/
structure PPt where
  r : Option RingV
  x : Four
  y : Four
  z : Four
def PPt.sv (p : PPt) : SV := .agg [Enc.enc p.r, .u64 p.x.w0, .u64 p.x.w1, .u64 p.x.w2, .u64 p.x.w3, .u64 p.y.w0, .u64 p.y.w1, .u64 p.y.w2, .u64 p.y.w3, .u64 p.z.w0, .u64 p.z.w1, .u64 p.z.w2, .u64 p.z.w3]
def dPPt : SV → Option PPt
  | .agg [r, .u64 a0, .u64 a1, .u64 a2, .u64 a3, .u64 b0, .u64 b1, .u64 b2, .u64 b3, .u64 c0, .u64 c1, .u64 c2, .u64 c3] => match Enc.dec (α := Option RingV) r with
    | some q => some ⟨q, ⟨a0, a1, a2, a3⟩, ⟨b0, b1, b2, b3⟩, ⟨c0, c1, c2, c3⟩⟩
    | none => none
  | _ => none
instance : Enc PPt where
  enc := PPt.sv
  dec := dPPt
  ok := by
    intro s a h at_ w v r
    unfold dPPt at h
    split at h
    · split at h
      · rename_i q hq
        simp only [Option.some.injEq] at h; subst h
        simp only [PPt.sv, Rel, RelL] at r ⊢
        obtain ⟨vs, rfl, u, us, rfl, h1, h2⟩ := r
        exact ⟨_, rfl, u, us, rfl, Enc.ok hq h1, h2⟩
      · cases h
    · cases h
  nn p := by
    have := Enc.nn (α := Option RingV) p.r
    simp only [PPt.sv, SV.noName, noNameL, this, Bool.and_self]
/-- A point's numerals. -/
structure P3 where
  x : Four
  y : Four
  z : Four
def PPt.p (a : PPt) : P3 := ⟨a.x, a.y, a.z⟩
noncomputable def P3.sv (p : P3) : SV := (⟨some rP, p.x, p.y, p.z⟩ : PPt).sv
noncomputable instance : RetL P3 := ⟨fun p => [p.sv]⟩
/-- A point, and that it is one. -/
structure IsPt where
  p : P3
noncomputable instance : RetL IsPt := ⟨fun p => [p.p.sv, .bool true]⟩
/-- A point's ring. -/
structure Crv where
  r : Option RingV
def dCrv : SV → Option Crv
  | .agg [r] => match Enc.dec (α := Option RingV) r with
    | some q => some ⟨q⟩
    | none => none
  | _ => none
instance : Enc Crv where
  enc c := .agg [Enc.enc c.r]
  dec := dCrv
  ok := by
    intro s a h at_ w v r
    unfold dCrv at h
    split at h
    · split at h
      · rename_i q hq
        simp only [Option.some.injEq] at h; subst h
        simp only [Rel, RelL] at r ⊢
        obtain ⟨vs, rfl, u, us, rfl, h1, h2⟩ := r
        exact ⟨_, rfl, u, us, rfl, Enc.ok hq h1, h2⟩
      · cases h
    · cases h
  nn p := by
    have := Enc.nn (α := Option RingV) p.r
    simp only [SV.noName, noNameL, this, Bool.and_self]

noncomputable def sMod : SpecF := fspec (α := Unit) total (fun _ => mP)
noncomputable def sOrd : SpecF := fspec (α := Unit) total (fun _ => oP)
noncomputable def sNewP : SpecF := fspec (α := Four × Unit) (β := Option RingV × Int × Unit) (fun a => some (a.1 = mP)) (fun _ => (some rP, 0, ()))
noncomputable def spA0 : Specs := (47, sMod) :: (46, sNewP) :: (49, sIn) :: (59, sOut) :: (56, sPlusR) :: (48, sMinusR) :: (54, sMulR) :: (87, sExpR) :: (55, sInvR) :: spL0
theorem vcMade (Q : SV → Prop) : LnRaw tt spA0 9 [] {} Tryz.f90 Q () =
 ((mP = mP) ∧ (Q (SV.agg [SV.ro (RingV.cells rP) (0 : Nat)]))) := by kernel_rfl
noncomputable def sMade : SpecF := fspec (α := Unit) total (fun _ => (⟨some rP⟩ : Crv))
/-- The functions of the curve's own numbers want its ring. -/
theorem vcOne (Q : SV → Prop) : LnRaw tt spA0 9 [] {} Tryz.f92 Q ((⟨some rP⟩ : Crv), ()) = Q pOne.sv := by kernel_rfl
noncomputable def sPOne : SpecF := fspec (α := Crv × Unit) (fun a => some (a.1.r = some rP)) (fun _ => pOne)
theorem vcSide (x : Four) (Q : SV → Prop) : LnRaw tt spA0 9 [] {} Tryz.f91 Q ((⟨some rP⟩ : Crv), x, ()) = Q (pSide x).sv := by kernel_rfl
noncomputable def sSide : SpecF := fspec (α := Crv × Four × Unit) (fun a => some (a.1.r = some rP)) (fun a => pSide a.2.1)
noncomputable def pBelow (x : Four) : Bool := decide (limb_Cmp x mP < 0)
theorem vcBelow (x : Four) (Q : SV → Prop) : LnRaw tt spA0 9 [] {} Tryz.f89 Q (x, ()) = Q (.bool (pBelow x)) := by kernel_rfl
noncomputable def sBelow : SpecF := fspec (α := Four × Unit) total (fun a => pBelow a.1)
noncomputable def spA1 : Specs := (90, sMade) :: (92, sPOne) :: (91, sSide) :: (89, sBelow) :: spA0
noncomputable def pZero : P3 := ⟨pOne, pOne, zero4⟩
noncomputable def sPZero : SpecF := fspec (α := Unit) total (fun _ => pZero)
def pNil : PPt := ⟨none, zero4, zero4, zero4⟩
/-- Is a pair a point? -/
noncomputable def okFrom0 (x y : Four) : Bool := pBelow x && (pBelow y && eq4 (pT (pI y) (pI y)) (pSide (pI x)))
theorem pf_ex : ∃ f : Four → Four → Bool, f = okFrom0 := ⟨_, rfl⟩
noncomputable def okFrom : Four → Four → Bool := Classical.choose pf_ex
theorem okFrom_eq : okFrom = okFrom0 := Classical.choose_spec pf_ex
noncomputable def ptFrom (x y : Four) : P3 := ⟨pI x, pI y, pOne⟩
noncomputable def sFromT : SpecF := fspec (α := Four × Four × Unit) (β := IsPt) (fun a => some (okFrom a.1 a.2.1 = true)) (fun a => ⟨ptFrom a.1 a.2.1⟩)
noncomputable def sFromF : SpecF := fspec (α := Four × Four × Unit) (β := PPt × Bool) (fun a => some (okFrom a.1 a.2.1 = false)) (fun _ => (pNil, false))
def ofN : SV := .tup [pNil.sv, .bool false]
noncomputable def ofT (p : P3) : SV := .tup [p.sv, .bool true]
theorem vcFromA (x y : Four) (Q : SV → Prop) : LnRaw tt spA1 9 [(1, 1, .b false)] {} Tryz.f60 Q (x, y, ()) = (pBelow x = false ∧ Q ofN) := by kernel_rfl
theorem vcFromB (x y : Four) (Q : SV → Prop) : LnRaw tt spA1 9 [(1, 1, .b true), (1, 5, .b false)] {} Tryz.f60 Q (x, y, ()) = (pBelow x = true ∧ pBelow y = false ∧ Q ofN) := by kernel_rfl
theorem vcFromC (x y : Four) (Q : SV → Prop) : LnRaw tt spA1 9 [(1, 1, .b true), (1, 5, .b true), (5, 8, .b true)] {} Tryz.f60 Q (x, y, ()) =
 (pBelow x = true ∧ pBelow y = true ∧ some rP = some rP ∧ (!(eq4 (pT (pI y) (pI y)) (pSide (pI x)))) = true ∧ Q ofN) := by kernel_rfl
theorem vcFromD (x y : Four) (Q : SV → Prop) : LnRaw tt spA1 9 [(1, 1, .b true), (1, 5, .b true), (5, 8, .b false)] {} Tryz.f60 Q (x, y, ()) =
 (pBelow x = true ∧ pBelow y = true ∧ some rP = some rP ∧ (!(eq4 (pT (pI y) (pI y)) (pSide (pI x)))) = false ∧ some rP = some rP ∧ Q (ofT (ptFrom x y))) := by kernel_rfl
/-- x, as the bytes have it. -/
def pX (b : List UInt8) : Four := (limb_Of (List.drop (Int.toNat 1) (List.take (Int.toNat (b.length : Int)) b)) true).1
/-- A root's power. -/
noncomputable def pRoot (b : List UInt8) : Four := pE (pSide (pI (pX b))) (limb_Right (limb_Add mP ⟨1, 0, 0, 0⟩).1 2)
/-- Does a number's parity differ from the sign? -/
noncomputable def pOdd (b : List UInt8) (v : Four) : Bool := (((pO v).w0 &&& 1).toUInt8 != (b.getD (Int.toNat 0) 0 &&& 1))
noncomputable def pSgn (b : List UInt8) : Four := if pOdd b (pRoot b) = true then pS zero4 (pRoot b) else pRoot b
noncomputable def okOf0 (b : List UInt8) : Bool :=
  decide (b.length = 33) && ((b.getD 0 0 == 2 || b.getD 0 0 == 3) && (pBelow (pX b) && (eq4 (pT (pRoot b) (pRoot b)) (pSide (pI (pX b))) && !pOdd b (pSgn b))))
theorem po_ex : ∃ f : List UInt8 → Bool, f = okOf0 := ⟨_, rfl⟩
noncomputable def okOf : List UInt8 → Bool := Classical.choose po_ex
theorem okOf_eq : okOf = okOf0 := Classical.choose_spec po_ex
theorem po2_ex : ∃ f : List UInt8 → P3, f = fun b => ⟨pI (pX b), pSgn b, pOne⟩ := ⟨_, rfl⟩
noncomputable def ptOf : List UInt8 → P3 := Classical.choose po2_ex
theorem ptOf_eq (b : List UInt8) : ptOf b = ⟨pI (pX b), pSgn b, pOne⟩ := congrFun (Classical.choose_spec po2_ex) b
noncomputable def sOfT : SpecF := fspec (α := List UInt8 × Unit) (β := IsPt) (fun a => some (okOf a.1 = true)) (fun a => ⟨ptOf a.1⟩)
noncomputable def sOfF : SpecF := fspec (α := List UInt8 × Unit) (β := PPt × Bool) (fun a => some (okOf a.1 = false)) (fun _ => (pNil, false))
def idx0 (b : List UInt8) : Prop := (0 : Int) ≤ 0 ∧ (0 : Int) < (b.length : Int)
noncomputable def ofE (b : List UInt8) (Q : SV → Prop) : Prop :=
  idx0 b ∧ bcase (pOdd b (pRoot b)) (idx0 b ∧ bcase (pOdd b (pS zero4 (pRoot b))) (Q ofN) (some rP = some rP ∧ Q (ofT ⟨pI (pX b), pS zero4 (pRoot b), pOne⟩)))
    (idx0 b ∧ bcase (pOdd b (pRoot b)) (Q ofN) (some rP = some rP ∧ Q (ofT ⟨pI (pX b), pRoot b, pOne⟩)))
noncomputable def ofP (two : Bool) (b : List UInt8) (P : Prop) : Prop :=
  ((b.length : Int) != 33) = false ∧ idx0 b ∧ match two with
    | true => (b.getD (Int.toNat 0) 0 != 2) = false ∧ ((0 : Int) ≤ 1 ∧ (1 : Int) ≤ b.length ∧ (b.length : Int) ≤ b.length) ∧ P
    | false => (b.getD (Int.toNat 0) 0 != 2) = true ∧ idx0 b ∧ (b.getD (Int.toNat 0) 0 != 3) = false ∧ ((0 : Int) ≤ 1 ∧ (1 : Int) ≤ b.length ∧ (b.length : Int) ≤ b.length) ∧ P
def dOf (two : Bool) : Dec := match two with
  | true => [(1, 2, .b false), (1, 7, .b false)]
  | false => [(1, 2, .b false), (1, 7, .b true), (1, 12, .b false)]
noncomputable def pairI (p : P3) : Four := pT (pV p.z) (pV p.z)
noncomputable def pPair0 (p : P3) : Four × Four × Bool :=
  if eq4 p.z zero4 = true then (zero4, zero4, false) else (pO (pT p.x (pairI p)), pO (pT p.y (pT (pairI p) (pV p.z))), true)
theorem pp_ex : ∃ f : P3 → Four × Four × Bool, f = pPair0 := ⟨_, rfl⟩
noncomputable def pPair : P3 → Four × Four × Bool := Classical.choose pp_ex
theorem pPair_eq : pPair = pPair0 := Classical.choose_spec pp_ex
/-- Functions of a point want its ring. -/
abbrev onC (p : PPt) : Prop := p.r = some rP
noncomputable def sPPair : SpecF := fspec (α := PPt × Unit) (fun a => some (onC a.1)) (fun a => pPair a.1.p)
def prT (r : Four × Four × Bool) : SV := .tup [r.1.sv, r.2.1.sv, .bool r.2.2]
theorem vcPairA (x y z : Four) (Q : SV → Prop) : LnRaw tt spA1 9 [(1, 3, .b true)] {} Tryz.f30 Q ((⟨some rP, x, y, z⟩ : PPt), ()) = (eq4 z zero4 = true ∧ Q (prT (zero4, zero4, false))) := by kernel_rfl
theorem vcPairB (x y z : Four) (Q : SV → Prop) : LnRaw tt spA1 9 [(1, 3, .b false)] {} Tryz.f30 Q ((⟨some rP, x, y, z⟩ : PPt), ()) =
 (eq4 z zero4 = false ∧ Q (prT (pO (pT x (pT (pV z) (pV z))), pO (pT y (pT (pT (pV z) (pV z)) (pV z))), true))) := by kernel_rfl
noncomputable def pDouble (p : P3) : P3 :=
  let delta := pT p.z p.z
  let gamma := pT p.y p.y
  let beta := pT p.x gamma
  let a := pT (pS p.x delta) (pA p.x delta)
  let alpha := pA a (pA a a)
  let b4 := pA (pA beta beta) (pA beta beta)
  let x := pS (pT alpha alpha) (pA b4 b4)
  let s := pA p.y p.z
  let z := pS (pS (pT s s) gamma) delta
  let g := pT gamma gamma
  let g4 := pA (pA g g) (pA g g)
  ⟨x, pS (pT alpha (pS b4 x)) (pA g4 g4), z⟩
theorem pd_ex : ∃ f : P3 → P3, f = pDouble := ⟨_, rfl⟩
noncomputable def pDbl : P3 → P3 := Classical.choose pd_ex
theorem pDbl_eq : pDbl = pDouble := Classical.choose_spec pd_ex
noncomputable def sDouble : SpecF := fspec (α := PPt × Unit) (fun a => some (onC a.1)) (fun a => pDbl a.1.p)
noncomputable def pNegF (p : P3) : P3 := ⟨p.x, pS zero4 p.y, p.z⟩
theorem pn_ex : ∃ f : P3 → P3, f = pNegF := ⟨_, rfl⟩
noncomputable def pNeg : P3 → P3 := Classical.choose pn_ex
theorem pNeg_eq : pNeg = pNegF := Classical.choose_spec pn_ex
noncomputable def sPNeg : SpecF := fspec (α := PPt × Unit) (fun a => some (onC a.1)) (fun a => pNeg a.1.p)
noncomputable def spA2 : Specs := (1000001, Sym.sNo) :: (1000002, Sym.sNo) :: (30, sPPair) :: (1000005, Sym.sNo) :: spA1
noncomputable def pChord (p q : P3) : P3 :=
  let z1 := pT p.z p.z
  let z2 := pT q.z q.z
  let u1 := pT p.x z2
  let u2 := pT q.x z1
  let s1 := pT p.y (pT z2 q.z)
  let s2 := pT q.y (pT z1 p.z)
  let h := pS u2 u1
  let d := pS s2 s1
  let h2 := pT h h
  let h3 := pT h2 h
  let v := pT u1 h2
  let x := pS (pS (pT d d) h3) (pA v v)
  ⟨x, pS (pT d (pS v x)) (pT s1 h3), pT h (pT p.z q.z)⟩
noncomputable def addU (p q : P3) : Bool := eq4 (pT p.x (pT q.z q.z)) (pT q.x (pT p.z p.z))
noncomputable def addS (p q : P3) : Bool := eq4 (pT p.y (pT (pT q.z q.z) q.z)) (pT q.y (pT (pT p.z p.z) p.z))
noncomputable def pAdd0 (p q : P3) : P3 :=
  if eq4 p.z zero4 = true then q else if eq4 q.z zero4 = true then p
  else if addU p q = true then (if addS p q = true then pDbl p else pZero) else pChord p q
theorem pa_ex : ∃ f : P3 → P3 → P3, f = pAdd0 := ⟨_, rfl⟩
noncomputable def pAdd : P3 → P3 → P3 := Classical.choose pa_ex
theorem pAdd_eq : pAdd = pAdd0 := Classical.choose_spec pa_ex
noncomputable def sPAdd : SpecF := fspec (α := PPt × PPt × Unit) (fun a => some (onC a.1 ∧ onC a.2.1)) (fun a => pAdd a.1.p a.2.1.p)
section
variable (x y z x' y' z' : Four) (Q : SV → Prop)
end
/-- Are two points one? -/
noncomputable def pSame0 (p q : P3) : Bool := if eq4 p.z zero4 = true then eq4 p.z q.z else if eq4 q.z zero4 = true then eq4 p.z q.z else if addU p q = true then addS p q else false
theorem ps_ex : ∃ f : P3 → P3 → Bool, f = pSame0 := ⟨_, rfl⟩
noncomputable def pSame : P3 → P3 → Bool := Classical.choose ps_ex
theorem pSame_eq : pSame = pSame0 := Classical.choose_spec ps_ex
noncomputable def sPSame : SpecF := fspec (α := PPt × PPt × Unit) (fun a => some (onC a.1 ∧ onC a.2.1)) (fun a => pSame a.1.p a.2.1.p)
section
variable (x y z x' y' z' : Four) (Q : SV → Prop)
end
noncomputable def pBytes0 (p : P3) : List UInt8 := if (pPair p).2.2 = false then [0] else (2 + ((pPair p).2.1.w0 &&& 1)).toUInt8 :: limb_Bytes (pPair p).1 true
theorem py_ex : ∃ f : P3 → List UInt8, f = pBytes0 := ⟨_, rfl⟩
noncomputable def pBytes : P3 → List UInt8 := Classical.choose py_ex
theorem pBytes_eq : pBytes = pBytes0 := Classical.choose_spec py_ex
noncomputable def sPBytes : SpecF := fspec (α := PPt × Unit) (β := List UInt8) (fun a => some (onC a.1)) (fun a => pBytes a.1.p)
theorem vcBytesA (x y z : Four) (Q : SV → Prop) : LnRaw tt spA2 9 [(2, 1, .b true)] {} Tryz.f12 Q ((⟨some rP, x, y, z⟩ : PPt), ()) =
 ((some rP = some rP) ∧ (((!Prod.snd (Prod.snd (pPair (PPt.p (PPt.mk (some rP) x y z))))) = true) ∧ (Q (SV.lst (LV.bytes [UInt8.ofNat (Int.toNat (0 : Int))]))))) := by kernel_rfl
theorem vcBytesB (x y z : Four) (Q : SV → Prop) : LnRaw tt spA2 9 [(2, 1, .b false)] {} Tryz.f12 Q ((⟨some rP, x, y, z⟩ : PPt), ()) =
 ((some rP = some rP) ∧ (((!Prod.snd (Prod.snd (pPair (PPt.p (PPt.mk (some rP) x y z))))) = false) ∧ ((((0 : Nat) + (1 : Nat) = (1 : Nat)) ∧ (List.length ([UInt64.toUInt8 (UInt64.ofNat (Int.toNat (2 : Int)) + (Four.w0 (Prod.fst (Prod.snd (pPair (PPt.p (PPt.mk (some rP) x y z))))) &&& UInt64.ofNat (Int.toNat (1 : Int))))] ++ limb_Bytes (Prod.fst (pPair (PPt.p (PPt.mk (some rP) x y z)))) true) ≤ appLim)) ∧ (Q (SV.lst (LV.bytes (List.drop (0 : Nat) (List.take ((0 : Nat) + List.length ([UInt64.toUInt8 (UInt64.ofNat (Int.toNat (2 : Int)) + (Four.w0 (Prod.fst (Prod.snd (pPair (PPt.p (PPt.mk (some rP) x y z))))) &&& UInt64.ofNat (Int.toNat (1 : Int))))] ++ limb_Bytes (Prod.fst (pPair (PPt.p (PPt.mk (some rP) x y z)))) true)) ([UInt64.toUInt8 (UInt64.ofNat (Int.toNat (2 : Int)) + (Four.w0 (Prod.fst (Prod.snd (pPair (PPt.p (PPt.mk (some rP) x y z))))) &&& UInt64.ofNat (Int.toNat (1 : Int))))] ++ limb_Bytes (Prod.fst (pPair (PPt.p (PPt.mk (some rP) x y z)))) true))))))))) := by kernel_rfl
end Go.Proofs.YtficbeeoafiiaaaGreatDoor.P12
