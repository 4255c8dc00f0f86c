/- A symbolic machine for Go functions, and what the functions that the law reaches come to: RefK, RefL. -/
import Derived.Test.YtigkddloeikpbaaGreatDoorQ14
import Derived.Test.YtigkddloeikpbaaGreatDoorQ16
import Derived.Test.YtigkddloeikpbaaGreatDoorQ17
/- The reference of layer 10 on numbers: what its functions come to. -/
set_option maxRecDepth 10000
namespace Go.Proofs.YtigkddloeikpbaaGreatDoor.E10
open Go.Sym Go.Dig R1 F4
--STOP R1.Sm, Lm, Lh

/-- Modulo p. -/
noncomputable def mM (a b : Nat) : Nat := a * b % pV
noncomputable def aM (a b : Nat) : Nat := (a + b) % pV
noncomputable def sM (a b : Nat) : Nat := (a + pV - b) % pV
noncomputable def iN (a : Nat) : Nat := a ^ (pV - 2) % pV
/-- The reference's point. -/
structure RP where
  x : Nat
  y : Nat
  z : Nat
  is : Bool
def RP.sv (p : RP) : SV := .agg [.lst (.num p.x), .lst (.num p.y), .lst (.num p.z), .bool p.is]
def dRP : SV → Option RP
  | .agg [a, b, c, .bool i] => match Enc.dec (α := Num) a, Enc.dec (α := Num) b, Enc.dec (α := Num) c with
    | some x, some y, some z => some ⟨x.n, y.n, z.n, i⟩
    | _, _, _ => none
  | _ => none
instance : Enc RP where
  enc := RP.sv
  dec := dRP
  ok := by
    intro s a h at_ w v r
    unfold dRP at h
    split at h
    · split at h
      · rename_i x y z h1 h2 h3
        simp only [Option.some.injEq] at h; subst h
        simp only [Rel] at r
        obtain ⟨vs, rfl, r⟩ := r
        simp only [RelL] at r
        obtain ⟨u1, l1, rfl, r1, u2, l2, rfl, r2, u3, l3, rfl, r3, u4, l4, rfl, r4, rfl⟩ := r
        have k1 := Enc.ok h1 r1
        have k2 := Enc.ok h2 r2
        have k3 := Enc.ok h3 r3
        simp only [RP.sv, Rel]
        exact ⟨_, rfl, RelL.cons k1 (RelL.cons k2 (RelL.cons k3 (RelL.cons r4 RelL.nil)))⟩
      · cases h
    · cases h
  nn _ := rfl
theorem e255_ex : ∃ n : Nat, n = 2 ^ 255 := ⟨_, rfl⟩
/-- 2^255, told so that no machine computes with it. -/
noncomputable def e255 : Nat := Classical.choose e255_ex
theorem e255_eq : e255 = 2 ^ 255 := Classical.choose_spec e255_ex
noncomputable def nPow255 : SpecF := fspec (α := Int × Unit) (β := Num) (fun a => some (a.1 = 255)) (fun _ => ⟨e255⟩)
noncomputable def spK0 : Specs := (49, nPow255) :: (1000000, Sym.sNo) :: (11, nOfF) :: spI
theorem rd_ex : ∃ d : Nat, d = (0 + pV - 121665 * (121666 ^ (pV - 2) % pV) % pV) % pV := ⟨_, rfl⟩
noncomputable def rD : Nat := Classical.choose rd_ex
theorem rD_eq : rD = (0 + pV - 121665 * (121666 ^ (pV - 2) % pV) % pV) % pV := Classical.choose_spec rd_ex
theorem vcRD (Q : SV → Prop) : LnRaw tt spK0 9 [] {} Tryz.f28 Q () =
 ((((0 : Int) ≤ (121665 : Int)) ∧
 ((121665 : Int) < (9223372036854775808 : Int))) ∧
 ((((0 : Int) ≤ (121666 : Int)) ∧
 ((121666 : Int) < (9223372036854775808 : Int))) ∧
 ((Lh (Int.toNat (121666 : Int))) ∧
 (((Lh (Int.toNat (121665 : Int))) ∧
 (Lh (Int.toNat (121666 : Int) ^ (pV - (2 : Nat)) % pV))) ∧
 (((Lh (0 : Nat)) ∧
 ((Lh (Int.toNat (121665 : Int) * (Int.toNat (121666 : Int) ^ (pV - (2 : Nat)) % pV) % pV)) ∧
 (Int.toNat (121665 : Int) * (Int.toNat (121666 : Int) ^ (pV - (2 : Nat)) % pV) % pV ≤ (0 : Nat) + pV))) ∧
 (Q
 (SV.lst
 (LV.num
 (((0 : Nat) + pV - Int.toNat (121665 : Int) * (Int.toNat (121666 : Int) ^ (pV - (2 : Nat)) % pV) % pV) % pV))))))))) := by kernel_rfl
noncomputable def nRD : SpecF := fspec (α := Unit) (β := Num) total (fun _ => ⟨rD⟩)
noncomputable def spK1 : Specs := (28, nRD) :: spK0
noncomputable def onN (x y : Nat) : Bool := decide (sM (mM y y) (mM x x) = aM 1 (mM rD (mM (mM x x) (mM y y))))
noncomputable def nROn : SpecF := fspec (α := F4.N2) (β := Bool) (fun a => some (Lh a.1.n ∧ Lh a.2.1.n)) (fun a => onN a.1.n a.2.1.n)
noncomputable def rAdd (p q : RP) (d : Nat) : RP :=
  ⟨mM (mM (mM p.z q.z) (aM (mM p.x q.y) (mM p.y q.x))) (sM (mM (mM p.z q.z) (mM p.z q.z)) (mM d (mM (mM p.x q.x) (mM p.y q.y)))),
   mM (mM (mM p.z q.z) (aM (mM p.y q.y) (mM p.x q.x))) (aM (mM (mM p.z q.z) (mM p.z q.z)) (mM d (mM (mM p.x q.x) (mM p.y q.y)))),
   mM (sM (mM (mM p.z q.z) (mM p.z q.z)) (mM d (mM (mM p.x q.x) (mM p.y q.y)))) (aM (mM (mM p.z q.z) (mM p.z q.z)) (mM d (mM (mM p.x q.x) (mM p.y q.y)))), true⟩
theorem vcRAdd (p q : RP) (d : Nat) (Q : SV → Prop) : LnRaw tt spK1 9 [] {} Tryz.f31 Q (p, q, (⟨d⟩ : Num), ()) =
 (((Lh (RP.z p)) ∧
 (Lh (RP.z q))) ∧
 (((Lh (RP.z p * RP.z q % pV)) ∧
 (Lh (RP.z p * RP.z q % pV))) ∧
 (((Lh (RP.x p)) ∧
 (Lh (RP.x q))) ∧
 (((Lh (RP.y p)) ∧
 (Lh (RP.y q))) ∧
 (((Lh (RP.x p * RP.x q % pV)) ∧
 (Lh (RP.y p * RP.y q % pV))) ∧
 (((Lh d) ∧
 (Lh (RP.x p * RP.x q % pV * (RP.y p * RP.y q % pV) % pV))) ∧
 (((Lh (RP.z p * RP.z q % pV * (RP.z p * RP.z q % pV) % pV)) ∧
 ((Lh (d * (RP.x p * RP.x q % pV * (RP.y p * RP.y q % pV) % pV) % pV)) ∧
 (d * (RP.x p * RP.x q % pV * (RP.y p * RP.y q % pV) % pV) % pV ≤ RP.z p * RP.z q % pV * (RP.z p * RP.z q % pV) % pV + pV))) ∧
 (((Lh (RP.z p * RP.z q % pV * (RP.z p * RP.z q % pV) % pV)) ∧
 (Lh (d * (RP.x p * RP.x q % pV * (RP.y p * RP.y q % pV) % pV) % pV))) ∧
 (((Lh (RP.x p)) ∧
 (Lh (RP.y q))) ∧
 (((Lh (RP.y p)) ∧
 (Lh (RP.x q))) ∧
 (((Lh (RP.x p * RP.y q % pV)) ∧
 (Lh (RP.y p * RP.x q % pV))) ∧
 (((Lh (RP.z p * RP.z q % pV)) ∧
 (Lh ((RP.x p * RP.y q % pV + RP.y p * RP.x q % pV) % pV))) ∧
 (((Lh (RP.z p * RP.z q % pV * ((RP.x p * RP.y q % pV + RP.y p * RP.x q % pV) % pV) % pV)) ∧
 (Lh
 ((RP.z p * RP.z q % pV * (RP.z p * RP.z q % pV) % pV + pV -
 d * (RP.x p * RP.x q % pV * (RP.y p * RP.y q % pV) % pV) % pV) %
 pV))) ∧
 (((Lh (RP.y p * RP.y q % pV)) ∧
 (Lh (RP.x p * RP.x q % pV))) ∧
 (((Lh (RP.z p * RP.z q % pV)) ∧
 (Lh ((RP.y p * RP.y q % pV + RP.x p * RP.x q % pV) % pV))) ∧
 (((Lh (RP.z p * RP.z q % pV * ((RP.y p * RP.y q % pV + RP.x p * RP.x q % pV) % pV) % pV)) ∧
 (Lh
 ((RP.z p * RP.z q % pV * (RP.z p * RP.z q % pV) % pV +
 d * (RP.x p * RP.x q % pV * (RP.y p * RP.y q % pV) % pV) % pV) %
 pV))) ∧
 (((Lh
 ((RP.z p * RP.z q % pV * (RP.z p * RP.z q % pV) % pV + pV -
 d * (RP.x p * RP.x q % pV * (RP.y p * RP.y q % pV) % pV) % pV) %
 pV)) ∧
 (Lh
 ((RP.z p * RP.z q % pV * (RP.z p * RP.z q % pV) % pV +
 d * (RP.x p * RP.x q % pV * (RP.y p * RP.y q % pV) % pV) % pV) %
 pV))) ∧
 (Q
 (SV.agg
 [SV.lst
 (LV.num
 (RP.z p * RP.z q % pV * ((RP.x p * RP.y q % pV + RP.y p * RP.x q % pV) % pV) % pV *
 ((RP.z p * RP.z q % pV * (RP.z p * RP.z q % pV) % pV + pV -
 d * (RP.x p * RP.x q % pV * (RP.y p * RP.y q % pV) % pV) % pV) %
 pV) %
 pV)),
 SV.lst
 (LV.num
 (RP.z p * RP.z q % pV * ((RP.y p * RP.y q % pV + RP.x p * RP.x q % pV) % pV) % pV *
 ((RP.z p * RP.z q % pV * (RP.z p * RP.z q % pV) % pV +
 d * (RP.x p * RP.x q % pV * (RP.y p * RP.y q % pV) % pV) % pV) %
 pV) %
 pV)),
 SV.lst
 (LV.num
 ((RP.z p * RP.z q % pV * (RP.z p * RP.z q % pV) % pV + pV -
 d * (RP.x p * RP.x q % pV * (RP.y p * RP.y q % pV) % pV) % pV) %
 pV *
 ((RP.z p * RP.z q % pV * (RP.z p * RP.z q % pV) % pV +
 d * (RP.x p * RP.x q % pV * (RP.y p * RP.y q % pV) % pV) % pV) %
 pV) %
 pV)),
 SV.bool true]))))))))))))))))))) := by kernel_rfl
noncomputable def nRAdd : SpecF := fspec (α := RP × RP × Num × Unit) (fun a => some ((Lh a.1.x ∧ Lh a.1.y ∧ Lh a.1.z) ∧ (Lh a.2.1.x ∧ Lh a.2.1.y ∧ Lh a.2.1.z) ∧ Lh a.2.2.1.n)) (fun a => rAdd a.1 a.2.1 a.2.2.1.n)
noncomputable def rNeg (p : RP) : RP := ⟨sM 0 p.x, p.y, p.z, p.is⟩
noncomputable def nRNeg : SpecF := fspec (α := RP × Unit) (fun a => some (a.1.x < pV)) (fun a => rNeg a.1)
def rZero : RP := ⟨0, 1, 1, true⟩
theorem vcRZero (Q : SV → Prop) : LnRaw tt spK1 9 [] {} Tryz.f29 Q () =
 (Q
 (SV.agg
 [SV.val (Value.slice none (0 : Nat) (0 : Nat)), SV.lst (LV.ints [(1 : Int)]), SV.lst (LV.ints [(1 : Int)]),
 SV.bool true])) := by kernel_rfl
def nRZero : SpecF := fspec (α := Unit) total (fun _ => rZero)
noncomputable def rPairX (p : RP) : Nat := mM p.x (iN p.z)
noncomputable def rPairY (p : RP) : Nat := mM p.y (iN p.z)
theorem vcRPair (p : RP) (Q : SV → Prop) : LnRaw tt spK1 9 [] {} Tryz.f47 Q (p, ()) =
 ((Lh (RP.z p)) ∧
 (((Lh (RP.x p)) ∧
 (Lh (RP.z p ^ (pV - (2 : Nat)) % pV))) ∧
 (((Lh (RP.y p)) ∧
 (Lh (RP.z p ^ (pV - (2 : Nat)) % pV))) ∧
 (Q
 (SV.tup
 [SV.lst (LV.num (RP.x p * (RP.z p ^ (pV - (2 : Nat)) % pV) % pV)),
 SV.lst (LV.num (RP.y p * (RP.z p ^ (pV - (2 : Nat)) % pV) % pV))]))))) := by kernel_rfl
noncomputable def nRPair : SpecF := fspec (α := RP × Unit) (β := Num × Num × Unit) (fun a => some (Lh a.1.x ∧ Lh a.1.y ∧ Lh a.1.z)) (fun a => (⟨rPairX a.1⟩, ⟨rPairY a.1⟩, ()))
noncomputable def rSame (p q : RP) : Bool := decide (mM p.x q.z = mM q.x p.z) && decide (mM p.y q.z = mM q.y p.z)
noncomputable def nRSame : SpecF := fspec (α := RP × RP × Unit) (fun a => some ((Lh a.1.x ∧ Lh a.1.y ∧ Lh a.1.z) ∧ (Lh a.2.1.x ∧ Lh a.2.1.y ∧ Lh a.2.1.z))) (fun a => rSame a.1 a.2.1)
noncomputable def spK2 : Specs := (1000004, Sym.sNo) :: (31, nRAdd) :: (1000002, Sym.sNo) :: (29, nRZero) :: (47, nRPair) :: (1000005, Sym.sNo) :: spK1
noncomputable def rBytes (p : RP) : List UInt8 := bytesN (if rPairX p % 2 = 1 then rPairY p + e255 else rPairY p) 32
theorem vcRBytesF (p : RP) (Q : SV → Prop) : LnRaw tt spK2 9 [(2, 1, .b false)] {} Tryz.f14 Q (p, ()) =
 (((Lh (RP.x p)) ∧
 ((Lh (RP.y p)) ∧
 (Lh (RP.z p)))) ∧
 ((Lh (rPairX p)) ∧
 ((decide (rPairX p % (2 : Nat) = (1 : Nat)) = false) ∧
 (((Sm (rPairY p)) ∧
 (((0 : Int) ≤ (32 : Int)) ∧
 ((32 : Int) ≤ (1048576 : Int)))) ∧
 (Q (SV.lst (LV.bytes (bytesN (rPairY p) (Int.toNat (32 : Int)))))))))) := by kernel_rfl
theorem vcRBytesT (p : RP) (Q : SV → Prop) : LnRaw tt spK2 9 [(2, 1, .b true)] {} Tryz.f14 Q (p, ()) =
 (((Lh (RP.x p)) ∧
 ((Lh (RP.y p)) ∧
 (Lh (RP.z p)))) ∧
 ((Lh (rPairX p)) ∧
 ((decide (rPairX p % (2 : Nat) = (1 : Nat)) = true) ∧
 (((255 : Int) = (255 : Int)) ∧
 (((Sm (rPairY p)) ∧
 (Sm e255)) ∧
 (((Sm (rPairY p + e255)) ∧
 (((0 : Int) ≤ (32 : Int)) ∧
 ((32 : Int) ≤ (1048576 : Int)))) ∧
 (Q (SV.lst (LV.bytes (bytesN (rPairY p + e255) (Int.toNat (32 : Int)))))))))))) := by kernel_rfl
noncomputable def nRBytes : SpecF := fspec (α := RP × Unit) (β := List UInt8) (fun a => some (Lh a.1.x ∧ Lh a.1.y ∧ Lh a.1.z)) (fun a => rBytes a.1)
/-- The sides of the curve's equation at y. -/
noncomputable def rU (y : Nat) : Nat := sM (mM y y) 1
noncomputable def rW (y : Nat) : Nat := aM (mM rD (mM y y)) 1
def rNil : RP := ⟨0, 0, 0, false⟩
noncomputable def rOfY (y : Nat) (sign : Bool) : RP :=
  if ¬ y < pV then rNil else if (ratioN (rU y) (rW y)).2.1 = false then rNil
  else if sign = true then (if (ratioN (rU y) (rW y)).1.n = 0 then rNil else ⟨sM 0 (ratioN (rU y) (rW y)).1.n, y, 1, true⟩)
  else ⟨(ratioN (rU y) (rW y)).1.n, y, 1, true⟩
noncomputable def rOfB (b : List UInt8) : RP :=
  if b.length ≠ 32 then rNil else if bev b.reverse / 2 ^ 255 % 2 = 1 then rOfY (bev b.reverse - e255) true else rOfY (bev b.reverse) false
theorem rof_ex : ∃ f : List UInt8 → RP, f = rOfB := ⟨_, rfl⟩
noncomputable def rOf : List UInt8 → RP := Classical.choose rof_ex
theorem rOf_eq : rOf = rOfB := Classical.choose_spec rof_ex
noncomputable def nROf : SpecF := fspec (α := List UInt8 × Unit) (fun a => some (a.1.length ≤ 1000000)) (fun a => rOf a.1)
noncomputable def spK3 : Specs := (14, nRBytes) :: (1000003, Sym.sNo) :: spK2
theorem rb_ex : ∃ p : RP, p = rOf (bytesN (mM 4 (iN 5)) 32) := ⟨_, rfl⟩
noncomputable def rBase : RP := Classical.choose rb_ex
theorem rBase_eq : rBase = rOf (bytesN (mM 4 (iN 5)) 32) := Classical.choose_spec rb_ex
noncomputable def nRBase : SpecF := fspec (α := Unit) total (fun _ => rBase)
noncomputable def spK4 : Specs := (1000001, Sym.sNo) :: spK3
end Go.Proofs.YtigkddloeikpbaaGreatDoor.E10
/- The reference of layer 10 on numbers: its functions come to what is said. -/
set_option maxRecDepth 10000
namespace Go.Proofs.YtigkddloeikpbaaGreatDoor.E10
open Go.Sym Go.Dig R1 F4

abbrev nilC : List SV := [.val (.slice none 0 0), .val (.slice none 0 0), .val (.slice none 0 0), .bool false]
theorem svr {p : RP} {cs : List SV} (hd : dRP (.agg cs) = some p) (x : SV) (h : (fun x => x = .agg cs) x) (at_ : At) (w : World) (v : Value) (r : Rel at_ w x v) : Rel at_ w p.sv v := by
  have h' : x = .agg cs := h
  subst h'
  exact Enc.ok (α := RP) hd r
theorem lh256 {n : Nat} (h : n < 2 ^ 256) : Lh n := Nat.le_trans (dg_length_lt (k := 11) (Nat.lt_of_lt_of_le h (by decide))) (by decide)
theorem e255_lt : e255 < 2 ^ 256 := by rw [e255_eq]; decide
theorem ok_Pow255 : SpecOK Tryz.prog 49 nPow255 := by
  refine fspec_weaken ok_Power (fun a => a) (fun _ _ _ _ r => r) (fun a => rfl) (fun a h => ?_) (fun a h at_ w v r => ?_)
  · have h' : a.1 = 255 := h
    show Ok (some _)
    rw [h']
    exact ⟨by decide, by decide⟩
  · have h' : a.1 = 255 := h
    obtain ⟨i, _⟩ := a
    replace h' : i = 255 := h'
    subst h'
    show Rel at_ w (.lst (.num e255)) v
    rw [e255_eq]
    exact r
theorem spK0_ok : SpecsOK Tryz.prog spK0 := .cons ok_Pow255 <| .cons ok_Ratio <| .cons ok_OfF spI_ok
theorem ok_RD : SpecOK Tryz.prog 28 nRD := by
  unfold nRD
  rw [rD_eq]
  refine fn_okL (by kernel_rfl) tt_ok spK0_ok 9 Tryz.func28 (by decide +kernel) (by kernel_rfl) ?_
  rintro ⟨⟩ _
  have e1 : Int.toNat 121665 = 121665 := rfl
  have e2 : Int.toNat 121666 = 121666 := rfl
  refine ⟨_, {}, fun x => x = .lst (.num ((0 + pV - 121665 * (121666 ^ (pV - 2) % pV) % pV) % pV)), LnVD.of (vcRD _) ?_, svf⟩
  rw [e1, e2]
  have := modV (121665 * (121666 ^ (pV - 2) % pV))
  exact ⟨by decide, by decide, lhS (by decide), ⟨lhS (by decide), lhMod _⟩, ⟨lhS (by decide), lhMod _, by omega⟩, rfl⟩
theorem rD_lt : rD < pV := by rw [rD_eq]; exact modV _
theorem spK1_ok : SpecsOK Tryz.prog spK1 := .cons ok_RD spK0_ok
theorem mM_lt (a b : Nat) : mM a b < pV := modV _
theorem lhp {n : Nat} (h : n < pV) : Lh n := lhP (by omega)
theorem ok_ROn : SpecOK Tryz.prog 1000003 Sym.sNo := Sym.sNo_ok _ _
theorem ok_RAdd : SpecOK Tryz.prog 31 nRAdd := by
  refine fn_okL (by kernel_rfl) tt_ok spK1_ok 9 Tryz.func31 (by decide +kernel) (by kernel_rfl) ?_
  rintro ⟨p, q, ⟨d⟩, _⟩ ⟨⟨p1, p2, p3⟩, ⟨q1, q2, q3⟩, hd⟩
  refine ⟨_, {}, fun z => z = (rAdd p q d).sv, LnVD.of (vcRAdd p q d _) ?_, svf⟩
  have := modV (d * (RP.x p * RP.x q % pV * (RP.y p * RP.y q % pV) % pV))
  exact ⟨⟨p3, q3⟩, ⟨lhMod _, lhMod _⟩, ⟨p1, q1⟩, ⟨p2, q2⟩, ⟨lhMod _, lhMod _⟩, ⟨hd, lhMod _⟩, ⟨lhMod _, lhMod _, by omega⟩, ⟨lhMod _, lhMod _⟩, ⟨p1, q2⟩, ⟨p2, q1⟩, ⟨lhMod _, lhMod _⟩, ⟨lhMod _, lhMod _⟩, ⟨lhMod _, lhMod _⟩, ⟨lhMod _, lhMod _⟩, ⟨lhMod _, lhMod _⟩, ⟨lhMod _, lhMod _⟩, ⟨lhMod _, lhMod _⟩, rfl⟩
theorem ok_RNeg : SpecOK Tryz.prog 1000001 Sym.sNo := Sym.sNo_ok _ _
theorem ok_RZero : SpecOK Tryz.prog 29 nRZero := by
  refine fn_okL (by kernel_rfl) tt_ok spK1_ok 9 Tryz.func29 (by decide +kernel) (by kernel_rfl) ?_
  rintro ⟨⟩ _
  exact ⟨_, {}, fun x => x = .agg [.val (.slice none 0 0), .lst (.ints [1]), .lst (.ints [1]), .bool true], LnVD.of (vcRZero _) rfl, svr (p := rZero) (cs := [.val (.slice none 0 0), .lst (.ints [1]), .lst (.ints [1]), .bool true]) (by rfl)⟩
theorem ok_RPair : SpecOK Tryz.prog 47 nRPair := by
  refine fn_okL (by kernel_rfl) tt_ok spK1_ok 9 Tryz.func47 (by decide +kernel) (by kernel_rfl) ?_
  rintro ⟨p, _⟩ ⟨p1, p2, p3⟩
  exact ⟨_, {}, fun z => z = .tup [.lst (.num (rPairX p)), .lst (.num (rPairY p))], LnVD.of (vcRPair p _) ⟨p3, ⟨p1, lhMod _⟩, ⟨p2, lhMod _⟩, rfl⟩, svf⟩
theorem ok_RSame : SpecOK Tryz.prog 1000004 Sym.sNo := Sym.sNo_ok _ _
theorem spK2_ok : SpecsOK Tryz.prog spK2 := .cons ok_ROn <| .cons ok_RAdd <| .cons ok_RNeg <| .cons ok_RZero <| .cons ok_RPair <| .cons ok_RSame spK1_ok
theorem pair_lt (p : RP) : rPairX p < pV ∧ rPairY p < pV := ⟨modV _, modV _⟩
theorem lhE : Lh e255 := lh256 e255_lt
theorem p256 : pV + e255 < 2 ^ 256 := by rw [pV_lit, e255_eq]; decide
theorem ok_RBytes : SpecOK Tryz.prog 14 nRBytes := by
  refine fn_okL (by kernel_rfl) tt_ok spK2_ok 9 Tryz.func14 (by decide +kernel) (by kernel_rfl) ?_
  rintro ⟨p, _⟩ hp
  obtain ⟨lx, ly⟩ := pair_lt p
  have := p256
  by_cases h : rPairX p % 2 = 1
  · refine ⟨_, {}, fun z => z = .lst (.bytes (rBytes p)), LnVD.of (vcRBytesT p _) ⟨hp, lhp lx, decide_eq_true h, rfl, ⟨(lhp ly).sm, lhE.sm⟩, ⟨(lh256 (by omega)).sm, by decide, by decide⟩, ?_⟩, svf⟩
    unfold rBytes; rw [if_pos h]; rfl
  · refine ⟨_, {}, fun z => z = .lst (.bytes (rBytes p)), LnVD.of (vcRBytesF p _) ⟨hp, lhp lx, decide_eq_false h, ⟨(lhp ly).sm, by decide, by decide⟩, ?_⟩, svf⟩
    unfold rBytes; rw [if_neg h]; rfl
theorem lenz (n : Nat) : (((dg n).length : Int) == 0) = decide (n = 0) := dg_len0 n
theorem ratio_lt (u v : Nat) : (ratioN u v).1.n < pV := by
  have h0 := pV_pos
  have ev : ∀ a, a < pV → evN a < pV := fun a ha => by unfold evN; split; exact modV _; exact ha
  have hr : ∀ a, (rootN a).1.n < pV := fun a => by
    unfold rootN
    split
    · exact ev _ (modV _)
    · split
      · exact ev _ (modV _)
      · exact h0
  unfold ratioN
  split
  · exact h0
  · exact hr _
theorem ok_ROf : SpecOK Tryz.prog 1000002 Sym.sNo := Sym.sNo_ok _ _
theorem spK3_ok : SpecsOK Tryz.prog spK3 := .cons ok_RBytes <| .cons ok_ROf spK2_ok
theorem ok_RBase : SpecOK Tryz.prog 1000000 Sym.sNo := Sym.sNo_ok _ _
theorem spK4_ok : SpecsOK Tryz.prog spK4 := .cons ok_RBase spK3_ok
end Go.Proofs.YtigkddloeikpbaaGreatDoor.E10
