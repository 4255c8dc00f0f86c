/- A symbolic machine for Go functions, and what the functions that the law reaches come to: RefK, RefL. -/
import Derived.Test.YtnnfjfkdbmhmlaaQ11
import Derived.Test.YtnnfjfkdbmhmlaaQ13
import Derived.Test.YtnnfjfkdbmhmlaaQ14
/- The reference of layer 10 on numbers: what its functions come to. -/
set_option maxRecDepth 10000
namespace Go.Proofs.Ytnnfjfkdbmhmlaa.E10
open Go.Sym Go.Dig R1 F4
--STOP R1.Sm, Lm, Lh

/-- Modulo p. -/
noncomputable def mM (a b : Nat) : Nat := a * b % pV
noncomputable def aM (a b : Nat) : Nat := (a + b) % pV
noncomputable def sM (a b : Nat) : Nat := (a + pV - b) % pV
noncomputable def iN (a : Nat) : Nat := a ^ (pV - 2) % pV
/-- The reference's point. -/
structure RP where
  x : Nat
  y : Nat
  z : Nat
  is : Bool
def RP.sv (p : RP) : SV := .agg [.lst (.num p.x), .lst (.num p.y), .lst (.num p.z), .bool p.is]
def dRP : SV → Option RP
  | .agg [a, b, c, .bool i] => match Enc.dec (α := Num) a, Enc.dec (α := Num) b, Enc.dec (α := Num) c with
    | some x, some y, some z => some ⟨x.n, y.n, z.n, i⟩
    | _, _, _ => none
  | _ => none
instance : Enc RP where
  enc := RP.sv
  dec := dRP
  ok := by
    intro s a h at_ w v r
    unfold dRP at h
    split at h
    · split at h
      · rename_i x y z h1 h2 h3
        simp only [Option.some.injEq] at h; subst h
        simp only [Rel] at r
        obtain ⟨vs, rfl, r⟩ := r
        simp only [RelL] at r
        obtain ⟨u1, l1, rfl, r1, u2, l2, rfl, r2, u3, l3, rfl, r3, u4, l4, rfl, r4, rfl⟩ := r
        have k1 := Enc.ok h1 r1
        have k2 := Enc.ok h2 r2
        have k3 := Enc.ok h3 r3
        simp only [RP.sv, Rel]
        exact ⟨_, rfl, RelL.cons k1 (RelL.cons k2 (RelL.cons k3 (RelL.cons r4 RelL.nil)))⟩
      · cases h
    · cases h
  nn _ := rfl
theorem e255_ex : ∃ n : Nat, n = 2 ^ 255 := ⟨_, rfl⟩
/-- 2^255, told so that no machine computes with it. -/
noncomputable def e255 : Nat := Classical.choose e255_ex
theorem e255_eq : e255 = 2 ^ 255 := Classical.choose_spec e255_ex
noncomputable def nPow255 : SpecF := fspec (α := Int × Unit) (β := Num) (fun a => some (a.1 = 255)) (fun _ => ⟨e255⟩)
noncomputable def spK0 : Specs := (102, nPow255) :: (19, nFRatio) :: (17, nOfF) :: spI
theorem rd_ex : ∃ d : Nat, d = (0 + pV - 121665 * (121666 ^ (pV - 2) % pV) % pV) % pV := ⟨_, rfl⟩
noncomputable def rD : Nat := Classical.choose rd_ex
theorem rD_eq : rD = (0 + pV - 121665 * (121666 ^ (pV - 2) % pV) % pV) % pV := Classical.choose_spec rd_ex
theorem vcRD (Q : SV → Prop) : LnRaw tt spK0 9 [] {} Try.f57 Q () =
  ((((0 : Int) ≤ (121665 : Int)) ∧
   ((121665 : Int) < (9223372036854775808 : Int))) ∧
  ((((0 : Int) ≤ (121666 : Int)) ∧
   ((121666 : Int) < (9223372036854775808 : Int))) ∧
  ((Lh (Int.toNat (121666 : Int))) ∧
  (((Lh (Int.toNat (121665 : Int))) ∧
   (Lh (Int.toNat (121666 : Int) ^ (pV - (2 : Nat)) % pV))) ∧
  (((Lh (0 : Nat)) ∧
   ((Lh (Int.toNat (121665 : Int) * (Int.toNat (121666 : Int) ^ (pV - (2 : Nat)) % pV) % pV)) ∧
   (Int.toNat (121665 : Int) * (Int.toNat (121666 : Int) ^ (pV - (2 : Nat)) % pV) % pV ≤ (0 : Nat) + pV))) ∧
  (Q
  (SV.lst
    (LV.num
      (((0 : Nat) + pV - Int.toNat (121665 : Int) * (Int.toNat (121666 : Int) ^ (pV - (2 : Nat)) % pV) % pV) % pV))))))))) := by kernel_rfl
noncomputable def nRD : SpecF := fspec (α := Unit) (β := Num) total (fun _ => ⟨rD⟩)
noncomputable def spK1 : Specs := (57, nRD) :: spK0
noncomputable def onN (x y : Nat) : Bool := decide (sM (mM y y) (mM x x) = aM 1 (mM rD (mM (mM x x) (mM y y))))
theorem vcROn (x y : Nat) (Q : SV → Prop) : LnRaw tt spK1 9 [] {} Try.f49 Q ((⟨x⟩ : Num), (⟨y⟩ : Num), ()) =
  (((Lh x) ∧
   (Lh x)) ∧
  (((Lh y) ∧
   (Lh y)) ∧
  (((Lh (y * y % pV)) ∧
   ((Lh (x * x % pV)) ∧
   (x * x % pV ≤ y * y % pV + pV))) ∧
  (((Lh (x * x % pV)) ∧
   (Lh (y * y % pV))) ∧
  (((Lh rD) ∧
   (Lh (x * x % pV * (y * y % pV) % pV))) ∧
  (((Lh (Int.toNat (1 : Int))) ∧
   (Lh (rD * (x * x % pV * (y * y % pV) % pV) % pV))) ∧
  (((Sm ((y * y % pV + pV - x * x % pV) % pV)) ∧
   (Sm ((Int.toNat (1 : Int) + rD * (x * x % pV * (y * y % pV) % pV) % pV) % pV))) ∧
  (Q
  (SV.bool
    (cmpN ((y * y % pV + pV - x * x % pV) % pV)
        ((Int.toNat (1 : Int) + rD * (x * x % pV * (y * y % pV) % pV) % pV) % pV) ==
      (0 : Int))))))))))) := by kernel_rfl
noncomputable def nROn : SpecF := fspec (α := F4.N2) (β := Bool) (fun a => some (Lh a.1.n ∧ Lh a.2.1.n)) (fun a => onN a.1.n a.2.1.n)
noncomputable def rAdd (p q : RP) (d : Nat) : RP :=
  ⟨mM (mM (mM p.z q.z) (aM (mM p.x q.y) (mM p.y q.x))) (sM (mM (mM p.z q.z) (mM p.z q.z)) (mM d (mM (mM p.x q.x) (mM p.y q.y)))),
   mM (mM (mM p.z q.z) (aM (mM p.y q.y) (mM p.x q.x))) (aM (mM (mM p.z q.z) (mM p.z q.z)) (mM d (mM (mM p.x q.x) (mM p.y q.y)))),
   mM (sM (mM (mM p.z q.z) (mM p.z q.z)) (mM d (mM (mM p.x q.x) (mM p.y q.y)))) (aM (mM (mM p.z q.z) (mM p.z q.z)) (mM d (mM (mM p.x q.x) (mM p.y q.y)))), true⟩
theorem vcRAdd (p q : RP) (d : Nat) (Q : SV → Prop) : LnRaw tt spK1 9 [] {} Try.f58 Q (p, q, (⟨d⟩ : Num), ()) =
  (((Lh (RP.z p)) ∧
   (Lh (RP.z q))) ∧
  (((Lh (RP.z p * RP.z q % pV)) ∧
   (Lh (RP.z p * RP.z q % pV))) ∧
  (((Lh (RP.x p)) ∧
   (Lh (RP.x q))) ∧
  (((Lh (RP.y p)) ∧
   (Lh (RP.y q))) ∧
  (((Lh (RP.x p * RP.x q % pV)) ∧
   (Lh (RP.y p * RP.y q % pV))) ∧
  (((Lh d) ∧
   (Lh (RP.x p * RP.x q % pV * (RP.y p * RP.y q % pV) % pV))) ∧
  (((Lh (RP.z p * RP.z q % pV * (RP.z p * RP.z q % pV) % pV)) ∧
   ((Lh (d * (RP.x p * RP.x q % pV * (RP.y p * RP.y q % pV) % pV) % pV)) ∧
   (d * (RP.x p * RP.x q % pV * (RP.y p * RP.y q % pV) % pV) % pV ≤ RP.z p * RP.z q % pV * (RP.z p * RP.z q % pV) % pV + pV))) ∧
  (((Lh (RP.z p * RP.z q % pV * (RP.z p * RP.z q % pV) % pV)) ∧
   (Lh (d * (RP.x p * RP.x q % pV * (RP.y p * RP.y q % pV) % pV) % pV))) ∧
  (((Lh (RP.x p)) ∧
   (Lh (RP.y q))) ∧
  (((Lh (RP.y p)) ∧
   (Lh (RP.x q))) ∧
  (((Lh (RP.x p * RP.y q % pV)) ∧
   (Lh (RP.y p * RP.x q % pV))) ∧
  (((Lh (RP.z p * RP.z q % pV)) ∧
   (Lh ((RP.x p * RP.y q % pV + RP.y p * RP.x q % pV) % pV))) ∧
  (((Lh (RP.z p * RP.z q % pV * ((RP.x p * RP.y q % pV + RP.y p * RP.x q % pV) % pV) % pV)) ∧
   (Lh
  ((RP.z p * RP.z q % pV * (RP.z p * RP.z q % pV) % pV + pV -
      d * (RP.x p * RP.x q % pV * (RP.y p * RP.y q % pV) % pV) % pV) %
    pV))) ∧
  (((Lh (RP.y p * RP.y q % pV)) ∧
   (Lh (RP.x p * RP.x q % pV))) ∧
  (((Lh (RP.z p * RP.z q % pV)) ∧
   (Lh ((RP.y p * RP.y q % pV + RP.x p * RP.x q % pV) % pV))) ∧
  (((Lh (RP.z p * RP.z q % pV * ((RP.y p * RP.y q % pV + RP.x p * RP.x q % pV) % pV) % pV)) ∧
   (Lh
  ((RP.z p * RP.z q % pV * (RP.z p * RP.z q % pV) % pV +
      d * (RP.x p * RP.x q % pV * (RP.y p * RP.y q % pV) % pV) % pV) %
    pV))) ∧
  (((Lh
  ((RP.z p * RP.z q % pV * (RP.z p * RP.z q % pV) % pV + pV -
      d * (RP.x p * RP.x q % pV * (RP.y p * RP.y q % pV) % pV) % pV) %
    pV)) ∧
   (Lh
  ((RP.z p * RP.z q % pV * (RP.z p * RP.z q % pV) % pV +
      d * (RP.x p * RP.x q % pV * (RP.y p * RP.y q % pV) % pV) % pV) %
    pV))) ∧
  (Q
  (SV.agg
    [SV.lst
        (LV.num
          (RP.z p * RP.z q % pV * ((RP.x p * RP.y q % pV + RP.y p * RP.x q % pV) % pV) % pV *
              ((RP.z p * RP.z q % pV * (RP.z p * RP.z q % pV) % pV + pV -
                  d * (RP.x p * RP.x q % pV * (RP.y p * RP.y q % pV) % pV) % pV) %
                pV) %
            pV)),
      SV.lst
        (LV.num
          (RP.z p * RP.z q % pV * ((RP.y p * RP.y q % pV + RP.x p * RP.x q % pV) % pV) % pV *
              ((RP.z p * RP.z q % pV * (RP.z p * RP.z q % pV) % pV +
                  d * (RP.x p * RP.x q % pV * (RP.y p * RP.y q % pV) % pV) % pV) %
                pV) %
            pV)),
      SV.lst
        (LV.num
          ((RP.z p * RP.z q % pV * (RP.z p * RP.z q % pV) % pV + pV -
                  d * (RP.x p * RP.x q % pV * (RP.y p * RP.y q % pV) % pV) % pV) %
                pV *
              ((RP.z p * RP.z q % pV * (RP.z p * RP.z q % pV) % pV +
                  d * (RP.x p * RP.x q % pV * (RP.y p * RP.y q % pV) % pV) % pV) %
                pV) %
            pV)),
      SV.bool true]))))))))))))))))))) := by kernel_rfl
noncomputable def nRAdd : SpecF := fspec (α := RP × RP × Num × Unit) (fun a => some ((Lh a.1.x ∧ Lh a.1.y ∧ Lh a.1.z) ∧ (Lh a.2.1.x ∧ Lh a.2.1.y ∧ Lh a.2.1.z) ∧ Lh a.2.2.1.n)) (fun a => rAdd a.1 a.2.1 a.2.2.1.n)
noncomputable def rNeg (p : RP) : RP := ⟨sM 0 p.x, p.y, p.z, p.is⟩
theorem vcRNeg (p : RP) (Q : SV → Prop) : LnRaw tt spK1 9 [] {} Try.f62 Q (p, ()) =
  (((Lh (0 : Nat)) ∧
   ((Lh (RP.x p)) ∧
   (RP.x p ≤ (0 : Nat) + pV))) ∧
  (Q
  (SV.agg
    [SV.lst (LV.num (((0 : Nat) + pV - RP.x p) % pV)), SV.lst (LV.num (RP.y p)), SV.lst (LV.num (RP.z p)),
      SV.bool (RP.is p)]))) := by kernel_rfl
noncomputable def nRNeg : SpecF := fspec (α := RP × Unit) (fun a => some (a.1.x < pV)) (fun a => rNeg a.1)
def rZero : RP := ⟨0, 1, 1, true⟩
theorem vcRZero (Q : SV → Prop) : LnRaw tt spK1 9 [] {} Try.f66 Q () =
  (Q
  (SV.agg
    [SV.val (Value.slice none (0 : Nat) (0 : Nat)), SV.lst (LV.ints [(1 : Int)]), SV.lst (LV.ints [(1 : Int)]),
      SV.bool true])) := by kernel_rfl
def nRZero : SpecF := fspec (α := Unit) total (fun _ => rZero)
noncomputable def rPairX (p : RP) : Nat := mM p.x (iN p.z)
noncomputable def rPairY (p : RP) : Nat := mM p.y (iN p.z)
theorem vcRPair (p : RP) (Q : SV → Prop) : LnRaw tt spK1 9 [] {} Try.f54 Q (p, ()) =
  ((Lh (RP.z p)) ∧
  (((Lh (RP.x p)) ∧
   (Lh (RP.z p ^ (pV - (2 : Nat)) % pV))) ∧
  (((Lh (RP.y p)) ∧
   (Lh (RP.z p ^ (pV - (2 : Nat)) % pV))) ∧
  (Q
  (SV.tup
    [SV.lst (LV.num (RP.x p * (RP.z p ^ (pV - (2 : Nat)) % pV) % pV)),
      SV.lst (LV.num (RP.y p * (RP.z p ^ (pV - (2 : Nat)) % pV) % pV))]))))) := by kernel_rfl
noncomputable def nRPair : SpecF := fspec (α := RP × Unit) (β := Num × Num × Unit) (fun a => some (Lh a.1.x ∧ Lh a.1.y ∧ Lh a.1.z)) (fun a => (⟨rPairX a.1⟩, ⟨rPairY a.1⟩, ()))
noncomputable def rSame (p q : RP) : Bool := decide (mM p.x q.z = mM q.x p.z) && decide (mM p.y q.z = mM q.y p.z)
theorem vcRSameF (p q : RP) (Q : SV → Prop) : LnRaw tt spK1 9 [(1, 11, .b false)] {} Try.f65 Q (p, q, ()) =
  (((Lh (RP.x p)) ∧
   (Lh (RP.z q))) ∧
  (((Lh (RP.x q)) ∧
   (Lh (RP.z p))) ∧
  (((Sm (RP.x p * RP.z q % pV)) ∧
   (Sm (RP.x q * RP.z p % pV))) ∧
  (((cmpN (RP.x p * RP.z q % pV) (RP.x q * RP.z p % pV) == (0 : Int)) = false) ∧
  (Q (SV.bool false)))))) := by kernel_rfl
theorem vcRSameT (p q : RP) (Q : SV → Prop) : LnRaw tt spK1 9 [(1, 11, .b true)] {} Try.f65 Q (p, q, ()) =
  (((Lh (RP.x p)) ∧
   (Lh (RP.z q))) ∧
  (((Lh (RP.x q)) ∧
   (Lh (RP.z p))) ∧
  (((Sm (RP.x p * RP.z q % pV)) ∧
   (Sm (RP.x q * RP.z p % pV))) ∧
  (((cmpN (RP.x p * RP.z q % pV) (RP.x q * RP.z p % pV) == (0 : Int)) = true) ∧
  (((Lh (RP.y p)) ∧
   (Lh (RP.z q))) ∧
  (((Lh (RP.y q)) ∧
   (Lh (RP.z p))) ∧
  (((Sm (RP.y p * RP.z q % pV)) ∧
   (Sm (RP.y q * RP.z p % pV))) ∧
  (Q (SV.bool (cmpN (RP.y p * RP.z q % pV) (RP.y q * RP.z p % pV) == (0 : Int))))))))))) := by kernel_rfl
noncomputable def nRSame : SpecF := fspec (α := RP × RP × Unit) (fun a => some ((Lh a.1.x ∧ Lh a.1.y ∧ Lh a.1.z) ∧ (Lh a.2.1.x ∧ Lh a.2.1.y ∧ Lh a.2.1.z))) (fun a => rSame a.1 a.2.1)
noncomputable def spK2 : Specs := (49, nROn) :: (58, nRAdd) :: (62, nRNeg) :: (66, nRZero) :: (54, nRPair) :: (65, nRSame) :: spK1
noncomputable def rBytes (p : RP) : List UInt8 := bytesN (if rPairX p % 2 = 1 then rPairY p + e255 else rPairY p) 32
theorem vcRBytesF (p : RP) (Q : SV → Prop) : LnRaw tt spK2 9 [(2, 1, .b false)] {} Try.f72 Q (p, ()) =
  (((Lh (RP.x p)) ∧
   ((Lh (RP.y p)) ∧
   (Lh (RP.z p)))) ∧
  ((Lh (rPairX p)) ∧
  ((decide (rPairX p % (2 : Nat) = (1 : Nat)) = false) ∧
  (((Sm (rPairY p)) ∧
   (((0 : Int) ≤ (32 : Int)) ∧
   ((32 : Int) ≤ (1048576 : Int)))) ∧
  (Q (SV.lst (LV.bytes (bytesN (rPairY p) (Int.toNat (32 : Int)))))))))) := by kernel_rfl
theorem vcRBytesT (p : RP) (Q : SV → Prop) : LnRaw tt spK2 9 [(2, 1, .b true)] {} Try.f72 Q (p, ()) =
  (((Lh (RP.x p)) ∧
   ((Lh (RP.y p)) ∧
   (Lh (RP.z p)))) ∧
  ((Lh (rPairX p)) ∧
  ((decide (rPairX p % (2 : Nat) = (1 : Nat)) = true) ∧
  (((255 : Int) = (255 : Int)) ∧
  (((Sm (rPairY p)) ∧
   (Sm e255)) ∧
  (((Sm (rPairY p + e255)) ∧
   (((0 : Int) ≤ (32 : Int)) ∧
   ((32 : Int) ≤ (1048576 : Int)))) ∧
  (Q (SV.lst (LV.bytes (bytesN (rPairY p + e255) (Int.toNat (32 : Int)))))))))))) := by kernel_rfl
noncomputable def nRBytes : SpecF := fspec (α := RP × Unit) (β := List UInt8) (fun a => some (Lh a.1.x ∧ Lh a.1.y ∧ Lh a.1.z)) (fun a => rBytes a.1)
/-- The sides of the curve's equation at y. -/
noncomputable def rU (y : Nat) : Nat := sM (mM y y) 1
noncomputable def rW (y : Nat) : Nat := aM (mM rD (mM y y)) 1
def rNil : RP := ⟨0, 0, 0, false⟩
noncomputable def rOfY (y : Nat) (sign : Bool) : RP :=
  if ¬ y < pV then rNil else if (ratioN (rU y) (rW y)).2.1 = false then rNil
  else if sign = true then (if (ratioN (rU y) (rW y)).1.n = 0 then rNil else ⟨sM 0 (ratioN (rU y) (rW y)).1.n, y, 1, true⟩)
  else ⟨(ratioN (rU y) (rW y)).1.n, y, 1, true⟩
noncomputable def rOfB (b : List UInt8) : RP :=
  if b.length ≠ 32 then rNil else if bev b.reverse / 2 ^ 255 % 2 = 1 then rOfY (bev b.reverse - e255) true else rOfY (bev b.reverse) false
theorem rof_ex : ∃ f : List UInt8 → RP, f = rOfB := ⟨_, rfl⟩
noncomputable def rOf : List UInt8 → RP := Classical.choose rof_ex
theorem rOf_eq : rOf = rOfB := Classical.choose_spec rof_ex
noncomputable def nROf : SpecF := fspec (α := List UInt8 × Unit) (fun a => some (a.1.length ≤ 1000000)) (fun a => rOf a.1)
theorem vcROfA (b : List UInt8) (Q : SV → Prop) : LnRaw tt spK2 9 [(1, 2, .b true)] {} Try.f52 Q (b, ()) =
  ((((↑(List.length b) : Int) != (32 : Int)) = true) ∧
  (Q
  (SV.agg
    [SV.val (Value.slice none (0 : Nat) (0 : Nat)), SV.val (Value.slice none (0 : Nat) (0 : Nat)),
      SV.val (Value.slice none (0 : Nat) (0 : Nat)), SV.bool false]))) := by kernel_rfl
theorem vcROfTB (b : List UInt8) (Q : SV → Prop) : LnRaw tt spK2 9 [(1, 2, .b false), (5, 2, .b true), (8, 3, .b true)] {} Try.f52 Q (b, ()) =
  ((((↑(List.length b) : Int) != (32 : Int)) = false) ∧
  ((List.length b ≤ (1048576 : Nat)) ∧
  (((Sm (bev (List.reverse b))) ∧
   (((0 : Int) ≤ (255 : Int)) ∧
   ((255 : Int) ≤ (1073741824 : Int)))) ∧
  ((((↑(bev (List.reverse b) / (2 : Nat) ^ Int.toNat (255 : Int) % (2 : Nat)) : Int) == (1 : Int)) = true) ∧
  (((255 : Int) = (255 : Int)) ∧
  (((Sm (bev (List.reverse b))) ∧
   ((e255 ≤ bev (List.reverse b)) ∧
   (Sm e255))) ∧
  (((Sm (bev (List.reverse b) - e255)) ∧
   (Sm pV)) ∧
  ((decide (cmpN (bev (List.reverse b) - e255) pV ≥ (0 : Int)) = true) ∧
  (Q
  (SV.agg
    [SV.val (Value.slice none (0 : Nat) (0 : Nat)), SV.val (Value.slice none (0 : Nat) (0 : Nat)),
      SV.val (Value.slice none (0 : Nat) (0 : Nat)), SV.bool false])))))))))) := by kernel_rfl
theorem vcROfTC (b : List UInt8) (Q : SV → Prop) : LnRaw tt spK2 9 [(1, 2, .b false), (5, 2, .b true), (8, 3, .b false), (12, 1, .b true)] {} Try.f52 Q (b, ()) =
  ((((↑(List.length b) : Int) != (32 : Int)) = false) ∧
  ((List.length b ≤ (1048576 : Nat)) ∧
  (((Sm (bev (List.reverse b))) ∧
   (((0 : Int) ≤ (255 : Int)) ∧
   ((255 : Int) ≤ (1073741824 : Int)))) ∧
  ((((↑(bev (List.reverse b) / (2 : Nat) ^ Int.toNat (255 : Int) % (2 : Nat)) : Int) == (1 : Int)) = true) ∧
  (((255 : Int) = (255 : Int)) ∧
  (((Sm (bev (List.reverse b))) ∧
   ((e255 ≤ bev (List.reverse b)) ∧
   (Sm e255))) ∧
  (((Sm (bev (List.reverse b) - e255)) ∧
   (Sm pV)) ∧
  ((decide (cmpN (bev (List.reverse b) - e255) pV ≥ (0 : Int)) = false) ∧
  (((Lh (bev (List.reverse b) - e255)) ∧
   (Lh (bev (List.reverse b) - e255))) ∧
  (((Lh ((bev (List.reverse b) - e255) * (bev (List.reverse b) - e255) % pV)) ∧
   ((Lh (Int.toNat (1 : Int))) ∧
   (Int.toNat (1 : Int) ≤ (bev (List.reverse b) - e255) * (bev (List.reverse b) - e255) % pV + pV))) ∧
  (((Lh rD) ∧
   (Lh ((bev (List.reverse b) - e255) * (bev (List.reverse b) - e255) % pV))) ∧
  (((Lh (rD * ((bev (List.reverse b) - e255) * (bev (List.reverse b) - e255) % pV) % pV)) ∧
   (Lh (Int.toNat (1 : Int)))) ∧
  (((((bev (List.reverse b) - e255) * (bev (List.reverse b) - e255) % pV + pV - Int.toNat (1 : Int)) % pV < pV) ∧
   ((rD * ((bev (List.reverse b) - e255) * (bev (List.reverse b) - e255) % pV) % pV + Int.toNat (1 : Int)) % pV < pV)) ∧
  (((!Prod.fst
      (Prod.snd
        (ratioN (((bev (List.reverse b) - e255) * (bev (List.reverse b) - e255) % pV + pV - Int.toNat (1 : Int)) % pV)
          ((rD * ((bev (List.reverse b) - e255) * (bev (List.reverse b) - e255) % pV) % pV + Int.toNat (1 : Int)) %
            pV)))) =
  true) ∧
  (Q
  (SV.agg
    [SV.val (Value.slice none (0 : Nat) (0 : Nat)), SV.val (Value.slice none (0 : Nat) (0 : Nat)),
      SV.val (Value.slice none (0 : Nat) (0 : Nat)), SV.bool false])))))))))))))))) := by kernel_rfl
theorem vcROfTD (b : List UInt8) (Q : SV → Prop) : LnRaw tt spK2 9 [(1, 2, .b false), (5, 2, .b true), (8, 3, .b false), (12, 1, .b false), (12, 7, .b true)] {} Try.f52 Q (b, ()) =
  ((((↑(List.length b) : Int) != (32 : Int)) = false) ∧
  ((List.length b ≤ (1048576 : Nat)) ∧
  (((Sm (bev (List.reverse b))) ∧
   (((0 : Int) ≤ (255 : Int)) ∧
   ((255 : Int) ≤ (1073741824 : Int)))) ∧
  ((((↑(bev (List.reverse b) / (2 : Nat) ^ Int.toNat (255 : Int) % (2 : Nat)) : Int) == (1 : Int)) = true) ∧
  (((255 : Int) = (255 : Int)) ∧
  (((Sm (bev (List.reverse b))) ∧
   ((e255 ≤ bev (List.reverse b)) ∧
   (Sm e255))) ∧
  (((Sm (bev (List.reverse b) - e255)) ∧
   (Sm pV)) ∧
  ((decide (cmpN (bev (List.reverse b) - e255) pV ≥ (0 : Int)) = false) ∧
  (((Lh (bev (List.reverse b) - e255)) ∧
   (Lh (bev (List.reverse b) - e255))) ∧
  (((Lh ((bev (List.reverse b) - e255) * (bev (List.reverse b) - e255) % pV)) ∧
   ((Lh (Int.toNat (1 : Int))) ∧
   (Int.toNat (1 : Int) ≤ (bev (List.reverse b) - e255) * (bev (List.reverse b) - e255) % pV + pV))) ∧
  (((Lh rD) ∧
   (Lh ((bev (List.reverse b) - e255) * (bev (List.reverse b) - e255) % pV))) ∧
  (((Lh (rD * ((bev (List.reverse b) - e255) * (bev (List.reverse b) - e255) % pV) % pV)) ∧
   (Lh (Int.toNat (1 : Int)))) ∧
  (((((bev (List.reverse b) - e255) * (bev (List.reverse b) - e255) % pV + pV - Int.toNat (1 : Int)) % pV < pV) ∧
   ((rD * ((bev (List.reverse b) - e255) * (bev (List.reverse b) - e255) % pV) % pV + Int.toNat (1 : Int)) % pV < pV)) ∧
  (((!Prod.fst
      (Prod.snd
        (ratioN (((bev (List.reverse b) - e255) * (bev (List.reverse b) - e255) % pV + pV - Int.toNat (1 : Int)) % pV)
          ((rD * ((bev (List.reverse b) - e255) * (bev (List.reverse b) - e255) % pV) % pV + Int.toNat (1 : Int)) %
            pV)))) =
  false) ∧
  ((((↑(List.length
          (dg
            (Num.n
              (Prod.fst
                (ratioN
                  (((bev (List.reverse b) - e255) * (bev (List.reverse b) - e255) % pV + pV - Int.toNat (1 : Int)) % pV)
                  ((rD * ((bev (List.reverse b) - e255) * (bev (List.reverse b) - e255) % pV) % pV +
                      Int.toNat (1 : Int)) %
                    pV)))))) :
      Int) ==
    (0 : Int)) =
  true) ∧
  (Q
  (SV.agg
    [SV.val (Value.slice none (0 : Nat) (0 : Nat)), SV.val (Value.slice none (0 : Nat) (0 : Nat)),
      SV.val (Value.slice none (0 : Nat) (0 : Nat)), SV.bool false]))))))))))))))))) := by kernel_rfl
theorem vcROfTE (b : List UInt8) (Q : SV → Prop) : LnRaw tt spK2 9 [(1, 2, .b false), (5, 2, .b true), (8, 3, .b false), (12, 1, .b false), (12, 7, .b false)] {} Try.f52 Q (b, ()) =
  ((((↑(List.length b) : Int) != (32 : Int)) = false) ∧
  ((List.length b ≤ (1048576 : Nat)) ∧
  (((Sm (bev (List.reverse b))) ∧
   (((0 : Int) ≤ (255 : Int)) ∧
   ((255 : Int) ≤ (1073741824 : Int)))) ∧
  ((((↑(bev (List.reverse b) / (2 : Nat) ^ Int.toNat (255 : Int) % (2 : Nat)) : Int) == (1 : Int)) = true) ∧
  (((255 : Int) = (255 : Int)) ∧
  (((Sm (bev (List.reverse b))) ∧
   ((e255 ≤ bev (List.reverse b)) ∧
   (Sm e255))) ∧
  (((Sm (bev (List.reverse b) - e255)) ∧
   (Sm pV)) ∧
  ((decide (cmpN (bev (List.reverse b) - e255) pV ≥ (0 : Int)) = false) ∧
  (((Lh (bev (List.reverse b) - e255)) ∧
   (Lh (bev (List.reverse b) - e255))) ∧
  (((Lh ((bev (List.reverse b) - e255) * (bev (List.reverse b) - e255) % pV)) ∧
   ((Lh (Int.toNat (1 : Int))) ∧
   (Int.toNat (1 : Int) ≤ (bev (List.reverse b) - e255) * (bev (List.reverse b) - e255) % pV + pV))) ∧
  (((Lh rD) ∧
   (Lh ((bev (List.reverse b) - e255) * (bev (List.reverse b) - e255) % pV))) ∧
  (((Lh (rD * ((bev (List.reverse b) - e255) * (bev (List.reverse b) - e255) % pV) % pV)) ∧
   (Lh (Int.toNat (1 : Int)))) ∧
  (((((bev (List.reverse b) - e255) * (bev (List.reverse b) - e255) % pV + pV - Int.toNat (1 : Int)) % pV < pV) ∧
   ((rD * ((bev (List.reverse b) - e255) * (bev (List.reverse b) - e255) % pV) % pV + Int.toNat (1 : Int)) % pV < pV)) ∧
  (((!Prod.fst
      (Prod.snd
        (ratioN (((bev (List.reverse b) - e255) * (bev (List.reverse b) - e255) % pV + pV - Int.toNat (1 : Int)) % pV)
          ((rD * ((bev (List.reverse b) - e255) * (bev (List.reverse b) - e255) % pV) % pV + Int.toNat (1 : Int)) %
            pV)))) =
  false) ∧
  ((((↑(List.length
          (dg
            (Num.n
              (Prod.fst
                (ratioN
                  (((bev (List.reverse b) - e255) * (bev (List.reverse b) - e255) % pV + pV - Int.toNat (1 : Int)) % pV)
                  ((rD * ((bev (List.reverse b) - e255) * (bev (List.reverse b) - e255) % pV) % pV +
                      Int.toNat (1 : Int)) %
                    pV)))))) :
      Int) ==
    (0 : Int)) =
  false) ∧
  (((Lh (0 : Nat)) ∧
   ((Lh
  (Num.n
    (Prod.fst
      (ratioN (((bev (List.reverse b) - e255) * (bev (List.reverse b) - e255) % pV + pV - Int.toNat (1 : Int)) % pV)
        ((rD * ((bev (List.reverse b) - e255) * (bev (List.reverse b) - e255) % pV) % pV + Int.toNat (1 : Int)) % pV))))) ∧
   (Num.n
    (Prod.fst
      (ratioN (((bev (List.reverse b) - e255) * (bev (List.reverse b) - e255) % pV + pV - Int.toNat (1 : Int)) % pV)
        ((rD * ((bev (List.reverse b) - e255) * (bev (List.reverse b) - e255) % pV) % pV + Int.toNat (1 : Int)) %
          pV))) ≤
  (0 : Nat) + pV))) ∧
  (Q
  (SV.agg
    [SV.lst
        (LV.num
          (((0 : Nat) + pV -
              Num.n
                (Prod.fst
                  (ratioN
                    (((bev (List.reverse b) - e255) * (bev (List.reverse b) - e255) % pV + pV - Int.toNat (1 : Int)) %
                      pV)
                    ((rD * ((bev (List.reverse b) - e255) * (bev (List.reverse b) - e255) % pV) % pV +
                        Int.toNat (1 : Int)) %
                      pV)))) %
            pV)),
      SV.lst (LV.num (bev (List.reverse b) - e255)), SV.lst (LV.ints [(1 : Int)]), SV.bool true])))))))))))))))))) := by kernel_rfl
theorem vcROfFB (b : List UInt8) (Q : SV → Prop) : LnRaw tt spK2 9 [(1, 2, .b false), (5, 2, .b false), (8, 3, .b true)] {} Try.f52 Q (b, ()) =
  ((((↑(List.length b) : Int) != (32 : Int)) = false) ∧
  ((List.length b ≤ (1048576 : Nat)) ∧
  (((Sm (bev (List.reverse b))) ∧
   (((0 : Int) ≤ (255 : Int)) ∧
   ((255 : Int) ≤ (1073741824 : Int)))) ∧
  ((((↑(bev (List.reverse b) / (2 : Nat) ^ Int.toNat (255 : Int) % (2 : Nat)) : Int) == (1 : Int)) = false) ∧
  (((Sm (bev (List.reverse b))) ∧
   (Sm pV)) ∧
  ((decide (cmpN (bev (List.reverse b)) pV ≥ (0 : Int)) = true) ∧
  (Q
  (SV.agg
    [SV.val (Value.slice none (0 : Nat) (0 : Nat)), SV.val (Value.slice none (0 : Nat) (0 : Nat)),
      SV.val (Value.slice none (0 : Nat) (0 : Nat)), SV.bool false])))))))) := by kernel_rfl
theorem vcROfFC (b : List UInt8) (Q : SV → Prop) : LnRaw tt spK2 9 [(1, 2, .b false), (5, 2, .b false), (8, 3, .b false), (12, 1, .b true)] {} Try.f52 Q (b, ()) =
  ((((↑(List.length b) : Int) != (32 : Int)) = false) ∧
  ((List.length b ≤ (1048576 : Nat)) ∧
  (((Sm (bev (List.reverse b))) ∧
   (((0 : Int) ≤ (255 : Int)) ∧
   ((255 : Int) ≤ (1073741824 : Int)))) ∧
  ((((↑(bev (List.reverse b) / (2 : Nat) ^ Int.toNat (255 : Int) % (2 : Nat)) : Int) == (1 : Int)) = false) ∧
  (((Sm (bev (List.reverse b))) ∧
   (Sm pV)) ∧
  ((decide (cmpN (bev (List.reverse b)) pV ≥ (0 : Int)) = false) ∧
  (((Lh (bev (List.reverse b))) ∧
   (Lh (bev (List.reverse b)))) ∧
  (((Lh (bev (List.reverse b) * bev (List.reverse b) % pV)) ∧
   ((Lh (Int.toNat (1 : Int))) ∧
   (Int.toNat (1 : Int) ≤ bev (List.reverse b) * bev (List.reverse b) % pV + pV))) ∧
  (((Lh rD) ∧
   (Lh (bev (List.reverse b) * bev (List.reverse b) % pV))) ∧
  (((Lh (rD * (bev (List.reverse b) * bev (List.reverse b) % pV) % pV)) ∧
   (Lh (Int.toNat (1 : Int)))) ∧
  ((((bev (List.reverse b) * bev (List.reverse b) % pV + pV - Int.toNat (1 : Int)) % pV < pV) ∧
   ((rD * (bev (List.reverse b) * bev (List.reverse b) % pV) % pV + Int.toNat (1 : Int)) % pV < pV)) ∧
  (((!Prod.fst
      (Prod.snd
        (ratioN ((bev (List.reverse b) * bev (List.reverse b) % pV + pV - Int.toNat (1 : Int)) % pV)
          ((rD * (bev (List.reverse b) * bev (List.reverse b) % pV) % pV + Int.toNat (1 : Int)) % pV)))) =
  true) ∧
  (Q
  (SV.agg
    [SV.val (Value.slice none (0 : Nat) (0 : Nat)), SV.val (Value.slice none (0 : Nat) (0 : Nat)),
      SV.val (Value.slice none (0 : Nat) (0 : Nat)), SV.bool false])))))))))))))) := by kernel_rfl
theorem vcROfFE (b : List UInt8) (Q : SV → Prop) : LnRaw tt spK2 9 [(1, 2, .b false), (5, 2, .b false), (8, 3, .b false), (12, 1, .b false)] {} Try.f52 Q (b, ()) =
  ((((↑(List.length b) : Int) != (32 : Int)) = false) ∧
  ((List.length b ≤ (1048576 : Nat)) ∧
  (((Sm (bev (List.reverse b))) ∧
   (((0 : Int) ≤ (255 : Int)) ∧
   ((255 : Int) ≤ (1073741824 : Int)))) ∧
  ((((↑(bev (List.reverse b) / (2 : Nat) ^ Int.toNat (255 : Int) % (2 : Nat)) : Int) == (1 : Int)) = false) ∧
  (((Sm (bev (List.reverse b))) ∧
   (Sm pV)) ∧
  ((decide (cmpN (bev (List.reverse b)) pV ≥ (0 : Int)) = false) ∧
  (((Lh (bev (List.reverse b))) ∧
   (Lh (bev (List.reverse b)))) ∧
  (((Lh (bev (List.reverse b) * bev (List.reverse b) % pV)) ∧
   ((Lh (Int.toNat (1 : Int))) ∧
   (Int.toNat (1 : Int) ≤ bev (List.reverse b) * bev (List.reverse b) % pV + pV))) ∧
  (((Lh rD) ∧
   (Lh (bev (List.reverse b) * bev (List.reverse b) % pV))) ∧
  (((Lh (rD * (bev (List.reverse b) * bev (List.reverse b) % pV) % pV)) ∧
   (Lh (Int.toNat (1 : Int)))) ∧
  ((((bev (List.reverse b) * bev (List.reverse b) % pV + pV - Int.toNat (1 : Int)) % pV < pV) ∧
   ((rD * (bev (List.reverse b) * bev (List.reverse b) % pV) % pV + Int.toNat (1 : Int)) % pV < pV)) ∧
  (((!Prod.fst
      (Prod.snd
        (ratioN ((bev (List.reverse b) * bev (List.reverse b) % pV + pV - Int.toNat (1 : Int)) % pV)
          ((rD * (bev (List.reverse b) * bev (List.reverse b) % pV) % pV + Int.toNat (1 : Int)) % pV)))) =
  false) ∧
  (Q
  (SV.agg
    [SV.lst
        (LV.num
          (Num.n
            (Prod.fst
              (ratioN ((bev (List.reverse b) * bev (List.reverse b) % pV + pV - Int.toNat (1 : Int)) % pV)
                ((rD * (bev (List.reverse b) * bev (List.reverse b) % pV) % pV + Int.toNat (1 : Int)) % pV))))),
      SV.lst (LV.num (bev (List.reverse b))), SV.lst (LV.ints [(1 : Int)]), SV.bool true])))))))))))))) := by kernel_rfl
noncomputable def spK3 : Specs := (72, nRBytes) :: (52, nROf) :: spK2
theorem rb_ex : ∃ p : RP, p = rOf (bytesN (mM 4 (iN 5)) 32) := ⟨_, rfl⟩
noncomputable def rBase : RP := Classical.choose rb_ex
theorem rBase_eq : rBase = rOf (bytesN (mM 4 (iN 5)) 32) := Classical.choose_spec rb_ex
theorem vcRBase (Q : SV → Prop) : LnRaw tt spK3 9 [] {} Try.f69 Q () =
  ((Lh (Int.toNat (5 : Int))) ∧
  (((Lh (Int.toNat (4 : Int))) ∧
   (Lh (Int.toNat (5 : Int) ^ (pV - (2 : Nat)) % pV))) ∧
  (((Sm (Int.toNat (4 : Int) * (Int.toNat (5 : Int) ^ (pV - (2 : Nat)) % pV) % pV)) ∧
   (((0 : Int) ≤ (32 : Int)) ∧
   ((32 : Int) ≤ (1048576 : Int)))) ∧
  ((List.length (bytesN (Int.toNat (4 : Int) * (Int.toNat (5 : Int) ^ (pV - (2 : Nat)) % pV) % pV) (Int.toNat (32 : Int))) ≤
  (1000000 : Nat)) ∧
  (Q
  (SV.agg
    [SV.lst
        (LV.num
          (RP.x
            (rOf
              (bytesN (Int.toNat (4 : Int) * (Int.toNat (5 : Int) ^ (pV - (2 : Nat)) % pV) % pV)
                (Int.toNat (32 : Int)))))),
      SV.lst
        (LV.num
          (RP.y
            (rOf
              (bytesN (Int.toNat (4 : Int) * (Int.toNat (5 : Int) ^ (pV - (2 : Nat)) % pV) % pV)
                (Int.toNat (32 : Int)))))),
      SV.lst
        (LV.num
          (RP.z
            (rOf
              (bytesN (Int.toNat (4 : Int) * (Int.toNat (5 : Int) ^ (pV - (2 : Nat)) % pV) % pV)
                (Int.toNat (32 : Int)))))),
      SV.bool
        (RP.is
          (rOf
            (bytesN (Int.toNat (4 : Int) * (Int.toNat (5 : Int) ^ (pV - (2 : Nat)) % pV) % pV)
              (Int.toNat (32 : Int)))))])))))) := by kernel_rfl
noncomputable def nRBase : SpecF := fspec (α := Unit) total (fun _ => rBase)
noncomputable def spK4 : Specs := (69, nRBase) :: spK3
end Go.Proofs.Ytnnfjfkdbmhmlaa.E10
/- The reference of layer 10 on numbers: its functions come to what is said. -/
set_option maxRecDepth 10000
namespace Go.Proofs.Ytnnfjfkdbmhmlaa.E10
open Go.Sym Go.Dig R1 F4

abbrev nilC : List SV := [.val (.slice none 0 0), .val (.slice none 0 0), .val (.slice none 0 0), .bool false]
theorem svr {p : RP} {cs : List SV} (hd : dRP (.agg cs) = some p) (x : SV) (h : (fun x => x = .agg cs) x) (at_ : At) (w : World) (v : Value) (r : Rel at_ w x v) : Rel at_ w p.sv v := by
  have h' : x = .agg cs := h
  subst h'
  exact Enc.ok (α := RP) hd r
theorem lh256 {n : Nat} (h : n < 2 ^ 256) : Lh n := Nat.le_trans (dg_length_lt (k := 11) (Nat.lt_of_lt_of_le h (by decide))) (by decide)
theorem e255_lt : e255 < 2 ^ 256 := by rw [e255_eq]; decide
theorem ok_Pow255 : SpecOK Try.prog 102 nPow255 := by
  refine fspec_weaken ok_Power (fun a => a) (fun _ _ _ _ r => r) (fun a => rfl) (fun a h => ?_) (fun a h at_ w v r => ?_)
  · have h' : a.1 = 255 := h
    show Ok (some _)
    rw [h']
    exact ⟨by decide, by decide⟩
  · have h' : a.1 = 255 := h
    obtain ⟨i, _⟩ := a
    replace h' : i = 255 := h'
    subst h'
    show Rel at_ w (.lst (.num e255)) v
    rw [e255_eq]
    exact r
theorem spK0_ok : SpecsOK Try.prog spK0 := .cons ok_Pow255 <| .cons ok_Ratio <| .cons ok_OfF spI_ok
theorem ok_RD : SpecOK Try.prog 57 nRD := by
  unfold nRD
  rw [rD_eq]
  refine fn_okL (by kernel_rfl) tt_ok spK0_ok 9 Try.func57 (by decide +kernel) (by kernel_rfl) ?_
  rintro ⟨⟩ _
  have e1 : Int.toNat 121665 = 121665 := rfl
  have e2 : Int.toNat 121666 = 121666 := rfl
  refine ⟨_, {}, fun x => x = .lst (.num ((0 + pV - 121665 * (121666 ^ (pV - 2) % pV) % pV) % pV)), LnVD.of (vcRD _) ?_, svf⟩
  rw [e1, e2]
  have := modV (121665 * (121666 ^ (pV - 2) % pV))
  exact ⟨by decide, by decide, lhS (by decide), ⟨lhS (by decide), lhMod _⟩, ⟨lhS (by decide), lhMod _, by omega⟩, rfl⟩
theorem rD_lt : rD < pV := by rw [rD_eq]; exact modV _
theorem spK1_ok : SpecsOK Try.prog spK1 := .cons ok_RD spK0_ok
theorem mM_lt (a b : Nat) : mM a b < pV := modV _
theorem lhp {n : Nat} (h : n < pV) : Lh n := lhP (by omega)
theorem ok_ROn : SpecOK Try.prog 49 nROn := by
  refine fn_okL (by kernel_rfl) tt_ok spK1_ok 9 Try.func49 (by decide +kernel) (by kernel_rfl) ?_
  rintro ⟨⟨x⟩, ⟨y⟩, _⟩ ⟨hx, hy⟩
  replace hx : Lh x := hx
  replace hy : Lh y := hy
  refine ⟨_, {}, fun z => z = .bool (onN x y), LnVD.of (vcROn x y _) ?_, svf⟩
  have := modV (x * x)
  have h1 : Lh (Int.toNat 1) := lhS (by decide)
  refine ⟨⟨hx, hx⟩, ⟨hy, hy⟩, ⟨lhMod _, lhMod _, by omega⟩, ⟨lhMod _, lhMod _⟩, ⟨lhp rD_lt, lhMod _⟩, ⟨h1, lhMod _⟩, ⟨(lhMod _).sm, (lhMod _).sm⟩, ?_⟩
  rw [cmp0]
  rfl
theorem ok_RAdd : SpecOK Try.prog 58 nRAdd := by
  refine fn_okL (by kernel_rfl) tt_ok spK1_ok 9 Try.func58 (by decide +kernel) (by kernel_rfl) ?_
  rintro ⟨p, q, ⟨d⟩, _⟩ ⟨⟨p1, p2, p3⟩, ⟨q1, q2, q3⟩, hd⟩
  refine ⟨_, {}, fun z => z = (rAdd p q d).sv, LnVD.of (vcRAdd p q d _) ?_, svf⟩
  have := modV (d * (RP.x p * RP.x q % pV * (RP.y p * RP.y q % pV) % pV))
  exact ⟨⟨p3, q3⟩, ⟨lhMod _, lhMod _⟩, ⟨p1, q1⟩, ⟨p2, q2⟩, ⟨lhMod _, lhMod _⟩, ⟨hd, lhMod _⟩, ⟨lhMod _, lhMod _, by omega⟩, ⟨lhMod _, lhMod _⟩, ⟨p1, q2⟩, ⟨p2, q1⟩, ⟨lhMod _, lhMod _⟩, ⟨lhMod _, lhMod _⟩, ⟨lhMod _, lhMod _⟩, ⟨lhMod _, lhMod _⟩, ⟨lhMod _, lhMod _⟩, ⟨lhMod _, lhMod _⟩, ⟨lhMod _, lhMod _⟩, rfl⟩
theorem ok_RNeg : SpecOK Try.prog 62 nRNeg := by
  refine fn_okL (by kernel_rfl) tt_ok spK1_ok 9 Try.func62 (by decide +kernel) (by kernel_rfl) ?_
  rintro ⟨p, _⟩ h
  replace h : p.x < pV := h
  exact ⟨_, {}, fun z => z = (rNeg p).sv, LnVD.of (vcRNeg p _) ⟨⟨lhS (by decide), lhp h, by omega⟩, rfl⟩, svf⟩
theorem ok_RZero : SpecOK Try.prog 66 nRZero := by
  refine fn_okL (by kernel_rfl) tt_ok spK1_ok 9 Try.func66 (by decide +kernel) (by kernel_rfl) ?_
  rintro ⟨⟩ _
  exact ⟨_, {}, fun x => x = .agg [.val (.slice none 0 0), .lst (.ints [1]), .lst (.ints [1]), .bool true], LnVD.of (vcRZero _) rfl, svr (p := rZero) (cs := [.val (.slice none 0 0), .lst (.ints [1]), .lst (.ints [1]), .bool true]) (by rfl)⟩
theorem ok_RPair : SpecOK Try.prog 54 nRPair := by
  refine fn_okL (by kernel_rfl) tt_ok spK1_ok 9 Try.func54 (by decide +kernel) (by kernel_rfl) ?_
  rintro ⟨p, _⟩ ⟨p1, p2, p3⟩
  exact ⟨_, {}, fun z => z = .tup [.lst (.num (rPairX p)), .lst (.num (rPairY p))], LnVD.of (vcRPair p _) ⟨p3, ⟨p1, lhMod _⟩, ⟨p2, lhMod _⟩, rfl⟩, svf⟩
theorem ok_RSame : SpecOK Try.prog 65 nRSame := by
  refine fn_okL (by kernel_rfl) tt_ok spK1_ok 9 Try.func65 (by decide +kernel) (by kernel_rfl) ?_
  rintro ⟨p, q, _⟩ ⟨⟨p1, p2, p3⟩, ⟨q1, q2, q3⟩⟩
  show ∃ D L, ∃ Q : SV → Prop, LnVD tt spK1 9 D L _ Q (p, q, ()) ∧ ∀ x, Q x → ∀ (at_ : At) (w : World) (v : Value), Rel at_ w x v → Rel at_ w (.bool (rSame p q)) v
  unfold rSame
  by_cases h : mM p.x q.z = mM q.x p.z
  · refine ⟨_, {}, fun x => x = .bool (decide (mM p.x q.z = mM q.x p.z) && decide (mM p.y q.z = mM q.y p.z)), LnVD.of (vcRSameT p q _) ?_, svf⟩
    refine ⟨⟨p1, q3⟩, ⟨q1, p3⟩, ⟨(lhMod _).sm, (lhMod _).sm⟩, by rw [cmp0]; exact decide_eq_true h, ⟨p2, q3⟩, ⟨q2, p3⟩, ⟨(lhMod _).sm, (lhMod _).sm⟩, ?_⟩
    rw [cmp0, decide_eq_true h]; rfl
  · refine ⟨_, {}, fun x => x = .bool (decide (mM p.x q.z = mM q.x p.z) && decide (mM p.y q.z = mM q.y p.z)), LnVD.of (vcRSameF p q _) ?_, svf⟩
    refine ⟨⟨p1, q3⟩, ⟨q1, p3⟩, ⟨(lhMod _).sm, (lhMod _).sm⟩, by rw [cmp0]; exact decide_eq_false h, ?_⟩
    rw [decide_eq_false h]; rfl
theorem spK2_ok : SpecsOK Try.prog spK2 := .cons ok_ROn <| .cons ok_RAdd <| .cons ok_RNeg <| .cons ok_RZero <| .cons ok_RPair <| .cons ok_RSame spK1_ok
theorem pair_lt (p : RP) : rPairX p < pV ∧ rPairY p < pV := ⟨modV _, modV _⟩
theorem lhE : Lh e255 := lh256 e255_lt
theorem p256 : pV + e255 < 2 ^ 256 := by rw [pV_lit, e255_eq]; decide
theorem ok_RBytes : SpecOK Try.prog 72 nRBytes := by
  refine fn_okL (by kernel_rfl) tt_ok spK2_ok 9 Try.func72 (by decide +kernel) (by kernel_rfl) ?_
  rintro ⟨p, _⟩ hp
  obtain ⟨lx, ly⟩ := pair_lt p
  have := p256
  by_cases h : rPairX p % 2 = 1
  · refine ⟨_, {}, fun z => z = .lst (.bytes (rBytes p)), LnVD.of (vcRBytesT p _) ⟨hp, lhp lx, decide_eq_true h, rfl, ⟨(lhp ly).sm, lhE.sm⟩, ⟨(lh256 (by omega)).sm, by decide, by decide⟩, ?_⟩, svf⟩
    unfold rBytes; rw [if_pos h]; rfl
  · refine ⟨_, {}, fun z => z = .lst (.bytes (rBytes p)), LnVD.of (vcRBytesF p _) ⟨hp, lhp lx, decide_eq_false h, ⟨(lhp ly).sm, by decide, by decide⟩, ?_⟩, svf⟩
    unfold rBytes; rw [if_neg h]; rfl
theorem lenz (n : Nat) : (((dg n).length : Int) == 0) = decide (n = 0) := dg_len0 n
theorem ratio_lt (u v : Nat) : (ratioN u v).1.n < pV := by
  have h0 := pV_pos
  have ev : ∀ a, a < pV → evN a < pV := fun a ha => by unfold evN; split; exact modV _; exact ha
  have hr : ∀ a, (rootN a).1.n < pV := fun a => by
    unfold rootN
    split
    · exact ev _ (modV _)
    · split
      · exact ev _ (modV _)
      · exact h0
  unfold ratioN
  split
  · exact h0
  · exact hr _
theorem ok_ROf : SpecOK Try.prog 52 nROf := by
  unfold nROf
  rw [rOf_eq]
  refine fn_okL (by kernel_rfl) tt_ok spK2_ok 9 Try.func52 (by decide +kernel) (by kernel_rfl) ?_
  rintro ⟨b, _⟩ _
  show ∃ D L, ∃ Q : SV → Prop, LnVD tt spK2 9 D L _ Q (b, ()) ∧ ∀ z, Q z → ∀ (at_ : At) (w : World) (v : Value), Rel at_ w z v → Rel at_ w (rOfB b).sv v
  unfold rOfB
  by_cases h : b.length ≠ 32
  · rw [if_pos h]
    exact ⟨_, {}, fun x => x = .agg nilC, LnVD.of (vcROfA b _) ⟨by simpa [bne_iff_ne] using (by omega : (b.length : Int) ≠ 32), rfl⟩, svr (p := rNil) (cs := nilC) (by rfl)⟩
  rw [if_neg h]
  have h32 : b.length = 32 := by omega
  have l1 : ((b.length : Int) != 32) = false := by rw [h32]; rfl
  have l2 : b.length ≤ 1048576 := by rw [h32]; decide
  have hb : bev b.reverse < 2 ^ 256 := by
    have := bev_lev b.reverse
    rw [this, List.reverse_reverse]
    have := lev_lt b
    rw [h32] at this
    exact Nat.lt_of_lt_of_le this (by decide)
  have hlb := lh256 hb
  have l3 : Sm (bev b.reverse) ∧ ((0 : Int) ≤ 255 ∧ (255 : Int) ≤ 1073741824) := ⟨hlb.sm, by decide, by decide⟩
  have hE := e255_eq
  have t255 : Int.toNat 255 = 255 := rfl
  have h1 : Lh (Int.toNat 1) := lhS (by decide)
  have one : Int.toNat 1 = 1 := rfl
  by_cases hs : bev b.reverse / 2 ^ 255 % 2 = 1
  · rw [if_pos hs]
    have ls : (((bev b.reverse / 2 ^ Int.toNat 255 % 2 : Nat) : Int) == 1) = true := by rw [t255, hs]; rfl
    have hge : e255 ≤ bev b.reverse := by
      rw [hE]
      rcases Nat.lt_or_ge (bev b.reverse) (2 ^ 255) with h | h
      · rw [Nat.div_eq_of_lt h] at hs; simp at hs
      · exact h
    have hy : Lh (bev b.reverse - e255) := lh256 (by omega)
    have l4 : Sm (bev b.reverse) ∧ (e255 ≤ bev b.reverse ∧ Sm e255) := ⟨hlb.sm, hge, lhE.sm⟩
    have l5 : Sm (bev b.reverse - e255) ∧ Sm pV := ⟨hy.sm, lhV.sm⟩
    generalize hyy : bev b.reverse - e255 = y at *
    unfold rOfY
    by_cases hp : y < pV
    · rw [if_neg (fun h => h hp)]
      have l6 : decide (cmpN y pV ≥ 0) = false := by rw [cmpGe]; exact decide_eq_false (by omega)
      have m1 := modV (y * y)
      have l7 : Lh (y * y % pV) ∧ (Lh (Int.toNat 1) ∧ Int.toNat 1 ≤ y * y % pV + pV) := ⟨lhMod _, h1, by have := pV_pos; rw [one]; omega⟩
      have l8 : Lh rD ∧ Lh (y * y % pV) := ⟨lhp rD_lt, lhMod _⟩
      have l9 : Lh (rD * (y * y % pV) % pV) ∧ Lh (Int.toNat 1) := ⟨lhMod _, h1⟩
      have l10 : (y * y % pV + pV - Int.toNat 1) % pV < pV ∧ (rD * (y * y % pV) % pV + Int.toNat 1) % pV < pV := ⟨modV _, modV _⟩
      cases h3 : (ratioN (rU y) (rW y)).2.1 with
      | false =>
        rw [if_pos rfl]
        refine ⟨_, {}, fun x => x = .agg nilC, LnVD.of (vcROfTC b _) ?_, svr (p := rNil) (cs := nilC) (by rfl)⟩
        rw [hyy]
        exact ⟨l1, l2, l3, ls, rfl, l4, l5, l6, ⟨hy, hy⟩, l7, l8, l9, l10, (congrArg Bool.not h3 : (!(ratioN ((y * y % pV + pV - Int.toNat 1) % pV) ((rD * (y * y % pV) % pV + Int.toNat 1) % pV)).2.1) = true), rfl⟩
      | true =>
        rw [if_neg (by decide), if_pos rfl]
        have l11 : (!(ratioN ((y * y % pV + pV - Int.toNat 1) % pV) ((rD * (y * y % pV) % pV + Int.toNat 1) % pV)).2.1) = false := by
          rw [show (!(ratioN ((y * y % pV + pV - Int.toNat 1) % pV) ((rD * (y * y % pV) % pV + Int.toNat 1) % pV)).2.1) = (!(ratioN (rU y) (rW y)).2.1) from rfl, h3]; rfl
        by_cases h5 : (ratioN (rU y) (rW y)).1.n = 0
        · rw [if_pos h5]
          refine ⟨_, {}, fun x => x = .agg nilC, LnVD.of (vcROfTD b _) ?_, svr (p := rNil) (cs := nilC) (by rfl)⟩
          rw [hyy]
          refine ⟨l1, l2, l3, ls, rfl, l4, l5, l6, ⟨hy, hy⟩, l7, l8, l9, l10, l11, ?_, rfl⟩
          rw [lenz]; exact decide_eq_true h5
        · rw [if_neg h5]
          refine ⟨_, {}, fun x => x = .agg [.lst (.num ((0 + pV - (ratioN ((y * y % pV + pV - Int.toNat 1) % pV) ((rD * (y * y % pV) % pV + Int.toNat 1) % pV)).1.n) % pV)), .lst (.num y), .lst (.ints [1]), .bool true], LnVD.of (vcROfTE b _) ?_, svr (p := ⟨sM 0 (ratioN (rU y) (rW y)).1.n, y, 1, true⟩) (cs := [.lst (.num ((0 + pV - (ratioN ((y * y % pV + pV - Int.toNat 1) % pV) ((rD * (y * y % pV) % pV + Int.toNat 1) % pV)).1.n) % pV)), .lst (.num y), .lst (.ints [1]), .bool true]) (by rfl)⟩
          rw [hyy]
          refine ⟨l1, l2, l3, ls, rfl, l4, l5, l6, ⟨hy, hy⟩, l7, l8, l9, l10, l11, ?_, ⟨lhS (by decide), lhp (ratio_lt _ _), ?_⟩, rfl⟩
          · rw [lenz]; exact decide_eq_false h5
          · have := ratio_lt ((y * y % pV + pV - Int.toNat 1) % pV) ((rD * (y * y % pV) % pV + Int.toNat 1) % pV)
            omega
    · rw [if_pos hp]
      have l6 : decide (cmpN y pV ≥ 0) = true := by rw [cmpGe]; exact decide_eq_true (by omega)
      refine ⟨_, {}, fun x => x = .agg nilC, LnVD.of (vcROfTB b _) ?_, svr (p := rNil) (cs := nilC) (by rfl)⟩
      rw [hyy]
      exact ⟨l1, l2, l3, ls, rfl, l4, l5, l6, rfl⟩
  · rw [if_neg hs]
    have ls : (((bev b.reverse / 2 ^ Int.toNat 255 % 2 : Nat) : Int) == 1) = false := by
      rw [t255]
      have : bev b.reverse / 2 ^ 255 % 2 = 0 := by omega
      rw [this]; rfl
    have l5 : Sm (bev b.reverse) ∧ Sm pV := ⟨hlb.sm, lhV.sm⟩
    generalize hyy : bev b.reverse = y at *
    unfold rOfY
    by_cases hp : y < pV
    · rw [if_neg (fun h => h hp)]
      have l6 : decide (cmpN y pV ≥ 0) = false := by rw [cmpGe]; exact decide_eq_false (by omega)
      have m1 := modV (y * y)
      have l7 : Lh (y * y % pV) ∧ (Lh (Int.toNat 1) ∧ Int.toNat 1 ≤ y * y % pV + pV) := ⟨lhMod _, h1, by have := pV_pos; rw [one]; omega⟩
      have l8 : Lh rD ∧ Lh (y * y % pV) := ⟨lhp rD_lt, lhMod _⟩
      have l9 : Lh (rD * (y * y % pV) % pV) ∧ Lh (Int.toNat 1) := ⟨lhMod _, h1⟩
      have l10 : (y * y % pV + pV - Int.toNat 1) % pV < pV ∧ (rD * (y * y % pV) % pV + Int.toNat 1) % pV < pV := ⟨modV _, modV _⟩
      cases h3 : (ratioN (rU y) (rW y)).2.1 with
      | false =>
        rw [if_pos rfl]
        refine ⟨_, {}, fun x => x = .agg nilC, LnVD.of (vcROfFC b _) ?_, svr (p := rNil) (cs := nilC) (by rfl)⟩
        rw [hyy]
        exact ⟨l1, l2, l3, ls, l5, l6, ⟨hlb, hlb⟩, l7, l8, l9, l10, (congrArg Bool.not h3 : (!(ratioN ((y * y % pV + pV - Int.toNat 1) % pV) ((rD * (y * y % pV) % pV + Int.toNat 1) % pV)).2.1) = true), rfl⟩
      | true =>
        rw [if_neg (by decide), if_neg (by decide)]
        have l11 : (!(ratioN ((y * y % pV + pV - Int.toNat 1) % pV) ((rD * (y * y % pV) % pV + Int.toNat 1) % pV)).2.1) = false := by
          rw [show (!(ratioN ((y * y % pV + pV - Int.toNat 1) % pV) ((rD * (y * y % pV) % pV + Int.toNat 1) % pV)).2.1) = (!(ratioN (rU y) (rW y)).2.1) from rfl, h3]; rfl
        refine ⟨_, {}, fun x => x = .agg [.lst (.num ((ratioN ((y * y % pV + pV - Int.toNat 1) % pV) ((rD * (y * y % pV) % pV + Int.toNat 1) % pV)).1.n)), .lst (.num y), .lst (.ints [1]), .bool true], LnVD.of (vcROfFE b _) ?_, svr (p := ⟨(ratioN (rU y) (rW y)).1.n, y, 1, true⟩) (cs := [.lst (.num ((ratioN ((y * y % pV + pV - Int.toNat 1) % pV) ((rD * (y * y % pV) % pV + Int.toNat 1) % pV)).1.n)), .lst (.num y), .lst (.ints [1]), .bool true]) (by rfl)⟩
        rw [hyy]
        exact ⟨l1, l2, l3, ls, l5, l6, ⟨hlb, hlb⟩, l7, l8, l9, l10, l11, rfl⟩
    · rw [if_pos hp]
      have l6 : decide (cmpN y pV ≥ 0) = true := by rw [cmpGe]; exact decide_eq_true (by omega)
      refine ⟨_, {}, fun x => x = .agg nilC, LnVD.of (vcROfFB b _) ?_, svr (p := rNil) (cs := nilC) (by rfl)⟩
      rw [hyy]
      exact ⟨l1, l2, l3, ls, l5, l6, rfl⟩
theorem spK3_ok : SpecsOK Try.prog spK3 := .cons ok_RBytes <| .cons ok_ROf spK2_ok
theorem ok_RBase : SpecOK Try.prog 69 nRBase := by
  unfold nRBase
  rw [rBase_eq]
  refine fn_okL (by kernel_rfl) tt_ok spK3_ok 9 Try.func69 (by decide +kernel) (by kernel_rfl) ?_
  rintro ⟨⟩ _
  have h5 : Lh (Int.toNat 5) := lhS (by decide)
  have h4 : Lh (Int.toNat 4) := lhS (by decide)
  refine ⟨_, {}, fun x => x = (rOf (bytesN (mM 4 (iN 5)) 32)).sv, LnVD.of (vcRBase _) ⟨h5, ⟨h4, lhMod _⟩, ⟨(lhMod _).sm, by decide, by decide⟩, ?_, rfl⟩, svf⟩
  rw [bytesN_len]; decide
theorem spK4_ok : SpecsOK Try.prog spK4 := .cons ok_RBase spK3_ok
end Go.Proofs.Ytnnfjfkdbmhmlaa.E10
