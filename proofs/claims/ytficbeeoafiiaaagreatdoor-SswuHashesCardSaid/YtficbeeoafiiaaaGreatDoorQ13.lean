/- A symbolic machine for Go functions, and what the functions that the law reaches come to: PrR. -/
import Derived.Test.YtficbeeoafiiaaaGreatDoorQ12
/- The reference of layer 12 on numbers: what its functions come to. -/
set_option maxRecDepth 10000
namespace Go.Proofs.YtficbeeoafiiaaaGreatDoor.P12
open Go.Sym Go.Dig R1
--STOP R1.Sm, Fw

theorem pn_ex' : ∃ n : Nat, n = 115792089210356248762697446949407573530086143415290314195533631308867097853951 := ⟨_, rfl⟩
/-- The modulus, told so that no machine computes with it. -/
noncomputable def pN : Nat := Classical.choose pn_ex'
theorem pN_eq : pN = 115792089210356248762697446949407573530086143415290314195533631308867097853951 := Classical.choose_spec pn_ex'
noncomputable def fV : FastV := ⟨pN, muN pN⟩
noncomputable def qM (a b : Nat) : Nat := a * b % pN
noncomputable def qA (a b : Nat) : Nat := (a + b) % pN
noncomputable def qS (a b : Nat) : Nat := (a + pN - b) % pN
noncomputable def qE (a e : Nat) : Nat := a ^ e % pN
noncomputable def qI (a : Nat) : Nat := a ^ (pN - 2) % pN
/-- A string's numeral, digit by digit. -/
def hexC : List Int → Nat → (Nat → Prop) → Prop
  | [], out, K => K out
  | d :: ds, out, K => (Sm out ∧ (0 : Int) ≤ 16 ∧ (16 : Int) < 9223372036854775808) ∧ (0 ≤ d ∧ d < 9223372036854775808) ∧ (Sm (out * Int.toNat 16) ∧ Sm d.toNat) ∧ hexC ds (out * Int.toNat 16 + d.toNat) K
def strO : Value := .string ⟨#[102, 102, 102, 102, 102, 102, 102, 102, 48, 48, 48, 48, 48, 48, 48, 48, 102, 102, 102, 102, 102, 102, 102, 102, 102, 102, 102, 102, 102, 102, 102, 102, 98, 99, 101, 54, 102, 97, 97, 100, 97, 55, 49, 55, 57, 101, 56, 52, 102, 51, 98, 57, 99, 97, 99, 50, 102, 99, 54, 51, 50, 53, 53, 49]⟩
def dgtO : List Int := [15, 15, 15, 15, 15, 15, 15, 15, 0, 0, 0, 0, 0, 0, 0, 0, 15, 15, 15, 15, 15, 15, 15, 15, 15, 15, 15, 15, 15, 15, 15, 15, 11, 12, 14, 6, 15, 10, 10, 13, 10, 7, 1, 7, 9, 14, 8, 4, 15, 3, 11, 9, 12, 10, 12, 2, 15, 12, 6, 3, 2, 5, 5, 1]
theorem hO_ex : ∃ n : Nat, n = 115792089210356248762697446949407573529996955224135760342422259061068512044369 := ⟨_, rfl⟩
noncomputable def hO : Nat := Classical.choose hO_ex
theorem hO_eq : hO = 115792089210356248762697446949407573529996955224135760342422259061068512044369 := Classical.choose_spec hO_ex
theorem vcHexO (Q : SV → Prop) : LnRaw tt R1.spN 70 [] {} Tryz.f35 Q ((⟨strO⟩ : ValV), ()) = hexC dgtO 0 (fun n => Q (.lst (.num n))) := by kernel_rfl
def strB : Value := .string ⟨#[53, 97, 99, 54, 51, 53, 100, 56, 97, 97, 51, 97, 57, 51, 101, 55, 98, 51, 101, 98, 98, 100, 53, 53, 55, 54, 57, 56, 56, 54, 98, 99, 54, 53, 49, 100, 48, 54, 98, 48, 99, 99, 53, 51, 98, 48, 102, 54, 51, 98, 99, 101, 51, 99, 51, 101, 50, 55, 100, 50, 54, 48, 52, 98]⟩
def dgtB : List Int := [5, 10, 12, 6, 3, 5, 13, 8, 10, 10, 3, 10, 9, 3, 14, 7, 11, 3, 14, 11, 11, 13, 5, 5, 7, 6, 9, 8, 8, 6, 11, 12, 6, 5, 1, 13, 0, 6, 11, 0, 12, 12, 5, 3, 11, 0, 15, 6, 3, 11, 12, 14, 3, 12, 3, 14, 2, 7, 13, 2, 6, 0, 4, 11]
theorem hB_ex : ∃ n : Nat, n = 41058363725152142129326129780047268409114441015993725554835256314039467401291 := ⟨_, rfl⟩
noncomputable def hB : Nat := Classical.choose hB_ex
theorem hB_eq : hB = 41058363725152142129326129780047268409114441015993725554835256314039467401291 := Classical.choose_spec hB_ex
theorem vcHexB (Q : SV → Prop) : LnRaw tt R1.spN 70 [] {} Tryz.f35 Q ((⟨strB⟩ : ValV), ()) = hexC dgtB 0 (fun n => Q (.lst (.num n))) := by kernel_rfl
def strX : Value := .string ⟨#[54, 98, 49, 55, 100, 49, 102, 50, 101, 49, 50, 99, 52, 50, 52, 55, 102, 56, 98, 99, 101, 54, 101, 53, 54, 51, 97, 52, 52, 48, 102, 50, 55, 55, 48, 51, 55, 100, 56, 49, 50, 100, 101, 98, 51, 51, 97, 48, 102, 52, 97, 49, 51, 57, 52, 53, 100, 56, 57, 56, 99, 50, 57, 54]⟩
def dgtX : List Int := [6, 11, 1, 7, 13, 1, 15, 2, 14, 1, 2, 12, 4, 2, 4, 7, 15, 8, 11, 12, 14, 6, 14, 5, 6, 3, 10, 4, 4, 0, 15, 2, 7, 7, 0, 3, 7, 13, 8, 1, 2, 13, 14, 11, 3, 3, 10, 0, 15, 4, 10, 1, 3, 9, 4, 5, 13, 8, 9, 8, 12, 2, 9, 6]
theorem hX_ex : ∃ n : Nat, n = 48439561293906451759052585252797914202762949526041747995844080717082404635286 := ⟨_, rfl⟩
noncomputable def hX : Nat := Classical.choose hX_ex
theorem hX_eq : hX = 48439561293906451759052585252797914202762949526041747995844080717082404635286 := Classical.choose_spec hX_ex
theorem vcHexX (Q : SV → Prop) : LnRaw tt R1.spN 70 [] {} Tryz.f35 Q ((⟨strX⟩ : ValV), ()) = hexC dgtX 0 (fun n => Q (.lst (.num n))) := by kernel_rfl
def strY : Value := .string ⟨#[52, 102, 101, 51, 52, 50, 101, 50, 102, 101, 49, 97, 55, 102, 57, 98, 56, 101, 101, 55, 101, 98, 52, 97, 55, 99, 48, 102, 57, 101, 49, 54, 50, 98, 99, 101, 51, 51, 53, 55, 54, 98, 51, 49, 53, 101, 99, 101, 99, 98, 98, 54, 52, 48, 54, 56, 51, 55, 98, 102, 53, 49, 102, 53]⟩
def dgtY : List Int := [4, 15, 14, 3, 4, 2, 14, 2, 15, 14, 1, 10, 7, 15, 9, 11, 8, 14, 14, 7, 14, 11, 4, 10, 7, 12, 0, 15, 9, 14, 1, 6, 2, 11, 12, 14, 3, 3, 5, 7, 6, 11, 3, 1, 5, 14, 12, 14, 12, 11, 11, 6, 4, 0, 6, 8, 3, 7, 11, 15, 5, 1, 15, 5]
theorem hY_ex : ∃ n : Nat, n = 36134250956749795798585127919587881956611106672985015071877198253568414405109 := ⟨_, rfl⟩
noncomputable def hY : Nat := Classical.choose hY_ex
theorem hY_eq : hY = 36134250956749795798585127919587881956611106672985015071877198253568414405109 := Classical.choose_spec hY_ex
theorem vcHexY (Q : SV → Prop) : LnRaw tt R1.spN 70 [] {} Tryz.f35 Q ((⟨strY⟩ : ValV), ()) = hexC dgtY 0 (fun n => Q (.lst (.num n))) := by kernel_rfl
noncomputable def nHexO : SpecF := fspec (α := ValV × Unit) (β := Num) (fun a => some (a.1.v = strO)) (fun _ => ⟨hO⟩)
noncomputable def nHexB : SpecF := fspec (α := ValV × Unit) (β := Num) (fun a => some (a.1.v = strB)) (fun _ => ⟨hB⟩)
open Classical in
noncomputable def hXY (v : Value) : Nat := if v = strX then hX else hY
noncomputable def nHexXY : SpecF := fspec (α := ValV × Unit) (β := Num) (fun a => some (a.1.v = strX ∨ a.1.v = strY)) (fun a => ⟨hXY a.1.v⟩)
theorem vcP (Q : SV → Prop) : LnRaw tt R1.spN 9 [] {} Tryz.f28 Q () =
 ((((0 : Int) ≤ (256 : Int)) ∧ ((256 : Int) ≤ (1073741824 : Int))) ∧ ((((0 : Int) ≤ (192 : Int)) ∧ ((192 : Int) ≤ (1073741824 : Int))) ∧ (((Sm ((2 : Nat) ^ Int.toNat (256 : Int))) ∧ (Sm ((2 : Nat) ^ Int.toNat (192 : Int)))) ∧ ((((0 : Int) ≤ (96 : Int)) ∧ ((96 : Int) ≤ (1073741824 : Int))) ∧ (((Sm ((2 : Nat) ^ Int.toNat (256 : Int) + (2 : Nat) ^ Int.toNat (192 : Int))) ∧ (Sm ((2 : Nat) ^ Int.toNat (96 : Int)))) ∧ ((((0 : Int) ≤ (224 : Int)) ∧ ((224 : Int) ≤ (1073741824 : Int))) ∧ (((Sm ((2 : Nat) ^ Int.toNat (256 : Int) + (2 : Nat) ^ Int.toNat (192 : Int) + (2 : Nat) ^ Int.toNat (96 : Int))) ∧ (((2 : Nat) ^ Int.toNat (224 : Int) ≤ (2 : Nat) ^ Int.toNat (256 : Int) + (2 : Nat) ^ Int.toNat (192 : Int) + (2 : Nat) ^ Int.toNat (96 : Int)) ∧ (Sm ((2 : Nat) ^ Int.toNat (224 : Int))))) ∧ (((Sm ((2 : Nat) ^ Int.toNat (256 : Int) + (2 : Nat) ^ Int.toNat (192 : Int) + (2 : Nat) ^ Int.toNat (96 : Int) - (2 : Nat) ^ Int.toNat (224 : Int))) ∧ ((Int.toNat (1 : Int) ≤
 (2 : Nat) ^ Int.toNat (256 : Int) + (2 : Nat) ^ Int.toNat (192 : Int) + (2 : Nat) ^ Int.toNat (96 : Int) - (2 : Nat) ^ Int.toNat (224 : Int)) ∧ (Sm (Int.toNat (1 : Int))))) ∧ (Q (SV.lst (LV.num ((2 : Nat) ^ Int.toNat (256 : Int) + (2 : Nat) ^ Int.toNat (192 : Int) + (2 : Nat) ^ Int.toNat (96 : Int) - (2 : Nat) ^ Int.toNat (224 : Int) - Int.toNat (1 : Int))))))))))))) := by kernel_rfl
noncomputable def nP : SpecF := fspec (α := Unit) (β := Num) total (fun _ => ⟨pN⟩)
noncomputable def nOrd : SpecF := fspec (α := Unit) (β := Num) total (fun _ => ⟨hO⟩)
theorem vcField (Q : SV → Prop) : LnRaw tt [(28, nP), (34, nQuick)] 9 [] {} Tryz.f14 Q () =
 (((Fw pN) ∧ ((0 : Nat) < pN)) ∧ (Q (SV.agg [SV.lst (LV.num pN), SV.lst (LV.num (muN pN))]))) := by kernel_rfl
noncomputable def nField : SpecF := fspec (α := Unit) total (fun _ => fV)
abbrev F2 := FastV × Num × Num × Unit
abbrev F1 := FastV × Num × Unit
theorem vcFAdd (f : FastV) (a b : Nat) (Q : SV → Prop) : LnRaw tt spQ3 3 [] {} Tryz.f39 Q (f, (⟨a⟩ : Num), (⟨b⟩ : Num), ()) =
 (((Sm a) ∧ (Sm b)) ∧ (((FastV.mu f = muN (FastV.m f)) ∧ (((0 : Nat) < FastV.m f) ∧ ((Fw (FastV.m f)) ∧ (Fz (a + b))))) ∧ (Q (SV.lst (LV.num ((a + b) % FastV.m f)))))) := by kernel_rfl
theorem vcFSub (f : FastV) (a b : Nat) (Q : SV → Prop) : LnRaw tt spQ3 3 [] {} Tryz.f36 Q (f, (⟨a⟩ : Num), (⟨b⟩ : Num), ()) =
 (((Sm a) ∧ (Sm (FastV.m f))) ∧ (((Sm (a + FastV.m f)) ∧ ((b ≤ a + FastV.m f) ∧ (Sm b))) ∧ (((FastV.mu f = muN (FastV.m f)) ∧ (((0 : Nat) < FastV.m f) ∧ ((Fw (FastV.m f)) ∧ (Fz (a + FastV.m f - b))))) ∧ (Q (SV.lst (LV.num ((a + FastV.m f - b) % FastV.m f))))))) := by kernel_rfl
theorem vcFInv (f : FastV) (a : Nat) (Q : SV → Prop) : LnRaw tt spQ5 3 [] {} Tryz.f38 Q (f, (⟨a⟩ : Num), ()) =
 (((Sm (FastV.m f)) ∧ ((Int.toNat (2 : Int) ≤ FastV.m f) ∧ (Sm (Int.toNat (2 : Int))))) ∧ (((FastV.mu f = muN (FastV.m f)) ∧ (((0 : Nat) < FastV.m f) ∧ ((Fw (FastV.m f)) ∧ ((Fw a) ∧ (Fw (FastV.m f - Int.toNat (2 : Int))))))) ∧ (Q (SV.lst (LV.num (a ^ (FastV.m f - Int.toNat (2 : Int)) % FastV.m f)))))) := by kernel_rfl
noncomputable def nFM : SpecF := fspec (α := F2) (β := Num) (fun a => some (a.1 = fV ∧ a.2.1.n < pN ∧ a.2.2.1.n < pN)) (fun a => ⟨qM a.2.1.n a.2.2.1.n⟩)
noncomputable def nFA : SpecF := fspec (α := F2) (β := Num) (fun a => some (a.1 = fV ∧ a.2.1.n < pN ∧ a.2.2.1.n < pN)) (fun a => ⟨qA a.2.1.n a.2.2.1.n⟩)
noncomputable def nFS : SpecF := fspec (α := F2) (β := Num) (fun a => some (a.1 = fV ∧ a.2.1.n < pN ∧ a.2.2.1.n < pN)) (fun a => ⟨qS a.2.1.n a.2.2.1.n⟩)
noncomputable def nFE : SpecF := fspec (α := F2) (β := Num) (fun a => some (a.1 = fV ∧ a.2.1.n < pN ∧ a.2.2.1.n ≤ pN)) (fun a => ⟨qE a.2.1.n a.2.2.1.n⟩)
noncomputable def nFI : SpecF := fspec (α := F1) (β := Num) (fun a => some (a.1 = fV ∧ a.2.1.n < pN)) (fun a => ⟨qI a.2.1.n⟩)
noncomputable def spR0 : Specs := (37, nFM) :: (39, nFA) :: (36, nFS) :: (75, nFE) :: (38, nFI) :: (14, nField) :: R1.spN

/-- The reference's point. -/
structure RP where
  x : Nat
  y : Nat
  z : Nat
def RP.sv (p : RP) : SV := .agg [.lst (.num p.x), .lst (.num p.y), .lst (.num p.z)]
def dRP : SV → Option RP
  | .agg [a, b, c] => match Enc.dec (α := Num) a, Enc.dec (α := Num) b, Enc.dec (α := Num) c with
    | some x, some y, some z => some ⟨x.n, y.n, z.n⟩
    | _, _, _ => none
  | _ => none
instance : Enc RP where
  enc := RP.sv
  dec := dRP
  ok := by
    intro s a h at_ w v r
    unfold dRP at h
    split at h
    · split at h
      · rename_i x y z h1 h2 h3
        simp only [Option.some.injEq] at h; subst h
        simp only [Rel] at r
        obtain ⟨vs, rfl, r⟩ := r
        simp only [RelL] at r
        obtain ⟨u1, l1, rfl, r1, u2, l2, rfl, r2, u3, l3, rfl, r3, rfl⟩ := r
        have k1 := Enc.ok h1 r1
        have k2 := Enc.ok h2 r2
        have k3 := Enc.ok h3 r3
        simp only [RP.sv, Rel]
        exact ⟨_, rfl, RelL.cons k1 (RelL.cons k2 (RelL.cons k3 RelL.nil))⟩
      · cases h
    · cases h
  nn _ := rfl
/-- A loop's own point. -/
structure PRP where
  v : RP
def dRPC : List SV → Option RP
  | [.lst (.num a), .lst (.num b), .lst (.num c)] => some ⟨a, b, c⟩
  | _ => none
def RP.Ok (p : RP) : Prop := p.x < pN ∧ p.y < pN ∧ p.z < pN
noncomputable def rSide (x : Nat) : Nat := qA (qS (qM (qM x x) x) (qM 3 x)) hB
theorem vcRSide (x : Nat) (Q : SV → Prop) : LnRaw tt ((35, nHexB) :: spR0) 9 [] {} Tryz.f41 Q (fV, (⟨x⟩ : Num), ()) =
 ((Value.string (ByteArray.mk #[(53 : UInt8), (97 : UInt8), (99 : UInt8), (54 : UInt8), (51 : UInt8), (53 : UInt8), (100 : UInt8), (56 : UInt8), (97 : UInt8), (97 : UInt8), (51 : UInt8), (97 : UInt8), (57 : UInt8), (51 : UInt8), (101 : UInt8), (55 : UInt8), (98 : UInt8), (51 : UInt8), (101 : UInt8), (98 : UInt8), (98 : UInt8), (100 : UInt8), (53 : UInt8), (53 : UInt8), (55 : UInt8), (54 : UInt8), (57 : UInt8), (56 : UInt8), (56 : UInt8), (54 : UInt8), (98 : UInt8), (99 : UInt8), (54 : UInt8), (53 : UInt8), (49 : UInt8), (100 : UInt8), (48 : UInt8), (54 : UInt8), (98 : UInt8), (48 : UInt8), (99 : UInt8), (99 : UInt8), (53 : UInt8), (51 : UInt8), (98 : UInt8), (48 : UInt8), (102 : UInt8), (54 : UInt8), (51 : UInt8), (98 : UInt8), (99 : UInt8), (101 : UInt8), (51 : UInt8), (99 : UInt8), (51 : UInt8), (101 : UInt8), (50 : UInt8), (55 : UInt8), (100 : UInt8), (50 : UInt8), (54 : UInt8), (48 : UInt8), (52 : UInt8), (98 : UInt8)]) = strB) ∧ (((fV = fV) ∧ ((x < pN) ∧ (x < pN))) ∧ (((fV = fV) ∧
 ((qM x x < pN) ∧ (x < pN))) ∧ (((fV = fV) ∧ ((Int.toNat (3 : Int) < pN) ∧ (x < pN))) ∧ (((fV = fV) ∧ ((qM (qM x x) x < pN) ∧ (qM (Int.toNat (3 : Int)) x < pN))) ∧ (((fV = fV) ∧ ((qS (qM (qM x x) x) (qM (Int.toNat (3 : Int)) x) < pN) ∧ (hB < pN))) ∧ (Q (SV.lst (LV.num (qA (qS (qM (qM x x) x) (qM (Int.toNat (3 : Int)) x)) hB)))))))))) := by kernel_rfl
noncomputable def nRSide : SpecF := fspec (α := F1) (β := Num) (fun a => some (a.1 = fV ∧ a.2.1.n < pN)) (fun a => ⟨rSide a.2.1.n⟩)
noncomputable def spR1 : Specs := (41, nRSide) :: spR0
noncomputable def rOn (x y : Nat) : Bool := decide (x < pN) && (decide (y < pN) && decide (qM y y = rSide x))
noncomputable def nROn : SpecF := fspec (α := F2) (β := Bool) (fun a => some (a.1 = fV ∧ Sm a.2.1.n ∧ Sm a.2.2.1.n)) (fun a => rOn a.2.1.n a.2.2.1.n)
def rZero : RP := ⟨1, 1, 0⟩
def nRZero : SpecF := fspec (α := Unit) total (fun _ => rZero)
noncomputable def rBase : RP := ⟨hX, hY, 1⟩
noncomputable def nRBase : SpecF := fspec (α := Unit) total (fun _ => rBase)
abbrev FP1 := FastV × RP × Unit
abbrev FP2 := FastV × RP × RP × Unit
noncomputable def rPair (p : RP) : Nat × Nat × Bool := if p.z = 0 then (0, 0, false) else (qM p.x (qM (qI p.z) (qI p.z)), qM p.y (qM (qM (qI p.z) (qI p.z)) (qI p.z)), true)
noncomputable def nRPair : SpecF := fspec (α := FP1) (β := Num × Num × Bool) (fun a => some (a.1 = fV ∧ a.2.1.Ok)) (fun a => (⟨(rPair a.2.1).1⟩, ⟨(rPair a.2.1).2.1⟩, (rPair a.2.1).2.2))
theorem vcRPairA (p : RP) (Q : SV → Prop) : LnRaw tt spR1 9 [(1, 3, .b true)] {} Tryz.f32 Q (fV, p, ()) =
 ((((↑(List.length (dg (RP.z p))) : Int) == (0 : Int)) = true) ∧ (Q (SV.tup [SV.val (Value.slice none (0 : Nat) (0 : Nat)), SV.val (Value.slice none (0 : Nat) (0 : Nat)), SV.bool false]))) := by kernel_rfl
theorem vcRPairB (p : RP) (Q : SV → Prop) : LnRaw tt spR1 9 [(1, 3, .b false)] {} Tryz.f32 Q (fV, p, ()) =
 ((((↑(List.length (dg (RP.z p))) : Int) == (0 : Int)) = false) ∧ (((fV = fV) ∧ (RP.z p < pN)) ∧ (((fV = fV) ∧ ((qI (RP.z p) < pN) ∧ (qI (RP.z p) < pN))) ∧ (((fV = fV) ∧ ((RP.x p < pN) ∧ (qM (qI (RP.z p)) (qI (RP.z p)) < pN))) ∧ (((fV = fV) ∧ ((qM (qI (RP.z p)) (qI (RP.z p)) < pN) ∧ (qI (RP.z p) < pN))) ∧ (((fV = fV) ∧ ((RP.y p < pN) ∧ (qM (qM (qI (RP.z p)) (qI (RP.z p))) (qI (RP.z p)) < pN))) ∧ (Q (SV.tup [SV.lst (LV.num (qM (RP.x p) (qM (qI (RP.z p)) (qI (RP.z p))))), SV.lst (LV.num (qM (RP.y p) (qM (qM (qI (RP.z p)) (qI (RP.z p))) (qI (RP.z p))))), SV.bool true])))))))) := by kernel_rfl
noncomputable def rNeg (p : RP) : RP := ⟨p.x, qS 0 p.y, p.z⟩
noncomputable def nRNeg : SpecF := fspec (α := FP1) (fun a => some (a.1 = fV ∧ a.2.1.Ok)) (fun a => rNeg a.2.1)
noncomputable def rDblF (p : RP) : RP :=
  let z2 := qM p.z p.z
  let top := qM 3 (qS (qM p.x p.x) (qM z2 z2))
  let low := qM 2 p.y
  let l2 := qM low low
  let xx := qM p.x l2
  let x := qS (qM top top) (qM 2 xx)
  ⟨x, qS (qM top (qS xx x)) (qM p.y (qM l2 low)), qM low p.z⟩
noncomputable def rDbl0 (p : RP) : RP := if p.z = 0 then rZero else if p.y = 0 then rZero else rDblF p
theorem rd_ex : ∃ f : RP → RP, f = rDbl0 := ⟨_, rfl⟩
noncomputable def rDbl : RP → RP := Classical.choose rd_ex
theorem rDbl_eq : rDbl = rDbl0 := Classical.choose_spec rd_ex
noncomputable def nRDbl : SpecF := fspec (α := FP1) (fun a => some (a.1 = fV ∧ a.2.1.Ok)) (fun a => rDbl a.2.1)
noncomputable def spR2 : Specs := (1000004, Sym.sNo) :: (1000006, Sym.sNo) :: (32, nRPair) :: (1000003, Sym.sNo) :: spR1
noncomputable def rChord (p q : RP) : RP :=
  let z1 := qM p.z p.z
  let z2 := qM q.z q.z
  let u1 := qM p.x z2
  let s1 := qM p.y (qM z2 q.z)
  let h := qS (qM q.x z1) u1
  let d := qS (qM q.y (qM z1 p.z)) s1
  let h2 := qM h h
  let h3 := qM h2 h
  let v := qM u1 h2
  let x := qS (qS (qM d d) h3) (qA v v)
  ⟨x, qS (qM d (qS v x)) (qM s1 h3), qM h (qM p.z q.z)⟩
noncomputable def rU (p q : RP) : Prop := qM p.x (qM q.z q.z) = qM q.x (qM p.z p.z)
noncomputable def rS (p q : RP) : Prop := qM p.y (qM (qM q.z q.z) q.z) = qM q.y (qM (qM p.z p.z) p.z)
open Classical in
noncomputable def rAdd0 (p q : RP) : RP := if p.z = 0 then q else if q.z = 0 then p else if rU p q then (if rS p q then rDbl p else rZero) else rChord p q
theorem ra_ex : ∃ f : RP → RP → RP, f = rAdd0 := ⟨_, rfl⟩
noncomputable def rAdd : RP → RP → RP := Classical.choose ra_ex
theorem rAdd_eq : rAdd = rAdd0 := Classical.choose_spec ra_ex
noncomputable def nRAdd : SpecF := fspec (α := FP2) (fun a => some (a.1 = fV ∧ a.2.1.Ok ∧ a.2.2.1.Ok)) (fun a => rAdd a.2.1 a.2.2.1)
noncomputable def spR3 : Specs := (1000002, Sym.sNo) :: spR2
theorem vcRBytesA (p : RP) (Q : SV → Prop) : LnRaw tt spR3 9 [(2, 1, .b true)] {} Tryz.f13 Q (fV, p, ()) =
 (((fV = fV) ∧ ((RP.x p < pN) ∧ ((RP.y p < pN) ∧ (RP.z p < pN)))) ∧ (((!Prod.snd (Prod.snd (rPair p))) = true) ∧ (Q (SV.lst (LV.bytes [UInt8.ofNat (Int.toNat (0 : Int))]))))) := by kernel_rfl
theorem vcRBytesB (p : RP) (Q : SV → Prop) : LnRaw tt spR3 9 [(2, 1, .b false)] {} Tryz.f13 Q (fV, p, ()) =
 (((fV = fV) ∧ ((RP.x p < pN) ∧ ((RP.y p < pN) ∧ (RP.z p < pN)))) ∧ (((!Prod.snd (Prod.snd (rPair p))) = false) ∧ (((Sm (Prod.fst (Prod.snd (rPair p)))) ∧ (((0 : Int) ≤ (0 : Int)) ∧ ((0 : Int) ≤ (1073741824 : Int)))) ∧ (((Sm (Prod.fst (rPair p))) ∧ (((0 : Int) ≤ (32 : Int)) ∧ ((32 : Int) ≤ (1048576 : Int)))) ∧ ((((0 : Nat) + (1 : Nat) = (1 : Nat)) ∧ (List.length ([UInt8.ofInt (IntKind.wrap IntKind.i64 ((2 : Int) + (↑(Prod.fst (Prod.snd (rPair p)) / (2 : Nat) ^ Int.toNat (0 : Int) % (2 : Nat)) : Int)))] ++ List.reverse (bytesN (Prod.fst (rPair p)) (Int.toNat (32 : Int)))) ≤ appLim)) ∧ (Q (SV.lst (LV.bytes (List.drop (0 : Nat) (List.take ((0 : Nat) + List.length ([UInt8.ofInt (IntKind.wrap IntKind.i64 ((2 : Int) + (↑(Prod.fst (Prod.snd (rPair p)) / (2 : Nat) ^ Int.toNat (0 : Int) % (2 : Nat)) : Int)))] ++ List.reverse (bytesN (Prod.fst (rPair p)) (Int.toNat (32 : Int))))) ([UInt8.ofInt (IntKind.wrap IntKind.i64 ((2 : Int) +
 (↑(Prod.fst (Prod.snd (rPair p)) / (2 : Nat) ^ Int.toNat (0 : Int) % (2 : Nat)) : Int)))] ++ List.reverse (bytesN (Prod.fst (rPair p)) (Int.toNat (32 : Int)))))))))))))) := by kernel_rfl
end Go.Proofs.YtficbeeoafiiaaaGreatDoor.P12
