/- A symbolic machine for Go functions, and what the functions that the law reaches come to: Limb2, Limb3, Limb4, Limb5, Limb6, Law01, LawBack, LimbLaws2, LimbLaws3, LawBack2, LawsA, LawsB, RingA, RingB, RingC, RingD, RingE. -/
import Derived.Test.YtibdipfpfddliaaQ5
import Derived.Test.YtibdipfpfddliaaQ2
import Derived.Test.YtibdipfpfddliaaQ23
import Derived.Test.YtibdipfpfddliaaQ6
import Derived.Test.YtibdipfpfddliaaQ4
import Derived.Test.YtibdipfpfddliaaQ14
/- Package limb: shifts, bits, bytes. -/
set_option maxRecDepth 10000
namespace Go.Proofs.Ytibdipfpfddliaa
open Go.Sym

/-! math/bits.Len64 -/
def len64 (x : UInt64) : Int := (Lib.bitLen x.toNat : Nat)
abbrev sLen64 : SpecF := fspec (α := UInt64 × Unit) total fun a => len64 a.1
theorem ok_Len64 : SpecOK Try.prog 1000001 Sym.sNo := Sym.sNo_ok _ _
def sp3 : Specs := (1000001, Sym.sNo) :: sp2
theorem sp3_ok : SpecsOK Try.prog sp3 := .cons ok_Len64 sp2_ok

def wr (n : Int) : Int := IntKind.i64.wrap n
def limb_Bits (a : Four) : Int :=
  cond (a.w3 != 0) (wr (192 + len64 a.w3)) (cond (a.w2 != 0) (wr (128 + len64 a.w2)) (cond (a.w1 != 0) (wr (64 + len64 a.w1)) (cond (a.w0 != 0) (wr (0 + len64 a.w0)) 0)))
abbrev sBits : SpecF := fspec (α := Four × Unit) total fun a => limb_Bits a.1
theorem ok_Bits : SpecOK Try.prog 1000000 Sym.sNo := Sym.sNo_ok _ _
/-! Shifts. -/
def lx (x y : UInt64) (k : Nat) : UInt64 := cond (Nat.blt 0 k) (shl64 x k ||| shr64 y (64 - k)) (shl64 x k)
def rx (x y : UInt64) (k : Nat) : UInt64 := cond (Nat.blt 0 k) (shr64 x k ||| shl64 y (64 - k)) (shr64 x k)
def leftN (a : Four) (n : Nat) : Four :=
  match n / 64 with
  | 0 => ⟨shl64 a.w0 (n % 64), lx a.w1 a.w0 (n % 64), lx a.w2 a.w1 (n % 64), lx a.w3 a.w2 (n % 64)⟩
  | 1 => ⟨0, shl64 a.w0 (n % 64), lx a.w1 a.w0 (n % 64), lx a.w2 a.w1 (n % 64)⟩
  | 2 => ⟨0, 0, shl64 a.w0 (n % 64), lx a.w1 a.w0 (n % 64)⟩
  | _ => ⟨0, 0, 0, shl64 a.w0 (n % 64)⟩
def rightN (a : Four) (n : Nat) : Four :=
  match n / 64 with
  | 0 => ⟨rx a.w0 a.w1 (n % 64), rx a.w1 a.w2 (n % 64), rx a.w2 a.w3 (n % 64), shr64 a.w3 (n % 64)⟩
  | 1 => ⟨rx a.w1 a.w2 (n % 64), rx a.w2 a.w3 (n % 64), shr64 a.w3 (n % 64), 0⟩
  | 2 => ⟨rx a.w2 a.w3 (n % 64), shr64 a.w3 (n % 64), 0, 0⟩
  | _ => ⟨shr64 a.w3 (n % 64), 0, 0, 0⟩
def bitN (a : Four) (n : Nat) : UInt64 :=
  match n / 64 with
  | 0 => shr64 a.w0 (n % 64) &&& 1
  | 1 => shr64 a.w1 (n % 64) &&& 1
  | 2 => shr64 a.w2 (n % 64) &&& 1
  | _ => shr64 a.w3 (n % 64) &&& 1
def zero4 : Four := ⟨0, 0, 0, 0⟩
def limb_Left (a : Four) (n : Int) : Four := if n ≤ 0 then a else if 255 < n then zero4 else leftN a n.toNat
def limb_Right (a : Four) (n : Int) : Four := if n ≤ 0 then a else if 255 < n then zero4 else rightN a n.toNat
def limb_Bit (a : Four) (n : Int) : UInt64 := if n < 0 then 0 else if 255 < n then 0 else bitN a n.toNat

end Go.Proofs.Ytibdipfpfddliaa
/- Package limb: shifts and a bit, walked. -/
set_option maxRecDepth 10000
namespace Go.Proofs.Ytibdipfpfddliaa
open Go.Sym

def lxK (x y K : UInt64) : UInt64 := shl64 x K.toNat ||| shr64 y ((64 : UInt64) - K).toNat
def rxK (x y K : UInt64) : UInt64 := shr64 x K.toNat ||| shl64 y ((64 : UInt64) - K).toNat
def leftK (a : Four) (K : UInt64) : Nat → Four
  | 0 => ⟨shl64 a.w0 K.toNat, lxK a.w1 a.w0 K, lxK a.w2 a.w1 K, lxK a.w3 a.w2 K⟩
  | 1 => ⟨0, shl64 a.w0 K.toNat, lxK a.w1 a.w0 K, lxK a.w2 a.w1 K⟩
  | 2 => ⟨0, 0, shl64 a.w0 K.toNat, lxK a.w1 a.w0 K⟩
  | _ => ⟨0, 0, 0, shl64 a.w0 K.toNat⟩
def rightK (a : Four) (K : UInt64) : Nat → Four
  | 0 => ⟨rxK a.w0 a.w1 K, rxK a.w1 a.w2 K, rxK a.w2 a.w3 K, shr64 a.w3 K.toNat⟩
  | 1 => ⟨rxK a.w1 a.w2 K, rxK a.w2 a.w3 K, shr64 a.w3 K.toNat, 0⟩
  | 2 => ⟨rxK a.w2 a.w3 K, shr64 a.w3 K.toNat, 0, 0⟩
  | _ => ⟨shr64 a.w3 K.toNat, 0, 0, 0⟩
def left0 (a : Four) : Nat → Four
  | 0 => ⟨shl64 a.w0 0, shl64 a.w1 0, shl64 a.w2 0, shl64 a.w3 0⟩
  | 1 => ⟨0, shl64 a.w0 0, shl64 a.w1 0, shl64 a.w2 0⟩
  | 2 => ⟨0, 0, shl64 a.w0 0, shl64 a.w1 0⟩
  | _ => ⟨0, 0, 0, shl64 a.w0 0⟩
def right0 (a : Four) : Nat → Four
  | 0 => ⟨shr64 a.w0 0, shr64 a.w1 0, shr64 a.w2 0, shr64 a.w3 0⟩
  | 1 => ⟨shr64 a.w1 0, shr64 a.w2 0, shr64 a.w3 0, 0⟩
  | 2 => ⟨shr64 a.w2 0, shr64 a.w3 0, 0, 0⟩
  | _ => ⟨shr64 a.w3 0, 0, 0, 0⟩
def bitK (a : Four) (K : UInt64) : Nat → UInt64
  | 0 => shr64 a.w0 K.toNat &&& 1
  | 1 => shr64 a.w1 K.toNat &&& 1
  | 2 => shr64 a.w2 K.toNat &&& 1
  | _ => shr64 a.w3 K.toNat &&& 1
def lowOf (n : Int) : UInt64 := UInt64.ofInt (n.tmod 64)

abbrev A2 := Four × Int × Unit
noncomputable def vR (D : Dec) (t : Four) (a : A2) : Prop := FnRaw tt sp2 9 D Try.f7 (fun _ : A2 => t) a
def dLow : Dec := [(1, 1, .b true)]
def dHigh : Dec := [(1, 1, .b false), (3, 1, .b true)]
def dK (q : Nat) : Dec := [(1, 1, .b false), (3, 1, .b false), (5, 1, .i (Int.ofNat q)), (11, 1, .b true)]
def d0 (q : Nat) : Dec := [(1, 1, .b false), (3, 1, .b false), (5, 1, .i (Int.ofNat q)), (5, 3, .i 0)]
def oK (n : Int) (q : Nat) (r : Prop) : Prop := decide (n ≤ 0) = false ∧ decide (n > 255) = false ∧ wr (n.tdiv 64) = Int.ofNat q ∧ times (4 - q) (decide (0 < lowOf n) = true) r
def o0 (n : Int) (q : Nat) (r : Prop) : Prop := decide (n ≤ 0) = false ∧ decide (n > 255) = false ∧ wr (n.tdiv 64) = Int.ofNat q ∧ n.tmod 64 = 0 ∧ r

theorem right_low (a : Four) (n : Int) : vR dLow a (a, n, ()) = (decide (n ≤ 0) = true ∧ Same a.sv) := by kernel_rfl
theorem right_high (a : Four) (n : Int) : vR dHigh zero4 (a, n, ()) = (decide (n ≤ 0) = false ∧ decide (n > 255) = true ∧ Same zero4.sv) := by kernel_rfl
theorem right_K (a : Four) (n : Int) : (List.range 4).map (fun q => vR (dK q) (rightK a (lowOf n) q) (a, n, ())) = (List.range 4).map fun q => oK n q (Same (rightK a (lowOf n) q).sv) := by kernel_rfl
theorem right_0 (a : Four) (n : Int) : (List.range 4).map (fun q => vR (d0 q) (right0 a q) (a, n, ())) = (List.range 4).map fun q => o0 n q (Same (right0 a q).sv) := by kernel_rfl
end Go.Proofs.Ytibdipfpfddliaa
/- Package limb: shifts and a bit as functions of numbers; bytes. -/
set_option maxRecDepth 10000
namespace Go.Proofs.Ytibdipfpfddliaa
open Go.Sym

theorem wr_small {n : Int} (h : -9223372036854775808 ≤ n) (h' : n < 9223372036854775808) : wr n = n := by
  simp only [wr, IntKind.wrap, IntKind.signed, IntKind.bits, Bool.true_and]
  split
  · rename_i k; simp at k; omega
  · rename_i k; simp at k; omega
theorem low_nat {n : Int} (h : 0 ≤ n) : (lowOf n).toNat = n.toNat % 64 := by
  obtain ⟨m, rfl⟩ := Int.eq_ofNat_of_zero_le h
  have e : (m : Int).tmod 64 = ((m % 64 : Nat) : Int) := Int.tmod_eq_emod_of_nonneg (by omega)
  simp only [lowOf, e, Int.toNat_natCast]
  have : (UInt64.ofInt ((m % 64 : Nat) : Int)).toNat = m % 64 := by
    rw [UInt64.ofInt]
    simp
    omega
  exact this
theorem sub_low {K : UInt64} (h : K.toNat < 64) : ((64 : UInt64) - K).toNat = 64 - K.toNat := by
  rw [UInt64.toNat_sub_of_le]
  · rfl
  · rw [UInt64.le_iff_toNat_le]; show _ ≤ 64; omega
theorem lxK_eq (x y K : UInt64) (h0 : 0 < K.toNat) (h : K.toNat < 64) : lxK x y K = lx x y K.toNat := by
  simp only [lxK, lx, sub_low h, show Nat.blt 0 K.toNat = true by rw [Nat.blt_eq]; exact h0, cond_true]
theorem rxK_eq (x y K : UInt64) (h0 : 0 < K.toNat) (h : K.toNat < 64) : rxK x y K = rx x y K.toNat := by
  simp only [rxK, rx, sub_low h, show Nat.blt 0 K.toNat = true by rw [Nat.blt_eq]; exact h0, cond_true]
theorem quo_eq {n : Int} (h : 0 ≤ n) (h' : n ≤ 255) : wr (n.tdiv 64) = Int.ofNat (n.toNat / 64) := by
  obtain ⟨m, rfl⟩ := Int.eq_ofNat_of_zero_le h
  rw [show (m : Int).tdiv 64 = ((m / 64 : Nat) : Int) from Int.tdiv_eq_ediv_of_nonneg (by omega)]
  rw [wr_small (by omega) (by omega)]
  simp
theorem tmod_zero {n : Int} (h : 0 ≤ n) (hk : n.toNat % 64 = 0) : n.tmod 64 = 0 := by
  rw [Int.tmod_eq_emod_of_nonneg h]; omega
abbrev sLeft : SpecF := fspec (α := A2) total fun p => limb_Left p.1 p.2.1
theorem ok_Left : SpecOK Try.prog 1000001 Sym.sNo := Sym.sNo_ok _ _
theorem right_cases (a : Four) (n : Int) : ∃ D, FnVD tt sp2 9 D Try.f7 (fun p : A2 => limb_Right p.1 p.2.1) (a, n, ()) := by
  by_cases h0 : n ≤ 0
  · refine ⟨dLow, FnVD.of a (by simp [limb_Right, h0]) (right_low a n) ⟨by simp [h0], rfl⟩⟩
  by_cases h1 : 255 < n
  · refine ⟨dHigh, FnVD.of zero4 (by simp [limb_Right, h0, h1]) (right_high a n) ⟨by simp; omega, by simp [h1], rfl⟩⟩
  have hn : n.toNat / 64 < 4 := by omega
  have hlow := low_nat (n := n) (by omega)
  by_cases hk : n.toNat % 64 = 0
  · refine ⟨d0 (n.toNat / 64), FnVD.raw (right0 a (n.toNat / 64)) ?_ (all_of_map 4 (right_0 a n) _ hn ⟨by simp; omega, by simp; omega, quo_eq (by omega) (by omega), tmod_zero (by omega) hk, rfl⟩)⟩
    simp only [limb_Right, h0, h1, if_false, rightN, hk]
    have : n.toNat / 64 = 0 ∨ n.toNat / 64 = 1 ∨ n.toNat / 64 = 2 ∨ n.toNat / 64 = 3 := by omega
    rcases this with e | e | e | e <;> rw [e] <;> rfl
  · have hlt : (lowOf n).toNat < 64 := by omega
    refine ⟨dK (n.toNat / 64), FnVD.raw (rightK a (lowOf n) (n.toNat / 64)) ?_ (all_of_map 4 (right_K a n) _ hn ⟨by simp; omega, by simp; omega, quo_eq (by omega) (by omega), times_mk (by simp [UInt64.lt_iff_toNat_lt]; omega) rfl _⟩)⟩
    simp only [limb_Right, h0, h1, if_false, rightN, ← hlow]
    have : n.toNat / 64 = 0 ∨ n.toNat / 64 = 1 ∨ n.toNat / 64 = 2 ∨ n.toNat / 64 = 3 := by omega
    rcases this with e | e | e | e <;> rw [e] <;> simp only [rightK, rxK_eq _ _ _ (show 0 < (lowOf n).toNat by omega) hlt]
abbrev sRight : SpecF := fspec (α := A2) total fun p => limb_Right p.1 p.2.1
theorem ok_Right : SpecOK Try.prog 7 sRight :=
  fn_okD mixed tt_ok sp2_ok 9 Try.func7 (by decide +kernel) (by kernel_rfl) (fun ⟨a, n, ()⟩ _ => right_cases a n)
abbrev sBit : SpecF := fspec (α := A2) total fun p => limb_Bit p.1 p.2.1
theorem ok_Bit : SpecOK Try.prog 1000000 Sym.sNo := Sym.sNo_ok _ _
end Go.Proofs.Ytibdipfpfddliaa
/- Package limb: numbers of bytes, bytes of numbers. -/
set_option maxRecDepth 10000
namespace Go.Proofs.Ytibdipfpfddliaa
open Go.Sym

def byteAt (big : Bool) (k : Nat) : Nat := cond big (31 - k) k
def wordOf (xs : List UInt8) (big : Bool) (i : Nat) : UInt64 := (List.range 8).foldl (fun acc j => acc ||| shl64 (xs.getD (byteAt big (8 * i + j)) 0).toUInt64 (8 * j)) 0
def fourOf (xs : List UInt8) (big : Bool) : Four := ⟨wordOf xs big 0, wordOf xs big 1, wordOf xs big 2, wordOf xs big 3⟩
def limb_Of (xs : List UInt8) (big : Bool) : Four × Int := if xs.length = 32 then (fourOf xs big, 0) else (zero4, 2)
def obl : List Int → Int → Prop → Prop
  | [], _, p => p
  | k :: ks, L, p => (0 ≤ k ∧ k < L) ∧ obl ks L p
theorem obl_mk {L : Int} {p : Prop} (hp : p) : ∀ {ks : List Int}, (∀ k ∈ ks, 0 ≤ k ∧ k < L) → obl ks L p
  | [], _ => hp
  | k :: ks, h => ⟨h k (by simp), obl_mk hp (fun x hx => h x (by simp [hx]))⟩
abbrev AOf := List UInt8 × Bool × Unit
abbrev sOf : SpecF := fspec (α := AOf) total fun p => limb_Of p.1 p.2.1
theorem ok_Of : SpecOK Try.prog 1000000 Sym.sNo := Sym.sNo_ok _ _
/-! slices.Reverse of 32 bytes of the caller's own. -/
def sReverse : MSpecF := fun look svs =>
  match svs with
  | [.sl b 0 32] => match look b with
    | some [.own (.bytes xs)] => if xs.length = 32 then some ⟨none, .tup [], [(b, [.own (.bytes xs.reverse)])]⟩ else none
    | _ => none
  | _ => none
def revA (g : Nat → UInt8) : List UInt8 := (List.range 32).map g
def revB (g : Nat → UInt8) : List UInt8 := (List.range 32).map fun i => g (31 - i)
def revE (x : SV) (y : List Blk) : Prop := x = x ∧ y = y
theorem revE_ok (x : SV) (y : List Blk) : revE x y := And.intro (Eq.refl x) (Eq.refl y)
def revK : List Int := (List.range 16).flatMap fun k => [((31 - k : Nat) : Int), (k : Int), (k : Int), ((31 - k : Nat) : Int)]
theorem revK_ok : ∀ k ∈ revK, 0 ≤ k ∧ k < (32 : Int) := by decide
end Go.Proofs.Ytibdipfpfddliaa
/- Package limb: bytes of numbers. -/
set_option maxRecDepth 10000
namespace Go.Proofs.Ytibdipfpfddliaa
open Go.Sym

theorem asU8s_eq : ∀ {cs : List SV} {xs : List UInt8}, asU8s cs = some xs → cs = xs.map .u8
  | [], xs, h => by simp only [asU8s, Option.some.injEq] at h; subst h; rfl
  | c :: cs, xs, h => by
    cases c <;> simp only [asU8s] at h <;> try (cases h; done)
    obtain ⟨ys, h1, h2⟩ := Option.map_eq_some_iff.1 h
    subst h2
    rw [asU8s_eq h1]; rfl
theorem list_range {xs : List UInt8} {n : Nat} (h : xs.length = n) : xs = (List.range n).map fun i => xs.getD i 0 := by
  apply List.ext_getElem
  · simp [h]
  · intro i h1 h2
    simp [h1]
theorem list_rev {xs : List UInt8} (h : xs.length = 32) : xs.reverse = (List.range 32).map fun i => xs.getD (31 - i) 0 := by
  apply List.ext_getElem
  · simp [h]
  · intro i h1 h2
    have : 31 - i < xs.length := by simp at h2; omega
    simp only [List.getElem_reverse, List.getElem_map, List.getElem_range, h]
    rw [List.getD_eq_getElem?_getD, List.getElem?_eq_getElem (by omega)]; rfl
def spB : Specs := (1000001, Sym.sNo) :: sp2
def w4 (a : Four) : Nat → UInt64
  | 0 => a.w0
  | 1 => a.w1
  | 2 => a.w2
  | _ => a.w3
def bytesL (a : Four) : List UInt8 := (List.range 32).map fun i => (shr64 (w4 a (i / 8)) (8 * (i % 8))).toUInt8
def limb_Bytes (a : Four) (big : Bool) : List UInt8 := cond big (bytesL a).reverse (bytesL a)
abbrev AB := Four × Bool × Unit
def mkOb (n : Int) (p : Prop) : Prop := (0 ≤ n ∧ n = n ∧ n ≤ 1099511627776) ∧ p
theorem bytes_ob (x : SV) : mkOb 32 (obl ((List.range 32).map fun k : Nat => (k : Int)) 32 (Same x)) := by
  refine And.intro (by decide) (obl_mk (Same.mk _) fun k hk => ?_)
  obtain ⟨m, hm, rfl⟩ := List.mem_map.1 hk
  rw [List.mem_range] at hm
  omega
abbrev sBytes : SpecF := fspec (α := AB) total fun p => limb_Bytes p.1 p.2.1
theorem ok_Bytes : SpecOK Try.prog 1000000 Sym.sNo := Sym.sNo_ok _ _
end Go.Proofs.Ytibdipfpfddliaa
/- Layer 1's laws: what they begin with. -/
set_option maxRecDepth 10000
namespace Go.Proofs.Ytibdipfpfddliaa
open Go.Sym

def spL0 : Specs := [(8, sAdd), (60, sSub), (1000004, Sym.sNo), (1000002, Sym.sNo), (55, sMul), (1000006, Sym.sNo),
  (1000005, Sym.sNo), (7, sRight), (1000001, Sym.sNo), (1000007, Sym.sNo), (1000003, Sym.sNo), (61, sSelect)]
theorem spL0_ok : SpecsOK Try.prog spL0 := .cons ok_Add <| .cons ok_Sub <| .cons ok_Cmp <| .cons ok_Bits <| .cons ok_Mul <| .cons ok_MulWord <| .cons ok_Left <| .cons ok_Right <| .cons ok_Bit <| .cons ok_Of <| .cons ok_Bytes <| .cons ok_Select <| .nil _
abbrev sAwake1 : SpecF := fspec (α := Unit) total fun _ => true
theorem ok_awake1 : SpecOK Try.prog 1000000 Sym.sNo := Sym.sNo_ok _ _
def spL1 : Specs := (1000000, Sym.sNo) :: spL0
theorem spL1_ok : SpecsOK Try.prog spL1 := .cons ok_awake1 spL0_ok
end Go.Proofs.Ytibdipfpfddliaa
/- Layer 1, what is added and taken away: the law's body. -/
set_option maxRecDepth 10000
namespace Go.Proofs.Ytibdipfpfddliaa
open Go.Sym

def eq4 (x y : Four) : Bool := (x.w0 == y.w0) && ((x.w1 == y.w1) && ((x.w2 == y.w2) && ((x.w3 == y.w3) && true)))
def eq8 (x y : Eight) : Bool := (x.e0 == y.e0) && ((x.e1 == y.e1) && ((x.e2 == y.e2) && ((x.e3 == y.e3) && ((x.e4 == y.e4) && ((x.e5 == y.e5) && ((x.e6 == y.e6) && ((x.e7 == y.e7) && true)))))))
def shOf (w : UInt64) : Int := wr ((w % 256).toNat : Int)
def lessBits (x n : Int) : Int := if 0 > wr (x - n) then 0 else wr (x - n)
abbrev ABk := Four × Four × UInt64 × Unit
def backE (a b : Four) (w : UInt64) : Prop :=
  (!true) = false ∧ (!eq4 (limb_Sub (limb_Add a b).1 b).1 a) = false ∧ ((limb_Sub (limb_Add a b).1 b).2 != (limb_Add a b).2) = false ∧ ((limb_Of (limb_Bytes a true) true).2 != 0) = false ∧
  (!eq4 (limb_Of (limb_Bytes a true) true).1 a) = false ∧ (limb_Cmp a b != wr (0 - limb_Cmp b a)) = false ∧ (!eq8 (limb_Mul a b) (limb_Mul b a)) = false ∧
  (!eq4 (limb_Right (limb_Left a (shOf w)) (shOf w)) (limb_Right (limb_Left (limb_Right (limb_Left a (shOf w)) (shOf w)) (shOf w)) (shOf w))) = false ∧
  (limb_Bits (limb_Right a (shOf w)) != lessBits (limb_Bits a) (shOf w)) = false ∧
  eq4 (limb_Add (limb_MulWord a w).1 (limb_MulWord b w).1).1 (limb_MulWord (limb_Add a b).1 w).1 = true ∧ Same (.bool true)
end Go.Proofs.Ytibdipfpfddliaa
/- Package limb: order, shifts, bits, bytes, as numbers. Plain. -/
namespace Go.Proofs.Ytibdipfpfddliaa
open Go.Sym

theorem cmp_nat (a b : Four) : limb_Cmp a b = if nat4 a < nat4 b then -1 else if nat4 a = nat4 b then 0 else 1 := by
  have := u64_lt a.w0; have := u64_lt a.w1; have := u64_lt a.w2; have := u64_lt a.w3
  have := u64_lt b.w0; have := u64_lt b.w1; have := u64_lt b.w2; have := u64_lt b.w3
  have key : ∀ (x y : UInt64) (r : Int), cond (x != y) (cond (decide (x < y)) (-1) 1) r = if x.toNat < y.toNat then -1 else if x.toNat = y.toNat then r else 1 := by
    intro x y r
    by_cases h : x = y
    · subst h; simp
    · have h' : x.toNat ≠ y.toNat := fun e => h (UInt64.toNat_inj.1 e)
      have hb : (x != y) = true := by simpa using h
      by_cases hl : x < y
      · have := UInt64.lt_iff_toNat_lt.1 hl
        simp [hb, hl, this]
      · have : ¬ x.toNat < y.toNat := fun e => hl (UInt64.lt_iff_toNat_lt.2 e)
        simp [hb, hl, this, h']
  simp only [limb_Cmp, key, nat4]
  repeat' split
  all_goals first | rfl | omega

/-! Shifts. -/
theorem or_low (x y k : Nat) (hk : k ≤ 64) : (x * 2 ^ k % 18446744073709551616) ||| (y / 2 ^ (64 - k) % 2 ^ k) = x * 2 ^ k % 18446744073709551616 + y / 2 ^ (64 - k) % 2 ^ k := by
  have e : x * 2 ^ k % 18446744073709551616 = (x % 2 ^ (64 - k)) <<< k := by
    rw [Nat.shiftLeft_eq, show 18446744073709551616 = 2 ^ (64 - k) * 2 ^ k by rw [← Nat.pow_add, Nat.sub_add_cancel hk], Nat.mul_mod_mul_right]
  rw [e, ← Nat.shiftLeft_add_eq_or_of_lt (Nat.mod_lt _ (Nat.two_pow_pos k))]
theorem div_low (y : UInt64) (k : Nat) (hk : k ≤ 64) : y.toNat / 2 ^ (64 - k) % 2 ^ k = y.toNat / 2 ^ (64 - k) := by
  apply Nat.mod_eq_of_lt
  rw [Nat.div_lt_iff_lt_mul (Nat.two_pow_pos _), ← Nat.pow_add, Nat.add_sub_cancel' hk]
  exact u64_lt y
theorem lx_nat (x y : UInt64) (k : Nat) (hk : k < 64) : (lx x y k).toNat = x.toNat * 2 ^ k % 18446744073709551616 + y.toNat / 2 ^ (64 - k) := by
  have hy := u64_lt y
  by_cases h : k = 0
  · subst h
    simp only [lx, show Nat.blt 0 0 = false from rfl, cond_false, shl64_nat, Nat.sub_zero]
    have : y.toNat / 2 ^ 64 = 0 := Nat.div_eq_of_lt hy
    omega
  · have e : Nat.blt 0 k = true := by rw [Nat.blt_eq]; omega
    simp only [lx, e, cond_true, UInt64.toNat_or, shl64_nat, shr64_nat]
    have := or_low x.toNat y.toNat k (by omega)
    rw [div_low y k (by omega)] at this
    exact this
theorem rx_nat (x y : UInt64) (k : Nat) (hk : k < 64) : (rx x y k).toNat = x.toNat / 2 ^ k + y.toNat * 2 ^ (64 - k) % 18446744073709551616 := by
  have hx := u64_lt x
  by_cases h : k = 0
  · subst h
    simp only [rx, show Nat.blt 0 0 = false from rfl, cond_false, shr64_nat, Nat.sub_zero]
    have : y.toNat * 2 ^ 64 % 18446744073709551616 = 0 := Nat.mul_mod_left _ _
    omega
  · have e : Nat.blt 0 k = true := by rw [Nat.blt_eq]; omega
    simp only [rx, e, cond_true, UInt64.toNat_or, shl64_nat, shr64_nat]
    have := or_low y.toNat x.toNat (64 - k) (by omega)
    rw [show 64 - (64 - k) = k by omega] at this
    have h2 := div_low x (64 - k) (by omega)
    rw [show 64 - (64 - k) = k by omega] at h2
    rw [h2] at this
    rw [Nat.or_comm, this, Nat.add_comm]

/-- A word parted at a place: what stays and what goes over. -/
theorem part (x : UInt64) (k : Nat) (hk : k ≤ 64) : x.toNat * 2 ^ k = x.toNat * 2 ^ k % 18446744073709551616 + 18446744073709551616 * (x.toNat / 2 ^ (64 - k)) := by
  have e : 18446744073709551616 = 2 ^ (64 - k) * 2 ^ k := by rw [← Nat.pow_add, Nat.sub_add_cancel hk]
  have h := Nat.mod_add_div (x.toNat * 2 ^ k) 18446744073709551616
  have : x.toNat * 2 ^ k / 18446744073709551616 = x.toNat / 2 ^ (64 - k) := by
    rw [e, Nat.mul_div_mul_right _ _ (Nat.two_pow_pos k)]
  rw [this] at h
  exact h.symm
theorem left_nat_aux (a : Four) (q k : Nat) (hk : k < 64) (hq : q < 4) : nat4 (leftN a (64 * q + k)) = nat4 a * 2 ^ (64 * q + k) % 115792089237316195423570985008687907853269984665640564039457584007913129639936 := by
  have h0 := part a.w0 k (by omega)
  have h1 := part a.w1 k (by omega)
  have h2 := part a.w2 k (by omega)
  have h3 := part a.w3 k (by omega)
  have e : nat4 a * 2 ^ k = a.w0.toNat * 2 ^ k + 18446744073709551616 * (a.w1.toNat * 2 ^ k + 18446744073709551616 * (a.w2.toNat * 2 ^ k + 18446744073709551616 * (a.w3.toNat * 2 ^ k))) := by rw [nat4]; grind
  have eq : (64 * q + k) / 64 = q := by omega
  have ek : (64 * q + k) % 64 = k := by omega
  have l0 := (lx_nat a.w1 a.w0 k hk)
  have l1 := (lx_nat a.w2 a.w1 k hk)
  have l2 := (lx_nat a.w3 a.w2 k hk)
  have b0 := u64_lt (lx a.w1 a.w0 k)
  have b1 := u64_lt (lx a.w2 a.w1 k)
  have b2 := u64_lt (lx a.w3 a.w2 k)
  have s0 := shl64_nat a.w0 k
  have z : (0 : UInt64).toNat = 0 := rfl
  rw [Nat.pow_add, Nat.mul_comm (2 ^ (64 * q)), ← Nat.mul_assoc, e]
  simp only [leftN, eq, ek]
  generalize a.w0.toNat * 2 ^ k = p0 at *
  generalize a.w1.toNat * 2 ^ k = p1 at *
  generalize a.w2.toNat * 2 ^ k = p2 at *
  generalize a.w3.toNat * 2 ^ k = p3 at *
  generalize a.w0.toNat / 2 ^ (64 - k) = d0 at *
  generalize a.w1.toNat / 2 ^ (64 - k) = d1 at *
  generalize a.w2.toNat / 2 ^ (64 - k) = d2 at *
  generalize a.w3.toNat / 2 ^ (64 - k) = d3 at *
  have : q = 0 ∨ q = 1 ∨ q = 2 ∨ q = 3 := by omega
  rcases this with rfl | rfl | rfl | rfl
  · simp only [nat4, s0, l0, l1, l2, Nat.mul_zero, Nat.pow_zero, Nat.mul_one]
    omega
  · simp only [nat4, s0, l0, l1, z, Nat.mul_one, show (2 : Nat) ^ 64 = 18446744073709551616 from rfl]
    omega
  · simp only [nat4, s0, l0, z, show (2 : Nat) ^ (64 * 2) = 340282366920938463463374607431768211456 from rfl]
    omega
  · simp only [nat4, s0, z, show (2 : Nat) ^ (64 * 3) = 6277101735386680763835789423207666416102355444464034512896 from rfl]
    omega
theorem right_nat_aux (a : Four) (q k : Nat) (hk : k < 64) (hq : q < 4) : nat4 (rightN a (64 * q + k)) = nat4 a / 2 ^ (64 * q + k) := by
  have eq : (64 * q + k) / 64 = q := by omega
  have ek : (64 * q + k) % 64 = k := by omega
  have l0 := (rx_nat a.w0 a.w1 k hk)
  have l1 := (rx_nat a.w1 a.w2 k hk)
  have l2 := (rx_nat a.w2 a.w3 k hk)
  have s3 := shr64_nat a.w3 k
  have z : (0 : UInt64).toNat = 0 := rfl
  -- x * 2^(64-k) = (low) + 18446744073709551616 * (x / 2^k)
  have pt : ∀ x : UInt64, x.toNat * 2 ^ (64 - k) = x.toNat * 2 ^ (64 - k) % 18446744073709551616 + 18446744073709551616 * (x.toNat / 2 ^ k) := fun x => by
    have h := part x (64 - k) (by omega)
    rw [show 64 - (64 - k) = k by omega] at h
    exact h
  have p1 := pt a.w1
  have p2 := pt a.w2
  have p3 := pt a.w3
  rw [Nat.pow_add, ← Nat.div_div_eq_div_mul]
  simp only [rightN, eq, ek]
  have low : ∀ x : UInt64, ∃ r, r < 2 ^ k ∧ x.toNat = r + 2 ^ k * (x.toNat / 2 ^ k) := fun x => ⟨x.toNat % 2 ^ k, Nat.mod_lt _ (Nat.two_pow_pos k), by have := Nat.mod_add_div x.toNat (2 ^ k); omega⟩
  -- a number by 2^k, of words
  have divk : ∀ (x : UInt64) (y : Nat), (x.toNat + 18446744073709551616 * y) / 2 ^ k = x.toNat / 2 ^ k + 2 ^ (64 - k) * y := fun x y => by
    have : 18446744073709551616 = 2 ^ k * 2 ^ (64 - k) := by rw [← Nat.pow_add, Nat.add_sub_cancel' (by omega)]
    rw [this, Nat.mul_assoc, Nat.add_mul_div_left _ _ (Nat.two_pow_pos k)]
  have m1 : ∀ y : Nat, 2 ^ (64 - k) * y = y * 2 ^ (64 - k) := fun y => Nat.mul_comm _ _
  have full : ∀ (w0 w1 w2 w3 : UInt64), (w0.toNat + 18446744073709551616 * (w1.toNat + 18446744073709551616 * (w2.toNat + 18446744073709551616 * w3.toNat))) / 2 ^ k =
      (w0.toNat / 2 ^ k + w1.toNat * 2 ^ (64 - k) % 18446744073709551616) + 18446744073709551616 * ((w1.toNat / 2 ^ k + w2.toNat * 2 ^ (64 - k) % 18446744073709551616) + 18446744073709551616 * ((w2.toNat / 2 ^ k + w3.toNat * 2 ^ (64 - k) % 18446744073709551616) + 18446744073709551616 * (w3.toNat / 2 ^ k))) := fun w0 w1 w2 w3 => by
    rw [divk]
    have q1 := pt w1; have q2 := pt w2; have q3 := pt w3
    have e : 2 ^ (64 - k) * (w1.toNat + 18446744073709551616 * (w2.toNat + 18446744073709551616 * w3.toNat)) = w1.toNat * 2 ^ (64 - k) + 18446744073709551616 * (w2.toNat * 2 ^ (64 - k) + 18446744073709551616 * (w3.toNat * 2 ^ (64 - k))) := by grind
    rw [e]
    generalize w1.toNat * 2 ^ (64 - k) = u1 at *
    generalize w2.toNat * 2 ^ (64 - k) = u2 at *
    generalize w3.toNat * 2 ^ (64 - k) = u3 at *
    omega
  have h0 := u64_lt a.w0; have h1 := u64_lt a.w1; have h2 := u64_lt a.w2; have h3 := u64_lt a.w3
  have this : q = 0 ∨ q = 1 ∨ q = 2 ∨ q = 3 := by omega
  rcases this with rfl | rfl | rfl | rfl
  · simp only [nat4, l0, l1, l2, s3, Nat.mul_zero, Nat.pow_zero, Nat.div_one, full]
  · have e : nat4 a / 2 ^ (64 * 1) = a.w1.toNat + 18446744073709551616 * (a.w2.toNat + 18446744073709551616 * (a.w3.toNat + 18446744073709551616 * (0 : UInt64).toNat)) := by simp only [nat4, z, Nat.mul_one, show (2 : Nat) ^ 64 = 18446744073709551616 from rfl]; omega
    rw [e, full]; simp only [nat4, l1, l2, s3, z, Nat.zero_div, Nat.zero_mul, Nat.zero_mod, Nat.mul_zero, Nat.add_zero]
  · have e : nat4 a / 2 ^ (64 * 2) = a.w2.toNat + 18446744073709551616 * (a.w3.toNat + 18446744073709551616 * ((0 : UInt64).toNat + 18446744073709551616 * (0 : UInt64).toNat)) := by simp only [nat4, z, show (2 : Nat) ^ (64 * 2) = 340282366920938463463374607431768211456 from rfl]; omega
    rw [e, full]; simp only [nat4, l2, s3, z, Nat.zero_div, Nat.zero_mul, Nat.zero_mod, Nat.mul_zero, Nat.add_zero]
  · have e : nat4 a / 2 ^ (64 * 3) = a.w3.toNat + 18446744073709551616 * ((0 : UInt64).toNat + 18446744073709551616 * ((0 : UInt64).toNat + 18446744073709551616 * (0 : UInt64).toNat)) := by simp only [nat4, z, show (2 : Nat) ^ (64 * 3) = 6277101735386680763835789423207666416102355444464034512896 from rfl]; omega
    rw [e, full]; simp only [nat4, s3, z, Nat.zero_div, Nat.zero_mul, Nat.zero_mod, Nat.mul_zero, Nat.add_zero]
theorem left_nat (a : Four) (n : Nat) (h : n < 256) : nat4 (limb_Left a n) = nat4 a * 2 ^ n % 115792089237316195423570985008687907853269984665640564039457584007913129639936 := by
  have hlt := nat4_lt a
  by_cases h0 : n = 0
  · subst h0
    rw [show limb_Left a ((0 : Nat) : Int) = a by simp [limb_Left], Nat.pow_zero, Nat.mul_one, Nat.mod_eq_of_lt hlt]
  · rw [show limb_Left a (n : Int) = leftN a n by simp only [limb_Left, show ¬ (n : Int) ≤ 0 by omega, show ¬ (255 : Int) < n by omega, if_false, Int.toNat_natCast]]
    have := left_nat_aux a (n / 64) (n % 64) (by omega) (by omega)
    rwa [show 64 * (n / 64) + n % 64 = n by omega] at this
theorem right_nat (a : Four) (n : Nat) (h : n < 256) : nat4 (limb_Right a n) = nat4 a / 2 ^ n := by
  by_cases h0 : n = 0
  · subst h0
    rw [show limb_Right a ((0 : Nat) : Int) = a by simp [limb_Right], Nat.pow_zero, Nat.div_one]
  · rw [show limb_Right a (n : Int) = rightN a n by simp only [limb_Right, show ¬ (n : Int) ≤ 0 by omega, show ¬ (255 : Int) < n by omega, if_false, Int.toNat_natCast]]
    have := right_nat_aux a (n / 64) (n % 64) (by omega) (by omega)
    rwa [show 64 * (n / 64) + n % 64 = n by omega] at this
end Go.Proofs.Ytibdipfpfddliaa
/- Package limb: how many bits; bytes there and back. Plain. -/
namespace Go.Proofs.Ytibdipfpfddliaa
open Go.Sym

theorem bitLenAux_spec : ∀ (f x : Nat), x < 2 ^ f → x < 2 ^ Lib.bitLenAux f x ∧ Lib.bitLenAux f x ≤ f ∧ (x ≠ 0 → 0 < Lib.bitLenAux f x ∧ 2 ^ (Lib.bitLenAux f x - 1) ≤ x) ∧ (x = 0 → Lib.bitLenAux f x = 0)
  | 0, x, h => by
    have : x = 0 := by simpa using h
    subst this
    simp [Lib.bitLenAux]
  | f + 1, x, h => by
    by_cases hx : x = 0
    · subst hx; simp [Lib.bitLenAux]
    · have h2 : x / 2 < 2 ^ f := by rw [Nat.pow_succ] at h; omega
      obtain ⟨i1, i2, i3, i4⟩ := bitLenAux_spec f (x / 2) h2
      simp only [Lib.bitLenAux, hx, if_false]
      refine ⟨?_, by omega, fun _ => ⟨by omega, ?_⟩, fun e => e.elim⟩
      · rw [Nat.add_comm, Nat.pow_succ]; omega
      · by_cases h0 : x / 2 = 0
        · rw [i4 h0]; simp; omega
        · obtain ⟨j1, j2⟩ := i3 h0
          rw [Nat.add_sub_cancel_left, show Lib.bitLenAux f (x / 2) = (Lib.bitLenAux f (x / 2) - 1) + 1 by omega, Nat.pow_succ]
          omega
theorem len64_spec (x : UInt64) : ∃ n : Nat, len64 x = n ∧ n ≤ 64 ∧ x.toNat < 2 ^ n ∧ (x.toNat ≠ 0 → 0 < n ∧ 2 ^ (n - 1) ≤ x.toNat) := by
  obtain ⟨h1, h2, h3, _⟩ := bitLenAux_spec 64 x.toNat (u64_lt x)
  exact ⟨_, rfl, h2, h1, h3⟩
/-- A number's bits. -/
def IsBits (m n : Nat) : Prop := m < 2 ^ n ∧ (m ≠ 0 → 0 < n ∧ 2 ^ (n - 1) ≤ m) ∧ (m = 0 → n = 0)
theorem IsBits.unique {m n k : Nat} (h : IsBits m n) (h' : IsBits m k) : n = k := by
  obtain ⟨a1, a2, a3⟩ := h
  obtain ⟨b1, b2, b3⟩ := h'
  by_cases hm : m = 0
  · rw [a3 hm, b3 hm]
  · have c1 := a2 hm; have c2 := b2 hm
    have d1 : 2 ^ (n - 1) < 2 ^ k := Nat.lt_of_le_of_lt c1.2 b1
    have d2 : 2 ^ (k - 1) < 2 ^ n := Nat.lt_of_le_of_lt c2.2 a1
    have e1 := (Nat.pow_lt_pow_iff_right (a := 2) (by omega)).1 d1
    have e2 := (Nat.pow_lt_pow_iff_right (a := 2) (by omega)).1 d2
    omega
theorem IsBits.up {m n l : Nat} (r : Nat) (h : IsBits m n) (hm : m ≠ 0) (hr : r < 2 ^ l) : IsBits (r + 2 ^ l * m) (l + n) := by
  obtain ⟨h1, h2, _⟩ := h
  obtain ⟨h3, h4⟩ := h2 hm
  have hp := Nat.two_pow_pos l
  refine ⟨?_, fun _ => ⟨by omega, ?_⟩, fun e => ?_⟩
  · rw [Nat.pow_add]
    have : 2 ^ l * (m + 1) ≤ 2 ^ l * 2 ^ n := Nat.mul_le_mul_left _ h1
    rw [Nat.mul_add] at this; omega
  · rw [show l + n - 1 = l + (n - 1) by omega, Nat.pow_add]
    have := Nat.mul_le_mul_left (2 ^ l) h4
    omega
  · exfalso
    have := Nat.mul_le_mul_left (2 ^ l) (show 1 ≤ m by omega)
    omega
theorem bits_nat (a : Four) : ∃ n : Nat, limb_Bits a = n ∧ n ≤ 256 ∧ IsBits (nat4 a) n := by
  obtain ⟨n0, e0, l0, p0, q0⟩ := len64_spec a.w0
  obtain ⟨n1, e1, l1, p1, q1⟩ := len64_spec a.w1
  obtain ⟨n2, e2, l2, p2, q2⟩ := len64_spec a.w2
  obtain ⟨n3, e3, l3, p3, q3⟩ := len64_spec a.w3
  have h0 := u64_lt a.w0; have h1 := u64_lt a.w1; have h2 := u64_lt a.w2
  have nz : ∀ x : UInt64, x ≠ 0 → x.toNat ≠ 0 := fun x h e => h (UInt64.toNat_inj.1 e)
  have big : ∀ (x : UInt64) (n : Nat), x ≠ 0 → x.toNat < 2 ^ n → (x.toNat ≠ 0 → 0 < n ∧ 2 ^ (n - 1) ≤ x.toNat) → IsBits x.toNat n := fun x n hx h h' => ⟨h, h', fun e => (nz x hx e).elim⟩
  simp only [limb_Bits]
  by_cases z3 : a.w3 = 0
  · by_cases z2 : a.w2 = 0
    · by_cases z1 : a.w1 = 0
      · by_cases z0 : a.w0 = 0
        · refine ⟨0, by simp [z0, z1, z2, z3], by omega, ?_⟩
          have : nat4 a = 0 := by simp [nat4, z0, z1, z2, z3]
          rw [this]; exact ⟨by simp, fun h => (h rfl).elim, fun _ => rfl⟩
        · refine ⟨n0, ?_, by omega, ?_⟩
          · simp only [z1, z2, z3, bne_self_eq_false, cond_false, show (a.w0 != 0) = true by simpa using z0, cond_true, e0]
            rw [wr_small (by omega) (by omega)]; omega
          · have : nat4 a = a.w0.toNat := by simp [nat4, z1, z2, z3]
            rw [this]; exact big _ _ z0 p0 q0
      · refine ⟨64 + n1, ?_, by omega, ?_⟩
        · simp only [z2, z3, bne_self_eq_false, cond_false, show (a.w1 != 0) = true by simpa using z1, cond_true, e1]
          rw [wr_small (by omega) (by omega)]; omega
        · have : nat4 a = a.w0.toNat + 2 ^ 64 * a.w1.toNat := by simp [nat4, z2, z3]
          rw [this]; exact (big _ _ z1 p1 q1).up _ (nz _ z1) h0
    · refine ⟨128 + n2, ?_, by omega, ?_⟩
      · simp only [z3, bne_self_eq_false, cond_false, show (a.w2 != 0) = true by simpa using z2, cond_true, e2]
        rw [wr_small (by omega) (by omega)]; omega
      · have : nat4 a = (a.w0.toNat + 18446744073709551616 * a.w1.toNat) + 2 ^ 128 * a.w2.toNat := by simp [nat4, z3]; omega
        rw [this]; exact (big _ _ z2 p2 q2).up _ (nz _ z2) (by simp only [Nat.reducePow]; omega)
  · refine ⟨192 + n3, ?_, by omega, ?_⟩
    · simp only [show (a.w3 != 0) = true by simpa using z3, cond_true, e3]
      rw [wr_small (by omega) (by omega)]; omega
    · have : nat4 a = (a.w0.toNat + 18446744073709551616 * (a.w1.toNat + 18446744073709551616 * a.w2.toNat)) + 2 ^ 192 * a.w3.toNat := by simp only [nat4, Nat.reducePow]; omega
      rw [this]; exact (big _ _ z3 p3 q3).up _ (nz _ z3) (by simp only [Nat.reducePow]; omega)
theorem IsBits.down {m n : Nat} (k : Nat) (h : IsBits m n) : IsBits (m / 2 ^ k) (n - k) := by
  obtain ⟨h1, h2, h3⟩ := h
  by_cases hk : n ≤ k
  · have : m / 2 ^ k = 0 := Nat.div_eq_of_lt (Nat.lt_of_lt_of_le h1 (Nat.pow_le_pow_right (by omega) hk))
    rw [this, show n - k = 0 by omega]
    exact ⟨by simp, fun h => (h rfl).elim, fun _ => rfl⟩
  · have hm : m ≠ 0 := fun e => by have := h3 e; omega
    obtain ⟨h4, h5⟩ := h2 hm
    have g : 2 ^ (n - k - 1) ≤ m / 2 ^ k := by
      rw [Nat.le_div_iff_mul_le (Nat.two_pow_pos k), ← Nat.pow_add, show n - k - 1 + k = n - 1 by omega]; exact h5
    have gp := Nat.two_pow_pos (n - k - 1)
    refine ⟨?_, fun _ => ⟨by omega, g⟩, fun e => by omega⟩
    rw [Nat.div_lt_iff_lt_mul (Nat.two_pow_pos k), ← Nat.pow_add, show n - k + k = n by omega]
    exact h1

/-! Bytes. -/
theorem byte_step (acc : UInt64) (b : UInt8) (j : Nat) (hj : j < 8) (h : acc.toNat < 2 ^ (8 * j)) :
    (acc ||| shl64 b.toUInt64 (8 * j)).toNat = acc.toNat + b.toNat * 2 ^ (8 * j) ∧ (acc ||| shl64 b.toUInt64 (8 * j)).toNat < 2 ^ (8 * j + 8) := by
  have hb := u8_lt b
  have hs : b.toNat * 2 ^ (8 * j) < 2 ^ (8 * j + 8) := by
    rw [Nat.pow_add, Nat.mul_comm]; exact Nat.mul_lt_mul_of_pos_left hb (Nat.two_pow_pos _)
  have hB : 2 ^ (8 * j + 8) ≤ 2 ^ 64 := Nat.pow_le_pow_right (by omega) (by omega)
  have e : (acc ||| shl64 b.toUInt64 (8 * j)).toNat = acc.toNat + b.toNat * 2 ^ (8 * j) := by
    rw [UInt64.toNat_or, shl64_nat, UInt8.toNat_toUInt64, Nat.mod_eq_of_lt (show _ < 18446744073709551616 by omega), ← Nat.shiftLeft_eq, Nat.or_comm, ← Nat.shiftLeft_add_eq_or_of_lt h, Nat.add_comm]
  refine ⟨e, ?_⟩
  rw [e, Nat.pow_add]
  have : b.toNat * 2 ^ (8 * j) ≤ 255 * 2 ^ (8 * j) := Nat.mul_le_mul_right _ (by omega)
  omega
theorem wordOf_nat (xs : List UInt8) (big : Bool) (i : Nat) (f : Nat → Nat) (hf : ∀ j, f j = (xs.getD (byteAt big (8 * i + j)) 0).toNat) :
    (wordOf xs big i).toNat = f 0 + 256 * (f 1 + 256 * (f 2 + 256 * (f 3 + 256 * (f 4 + 256 * (f 5 + 256 * (f 6 + 256 * f 7)))))) := by
  have e : wordOf xs big i = (List.range 8).foldl (fun acc j => acc ||| shl64 (xs.getD (byteAt big (8 * i + j)) 0).toUInt64 (8 * j)) 0 := rfl
  rw [e, show List.range 8 = [0, 1, 2, 3, 4, 5, 6, 7] from rfl]
  simp only [List.foldl_cons, List.foldl_nil]
  obtain ⟨e0, l0⟩ := byte_step 0 (xs.getD (byteAt big (8 * i + 0)) 0) 0 (by omega) (by decide)
  obtain ⟨e1, l1⟩ := byte_step _ (xs.getD (byteAt big (8 * i + 1)) 0) 1 (by omega) l0
  obtain ⟨e2, l2⟩ := byte_step _ (xs.getD (byteAt big (8 * i + 2)) 0) 2 (by omega) l1
  obtain ⟨e3, l3⟩ := byte_step _ (xs.getD (byteAt big (8 * i + 3)) 0) 3 (by omega) l2
  obtain ⟨e4, l4⟩ := byte_step _ (xs.getD (byteAt big (8 * i + 4)) 0) 4 (by omega) l3
  obtain ⟨e5, l5⟩ := byte_step _ (xs.getD (byteAt big (8 * i + 5)) 0) 5 (by omega) l4
  obtain ⟨e6, l6⟩ := byte_step _ (xs.getD (byteAt big (8 * i + 6)) 0) 6 (by omega) l5
  obtain ⟨e7, l7⟩ := byte_step _ (xs.getD (byteAt big (8 * i + 7)) 0) 7 (by omega) l6
  rw [e7, e6, e5, e4, e3, e2, e1, e0, ← hf 0, ← hf 1, ← hf 2, ← hf 3, ← hf 4, ← hf 5, ← hf 6, ← hf 7, show (0 : UInt64).toNat = 0 from rfl]
  simp only [Nat.reduceMul, Nat.reducePow]
  omega
theorem bytesL_get (a : Four) (k : Nat) (hk : k < 32) : ((bytesL a).getD k 0).toNat = (w4 a (k / 8)).toNat / 2 ^ (8 * (k % 8)) % 256 := by
  have : (bytesL a).getD k 0 = (shr64 (w4 a (k / 8)) (8 * (k % 8))).toUInt8 := by
    unfold bytesL
    rw [List.getD_eq_getElem?_getD, List.getElem?_map, List.getElem?_range hk]; rfl
  rw [this, UInt64.toNat_toUInt8, shr64_nat]
theorem bytes_get (a : Four) (big : Bool) (k : Nat) (hk : k < 32) : (limb_Bytes a big).getD (byteAt big k) 0 = (bytesL a).getD k 0 := by
  have hl : (bytesL a).length = 32 := by simp [bytesL]
  cases big with
  | false => rfl
  | true =>
    simp only [limb_Bytes, cond_true, byteAt, List.getD_eq_getElem?_getD]
    rw [List.getElem?_reverse (by omega), hl]
    rw [show 32 - 1 - (31 - k) = k by omega]
theorem bytes_len (a : Four) (big : Bool) : (limb_Bytes a big).length = 32 := by cases big <;> simp [limb_Bytes, bytesL]
theorem word_back (a : Four) (big : Bool) (i : Nat) (hi : i < 4) : wordOf (limb_Bytes a big) big i = w4 a i := by
  apply UInt64.toNat_inj.1
  have hf : ∀ j, j < 8 → ((limb_Bytes a big).getD (byteAt big (8 * i + j)) 0).toNat = (w4 a i).toNat / 2 ^ (8 * j) % 256 := fun j hj => by
    rw [bytes_get a big _ (by omega), bytesL_get a _ (by omega), show (8 * i + j) / 8 = i by omega, show (8 * i + j) % 8 = j by omega]
  rw [wordOf_nat _ big i _ (fun j => rfl), hf 0 (by omega), hf 1 (by omega), hf 2 (by omega), hf 3 (by omega), hf 4 (by omega), hf 5 (by omega), hf 6 (by omega), hf 7 (by omega)]
  have := u64_lt (w4 a i)
  simp only [Nat.reduceMul, Nat.reducePow]
  omega
theorem of_bytes (a : Four) (big : Bool) : limb_Of (limb_Bytes a big) big = (a, 0) := by
  simp only [limb_Of, bytes_len, if_true, fourOf, word_back a big 0 (by omega), word_back a big 1 (by omega), word_back a big 2 (by omega), word_back a big 3 (by omega), w4]
end Go.Proofs.Ytibdipfpfddliaa
/- Layer 1, what is added and taken away: the law holds. -/
set_option maxRecDepth 10000
namespace Go.Proofs.Ytibdipfpfddliaa
open Go.Sym

theorem eq4_self (x : Four) : eq4 x x = true := by simp [eq4]
theorem eq8_self (x : Eight) : eq8 x x = true := by simp [eq8]
theorem back_sub (a b : Four) : limb_Sub (limb_Add a b).1 b = (a, (limb_Add a b).2) := by
  have h1 := add_nat a b; have h2 := sub_nat (limb_Add a b).1 b
  have l1 := add_carry a b; have l2 := sub_borrow (limb_Add a b).1 b
  have m1 := nat4_lt a; have m2 := nat4_lt (limb_Sub (limb_Add a b).1 b).1
  have e1 : (limb_Sub (limb_Add a b).1 b).1 = a := nat4_inj (by omega)
  have e2 : (limb_Sub (limb_Add a b).1 b).2 = (limb_Add a b).2 := UInt64.toNat_inj.1 (by omega)
  exact Prod.ext e1 e2
theorem back_cmp (a b : Four) : limb_Cmp a b = wr (0 - limb_Cmp b a) := by
  rw [cmp_nat, cmp_nat]
  by_cases h1 : nat4 a < nat4 b
  · rw [if_pos h1, if_neg (by omega), if_neg (by omega)]; rfl
  · by_cases h2 : nat4 a = nat4 b
    · rw [if_neg h1, if_pos h2, if_neg (by omega), if_pos h2.symm]; rfl
    · rw [if_neg h1, if_neg h2, if_pos (by omega)]; rfl
theorem shOf_nat (w : UInt64) : shOf w = ((w.toNat % 256 : Nat) : Int) := by
  have : (w % 256).toNat = w.toNat % 256 := by rw [UInt64.toNat_mod]; rfl
  rw [shOf, this, wr_small (by omega) (by omega)]
theorem there_back (a : Four) (n : Nat) (h : n < 256) : nat4 (limb_Right (limb_Left a n) n) = nat4 a % 2 ^ (256 - n) := by
  rw [right_nat _ _ h, left_nat _ _ h]
  have e : 115792089237316195423570985008687907853269984665640564039457584007913129639936 = 2 ^ (256 - n) * 2 ^ n := by rw [← Nat.pow_add, Nat.sub_add_cancel (by omega)]
  rw [e, Nat.mul_mod_mul_right, Nat.mul_div_cancel _ (Nat.two_pow_pos n)]
theorem back_shift (a : Four) (n : Nat) (h : n < 256) : limb_Right (limb_Left (limb_Right (limb_Left a n) n) n) n = limb_Right (limb_Left a n) n := by
  apply nat4_inj
  rw [there_back _ _ h, there_back _ _ h, Nat.mod_mod]
theorem back_bits (a : Four) (n : Nat) (h : n < 256) : limb_Bits (limb_Right a n) = lessBits (limb_Bits a) n := by
  obtain ⟨m, e1, l1, h1⟩ := bits_nat a
  obtain ⟨k, e2, l2, h2⟩ := bits_nat (limb_Right a n)
  rw [right_nat _ _ h] at h2
  have := h2.unique (h1.down n)
  rw [e1, e2, lessBits, wr_small (by omega) (by omega)]
  split <;> omega
theorem back_mulword (a b : Four) (w : UInt64) : (limb_Add (limb_MulWord a w).1 (limb_MulWord b w).1).1 = (limb_MulWord (limb_Add a b).1 w).1 := by
  apply nat4_inj
  have h1 := mulword_nat a w; have h2 := mulword_nat b w; have h3 := mulword_nat (limb_Add a b).1 w
  have h4 := add_nat a b; have h5 := add_nat (limb_MulWord a w).1 (limb_MulWord b w).1
  have m1 := nat4_lt (limb_Add (limb_MulWord a w).1 (limb_MulWord b w).1).1
  have m2 := nat4_lt (limb_MulWord (limb_Add a b).1 w).1
  have e : nat4 (limb_Add a b).1 * w.toNat + 115792089237316195423570985008687907853269984665640564039457584007913129639936 * ((limb_Add a b).2.toNat * w.toNat) = nat4 a * w.toNat + nat4 b * w.toNat := by
    rw [← Nat.add_mul, ← h4]; grind
  generalize nat4 a * w.toNat = p at *
  generalize nat4 b * w.toNat = q at *
  generalize nat4 (limb_Add a b).1 * w.toNat = r at *
  generalize (limb_Add a b).2.toNat * w.toNat = s at *
  omega
theorem backE_ok (a b : Four) (w : UInt64) : backE a b w := by
  have hn : w.toNat % 256 < 256 := Nat.mod_lt _ (by decide)
  refine ⟨rfl, ?_, ?_, ?_, ?_, ?_, ?_, ?_, ?_, ?_, rfl⟩
  · rw [back_sub]; simp only [eq4_self, Bool.not_true]
  · rw [back_sub]; simp only [bne_self_eq_false]
  · rw [of_bytes]; rfl
  · rw [of_bytes]; simp only [eq4_self, Bool.not_true]
  · rw [← back_cmp, bne_self_eq_false]
  · rw [nat8_inj (a := limb_Mul a b) (b := limb_Mul b a) (by rw [mul_nat, mul_nat, Nat.mul_comm]), eq8_self]; rfl
  · rw [shOf_nat, back_shift a _ hn, eq4_self]; rfl
  · rw [shOf_nat, back_bits a _ hn, bne_self_eq_false]
  · rw [back_mulword, eq4_self]
abbrev sBack : SpecF := fspec (α := ABk) total fun _ => true
theorem ok_Back : SpecOK Try.prog 1000000 Sym.sNo := Sym.sNo_ok _ _
end Go.Proofs.Ytibdipfpfddliaa
/- Layer 1's laws: sums, products, bits, bytes: what their bodies come to. -/
set_option maxRecDepth 10000
namespace Go.Proofs.Ytibdipfpfddliaa
open Go.Sym Go.Dig

--STOP Go.Dig.Dig, R1.Dg, R1.Can, R1.Sm

def nOf : SpecF := fspec (α := Four × Unit) (β := Num) total (fun a => ⟨nat4 a.1⟩)
def spR01 : Specs := (1000004, Sym.sNo) :: (R1.spN ++ spL1)
def dT (l : List (Nat × Nat)) : Dec := l.map fun p => (p.1, p.2, .b true)
def dSums (c : Bool) : Dec := (9, 3, .b c) :: dT [(11, 3), (11, 9), (11, 15), (11, 20), (11, 29)]
def dProducts : Dec := (9, 7, .b false) :: dT [(14, 14), (14, 20)]
def dBits (p q r : Bool) : Dec := (5, 1, .b p) :: (7, 1, .b p) :: (7, 4, .b q) :: (10, 1, .b r) :: (10, 4, .b q) :: dT [(12, 4), (12, 10), (12, 17), (12, 24), (12, 31), (12, 41)]
def dBytes (l : Bool) : Dec := (7, 4, .b true) :: (9, 2, .b l) :: dT [(10, 1), (10, 5), (14, 1), (14, 6)]
end Go.Proofs.Ytibdipfpfddliaa
/- Layer 1's laws: plain facts on words, bytes and bits of numbers. -/
set_option maxRecDepth 10000
namespace Go.Proofs.Ytibdipfpfddliaa
open Go.Sym Go.Dig

theorem wv_nat4 (a : Four) : R1.wv [a.w0, a.w1, a.w2, a.w3] = nat4 a := by simp only [R1.wv, nat4]; omega
theorem ok_nOf : SpecOK Try.prog 1000000 Sym.sNo := Sym.sNo_ok _ _
theorem spR01_ok : SpecsOK Try.prog spR01 := .cons ok_nOf (SpecsOK.append R1.spN_ok spL1_ok)

theorem p256 : (2 : Nat) ^ Int.toNat 256 = 115792089237316195423570985008687907853269984665640564039457584007913129639936 := by decide +kernel
theorem n128 (m : Nat) : m / 2 ^ 128 = m / 18446744073709551616 / 18446744073709551616 := by rw [Nat.div_div_eq_div_mul]
theorem n192 (m : Nat) : m / 2 ^ 192 = m / 18446744073709551616 / 18446744073709551616 / 18446744073709551616 := by rw [Nat.div_div_eq_div_mul, Nat.div_div_eq_div_mul]
theorem nat4_fourN (m : Nat) : nat4 (R1.fourN m) = m % 115792089237316195423570985008687907853269984665640564039457584007913129639936 := by
  simp only [nat4, R1.fourN, UInt64.toNat_ofNat', n128, n192]
  omega
theorem four_eq {x : Four} {m : Nat} (h : nat4 x = m % 115792089237316195423570985008687907853269984665640564039457584007913129639936) : x = R1.fourN m := nat4_inj (by rw [nat4_fourN, h])
theorem eq4_of {x y : Four} (h : x = y) : eq4 x y = true := by rw [h, eq4_self]
theorem Sm4 (a : Four) : R1.Sm (nat4 a) := R1.Sm.of 11 (Nat.lt_of_lt_of_le (nat4_lt a) (by decide +kernel)) (by omega)
theorem SmB {m : Nat} (h : m < 115792089237316195423570985008687907853269984665640564039457584007913129639936 * 115792089237316195423570985008687907853269984665640564039457584007913129639936 * 115792089237316195423570985008687907853269984665640564039457584007913129639936) : R1.Sm m := R1.Sm.of 32 (Nat.lt_of_lt_of_le h (by decide +kernel)) (by omega)

/-! Words. -/
theorem nat4_word (a : Four) (i : Nat) (hi : i < 4) : nat4 a / 2 ^ (64 * i) % 18446744073709551616 = (w4 a i).toNat := by
  have := u64_lt a.w0; have := u64_lt a.w1; have := u64_lt a.w2; have := u64_lt a.w3
  have : i = 0 ∨ i = 1 ∨ i = 2 ∨ i = 3 := by omega
  rcases this with rfl | rfl | rfl | rfl
  · simp only [nat4, w4, Nat.mul_zero, Nat.pow_zero, Nat.div_one]; omega
  · have e : (2 : Nat) ^ (64 * 1) = 18446744073709551616 := rfl
    rw [e]; simp only [nat4, w4]; omega
  · rw [show 64 * 2 = 128 from rfl, n128]; simp only [nat4, w4]; omega
  · rw [show 64 * 3 = 192 from rfl, n192]; simp only [nat4, w4]; omega
theorem mod_bit (m r k : Nat) (h : k + r ≤ 64) : m % 18446744073709551616 / 2 ^ r % 2 ^ k = m / 2 ^ r % 2 ^ k := by
  have e : (18446744073709551616 : Nat) = 2 ^ r * 2 ^ (64 - r) := by rw [← Nat.pow_add, show r + (64 - r) = 64 by omega]
  rw [e, Nat.mod_mul_right_div_self, Nat.mod_mod_of_dvd]
  exact ⟨2 ^ (64 - r - k), by rw [← Nat.pow_add]; congr 1; omega⟩
theorem word_bits (a : Four) (n k : Nat) (hn : n < 256) (h : k + n % 64 ≤ 64) : nat4 a / 2 ^ n % 2 ^ k = (w4 a (n / 64)).toNat / 2 ^ (n % 64) % 2 ^ k := by
  rw [← nat4_word a (n / 64) (by omega), mod_bit _ _ _ h, Nat.div_div_eq_div_mul, ← Nat.pow_add, show 64 * (n / 64) + n % 64 = n by omega]
theorem and_one (x : UInt64) : (x &&& 1).toNat = x.toNat % 2 := by
  rw [UInt64.toNat_and]; exact Nat.and_one_is_mod _
theorem bit_nat (a : Four) (n : Nat) (h : n < 256) : (bitN a n).toNat = nat4 a / 2 ^ n % 2 := by
  have := word_bits a n 1 h (by omega)
  rw [Nat.pow_one] at this
  rw [this]
  have : n / 64 = 0 ∨ n / 64 = 1 ∨ n / 64 = 2 ∨ n / 64 = 3 := by omega
  unfold bitN
  rcases this with e | e | e | e <;> rw [e] <;> simp only [and_one, shr64_nat, w4]

/-! Bytes. -/
theorem bytesL_N (a : Four) : bytesL a = R1.bytesN (nat4 a) 32 := by
  have hl : (bytesL a).length = 32 := by simp [bytesL]
  apply List.ext_getElem (by rw [hl, R1.bytesN_len])
  intro k h1 h2
  have hk : k < 32 := by omega
  have e := bytesL_get a k hk
  rw [List.getD_eq_getElem?_getD, List.getElem?_eq_getElem h1] at e
  apply UInt8.toNat_inj.1
  have e2 : ((R1.bytesN (nat4 a) 32)[k]).toNat = nat4 a / 256 ^ k % 256 := by simp [R1.bytesN]
  refine e.trans (Eq.trans ?_ e2.symm)
  have := word_bits a (8 * k) 8 (by omega) (by omega)
  rw [R1.pow256, this, show 8 * k / 64 = k / 8 by omega, show 8 * k % 64 = 8 * (k % 8) by omega]
theorem bytes_N (a : Four) (big : Bool) : limb_Bytes a big = cond big (R1.bytesN (nat4 a) 32).reverse (R1.bytesN (nat4 a) 32) := by
  unfold limb_Bytes; rw [bytesL_N]
/-- 32 bytes are a number's. -/
theorem of_nat (b : List UInt8) (big : Bool) (h : b.length = 32) : limb_Of b big = (R1.fourN (cond big (R1.bev b) (R1.bev b.reverse)), 0) := by
  have key : ∀ l : List UInt8, l.length = 32 → R1.bytesN (nat4 (R1.fourN (lev l))) 32 = l := by
    intro l hl
    have h1 := bytesN_lev l
    have h2 := lev_lt l
    rw [hl] at h1 h2
    rw [nat4_fourN, Nat.mod_eq_of_lt (Nat.lt_of_lt_of_le h2 (by decide +kernel)), h1]
  have hb : b = limb_Bytes (R1.fourN (cond big (R1.bev b) (R1.bev b.reverse))) big := by
    rw [bytes_N]
    cases big with
    | false => simp only [cond_false]; rw [bev_reverse, key b h]
    | true => simp only [cond_true]; rw [bev_lev, key b.reverse (by simpa using h), List.reverse_reverse]
  conv => lhs; rw [hb]
  rw [of_bytes]

/-! What is selected. -/
theorem select_one (c : UInt64) (a b : Four) (h : c.toNat % 2 = 1) : limb_Select c a b = a := by
  have : c &&& 1 = 1 := UInt64.toNat_inj.1 (by rw [and_one, h]; rfl)
  have e : ∀ x y : UInt64, x &&& (0 - 1) ||| y &&& ~~~(0 - 1) = x := fun x y => by
    have h1 : (0 - 1 : UInt64) = ~~~0 := by decide
    rw [h1, UInt64.not_not]; simp
  simp only [limb_Select, this, e]
theorem select_zero (c : UInt64) (a b : Four) (h : c.toNat % 2 = 0) : limb_Select c a b = b := by
  have : c &&& 1 = 0 := UInt64.toNat_inj.1 (by rw [and_one, h]; rfl)
  have e : ∀ x y : UInt64, x &&& (0 - 0) ||| y &&& ~~~(0 - 0) = y := fun x y => by simp
  simp only [limb_Select, this, e]
end Go.Proofs.Ytibdipfpfddliaa
/- Package ring: what its functions come to (without powers). -/
set_option maxRecDepth 10000
namespace Go.Proofs.Ytibdipfpfddliaa
open Go.Sym Go.Dig

--STOP R1.Sm, limb_Add, limb_Sub, limb_Select, limb_Mul, limb_Cmp

/-- A ring's words. -/
structure RingV where
  m : Four
  back : UInt64
  one : Four
  two : Four
def RingV.cells (r : RingV) : List SV := [.u64 r.m.w0, .u64 r.m.w1, .u64 r.m.w2, .u64 r.m.w3, .u64 r.back, .u64 r.one.w0, .u64 r.one.w1, .u64 r.one.w2, .u64 r.one.w3, .u64 r.two.w0, .u64 r.two.w1, .u64 r.two.w2, .u64 r.two.w3]
def dRingC : List SV → Option RingV
  | [.u64 a, .u64 b, .u64 c, .u64 d, .u64 k, .u64 e, .u64 f, .u64 g, .u64 h, .u64 i, .u64 j, .u64 l, .u64 n] => some ⟨⟨a, b, c, d⟩, k, ⟨e, f, g, h⟩, ⟨i, j, l, n⟩⟩
  | _ => none
theorem dRingC_ok {cs : List SV} {r : RingV} (h : dRingC cs = some r) : cs = r.cells := by
  unfold dRingC at h
  split at h
  · simp only [Option.some.injEq] at h; subst h; rfl
  · cases h
instance : Enc RingV where
  enc r := .ro r.cells 0
  dec | .ro cs 0 => dRingC cs
      | _ => none
  ok := by
    intro s a h at_ w v r
    split at h
    · rw [dRingC_ok h] at r; exact r
    · cases h
  nn _ := rfl
/-- A pointer to a ring, or to none. -/
instance : Enc (Option RingV) where
  enc | some r => .ro r.cells 0
      | none => .val (.pointer none)
  dec | .ro cs 0 => (dRingC cs).map some
      | .val (.pointer none) => some none
      | _ => none
  ok := by
    intro s a h at_ w v r
    split at h
    · obtain ⟨x, h1, h2⟩ := Option.map_eq_some_iff.1 h
      subst h2
      rw [dRingC_ok h1] at r; exact r
    · simp only [Option.some.injEq] at h; subst h; exact r
    · cases h
  nn a := by cases a <;> rfl
/-- A loop's own ring; a loop's own number of four words. -/
structure PRing where
  v : RingV
structure PFour where
  v : Four
instance : LEnc PRing where
  kind := none
  enc nx a := (.ptr nx 0, [a.v.cells])
  dec nx s M := match s, M with
    | .ptr b 0, some cs :: M' => if b = nx then (dRingC cs).map fun r => (none, ⟨r⟩, M') else none
    | _, _ => none
  all P := ∀ v, P ⟨v⟩
  all_ok h a := h a.v
  ok := by
    intro nx s M p a M' h hp
    split at h
    · split at h
      · rename_i hb
        obtain ⟨r, h1, h2⟩ := Option.map_eq_some_iff.1 h
        simp only [Prod.mk.injEq] at h2
        obtain ⟨_, rfl, rfl⟩ := h2
        subst hb
        rw [dRingC_ok h1]
        exact ⟨rfl, fun r => r⟩
      · cases h
    · cases h
def dFourC : List SV → Option Four
  | [.u64 a, .u64 b, .u64 c, .u64 d] => some ⟨a, b, c, d⟩
  | _ => none
theorem dFourC_ok {cs : List SV} {r : Four} (h : dFourC cs = some r) : cs = [.u64 r.w0, .u64 r.w1, .u64 r.w2, .u64 r.w3] := by
  unfold dFourC at h
  split at h
  · simp only [Option.some.injEq] at h; subst h; rfl
  · cases h
instance : LEnc PFour where
  kind := none
  enc nx a := (.ptr nx 0, [[.u64 a.v.w0, .u64 a.v.w1, .u64 a.v.w2, .u64 a.v.w3]])
  dec nx s M := match s, M with
    | .ptr b 0, some cs :: M' => if b = nx then (dFourC cs).map fun r => (none, ⟨r⟩, M') else none
    | _, _ => none
  all P := ∀ v, P ⟨v⟩
  all_ok h a := h a.v
  ok := by
    intro nx s M p a M' h hp
    split at h
    · split at h
      · rename_i hb
        obtain ⟨r, h1, h2⟩ := Option.map_eq_some_iff.1 h
        simp only [Prod.mk.injEq] at h2
        obtain ⟨_, rfl, rfl⟩ := h2
        subst hb
        rw [dFourC_ok h1]
        exact ⟨rfl, fun r => r⟩
      · cases h
    · cases h

def ringPlus (m a b : Four) : Four :=
  limb_Select ((limb_Add a b).2 ||| ((limb_Sub (limb_Add a b).1 m).2 ^^^ 1)) (limb_Sub (limb_Add a b).1 m).1 (limb_Add a b).1
def spG1 : Specs := spL0
theorem vcPlus (r : RingV) (a b : Four) (Q : SV → Prop) : LnRaw tt spG1 3 [] {} Try.f53 Q (r, a, b, ()) =
  (Q
  (SV.agg
    [SV.u64
        (Four.w0
          (limb_Select
            (Prod.snd (limb_Add a b) |||
              Prod.snd (limb_Sub (Prod.fst (limb_Add a b)) (RingV.m r)) ^^^ UInt64.ofNat (Int.toNat (1 : Int)))
            (Prod.fst (limb_Sub (Prod.fst (limb_Add a b)) (RingV.m r))) (Prod.fst (limb_Add a b)))),
      SV.u64
        (Four.w1
          (limb_Select
            (Prod.snd (limb_Add a b) |||
              Prod.snd (limb_Sub (Prod.fst (limb_Add a b)) (RingV.m r)) ^^^ UInt64.ofNat (Int.toNat (1 : Int)))
            (Prod.fst (limb_Sub (Prod.fst (limb_Add a b)) (RingV.m r))) (Prod.fst (limb_Add a b)))),
      SV.u64
        (Four.w2
          (limb_Select
            (Prod.snd (limb_Add a b) |||
              Prod.snd (limb_Sub (Prod.fst (limb_Add a b)) (RingV.m r)) ^^^ UInt64.ofNat (Int.toNat (1 : Int)))
            (Prod.fst (limb_Sub (Prod.fst (limb_Add a b)) (RingV.m r))) (Prod.fst (limb_Add a b)))),
      SV.u64
        (Four.w3
          (limb_Select
            (Prod.snd (limb_Add a b) |||
              Prod.snd (limb_Sub (Prod.fst (limb_Add a b)) (RingV.m r)) ^^^ UInt64.ofNat (Int.toNat (1 : Int)))
            (Prod.fst (limb_Sub (Prod.fst (limb_Add a b)) (RingV.m r))) (Prod.fst (limb_Add a b))))])) := by kernel_rfl
def sRPlus : SpecF := fspec (α := RingV × Four × Four × Unit) total (fun a => ringPlus a.1.m a.2.1 a.2.2.1)
def spG2 : Specs := (53, sRPlus) :: spG1
theorem vcTwice (r : RingV) (a : Four) (Q : SV → Prop) : LnRaw tt spG2 3 [] {} Try.f39 Q (r, a, ()) =
  (Q
  (SV.agg
    [SV.u64 (Four.w0 (ringPlus (RingV.m r) a a)), SV.u64 (Four.w1 (ringPlus (RingV.m r) a a)),
      SV.u64 (Four.w2 (ringPlus (RingV.m r) a a)), SV.u64 (Four.w3 (ringPlus (RingV.m r) a a))])) := by kernel_rfl
def sTwice : SpecF := fspec (α := RingV × Four × Unit) total (fun a => ringPlus a.1.m a.2.1 a.2.1)

def dblN (m : Four) : Nat → Four
  | 0 => ⟨1, 0, 0, 0⟩
  | n + 1 => ringPlus m (dblN m n) (dblN m n)
def oneN (m : Four) (i : Int) : Four := if i ≤ 255 then zero4 else dblN m 256
def iNew (r0 : RingV) (r : RingV) (x : Four) (i : Int) : Prop := 0 ≤ i ∧ i ≤ 512 ∧ r = ⟨r0.m, r0.back, oneN r0.m i, zero4⟩ ∧ x = dblN r0.m i.toNat
def newt (w : UInt64) : Nat → UInt64
  | 0 => 1
  | n + 1 => newt w n * (2 - w * newt w n)
def iInv (m0 : Four) (r0 : RingV) (m : Four) (r : RingV) (x : UInt64) (i : Int) : Prop := m = m0 ∧ r = r0 ∧ 0 ≤ i ∧ i ≤ 6 ∧ x = newt m.w0 i.toNat
def lNew : Plan := { loops := [(0, { β := Unit, α := PFour × PRing × UInt64 × Int × Unit, same := [], keep := [1, 4, 5, 21], inv := fun _ x0 x => iInv x0.1.v x0.2.1.v x.1.v x.2.1.v x.2.2.1 x.2.2.2.1, meas := fun _ x => (6 - x.2.2.2.1).toNat }), (2, { β := Unit, α := PRing × PFour × Int × Unit, same := [], keep := [4, 6, 38], inv := fun _ x0 x => iNew x0.1.v x.1.v x.2.1.v x.2.2.1, meas := fun _ x => (512 - x.2.2.1).toNat })] }
def spG3 : Specs := (39, sTwice) :: spG2
theorem vcNewA (m : Four) (Q : SV → Prop) : LnRaw tt spG3 9 [(1, 3, .b false), (1, 7, .b false)] lNew Try.f14 Q (m, ()) =
  (((Four.w0 m &&& UInt64.ofNat (Int.toNat (1 : Int)) == UInt64.ofNat (Int.toNat (0 : Int))) = false) ∧
  (((Four.w0 m == UInt64.ofNat (Int.toNat (1 : Int)) &&
    (Four.w1 m == UInt64.ofNat (Int.toNat (0 : Int)) &&
      (Four.w2 m == UInt64.ofNat (Int.toNat (0 : Int)) && (Four.w3 m == UInt64.ofNat (Int.toNat (0 : Int)) && true)))) =
  false) ∧
  ((iInv m
  (RingV.mk m (UInt64.ofNat (Int.toNat (0 : Int)))
    (Four.mk (UInt64.ofNat (Int.toNat (0 : Int))) (UInt64.ofNat (Int.toNat (0 : Int)))
      (UInt64.ofNat (Int.toNat (0 : Int))) (UInt64.ofNat (Int.toNat (0 : Int))))
    (Four.mk (UInt64.ofNat (Int.toNat (0 : Int))) (UInt64.ofNat (Int.toNat (0 : Int)))
      (UInt64.ofNat (Int.toNat (0 : Int))) (UInt64.ofNat (Int.toNat (0 : Int)))))
  m
  (RingV.mk m (UInt64.ofNat (Int.toNat (0 : Int)))
    (Four.mk (UInt64.ofNat (Int.toNat (0 : Int))) (UInt64.ofNat (Int.toNat (0 : Int)))
      (UInt64.ofNat (Int.toNat (0 : Int))) (UInt64.ofNat (Int.toNat (0 : Int))))
    (Four.mk (UInt64.ofNat (Int.toNat (0 : Int))) (UInt64.ofNat (Int.toNat (0 : Int)))
      (UInt64.ofNat (Int.toNat (0 : Int))) (UInt64.ofNat (Int.toNat (0 : Int)))))
  (UInt64.ofNat (Int.toNat (1 : Int))) (0 : Int)) ∧
  (∀ v : Four,
  (∀ v_1 : RingV,
  (∀ a : UInt64,
  (∀ a_1 : Int,
  ((iInv m
  (RingV.mk m (UInt64.ofNat (Int.toNat (0 : Int)))
    (Four.mk (UInt64.ofNat (Int.toNat (0 : Int))) (UInt64.ofNat (Int.toNat (0 : Int)))
      (UInt64.ofNat (Int.toNat (0 : Int))) (UInt64.ofNat (Int.toNat (0 : Int))))
    (Four.mk (UInt64.ofNat (Int.toNat (0 : Int))) (UInt64.ofNat (Int.toNat (0 : Int)))
      (UInt64.ofNat (Int.toNat (0 : Int))) (UInt64.ofNat (Int.toNat (0 : Int)))))
  v v_1 a a_1) →
  bcase (decide (a_1 < (6 : Int)))
    (((() = ()) ∧
    ((iInv m
  (RingV.mk m (UInt64.ofNat (Int.toNat (0 : Int)))
    (Four.mk (UInt64.ofNat (Int.toNat (0 : Int))) (UInt64.ofNat (Int.toNat (0 : Int)))
      (UInt64.ofNat (Int.toNat (0 : Int))) (UInt64.ofNat (Int.toNat (0 : Int))))
    (Four.mk (UInt64.ofNat (Int.toNat (0 : Int))) (UInt64.ofNat (Int.toNat (0 : Int)))
      (UInt64.ofNat (Int.toNat (0 : Int))) (UInt64.ofNat (Int.toNat (0 : Int)))))
  v v_1 (a * (UInt64.ofNat (Int.toNat (2 : Int)) - Four.w0 v * a)) (IntKind.wrap IntKind.i64 (a_1 + (1 : Int)))) ∧
    (Int.toNat ((6 : Int) - IntKind.wrap IntKind.i64 (a_1 + (1 : Int))) < Int.toNat ((6 : Int) - a_1)))))
    (((iNew (RingV.mk (RingV.m v_1) ((0 : UInt64) - a) (RingV.one v_1) (RingV.two v_1))
  (RingV.mk (RingV.m v_1) ((0 : UInt64) - a) (RingV.one v_1) (RingV.two v_1))
  (Four.mk (UInt64.ofNat (Int.toNat (1 : Int))) (UInt64.ofNat (Int.toNat (0 : Int)))
    (UInt64.ofNat (Int.toNat (0 : Int))) (UInt64.ofNat (Int.toNat (0 : Int))))
  (0 : Int)) ∧
    (∀ v_2 : RingV,
    (∀ v_3 : Four,
    (∀ a_2 : Int,
    ((iNew (RingV.mk (RingV.m v_1) ((0 : UInt64) - a) (RingV.one v_1) (RingV.two v_1)) v_2 v_3 a_2) →
    bcase (decide (a_2 < (512 : Int)))
      (bcase (a_2 == (255 : Int))
        (((() = ()) ∧
        ((iNew (RingV.mk (RingV.m v_1) ((0 : UInt64) - a) (RingV.one v_1) (RingV.two v_1))
  (RingV.mk (RingV.m v_2) (RingV.back v_2) (ringPlus (RingV.m v_2) v_3 v_3) (RingV.two v_2))
  (ringPlus (RingV.m v_2) v_3 v_3) (IntKind.wrap IntKind.i64 (a_2 + (1 : Int)))) ∧
        (Int.toNat ((512 : Int) - IntKind.wrap IntKind.i64 (a_2 + (1 : Int))) < Int.toNat ((512 : Int) - a_2)))))
        (((() = ()) ∧
        ((iNew (RingV.mk (RingV.m v_1) ((0 : UInt64) - a) (RingV.one v_1) (RingV.two v_1)) v_2 (ringPlus (RingV.m v_2) v_3 v_3)
  (IntKind.wrap IntKind.i64 (a_2 + (1 : Int)))) ∧
        (Int.toNat ((512 : Int) - IntKind.wrap IntKind.i64 (a_2 + (1 : Int))) < Int.toNat ((512 : Int) - a_2))))))
      ((Q
  (SV.tup
    [SV.ro
        [SV.u64 (Four.w0 (RingV.m v_2)), SV.u64 (Four.w1 (RingV.m v_2)), SV.u64 (Four.w2 (RingV.m v_2)),
          SV.u64 (Four.w3 (RingV.m v_2)), SV.u64 (RingV.back v_2), SV.u64 (Four.w0 (RingV.one v_2)),
          SV.u64 (Four.w1 (RingV.one v_2)), SV.u64 (Four.w2 (RingV.one v_2)), SV.u64 (Four.w3 (RingV.one v_2)),
          SV.u64 (Four.w0 v_3), SV.u64 (Four.w1 v_3), SV.u64 (Four.w2 v_3), SV.u64 (Four.w3 v_3)]
        (0 : Nat),
      SV.i64 (0 : Int)]))))))))))))))))) := by kernel_rfl
theorem vcNewB (m : Four) (Q : SV → Prop) : LnRaw tt spG3 9 [(1, 3, .b true)] lNew Try.f14 Q (m, ()) =
  (((Four.w0 m &&& UInt64.ofNat (Int.toNat (1 : Int)) == UInt64.ofNat (Int.toNat (0 : Int))) = true) ∧
  (Q (SV.tup [SV.val (Value.pointer none), SV.i64 (2 : Int)]))) := by kernel_rfl
theorem vcNewC (m : Four) (Q : SV → Prop) : LnRaw tt spG3 9 [(1, 3, .b false), (1, 7, .b true)] lNew Try.f14 Q (m, ()) =
  (((Four.w0 m &&& UInt64.ofNat (Int.toNat (1 : Int)) == UInt64.ofNat (Int.toNat (0 : Int))) = false) ∧
  (((Four.w0 m == UInt64.ofNat (Int.toNat (1 : Int)) &&
    (Four.w1 m == UInt64.ofNat (Int.toNat (0 : Int)) &&
      (Four.w2 m == UInt64.ofNat (Int.toNat (0 : Int)) && (Four.w3 m == UInt64.ofNat (Int.toNat (0 : Int)) && true)))) =
  true) ∧
  (Q (SV.tup [SV.val (Value.pointer none), SV.i64 (2 : Int)])))) := by kernel_rfl
end Go.Proofs.Ytibdipfpfddliaa
/- Package ring: what its functions come to: products, residues. -/
set_option maxRecDepth 10000
namespace Go.Proofs.Ytibdipfpfddliaa
open Go.Sym Go.Dig

--STOP R1.Sm, limb_Add, limb_Sub, limb_Select, limb_Mul, limb_Cmp

def ringOf (m : Four) : RingV := ⟨m, 0 - newt m.w0 6, dblN m 256, dblN m 512⟩
/-- May it be a modulus? -/
def goodM (m : Four) : Bool := !((m.w0 &&& 1) == 0) && !(eq4 m ⟨1, 0, 0, 0⟩)
def sNewG : SpecF := fspec (α := Four × Unit) (β := Option RingV × Int × Unit) (fun a => some (goodM a.1 = true)) (fun a => (some (ringOf a.1), 0, ()))
def sNewN : SpecF := fspec (α := Four × Unit) (β := Option RingV × Int × Unit) (fun a => some (goodM a.1 = false)) (fun _ => (none, 2, ()))

def redHi (t c over : UInt64) : UInt64 := addHi t c over
def shr1 (k : UInt64) (m : Four) (t : Eight) : Row := mulRow (t.e0 * k) m t.e0 t.e1 t.e2 t.e3
def shr2 (k : UInt64) (m : Four) (t : Eight) (r : Row) : Row := mulRow (r.r1 * k) m r.r1 r.r2 r.r3 (addLo t.e4 r.c 0)
def shr3 (k : UInt64) (m : Four) (t : Eight) (o : UInt64) (s : Row) : Row := mulRow (s.r1 * k) m s.r1 s.r2 s.r3 (addLo t.e5 s.c o)
def shr4 (k : UInt64) (m : Four) (t : Eight) (o : UInt64) (u : Row) : Row := mulRow (u.r1 * k) m u.r1 u.r2 u.r3 (addLo t.e6 u.c o)
structure ShrV where
  o1 : UInt64
  o2 : UInt64
  o3 : UInt64
  o4 : UInt64
  high : Four
def shrV (k : UInt64) (m : Four) (t : Eight) : ShrV :=
  let r := shr1 k m t
  let o1 := addHi t.e4 r.c 0
  let s := shr2 k m t r
  let o2 := addHi t.e5 s.c o1
  let u := shr3 k m t o1 s
  let o3 := addHi t.e6 u.c o2
  let v := shr4 k m t o2 u
  ⟨o1, o2, o3, addHi t.e7 v.c o3, ⟨v.r1, v.r2, v.r3, addLo t.e7 v.c o3⟩⟩
def shrinkF (k : UInt64) (m : Four) (t : Eight) : Four :=
  limb_Select ((shrV k m t).o4 ||| ((limb_Sub (shrV k m t).high m).2 ^^^ 1)) (limb_Sub (shrV k m t).high m).1 (shrV k m t).high
def spG4 : Specs := (59, sMul64) :: (29, specAdd64) :: spL0
abbrev sShrink : SpecF := fspec (α := RingV × Eight × Unit) total (fun a => shrinkF a.1.back a.1.m a.2.1)
def timesR (r : RingV) (a b : Four) : Four := shrinkF r.back r.m (limb_Mul a b)
def sTimesR : SpecF := fspec (α := RingV × Four × Four × Unit) total (fun a => timesR a.1 a.2.1 a.2.2.1)
theorem vcTimesR (r : RingV) (a b : Four) (Q : SV → Prop) : LnRaw tt ((54, sShrink) :: spL0) 3 [] {} Try.f41 Q (r, a, b, ()) =
  (Q
  (SV.agg
    [SV.u64 (Four.w0 (shrinkF (RingV.back r) (RingV.m r) (limb_Mul a b))),
      SV.u64 (Four.w1 (shrinkF (RingV.back r) (RingV.m r) (limb_Mul a b))),
      SV.u64 (Four.w2 (shrinkF (RingV.back r) (RingV.m r) (limb_Mul a b))),
      SV.u64 (Four.w3 (shrinkF (RingV.back r) (RingV.m r) (limb_Mul a b)))])) := by kernel_rfl
def isR : Option RingV → Bool
  | some r => (r.m.w0 &&& 1) == 1
  | none => false
def sIsR : SpecF := fspec (α := Option RingV × Unit) total (fun a => isR a.1)
theorem vcIsA (r : RingV) (Q : SV → Prop) : LnRaw tt [] 3 [] {} Try.f40 Q (some r, ()) =
  (Q (SV.bool (Four.w0 (RingV.m r) &&& UInt64.ofNat (Int.toNat (1 : Int)) == UInt64.ofNat (Int.toNat (1 : Int))))) := by kernel_rfl
theorem vcIsB (Q : SV → Prop) : LnRaw tt [] 3 [] {} Try.f40 Q ((none : Option RingV), ()) =
  (Q (SV.bool false)) := by kernel_rfl
def spG5 : Specs := (40, sIsR) :: (41, sTimesR) :: spG3
def onR (r : Option RingV) (f : RingV → Four) : Four :=
  match r with
  | some r => if isR (some r) = true then f r else zero4
  | none => zero4
def one4 : Four := ⟨1, 0, 0, 0⟩
def redR (r : RingV) (a : Four) : Four := timesR r (timesR r a r.two) one4
abbrev AR1 := Option RingV × Four × Unit
abbrev AR2 := Option RingV × Four × Four × Unit
def sModulus : SpecF := fspec (α := Option RingV × Unit) total (fun a => onR a.1 fun r => r.m)
def sReduce : SpecF := fspec (α := AR1) total (fun a => onR a.1 fun r => redR r a.2.1)
def sIn : SpecF := fspec (α := AR1) total (fun a => onR a.1 fun r => timesR r a.2.1 r.two)
def sOut : SpecF := fspec (α := AR1) total (fun a => onR a.1 fun r => timesR r a.2.1 one4)
theorem vcReduceA (r : RingV) (a : Four) (Q : SV → Prop) : LnRaw tt spG5 3 [] {} Try.f17 Q (some r, a, ()) =
  bcase (!isR (some r))
    ((Q
  (SV.agg
    [SV.u64 (UInt64.ofNat (Int.toNat (0 : Int))), SV.u64 (UInt64.ofNat (Int.toNat (0 : Int))),
      SV.u64 (UInt64.ofNat (Int.toNat (0 : Int))), SV.u64 (UInt64.ofNat (Int.toNat (0 : Int)))])))
    ((Q
  (SV.agg
    [SV.u64
        (Four.w0
          (timesR r (timesR r a (RingV.two r))
            (Four.mk (UInt64.ofNat (Int.toNat (1 : Int))) (UInt64.ofNat (Int.toNat (0 : Int)))
              (UInt64.ofNat (Int.toNat (0 : Int))) (UInt64.ofNat (Int.toNat (0 : Int)))))),
      SV.u64
        (Four.w1
          (timesR r (timesR r a (RingV.two r))
            (Four.mk (UInt64.ofNat (Int.toNat (1 : Int))) (UInt64.ofNat (Int.toNat (0 : Int)))
              (UInt64.ofNat (Int.toNat (0 : Int))) (UInt64.ofNat (Int.toNat (0 : Int)))))),
      SV.u64
        (Four.w2
          (timesR r (timesR r a (RingV.two r))
            (Four.mk (UInt64.ofNat (Int.toNat (1 : Int))) (UInt64.ofNat (Int.toNat (0 : Int)))
              (UInt64.ofNat (Int.toNat (0 : Int))) (UInt64.ofNat (Int.toNat (0 : Int)))))),
      SV.u64
        (Four.w3
          (timesR r (timesR r a (RingV.two r))
            (Four.mk (UInt64.ofNat (Int.toNat (1 : Int))) (UInt64.ofNat (Int.toNat (0 : Int)))
              (UInt64.ofNat (Int.toNat (0 : Int))) (UInt64.ofNat (Int.toNat (0 : Int))))))]))) := by kernel_rfl
theorem vcReduceB (a : Four) (Q : SV → Prop) : LnRaw tt spG5 3 [] {} Try.f17 Q ((none : Option RingV), a, ()) =
  (Q
  (SV.agg
    [SV.u64 (UInt64.ofNat (Int.toNat (0 : Int))), SV.u64 (UInt64.ofNat (Int.toNat (0 : Int))),
      SV.u64 (UInt64.ofNat (Int.toNat (0 : Int))), SV.u64 (UInt64.ofNat (Int.toNat (0 : Int)))])) := by kernel_rfl
def resR (r : RingV) (a : Four) : Four := if limb_Cmp a r.m < 0 then a else onR (some r) fun r => redR r a
def sResidueR : SpecF := fspec (α := RingV × Four × Unit) total (fun a => resR a.1 a.2.1)
def spG6 : Specs := (17, sReduce) :: spG5
def spG7 : Specs := (1000007, Sym.sNo) :: spG6
def plusR (r : RingV) (a b : Four) : Four := ringPlus r.m (resR r a) (resR r b)
def minusR (r : RingV) (a b : Four) : Four := limb_Select (limb_Sub (resR r a) (resR r b)).2 (limb_Add (limb_Sub (resR r a) (resR r b)).1 r.m).1 (limb_Sub (resR r a) (resR r b)).1
def mulR (r : RingV) (a b : Four) : Four := timesR r (resR r a) (resR r b)
def wideR (r : RingV) (w : Eight) : Four := ringPlus r.m (redR r ⟨w.e0, w.e1, w.e2, w.e3⟩) (timesR r ⟨w.e4, w.e5, w.e6, w.e7⟩ r.two)
def sPlusR : SpecF := fspec (α := AR2) total (fun a => onR a.1 fun r => plusR r a.2.1 a.2.2.1)
def sMinusR : SpecF := fspec (α := AR2) total (fun a => onR a.1 fun r => minusR r a.2.1 a.2.2.1)
def sMulR : SpecF := fspec (α := AR2) total (fun a => onR a.1 fun r => mulR r a.2.1 a.2.2.1)
def sWideR : SpecF := fspec (α := Option RingV × Eight × Unit) total (fun a => onR a.1 fun r => wideR r a.2.1)
end Go.Proofs.Ytibdipfpfddliaa
/- Package ring: what its functions come to is so (without powers). -/
set_option maxRecDepth 10000
namespace Go.Proofs.Ytibdipfpfddliaa
open Go.Sym Go.Dig

theorem sv_fin {y : SV} (x : SV) (h : (fun x => x = y) x) (at_ : At) (w : World) (v : Value) (r : Rel at_ w x v) : Rel at_ w y v := by have h' : x = y := h; subst h'; exact r
theorem spG1_ok : SpecsOK Try.prog spG1 := spL0_ok
theorem ok_RPlus : SpecOK Try.prog 53 sRPlus := by
  refine fn_okL (by kernel_rfl) tt_ok spG1_ok 3 Try.func53 (by decide +kernel) (by kernel_rfl) ?_
  rintro ⟨r, a, b, _⟩ _
  exact ⟨[], {}, fun x => x = (ringPlus r.m a b).sv, LnVD.of (vcPlus r a b _) rfl, sv_fin⟩
theorem spG2_ok : SpecsOK Try.prog spG2 := .cons ok_RPlus spG1_ok
theorem ok_Twice : SpecOK Try.prog 39 sTwice := by
  refine fn_okL (by kernel_rfl) tt_ok spG2_ok 3 Try.func39 (by decide +kernel) (by kernel_rfl) ?_
  rintro ⟨r, a, _⟩ _
  exact ⟨[], {}, fun x => x = (ringPlus r.m a a).sv, LnVD.of (vcTwice r a _) rfl, sv_fin⟩
theorem spG3_ok : SpecsOK Try.prog spG3 := .cons ok_Twice spG2_ok

theorem ok_NewG : SpecOK Try.prog 14 sNewG := by
  refine fn_okL (by kernel_rfl) tt_ok spG3_ok 9 Try.func14 (by decide +kernel) (by kernel_rfl) ?_
  rintro ⟨m, _⟩ hg
  replace hg : goodM m = true := hg
  refine ⟨_, lNew, fun x => x = .tup [.ro (ringOf m).cells 0, .i64 0], LnVD.of (vcNewA m _) ?_, sv_fin⟩
  unfold goodM at hg
  simp only [Bool.and_eq_true, Bool.not_eq_true'] at hg
  refine ⟨hg.1, hg.2, ⟨rfl, rfl, by omega, by omega, rfl⟩, fun v r x i ⟨e1, e2, i0, i1, e3⟩ => ?_⟩
  subst e1 e2
  rw [R1.bcase_dec]
  refine ⟨fun hi => ?_, fun hi => ?_⟩
  · rw [R1.wr (x := i + 1) (by omega)]
    refine ⟨by trivial, ⟨by trivial, by trivial, by omega, by omega, ?_⟩, by omega⟩
    rw [e3, show (i + 1).toNat = i.toNat + 1 by omega]; rfl
  · have hi6 : i.toNat = 6 := by omega
    rw [hi6] at e3
    refine ⟨⟨by omega, by omega, ?_, rfl⟩, fun r2 x2 j ⟨j0, j1, e4, e5⟩ => ?_⟩
    · simp only [oneN]; rfl
    · rw [R1.bcase_dec]
      refine ⟨fun hj => ?_, fun hj => ?_⟩
      · rw [R1.wr (x := j + 1) (by omega), R1.bcase_iff]
        have hd : dblN v (j + 1).toNat = ringPlus v (dblN v j.toNat) (dblN v j.toNat) := by rw [show (j + 1).toNat = j.toNat + 1 by omega]; rfl
        subst e4 e5
        simp only at hd ⊢
        refine ⟨fun h => ⟨by trivial, ⟨by omega, by omega, ?_, hd.symm⟩, by omega⟩, fun h => ⟨by trivial, ⟨by omega, by omega, ?_, hd.symm⟩, by omega⟩⟩
        · have : j = 255 := by simpa using h
          subst this
          have e : oneN v (255 + 1) = dblN v 256 := by unfold oneN; rw [if_neg (by omega)]
          rw [e]; rfl
        · have hne : j ≠ 255 := by simpa using h
          have e : oneN v (j + 1) = oneN v j := by
            unfold oneN
            by_cases hl : j ≤ 255
            · rw [if_pos hl, if_pos (by omega)]
            · rw [if_neg hl, if_neg (by omega)]
          rw [e]
      · have hj5 : j = 512 := by omega
        subst hj5
        subst e4 e5
        have e : oneN v 512 = dblN v 256 := by unfold oneN; rw [if_neg (by omega)]
        rw [e3]
        simp only [e]
        rfl
theorem ok_NewN : SpecOK Try.prog 14 sNewN := by
  refine fn_okL (by kernel_rfl) tt_ok spG3_ok 9 Try.func14 (by decide +kernel) (by kernel_rfl) ?_
  rintro ⟨m, _⟩ hg
  replace hg : goodM m = false := hg
  unfold goodM at hg
  cases h1 : ((m.w0 &&& 1) == 0) with
  | true => exact ⟨_, lNew, fun x => x = .tup [.val (.pointer none), .i64 2], LnVD.of (vcNewB m _) ⟨h1, rfl⟩, sv_fin⟩
  | false =>
    rw [h1] at hg
    simp only [Bool.not_false, Bool.true_and, Bool.not_eq_false'] at hg
    exact ⟨_, lNew, fun x => x = .tup [.val (.pointer none), .i64 2], LnVD.of (vcNewC m _) ⟨h1, hg, rfl⟩, sv_fin⟩

theorem spG4_ok : SpecsOK Try.prog spG4 := .cons ok_mul64 <| .cons ok_add64 spL0_ok
theorem ok_Shrink : SpecOK Try.prog 54 sShrink :=
  fn_ok mixed tt_ok spG4_ok 9 Try.func54 (by decide +kernel) (by kernel_rfl)
    (fun a => conj (cpre (shrV a.1.back a.1.m a.2.1).o1) (conj (cpre (shrV a.1.back a.1.m a.2.1).o2) (conj (cpre (shrV a.1.back a.1.m a.2.1).o3) (Same (retSV (RetL.retL (shrinkF a.1.back a.1.m a.2.1)))))))
    (fun a => by kernel_rfl)
    (fun _ _ => cpre_conj (addHi_le _ _ _ zero_le) (cpre_conj (addHi_le _ _ _ (addHi_le _ _ _ zero_le)) (cpre_conj (addHi_le _ _ _ (addHi_le _ _ _ (addHi_le _ _ _ zero_le))) rfl)))
theorem ok_TimesR : SpecOK Try.prog 41 sTimesR := by
  refine fn_okL (by kernel_rfl) tt_ok (.cons ok_Shrink spL0_ok) 3 Try.func41 (by decide +kernel) (by kernel_rfl) ?_
  rintro ⟨r, a, b, _⟩ _
  exact ⟨[], {}, fun x => x = (timesR r a b).sv, LnVD.of (vcTimesR r a b _) rfl, sv_fin⟩
theorem ok_IsR : SpecOK Try.prog 40 sIsR := by
  refine fn_okL (by kernel_rfl) tt_ok (.nil _) 3 Try.func40 (by decide +kernel) (by kernel_rfl) ?_
  rintro ⟨r, _⟩ _
  cases r with
  | none => exact ⟨[], {}, fun x => x = .bool false, LnVD.of (vcIsB _) rfl, sv_fin⟩
  | some r => exact ⟨[], {}, fun x => x = .bool (isR (some r)), LnVD.of (vcIsA r _) rfl, sv_fin⟩
theorem spG5_ok : SpecsOK Try.prog spG5 := .cons ok_IsR <| .cons ok_TimesR spG3_ok
theorem onR_t {r : RingV} {f : RingV → Four} (h : (!isR (some r)) = false) : onR (some r) f = f r := by
  unfold onR; simp only; rw [if_pos (by simpa using h)]
theorem onR_f {r : RingV} {f : RingV → Four} (h : (!isR (some r)) = true) : onR (some r) f = zero4 := by
  unfold onR; simp only; rw [if_neg (by simpa using h)]
theorem onR_goal {r : RingV} {f : RingV → Four} {z : SV} (h0 : z = (f r).sv) : bcase (!isR (some r)) ((fun x => x = (onR (some r) f).sv) zero4.sv) ((fun x => x = (onR (some r) f).sv) z) := by
  rw [R1.bcase_iff]
  exact ⟨fun h => by show _ = _; rw [onR_f h], fun h => by show _ = _; rw [onR_t h, h0]⟩
theorem ok_Modulus : SpecOK Try.prog 1000002 Sym.sNo := Sym.sNo_ok _ _
theorem ok_Reduce : SpecOK Try.prog 17 sReduce := by
  refine fn_okL (by kernel_rfl) tt_ok spG5_ok 3 Try.func17 (by decide +kernel) (by kernel_rfl) ?_
  rintro ⟨r, a, _⟩ _
  cases r with
  | none => exact ⟨[], {}, fun x => x = zero4.sv, LnVD.of (vcReduceB a _) rfl, sv_fin⟩
  | some r => exact ⟨[], {}, fun x => x = (onR (some r) fun r => redR r a).sv, LnVD.of (vcReduceA r a _) (onR_goal rfl), sv_fin⟩
theorem ok_In : SpecOK Try.prog 1000000 Sym.sNo := Sym.sNo_ok _ _
theorem ok_Out : SpecOK Try.prog 1000003 Sym.sNo := Sym.sNo_ok _ _
theorem spG6_ok : SpecsOK Try.prog spG6 := .cons ok_Reduce spG5_ok
theorem ok_ResidueR : SpecOK Try.prog 1000007 Sym.sNo := Sym.sNo_ok _ _
theorem spG7_ok : SpecsOK Try.prog spG7 := .cons ok_ResidueR spG6_ok
theorem ok_PlusR : SpecOK Try.prog 1000004 Sym.sNo := Sym.sNo_ok _ _
theorem ok_MinusR : SpecOK Try.prog 1000001 Sym.sNo := Sym.sNo_ok _ _
theorem ok_MulR : SpecOK Try.prog 1000005 Sym.sNo := Sym.sNo_ok _ _
theorem ok_WideR : SpecOK Try.prog 1000006 Sym.sNo := Sym.sNo_ok _ _
end Go.Proofs.Ytibdipfpfddliaa
/- Package ring: plain facts on residues. -/
namespace Go.Proofs.Ytibdipfpfddliaa
open Go.Sym Go.Dig

/-! Modulo M. -/
theorem mod_mul_l (M x y : Nat) : x % M * y % M = x * y % M := by rw [Nat.mul_mod, Nat.mod_mod, ← Nat.mul_mod]
theorem mod_mul_r (M x y : Nat) : x * (y % M) % M = x * y % M := by rw [Nat.mul_mod, Nat.mod_mod, ← Nat.mul_mod]
theorem mod_add_l (M x y : Nat) : (x % M + y) % M = (x + y) % M := by rw [Nat.add_mod, Nat.mod_mod, ← Nat.add_mod]
theorem mod_add_r (M x y : Nat) : (x + y % M) % M = (x + y) % M := by rw [Nat.add_mod, Nat.mod_mod, ← Nat.add_mod]
/-- By 2, modulo an odd M. -/
def hf (M : Nat) : Nat := (M + 1) / 2
theorem two_hf {M : Nat} (h : M % 2 = 1) : 2 * hf M % M = 1 % M := by
  have : 2 * hf M = 1 + M := by unfold hf; omega
  rw [this, Nat.add_mod_right]
theorem pow_hf {M : Nat} (h : M % 2 = 1) (n : Nat) : 2 ^ n * hf M ^ n % M = 1 % M := by
  rw [← Nat.mul_pow, Nat.pow_mod, two_hf h, ← Nat.pow_mod, Nat.one_pow]
def unR (M t : Nat) : Nat := t * hf M ^ 256 % M
theorem unR_of {M t x : Nat} (h : M % 2 = 1) (hx : x < M) (e : x * 2 ^ 256 % M = t % M) : x = unR M t := by
  have h1 : x * (2 ^ 256 * hf M ^ 256) % M = t * hf M ^ 256 % M := by
    rw [← Nat.mul_assoc, Nat.mul_mod, e, ← Nat.mul_mod]
  rw [Nat.mul_mod, pow_hf h 256, ← Nat.mul_mod, Nat.mul_one, Nat.mod_eq_of_lt hx] at h1
  exact h1
theorem unR_lt {M : Nat} (t : Nat) (h : 0 < M) : unR M t < M := Nat.mod_lt _ h
theorem unR_mod (M t : Nat) : unR M (t % M) = unR M t := mod_mul_l _ _ _
theorem unR_mul {M : Nat} (h : M % 2 = 1) (x : Nat) : unR M (x * 2 ^ 256) = x % M := by
  unfold unR
  rw [Nat.mul_assoc, Nat.mul_mod, pow_hf h 256, ← Nat.mul_mod, Nat.mul_one]
theorem unR_back {M : Nat} (h : M % 2 = 1) (t : Nat) : unR M t * 2 ^ 256 % M = t % M := by
  unfold unR
  rw [mod_mul_l, Nat.mul_assoc, Nat.mul_comm (hf M ^ 256), Nat.mul_mod, pow_hf h 256, ← Nat.mul_mod, Nat.mul_one]

/-! Sums. -/
theorem bit_or_xor (c e : UInt64) (hc : c.toNat ≤ 1) (he : e.toNat ≤ 1) : (c ||| (e ^^^ 1)).toNat % 2 = if c.toNat = 1 ∨ e.toNat = 0 then 1 else 0 := by
  have h1 : c = 0 ∨ c = 1 := by
    have : c.toNat = 0 ∨ c.toNat = 1 := by omega
    rcases this with h | h
    · exact .inl (UInt64.toNat_inj.1 h)
    · exact .inr (UInt64.toNat_inj.1 h)
  have h2 : e = 0 ∨ e = 1 := by
    have : e.toNat = 0 ∨ e.toNat = 1 := by omega
    rcases this with h | h
    · exact .inl (UInt64.toNat_inj.1 h)
    · exact .inr (UInt64.toNat_inj.1 h)
  rcases h1 with rfl | rfl <;> rcases h2 with rfl | rfl <;> decide
/-- What lies below twice M, made less by M. -/
theorem less_nat (high m : Four) (o : UInt64) (ho : o.toNat ≤ 1) (hlt : nat4 high + 115792089237316195423570985008687907853269984665640564039457584007913129639936 * o.toNat < 2 * nat4 m) :
    nat4 (limb_Select (o ||| ((limb_Sub high m).2 ^^^ 1)) (limb_Sub high m).1 high) = (nat4 high + 115792089237316195423570985008687907853269984665640564039457584007913129639936 * o.toNat) % nat4 m := by
  have h3 := sub_nat high m; have h4 := sub_borrow high m
  have l1 := nat4_lt (limb_Sub high m).1; have l2 := nat4_lt m; have l3 := nat4_lt high
  have hb := bit_or_xor o (limb_Sub high m).2 ho h4
  by_cases hc : o.toNat = 1 ∨ (limb_Sub high m).2.toNat = 0
  · rw [if_pos hc] at hb
    rw [select_one _ _ _ hb]
    have : nat4 high + 115792089237316195423570985008687907853269984665640564039457584007913129639936 * o.toNat = nat4 (limb_Sub high m).1 + nat4 m := by omega
    rw [this, Nat.add_mod_right, Nat.mod_eq_of_lt (by omega)]
  · rw [if_neg hc] at hb
    rw [select_zero _ _ _ hb]
    have : o.toNat = 0 := by omega
    rw [this, Nat.mul_zero, Nat.add_zero, Nat.mod_eq_of_lt (by omega)]
theorem ringPlus_nat (m a b : Four) (ha : nat4 a < nat4 m) (hb : nat4 b < nat4 m) : nat4 (ringPlus m a b) = (nat4 a + nat4 b) % nat4 m := by
  have h1 := add_nat a b; have h2 := add_carry a b
  have := less_nat (limb_Add a b).1 m (limb_Add a b).2 h2 (by omega)
  rw [h1] at this
  exact this

/-! What m is -1 by, modulo 2^64. -/
theorem newt_step (w x : UInt64) : 1 - w * (x * (2 - w * x)) = (1 - w * x) * (1 - w * x) := by grind
theorem newt_inv (w : UInt64) (h : w &&& 1 = 1) : w * newt w 6 = 1 := by
  obtain ⟨c, hc⟩ : ∃ c, 1 - w = 2 * c := by
    refine ⟨UInt64.ofNat ((1 - w).toNat / 2), ?_⟩
    apply UInt64.toNat_inj.1
    have h1 := congrArg UInt64.toNat h
    rw [and_one] at h1
    have h2 : (1 - w).toNat % 2 = 0 := by
      rw [UInt64.toNat_sub]
      have := u64_lt w
      have e : (1 : UInt64).toNat = 1 := rfl
      rw [e] at h1 ⊢
      omega
    have := u64_lt (1 - w)
    rw [UInt64.toNat_mul, UInt64.toNat_ofNat', show (2 : UInt64).toNat = 2 from rfl]
    omega
  have e0 : 1 - w * newt w 0 = 2 * c := by rw [← hc]; show 1 - w * 1 = _; rw [UInt64.mul_one]
  have e1 : 1 - w * newt w 1 = 4 * (c * c) := by rw [newt, newt_step, e0]; grind
  have e2 : 1 - w * newt w 2 = 16 * (c * c * (c * c)) := by rw [newt, newt_step, e1]; grind
  generalize c * c * (c * c) = d at e2
  have e3 : 1 - w * newt w 3 = 256 * (d * d) := by rw [newt, newt_step, e2]; grind
  generalize d * d = f at e3
  have e4 : 1 - w * newt w 4 = 65536 * (f * f) := by rw [newt, newt_step, e3]; grind
  generalize f * f = g at e4
  have e5 : 1 - w * newt w 5 = 4294967296 * (g * g) := by rw [newt, newt_step, e4]; grind
  generalize g * g = i at e5
  have e6 : 1 - w * newt w 6 = 0 := by rw [newt, newt_step, e5]; grind
  grind
end Go.Proofs.Ytibdipfpfddliaa
/- Package ring: what its functions come to, as numbers. -/
namespace Go.Proofs.Ytibdipfpfddliaa
open Go.Sym Go.Dig

theorem mul64_lo (x y : UInt64) : (mul64 x y).2 = x * y := rfl
theorem row_zero (t k : UInt64) (m : Four) (o1 o2 o3 : UInt64) (hk : m.w0 * k = 0 - 1) : (mulRow (t * k) m t o1 o2 o3).r0 = 0 := by
  have : (mulRow (t * k) m t o1 o2 o3).r0 = t * k * m.w0 + t + 0 + 0 + 0 := rfl
  rw [this]
  grind
theorem shrV_nat (k : UInt64) (m : Four) (t : Eight) (hk : m.w0 * k = 0 - 1) :
    ∃ Q : Nat, Q < 115792089237316195423570985008687907853269984665640564039457584007913129639936 ∧ nat8 t + Q * nat4 m = 115792089237316195423570985008687907853269984665640564039457584007913129639936 * (nat4 (shrV k m t).high + 115792089237316195423570985008687907853269984665640564039457584007913129639936 * (shrV k m t).o4.toNat) := by
  have z : (0 : UInt64).toNat = 0 := rfl
  have zl := zero_le
  obtain ⟨r, hr⟩ : ∃ r, r = shr1 k m t := ⟨_, rfl⟩
  have r0 : r.r0.toNat = 0 := by rw [hr]; unfold shr1; rw [row_zero _ _ _ _ _ _ hk, z]
  have h1 := row_nat (t.e0 * k) m t.e0 t.e1 t.e2 t.e3
  have hr' : mulRow (t.e0 * k) m t.e0 t.e1 t.e2 t.e3 = r := hr.symm
  rw [hr', r0] at h1
  have a4 := add_word t.e4 r.c 0 zl
  have c1 : (addHi t.e4 r.c 0).toNat ≤ 1 := addHi_le _ _ _ zl
  obtain ⟨s, hs⟩ : ∃ s, s = shr2 k m t r := ⟨_, rfl⟩
  have s0 : s.r0.toNat = 0 := by rw [hs]; unfold shr2; rw [row_zero _ _ _ _ _ _ hk, z]
  have h2 := row_nat (r.r1 * k) m r.r1 r.r2 r.r3 (addLo t.e4 r.c 0)
  have hs' : mulRow (r.r1 * k) m r.r1 r.r2 r.r3 (addLo t.e4 r.c 0) = s := hs.symm
  rw [hs', s0] at h2
  obtain ⟨o1, ho1⟩ : ∃ o, o = addHi t.e4 r.c 0 := ⟨_, rfl⟩
  rw [← ho1] at a4 c1
  have a5 := add_word t.e5 s.c o1 c1
  have c2 : (addHi t.e5 s.c o1).toNat ≤ 1 := addHi_le _ _ _ c1
  obtain ⟨o2, ho2⟩ : ∃ o, o = addHi t.e5 s.c o1 := ⟨_, rfl⟩
  obtain ⟨u, hu⟩ : ∃ u, u = shr3 k m t o1 s := ⟨_, rfl⟩
  have u0 : u.r0.toNat = 0 := by rw [hu]; unfold shr3; rw [row_zero _ _ _ _ _ _ hk, z]
  have h3 := row_nat (s.r1 * k) m s.r1 s.r2 s.r3 (addLo t.e5 s.c o1)
  have hu' : mulRow (s.r1 * k) m s.r1 s.r2 s.r3 (addLo t.e5 s.c o1) = u := hu.symm
  rw [hu', u0] at h3
  rw [← ho2] at a5 c2
  have a6 := add_word t.e6 u.c o2 c2
  have c3 : (addHi t.e6 u.c o2).toNat ≤ 1 := addHi_le _ _ _ c2
  obtain ⟨o3, ho3⟩ : ∃ o, o = addHi t.e6 u.c o2 := ⟨_, rfl⟩
  obtain ⟨v, hv⟩ : ∃ v, v = shr4 k m t o2 u := ⟨_, rfl⟩
  have v0 : v.r0.toNat = 0 := by rw [hv]; unfold shr4; rw [row_zero _ _ _ _ _ _ hk, z]
  have h4 := row_nat (u.r1 * k) m u.r1 u.r2 u.r3 (addLo t.e6 u.c o2)
  have hv' : mulRow (u.r1 * k) m u.r1 u.r2 u.r3 (addLo t.e6 u.c o2) = v := hv.symm
  rw [hv', v0] at h4
  rw [← ho3] at a6 c3
  have a7 := add_word t.e7 v.c o3 c3
  have e : shrV k m t = ⟨o1, o2, o3, addHi t.e7 v.c o3, ⟨v.r1, v.r2, v.r3, addLo t.e7 v.c o3⟩⟩ := by
    rw [hv, ho3, hu, ho2, hs, ho1, hr]; rfl
  rw [e]
  have q0 := u64_lt (t.e0 * k); have q1 := u64_lt (r.r1 * k); have q2 := u64_lt (s.r1 * k); have q3 := u64_lt (u.r1 * k)
  refine ⟨(t.e0 * k).toNat + 18446744073709551616 * ((r.r1 * k).toNat + 18446744073709551616 * ((s.r1 * k).toNat + 18446744073709551616 * (u.r1 * k).toNat)), by omega, ?_⟩
  have em : ((t.e0 * k).toNat + 18446744073709551616 * ((r.r1 * k).toNat + 18446744073709551616 * ((s.r1 * k).toNat + 18446744073709551616 * (u.r1 * k).toNat))) * nat4 m = (t.e0 * k).toNat * nat4 m + 18446744073709551616 * ((r.r1 * k).toNat * nat4 m + 18446744073709551616 * ((s.r1 * k).toNat * nat4 m + 18446744073709551616 * ((u.r1 * k).toNat * nat4 m))) := by
    simp only [Nat.add_mul, Nat.mul_assoc]
  rw [em]
  generalize (t.e0 * k).toNat * nat4 m = p0 at *
  generalize (r.r1 * k).toNat * nat4 m = p1 at *
  generalize (s.r1 * k).toNat * nat4 m = p2 at *
  generalize (u.r1 * k).toNat * nat4 m = p3 at *
  simp only [nat8, nat4]
  omega
theorem p2_256 : (2 : Nat) ^ 256 = 115792089237316195423570985008687907853269984665640564039457584007913129639936 := by decide +kernel
theorem shrink_nat (k : UInt64) (m : Four) (t : Eight) (hk : m.w0 * k = 0 - 1) (ho : nat4 m % 2 = 1) (ht : nat8 t < 115792089237316195423570985008687907853269984665640564039457584007913129639936 * nat4 m) : nat4 (shrinkF k m t) = unR (nat4 m) (nat8 t) := by
  obtain ⟨Q, hQ, e⟩ := shrV_nat k m t hk
  have hm : 0 < nat4 m := by omega
  have o4 : (shrV k m t).o4.toNat ≤ 1 := addHi_le _ _ _ (addHi_le _ _ _ (addHi_le _ _ _ (addHi_le _ _ _ zero_le)))
  have hQM : Q * nat4 m < 115792089237316195423570985008687907853269984665640564039457584007913129639936 * nat4 m := Nat.mul_lt_mul_of_pos_right hQ hm
  have hH : nat4 (shrV k m t).high + 115792089237316195423570985008687907853269984665640564039457584007913129639936 * (shrV k m t).o4.toNat < 2 * nat4 m := by omega
  have hl := less_nat (shrV k m t).high m (shrV k m t).o4 o4 hH
  unfold shrinkF
  rw [hl]
  refine unR_of ho (Nat.mod_lt _ hm) ?_
  rw [mod_mul_l, p2_256, Nat.mul_comm _ 115792089237316195423570985008687907853269984665640564039457584007913129639936, ← e, Nat.add_mul_mod_self_right]

/-- What a ring's words have to be. -/
structure RGood (r : RingV) : Prop where
  odd : nat4 r.m % 2 = 1
  big : 1 < nat4 r.m
  back : r.m.w0 * r.back = 0 - 1
  one : nat4 r.one = 2 ^ 256 % nat4 r.m
  two : nat4 r.two = 2 ^ 256 * 2 ^ 256 % nat4 r.m
theorem goodM_odd {m : Four} (h : goodM m = true) : m.w0 &&& 1 = 1 ∧ nat4 m % 2 = 1 ∧ 1 < nat4 m := by
  unfold goodM at h
  simp only [Bool.and_eq_true, Bool.not_eq_true', beq_eq_false_iff_ne] at h
  have h1 : (m.w0 &&& 1).toNat = 1 := by
    have e := and_one m.w0
    by_cases h0 : (m.w0 &&& 1).toNat = 0
    · exact absurd (UInt64.toNat_inj.1 h0) h.1
    · omega
  have h2 := and_one m.w0
  have h3 : nat4 m % 2 = 1 := by simp only [nat4]; omega
  refine ⟨UInt64.toNat_inj.1 h1, h3, ?_⟩
  by_cases hone : nat4 m = 1
  · have : m = ⟨1, 0, 0, 0⟩ := nat4_inj (by rw [hone]; rfl)
    rw [this, eq4_self] at h
    cases h.2
  · omega
theorem dblN_nat {m : Four} (h : 1 < nat4 m) : ∀ n, nat4 (dblN m n) = 2 ^ n % nat4 m
  | 0 => by
    have : nat4 (dblN m 0) = 1 := rfl
    rw [this, Nat.pow_zero, Nat.mod_eq_of_lt h]
  | n + 1 => by
    have ih := dblN_nat h n
    have hl : nat4 (dblN m n) < nat4 m := by rw [ih]; exact Nat.mod_lt _ (by omega)
    have : dblN m (n + 1) = ringPlus m (dblN m n) (dblN m n) := rfl
    rw [this, ringPlus_nat _ _ _ hl hl, ih, ← Nat.add_mod, Nat.pow_succ]
    congr 1
    omega
theorem dbl2_nat {m : Four} (h : 1 < nat4 m) (k : Nat) : nat4 (dblN m (k + k)) = 2 ^ k * 2 ^ k % nat4 m := by rw [dblN_nat h, Nat.pow_add]
theorem ringOf_good {m : Four} (h : goodM m = true) : RGood (ringOf m) := by
  obtain ⟨h1, h2, h3⟩ := goodM_odd h
  refine ⟨h2, h3, ?_, dblN_nat h3 256, dbl2_nat h3 256⟩
  have := newt_inv m.w0 h1
  show m.w0 * (0 - newt m.w0 6) = 0 - 1
  grind

section
variable {r : RingV} (g : RGood r)
include g
theorem times_nat (a b : Four) (h : nat4 a < nat4 r.m ∨ nat4 b < nat4 r.m) : nat4 (timesR r a b) = unR (nat4 r.m) (nat4 a * nat4 b) := by
  have e := mul_nat a b
  have la := nat4_lt a; have lb := nat4_lt b
  have := shrink_nat r.back r.m (limb_Mul a b) g.back g.odd (by
    rw [e]
    rcases h with h | h
    · rw [Nat.mul_comm]; exact Nat.mul_lt_mul_of_lt_of_le lb (Nat.le_of_lt h) (by have := g.big; omega)
    · exact Nat.mul_lt_mul_of_lt_of_le la (Nat.le_of_lt h) (by have := g.big; omega))
  rw [e] at this
  exact this
theorem two_lt : nat4 r.two < nat4 r.m := by rw [g.two]; exact Nat.mod_lt _ (by have := g.big; omega)
theorem one_lt : nat4 r.one < nat4 r.m := by rw [g.one]; exact Nat.mod_lt _ (by have := g.big; omega)
omit g in
theorem one4_nat : nat4 one4 = 1 := rfl
theorem in_nat (a : Four) : nat4 (timesR r a r.two) = nat4 a * 2 ^ 256 % nat4 r.m := by
  rw [times_nat g a r.two (.inr (two_lt g)), g.two]
  have := unR_mul g.odd (nat4 a * 2 ^ 256)
  unfold unR at this ⊢
  rw [← mod_mul_l, mod_mul_r, mod_mul_l, ← Nat.mul_assoc, this]
theorem out_nat (a : Four) : nat4 (timesR r a one4) = unR (nat4 r.m) (nat4 a) := by
  rw [times_nat g a one4 (.inr (by rw [one4_nat]; exact g.big)), one4_nat, Nat.mul_one]
theorem redR_nat (a : Four) : nat4 (redR r a) = nat4 a % nat4 r.m := by
  unfold redR
  rw [out_nat g, in_nat g, unR_mod, unR_mul g.odd]
theorem isR_good : isR (some r) = true := by
  unfold isR
  have := g.odd
  have h1 := and_one r.m.w0
  have : (r.m.w0 &&& 1) = 1 := UInt64.toNat_inj.1 (by rw [h1]; simp only [nat4] at this; show _ = 1; omega)
  simp [this]
theorem onR_good (f : RingV → Four) : onR (some r) f = f r := onR_t (by rw [isR_good g]; rfl)
theorem resR_nat (a : Four) : nat4 (resR r a) = nat4 a % nat4 r.m := by
  have hc := cmp_nat a r.m
  unfold resR
  split
  · rename_i h
    rw [hc] at h
    rw [Nat.mod_eq_of_lt]
    split at h
    · assumption
    · split at h <;> omega
  · rw [onR_good g, redR_nat g]
theorem resR_lt (a : Four) : nat4 (resR r a) < nat4 r.m := by rw [resR_nat g]; exact Nat.mod_lt _ (by have := g.big; omega)
theorem plusR_nat (a b : Four) : nat4 (plusR r a b) = (nat4 a + nat4 b) % nat4 r.m := by
  unfold plusR
  rw [ringPlus_nat _ _ _ (resR_lt g a) (resR_lt g b), resR_nat g, resR_nat g, ← Nat.add_mod]
theorem mulR_nat (a b : Four) : nat4 (mulR r a b) = unR (nat4 r.m) (nat4 a * nat4 b) := by
  unfold mulR
  rw [times_nat g _ _ (.inl (resR_lt g a)), resR_nat g, resR_nat g]
  unfold unR
  rw [Nat.mul_mod, ← Nat.mul_mod (nat4 a), ← Nat.mul_mod]
theorem minusR_nat (a b : Four) : nat4 (minusR r a b) = (nat4 a % nat4 r.m + nat4 r.m - nat4 b % nat4 r.m) % nat4 r.m := by
  have ha := resR_nat g a; have hb := resR_nat g b
  have la := resR_lt g a; have lb := resR_lt g b
  unfold minusR
  rw [← ha, ← hb]
  generalize resR r a = x at *
  generalize resR r b = y at *
  have h1 := sub_nat x y; have h2 := sub_borrow x y
  have h3 := add_nat (limb_Sub x y).1 r.m; have h4 := add_carry (limb_Sub x y).1 r.m
  have l1 := nat4_lt (limb_Sub x y).1; have l2 := nat4_lt (limb_Add (limb_Sub x y).1 r.m).1; have l3 := nat4_lt r.m
  by_cases hc : (limb_Sub x y).2.toNat = 1
  · rw [select_one _ _ _ (by omega), Nat.mod_eq_of_lt (by omega)]
    omega
  · rw [select_zero _ _ _ (by omega)]
    have : nat4 x + nat4 r.m - nat4 y = nat4 (limb_Sub x y).1 + nat4 r.m := by omega
    rw [this, Nat.add_mod_right, Nat.mod_eq_of_lt (by omega)]
theorem wideR_nat (w : Eight) : nat4 (wideR r w) = nat8 w % nat4 r.m := by
  unfold wideR
  have h1 := redR_nat g ⟨w.e0, w.e1, w.e2, w.e3⟩
  have h2 := in_nat g ⟨w.e4, w.e5, w.e6, w.e7⟩
  have hp : 0 < nat4 r.m := by have := g.big; omega
  rw [ringPlus_nat _ _ _ (by rw [h1]; exact Nat.mod_lt _ hp) (by rw [h2]; exact Nat.mod_lt _ hp), h1, h2, ← Nat.add_mod, p2_256]
  congr 1
  simp only [nat8, nat4]
  omega
end
end Go.Proofs.Ytibdipfpfddliaa
