/- A symbolic machine for Go functions, and what the functions that the law reaches come to: Limb2, Limb3, Limb4, Limb5, Limb6, Law01, LawBack. -/
import Derived.Test.YtficbeeoafiiaaaGreatDoorQ8
import Derived.Test.YtficbeeoafiiaaaGreatDoorQ3
import Derived.Test.YtficbeeoafiiaaaGreatDoorQ9
/- Package limb: shifts, bits, bytes. -/
set_option maxRecDepth 10000
namespace Go.Proofs.YtficbeeoafiiaaaGreatDoor
open Go.Sym

/-! math/bits.Len64 -/
def len64 (x : UInt64) : Int := (Lib.bitLen x.toNat : Nat)
abbrev sLen64 : SpecF := fspec (α := UInt64 × Unit) total fun a => len64 a.1
theorem ok_Len64 : SpecOK Tryz.prog 110 sLen64 := by
  refine spec_of_calls (fn := Tryz.f110) (c := Tryz.f110.body.getD .skip) Tryz.func110 (by decide +kernel) (by kernel_rfl) ?_
  intro svs pre r hs hp at_ w vs hr
  unfold sLen64 fspec at hs
  split at hs
  · rename_i a ha
    simp only [Option.some.injEq, Prod.mk.injEq] at hs
    obtain ⟨rfl, rfl⟩ := hs
    obtain ⟨x, u⟩ := a
    have := Args.ok ha hr
    have hx := u64_lt x
    simp only [Args.encL, Enc.enc, RelL, Rel] at this
    obtain ⟨v, vs', rfl, rfl, rfl⟩ := this
    refine (bits_Len64 _ w (by omega) (by omega)).mono ?_
    rintro e w' ⟨rfl, rfl⟩
    refine ⟨_, rfl, ?_, Go.RowKit.Below.refl _ _⟩
    simp only [RetL.retL, retSV, Enc.enc, Rel, len64, Int.toNat_natCast]
  · cases hs
def sp3 : Specs := (110, sLen64) :: sp2
theorem sp3_ok : SpecsOK Tryz.prog sp3 := .cons ok_Len64 sp2_ok

def wr (n : Int) : Int := IntKind.i64.wrap n
def limb_Bits (a : Four) : Int :=
  cond (a.w3 != 0) (wr (192 + len64 a.w3)) (cond (a.w2 != 0) (wr (128 + len64 a.w2)) (cond (a.w1 != 0) (wr (64 + len64 a.w1)) (cond (a.w0 != 0) (wr (0 + len64 a.w0)) 0)))
abbrev sBits : SpecF := fspec (α := Four × Unit) total fun a => limb_Bits a.1
theorem ok_Bits : SpecOK Tryz.prog 108 sBits :=
  fn_ok mixed tt_ok sp3_ok 9 Tryz.func108 (by decide +kernel) (by kernel_rfl)
    (fun p => let a := p.1; let r := SV.i64 (limb_Bits a)
      bcase (a.w3 != 0) (.i64 (wr (192 + len64 a.w3)) = r) (bcase (a.w2 != 0) (.i64 (wr (128 + len64 a.w2)) = r)
        (bcase (a.w1 != 0) (.i64 (wr (64 + len64 a.w1)) = r) (bcase (a.w0 != 0) (.i64 (wr (0 + len64 a.w0)) = r) (.i64 0 = r)))))
    (fun a => by kernel_rfl)
    (fun p _ => by
      simp only [limb_Bits]
      repeat' (refine bcase_intro (fun h => ?_) (fun h => ?_))
      all_goals simp only [*, cond_true, cond_false])

/-! Shifts. -/
def lx (x y : UInt64) (k : Nat) : UInt64 := cond (Nat.blt 0 k) (shl64 x k ||| shr64 y (64 - k)) (shl64 x k)
def rx (x y : UInt64) (k : Nat) : UInt64 := cond (Nat.blt 0 k) (shr64 x k ||| shl64 y (64 - k)) (shr64 x k)
def leftN (a : Four) (n : Nat) : Four :=
  match n / 64 with
  | 0 => ⟨shl64 a.w0 (n % 64), lx a.w1 a.w0 (n % 64), lx a.w2 a.w1 (n % 64), lx a.w3 a.w2 (n % 64)⟩
  | 1 => ⟨0, shl64 a.w0 (n % 64), lx a.w1 a.w0 (n % 64), lx a.w2 a.w1 (n % 64)⟩
  | 2 => ⟨0, 0, shl64 a.w0 (n % 64), lx a.w1 a.w0 (n % 64)⟩
  | _ => ⟨0, 0, 0, shl64 a.w0 (n % 64)⟩
def rightN (a : Four) (n : Nat) : Four :=
  match n / 64 with
  | 0 => ⟨rx a.w0 a.w1 (n % 64), rx a.w1 a.w2 (n % 64), rx a.w2 a.w3 (n % 64), shr64 a.w3 (n % 64)⟩
  | 1 => ⟨rx a.w1 a.w2 (n % 64), rx a.w2 a.w3 (n % 64), shr64 a.w3 (n % 64), 0⟩
  | 2 => ⟨rx a.w2 a.w3 (n % 64), shr64 a.w3 (n % 64), 0, 0⟩
  | _ => ⟨shr64 a.w3 (n % 64), 0, 0, 0⟩
def bitN (a : Four) (n : Nat) : UInt64 :=
  match n / 64 with
  | 0 => shr64 a.w0 (n % 64) &&& 1
  | 1 => shr64 a.w1 (n % 64) &&& 1
  | 2 => shr64 a.w2 (n % 64) &&& 1
  | _ => shr64 a.w3 (n % 64) &&& 1
def zero4 : Four := ⟨0, 0, 0, 0⟩
def limb_Left (a : Four) (n : Int) : Four := if n ≤ 0 then a else if 255 < n then zero4 else leftN a n.toNat
def limb_Right (a : Four) (n : Int) : Four := if n ≤ 0 then a else if 255 < n then zero4 else rightN a n.toNat
def limb_Bit (a : Four) (n : Int) : UInt64 := if n < 0 then 0 else if 255 < n then 0 else bitN a n.toNat

end Go.Proofs.YtficbeeoafiiaaaGreatDoor
/- Package limb: shifts and a bit, walked. -/
set_option maxRecDepth 10000
namespace Go.Proofs.YtficbeeoafiiaaaGreatDoor
open Go.Sym

def lxK (x y K : UInt64) : UInt64 := shl64 x K.toNat ||| shr64 y ((64 : UInt64) - K).toNat
def rxK (x y K : UInt64) : UInt64 := shr64 x K.toNat ||| shl64 y ((64 : UInt64) - K).toNat
def leftK (a : Four) (K : UInt64) : Nat → Four
  | 0 => ⟨shl64 a.w0 K.toNat, lxK a.w1 a.w0 K, lxK a.w2 a.w1 K, lxK a.w3 a.w2 K⟩
  | 1 => ⟨0, shl64 a.w0 K.toNat, lxK a.w1 a.w0 K, lxK a.w2 a.w1 K⟩
  | 2 => ⟨0, 0, shl64 a.w0 K.toNat, lxK a.w1 a.w0 K⟩
  | _ => ⟨0, 0, 0, shl64 a.w0 K.toNat⟩
def rightK (a : Four) (K : UInt64) : Nat → Four
  | 0 => ⟨rxK a.w0 a.w1 K, rxK a.w1 a.w2 K, rxK a.w2 a.w3 K, shr64 a.w3 K.toNat⟩
  | 1 => ⟨rxK a.w1 a.w2 K, rxK a.w2 a.w3 K, shr64 a.w3 K.toNat, 0⟩
  | 2 => ⟨rxK a.w2 a.w3 K, shr64 a.w3 K.toNat, 0, 0⟩
  | _ => ⟨shr64 a.w3 K.toNat, 0, 0, 0⟩
def left0 (a : Four) : Nat → Four
  | 0 => ⟨shl64 a.w0 0, shl64 a.w1 0, shl64 a.w2 0, shl64 a.w3 0⟩
  | 1 => ⟨0, shl64 a.w0 0, shl64 a.w1 0, shl64 a.w2 0⟩
  | 2 => ⟨0, 0, shl64 a.w0 0, shl64 a.w1 0⟩
  | _ => ⟨0, 0, 0, shl64 a.w0 0⟩
def right0 (a : Four) : Nat → Four
  | 0 => ⟨shr64 a.w0 0, shr64 a.w1 0, shr64 a.w2 0, shr64 a.w3 0⟩
  | 1 => ⟨shr64 a.w1 0, shr64 a.w2 0, shr64 a.w3 0, 0⟩
  | 2 => ⟨shr64 a.w2 0, shr64 a.w3 0, 0, 0⟩
  | _ => ⟨shr64 a.w3 0, 0, 0, 0⟩
def bitK (a : Four) (K : UInt64) : Nat → UInt64
  | 0 => shr64 a.w0 K.toNat &&& 1
  | 1 => shr64 a.w1 K.toNat &&& 1
  | 2 => shr64 a.w2 K.toNat &&& 1
  | _ => shr64 a.w3 K.toNat &&& 1
def lowOf (n : Int) : UInt64 := UInt64.ofInt (n.tmod 64)

abbrev A2 := Four × Int × Unit
noncomputable def vR (D : Dec) (t : Four) (a : A2) : Prop := FnRaw tt sp2 9 D Tryz.f88 (fun _ : A2 => t) a
noncomputable def vB (D : Dec) (t : UInt64) (a : A2) : Prop := FnRaw tt sp2 9 D Tryz.f109 (fun _ : A2 => t) a
def dLow : Dec := [(1, 1, .b true)]
def dHigh : Dec := [(1, 1, .b false), (3, 1, .b true)]
def dK (q : Nat) : Dec := [(1, 1, .b false), (3, 1, .b false), (5, 1, .i (Int.ofNat q)), (11, 1, .b true)]
def d0 (q : Nat) : Dec := [(1, 1, .b false), (3, 1, .b false), (5, 1, .i (Int.ofNat q)), (5, 3, .i 0)]
def oK (n : Int) (q : Nat) (r : Prop) : Prop := decide (n ≤ 0) = false ∧ decide (n > 255) = false ∧ wr (n.tdiv 64) = Int.ofNat q ∧ times (4 - q) (decide (0 < lowOf n) = true) r
def o0 (n : Int) (q : Nat) (r : Prop) : Prop := decide (n ≤ 0) = false ∧ decide (n > 255) = false ∧ wr (n.tdiv 64) = Int.ofNat q ∧ n.tmod 64 = 0 ∧ r

theorem right_low (a : Four) (n : Int) : vR dLow a (a, n, ()) = (decide (n ≤ 0) = true ∧ Same a.sv) := by kernel_rfl
theorem right_high (a : Four) (n : Int) : vR dHigh zero4 (a, n, ()) = (decide (n ≤ 0) = false ∧ decide (n > 255) = true ∧ Same zero4.sv) := by kernel_rfl
theorem right_K (a : Four) (n : Int) : (List.range 4).map (fun q => vR (dK q) (rightK a (lowOf n) q) (a, n, ())) = (List.range 4).map fun q => oK n q (Same (rightK a (lowOf n) q).sv) := by kernel_rfl
theorem right_0 (a : Four) (n : Int) : (List.range 4).map (fun q => vR (d0 q) (right0 a q) (a, n, ())) = (List.range 4).map fun q => o0 n q (Same (right0 a q).sv) := by kernel_rfl
theorem bit_low (a : Four) (n : Int) : vB [(1, 1, .b true)] 0 (a, n, ()) = (decide (n < 0) = true ∧ Same (.u64 0)) := by kernel_rfl
theorem bit_high (a : Four) (n : Int) : vB [(1, 1, .b false), (1, 4, .b true)] 0 (a, n, ()) = (decide (n < 0) = false ∧ decide (n > 255) = true ∧ Same (.u64 0)) := by kernel_rfl
theorem bit_K (a : Four) (n : Int) : (List.range 4).map (fun q => vB [(1, 1, .b false), (1, 4, .b false), (3, 1, .i (Int.ofNat q))] (bitK a (lowOf n) q) (a, n, ())) =
    (List.range 4).map fun q => decide (n < 0) = false ∧ decide (n > 255) = false ∧ wr (n.tdiv 64) = Int.ofNat q ∧ Same (.u64 (bitK a (lowOf n) q)) := by kernel_rfl
end Go.Proofs.YtficbeeoafiiaaaGreatDoor
/- Package limb: shifts and a bit as functions of numbers; bytes. -/
set_option maxRecDepth 10000
namespace Go.Proofs.YtficbeeoafiiaaaGreatDoor
open Go.Sym

theorem wr_small {n : Int} (h : -9223372036854775808 ≤ n) (h' : n < 9223372036854775808) : wr n = n := by
  simp only [wr, IntKind.wrap, IntKind.signed, IntKind.bits, Bool.true_and]
  split
  · rename_i k; simp at k; omega
  · rename_i k; simp at k; omega
theorem low_nat {n : Int} (h : 0 ≤ n) : (lowOf n).toNat = n.toNat % 64 := by
  obtain ⟨m, rfl⟩ := Int.eq_ofNat_of_zero_le h
  have e : (m : Int).tmod 64 = ((m % 64 : Nat) : Int) := Int.tmod_eq_emod_of_nonneg (by omega)
  simp only [lowOf, e, Int.toNat_natCast]
  have : (UInt64.ofInt ((m % 64 : Nat) : Int)).toNat = m % 64 := by
    rw [UInt64.ofInt]
    simp
    omega
  exact this
theorem sub_low {K : UInt64} (h : K.toNat < 64) : ((64 : UInt64) - K).toNat = 64 - K.toNat := by
  rw [UInt64.toNat_sub_of_le]
  · rfl
  · rw [UInt64.le_iff_toNat_le]; show _ ≤ 64; omega
theorem lxK_eq (x y K : UInt64) (h0 : 0 < K.toNat) (h : K.toNat < 64) : lxK x y K = lx x y K.toNat := by
  simp only [lxK, lx, sub_low h, show Nat.blt 0 K.toNat = true by rw [Nat.blt_eq]; exact h0, cond_true]
theorem rxK_eq (x y K : UInt64) (h0 : 0 < K.toNat) (h : K.toNat < 64) : rxK x y K = rx x y K.toNat := by
  simp only [rxK, rx, sub_low h, show Nat.blt 0 K.toNat = true by rw [Nat.blt_eq]; exact h0, cond_true]
theorem quo_eq {n : Int} (h : 0 ≤ n) (h' : n ≤ 255) : wr (n.tdiv 64) = Int.ofNat (n.toNat / 64) := by
  obtain ⟨m, rfl⟩ := Int.eq_ofNat_of_zero_le h
  rw [show (m : Int).tdiv 64 = ((m / 64 : Nat) : Int) from Int.tdiv_eq_ediv_of_nonneg (by omega)]
  rw [wr_small (by omega) (by omega)]
  simp
theorem tmod_zero {n : Int} (h : 0 ≤ n) (hk : n.toNat % 64 = 0) : n.tmod 64 = 0 := by
  rw [Int.tmod_eq_emod_of_nonneg h]; omega
abbrev sLeft : SpecF := fspec (α := A2) total fun p => limb_Left p.1 p.2.1
theorem ok_Left : SpecOK Tryz.prog 1000000 Sym.sNo := Sym.sNo_ok _ _
theorem right_cases (a : Four) (n : Int) : ∃ D, FnVD tt sp2 9 D Tryz.f88 (fun p : A2 => limb_Right p.1 p.2.1) (a, n, ()) := by
  by_cases h0 : n ≤ 0
  · refine ⟨dLow, FnVD.of a (by simp [limb_Right, h0]) (right_low a n) ⟨by simp [h0], rfl⟩⟩
  by_cases h1 : 255 < n
  · refine ⟨dHigh, FnVD.of zero4 (by simp [limb_Right, h0, h1]) (right_high a n) ⟨by simp; omega, by simp [h1], rfl⟩⟩
  have hn : n.toNat / 64 < 4 := by omega
  have hlow := low_nat (n := n) (by omega)
  by_cases hk : n.toNat % 64 = 0
  · refine ⟨d0 (n.toNat / 64), FnVD.raw (right0 a (n.toNat / 64)) ?_ (all_of_map 4 (right_0 a n) _ hn ⟨by simp; omega, by simp; omega, quo_eq (by omega) (by omega), tmod_zero (by omega) hk, rfl⟩)⟩
    simp only [limb_Right, h0, h1, if_false, rightN, hk]
    have : n.toNat / 64 = 0 ∨ n.toNat / 64 = 1 ∨ n.toNat / 64 = 2 ∨ n.toNat / 64 = 3 := by omega
    rcases this with e | e | e | e <;> rw [e] <;> rfl
  · have hlt : (lowOf n).toNat < 64 := by omega
    refine ⟨dK (n.toNat / 64), FnVD.raw (rightK a (lowOf n) (n.toNat / 64)) ?_ (all_of_map 4 (right_K a n) _ hn ⟨by simp; omega, by simp; omega, quo_eq (by omega) (by omega), times_mk (by simp [UInt64.lt_iff_toNat_lt]; omega) rfl _⟩)⟩
    simp only [limb_Right, h0, h1, if_false, rightN, ← hlow]
    have : n.toNat / 64 = 0 ∨ n.toNat / 64 = 1 ∨ n.toNat / 64 = 2 ∨ n.toNat / 64 = 3 := by omega
    rcases this with e | e | e | e <;> rw [e] <;> simp only [rightK, rxK_eq _ _ _ (show 0 < (lowOf n).toNat by omega) hlt]
abbrev sRight : SpecF := fspec (α := A2) total fun p => limb_Right p.1 p.2.1
theorem ok_Right : SpecOK Tryz.prog 88 sRight :=
  fn_okD mixed tt_ok sp2_ok 9 Tryz.func88 (by decide +kernel) (by kernel_rfl) (fun ⟨a, n, ()⟩ _ => right_cases a n)
theorem bit_cases (a : Four) (n : Int) : ∃ D, FnVD tt sp2 9 D Tryz.f109 (fun p : A2 => limb_Bit p.1 p.2.1) (a, n, ()) := by
  by_cases h0 : n < 0
  · refine ⟨[(1, 1, .b true)], FnVD.of 0 (by simp [limb_Bit, h0]) (bit_low a n) ⟨by simp [h0], rfl⟩⟩
  by_cases h1 : 255 < n
  · refine ⟨[(1, 1, .b false), (1, 4, .b true)], FnVD.of 0 (by simp [limb_Bit, h0, h1]) (bit_high a n) ⟨by simp; omega, by simp [h1], rfl⟩⟩
  have hn : n.toNat / 64 < 4 := by omega
  have hlow := low_nat (n := n) (by omega)
  refine ⟨_, FnVD.raw (bitK a (lowOf n) (n.toNat / 64)) ?_ (all_of_map 4 (bit_K a n) _ hn ⟨by simp; omega, by simp; omega, quo_eq (by omega) (by omega), rfl⟩)⟩
  simp only [limb_Bit, h0, h1, if_false, bitN, ← hlow]
  have : n.toNat / 64 = 0 ∨ n.toNat / 64 = 1 ∨ n.toNat / 64 = 2 ∨ n.toNat / 64 = 3 := by omega
  rcases this with e | e | e | e <;> rw [e] <;> rfl
abbrev sBit : SpecF := fspec (α := A2) total fun p => limb_Bit p.1 p.2.1
theorem ok_Bit : SpecOK Tryz.prog 109 sBit :=
  fn_okD mixed tt_ok sp2_ok 9 Tryz.func109 (by decide +kernel) (by kernel_rfl) (fun ⟨a, n, ()⟩ _ => bit_cases a n)
end Go.Proofs.YtficbeeoafiiaaaGreatDoor
/- Package limb: numbers of bytes, bytes of numbers. -/
set_option maxRecDepth 10000
namespace Go.Proofs.YtficbeeoafiiaaaGreatDoor
open Go.Sym

def byteAt (big : Bool) (k : Nat) : Nat := cond big (31 - k) k
def wordOf (xs : List UInt8) (big : Bool) (i : Nat) : UInt64 := (List.range 8).foldl (fun acc j => acc ||| shl64 (xs.getD (byteAt big (8 * i + j)) 0).toUInt64 (8 * j)) 0
def fourOf (xs : List UInt8) (big : Bool) : Four := ⟨wordOf xs big 0, wordOf xs big 1, wordOf xs big 2, wordOf xs big 3⟩
def limb_Of (xs : List UInt8) (big : Bool) : Four × Int := if xs.length = 32 then (fourOf xs big, 0) else (zero4, 2)
def obl : List Int → Int → Prop → Prop
  | [], _, p => p
  | k :: ks, L, p => (0 ≤ k ∧ k < L) ∧ obl ks L p
theorem obl_mk {L : Int} {p : Prop} (hp : p) : ∀ {ks : List Int}, (∀ k ∈ ks, 0 ≤ k ∧ k < L) → obl ks L p
  | [], _ => hp
  | k :: ks, h => ⟨h k (by simp), obl_mk hp (fun x hx => h x (by simp [hx]))⟩
abbrev AOf := List UInt8 × Bool × Unit
noncomputable def vOf (D : Dec) (t : Four × Int) (a : AOf) : Prop := FnRaw tt sp2 40 D Tryz.f19 (fun _ : AOf => t) a
theorem of_bad (xs : List UInt8) (big : Bool) : vOf [(1, 2, .b true)] (zero4, 2) (xs, big, ()) = (((xs.length : Int) != 32) = true ∧ Same (.tup [zero4.sv, .i64 2])) := by kernel_rfl
theorem of_good (xs : List UInt8) : ([false, true] : List Bool).map (fun big => vOf [(1, 2, .b false)] (fourOf xs big, 0) (xs, big, ())) =
    ([false, true] : List Bool).map fun big => (((xs.length : Int) != 32) = false ∧ obl ((List.range 32).map fun k => ((byteAt big k : Nat) : Int)) (xs.length : Int) (Same (.tup [(fourOf xs big).sv, .i64 0]))) := by kernel_rfl
theorem of_cases (xs : List UInt8) (big : Bool) : ∃ D, FnVD tt sp2 40 D Tryz.f19 (fun p : AOf => limb_Of p.1 p.2.1) (xs, big, ()) := by
  by_cases h : xs.length = 32
  · refine ⟨[(1, 2, .b false)], ?_⟩
    have h1 := of_good xs
    simp only [List.map_cons, List.map_nil, List.cons.injEq, and_true] at h1
    have key : ∀ big, obl ((List.range 32).map fun k => ((byteAt big k : Nat) : Int)) (xs.length : Int) (Same (.tup [(fourOf xs big).sv, .i64 0])) := by
      intro big
      refine obl_mk rfl fun k hk => ?_
      obtain ⟨m, hm, rfl⟩ := List.mem_map.1 hk
      rw [List.mem_range] at hm
      rw [h]
      cases big <;> simp [byteAt] <;> omega
    cases big
    · exact FnVD.of (fourOf xs false, 0) (by simp [limb_Of, h]) h1.1 ⟨by simp [h], key _⟩
    · exact FnVD.of (fourOf xs true, 0) (by simp [limb_Of, h]) h1.2 ⟨by simp [h], key _⟩
  · refine ⟨[(1, 2, .b true)], FnVD.of (zero4, 2) (by simp [limb_Of, h]) (of_bad xs big) ⟨by simp; omega, rfl⟩⟩
abbrev sOf : SpecF := fspec (α := AOf) total fun p => limb_Of p.1 p.2.1
theorem ok_Of : SpecOK Tryz.prog 19 sOf :=
  fn_okD mixed tt_ok sp2_ok 40 Tryz.func19 (by decide +kernel) (by kernel_rfl) (fun ⟨xs, big, ()⟩ _ => of_cases xs big)

/-! slices.Reverse of 32 bytes of the caller's own. -/
def sReverse : MSpecF := fun look svs =>
  match svs with
  | [.sl b 0 32] => match look b with
    | some [.own (.bytes xs)] => if xs.length = 32 then some ⟨none, .tup [], [(b, [.own (.bytes xs.reverse)])]⟩ else none
    | _ => none
  | _ => none
def revA (g : Nat → UInt8) : List UInt8 := (List.range 32).map g
def revB (g : Nat → UInt8) : List UInt8 := (List.range 32).map fun i => g (31 - i)
noncomputable def vRev (g : Nat → UInt8) : Prop :=
  vc tt [] 40 [] (Tryz.f72.body.getD .skip) (initM [.sl 0 0 32] Tryz.f72.ntmps [[.own (.bytes (revA g))]])
    (finM tt Tryz.f72.results.toList 1 (fun r M => r = .tup [] ∧ M = [[.own (.bytes (revB g))]]))
def revE (x : SV) (y : List Blk) : Prop := x = x ∧ y = y
theorem revE_ok (x : SV) (y : List Blk) : revE x y := And.intro (Eq.refl x) (Eq.refl y)
def revK : List Int := (List.range 16).flatMap fun k => [((31 - k : Nat) : Int), (k : Int), (k : Int), ((31 - k : Nat) : Int)]
theorem rev_vc (g : Nat → UInt8) : vRev g = obl revK 32 (revE (.tup []) [[.own (.bytes (revB g))]]) := by kernel_rfl
theorem revK_ok : ∀ k ∈ revK, 0 ≤ k ∧ k < (32 : Int) := by decide
theorem rev_awp (g : Nat → UInt8) (B : Base) : AWp none Tryz.prog B (Tryz.f72.body.getD .skip) (initM [.sl 0 0 32] Tryz.f72.ntmps [[.own (.bytes (revA g))]])
    (finM tt Tryz.f72.results.toList 1 (fun r M => r = .tup [] ∧ M = [[.own (.bytes (revB g))]])) := by
  refine vc_ok mixed tt_ok (SpecsOK.nil _) (fuel := 40) (D := []) _ _ _ ?_
  have e := rev_vc g
  unfold vRev at e
  rw [e]; exact obl_mk (revE_ok _ _) revK_ok
end Go.Proofs.YtficbeeoafiiaaaGreatDoor
/- Package limb: bytes of numbers. -/
set_option maxRecDepth 10000
namespace Go.Proofs.YtficbeeoafiiaaaGreatDoor
open Go.Sym

theorem asU8s_eq : ∀ {cs : List SV} {xs : List UInt8}, asU8s cs = some xs → cs = xs.map .u8
  | [], xs, h => by simp only [asU8s, Option.some.injEq] at h; subst h; rfl
  | c :: cs, xs, h => by
    cases c <;> simp only [asU8s] at h <;> try (cases h; done)
    obtain ⟨ys, h1, h2⟩ := Option.map_eq_some_iff.1 h
    subst h2
    rw [asU8s_eq h1]; rfl
theorem list_range {xs : List UInt8} {n : Nat} (h : xs.length = n) : xs = (List.range n).map fun i => xs.getD i 0 := by
  apply List.ext_getElem
  · simp [h]
  · intro i h1 h2
    simp [h1]
theorem list_rev {xs : List UInt8} (h : xs.length = 32) : xs.reverse = (List.range 32).map fun i => xs.getD (31 - i) 0 := by
  apply List.ext_getElem
  · simp [h]
  · intro i h1 h2
    have : 31 - i < xs.length := by simp at h2; omega
    simp only [List.getElem_reverse, List.getElem_map, List.getElem_range, h]
    rw [List.getD_eq_getElem?_getD, List.getElem?_eq_getElem (by omega)]; rfl
theorem ok_Reverse : MSpecOK Tryz.prog 72 sReverse := by
  refine mspec_of_awp (c := Tryz.f72.body.getD .skip) tt_ok Tryz.func72 (by decide +kernel) (by kernel_rfl) ?_
  intro look svs out hs hp
  unfold sReverse at hs
  split at hs
  · rename_i b
    split at hs
    · rename_i xs hl
      split at hs
      · rename_i hlen
        simp only [Option.some.injEq] at hs
        subst hs
        refine ⟨[b], [[.own (.bytes xs)]], [[.own (.bytes xs.reverse)]], [.sl 0 0 32], [.sl b 0 32], by simp, rfl, ?_, ?_, fun _ _ _ h => h, rfl, rfl, fun B _ _ _ => ?_⟩
        · intro i c hi
          cases i with
          | zero => simp at hi; subst hi; exact ⟨_, rfl, hl⟩
          | succ i => simp at hi
        · intro c hc
          simp at hc
          subst hc; rfl
        · have key := rev_awp (fun i => xs.getD i 0) B
          have e1 : revA (fun i => xs.getD i 0) = xs := (list_range hlen).symm
          have e2 : revB (fun i => xs.getD i 0) = xs.reverse := (list_rev hlen).symm
          rw [e1, e2] at key
          exact key
      · cases hs
    · cases hs
  · cases hs
def spB : Specs := (72, .mem sReverse) :: sp2
theorem spB_ok : SpecsOK Tryz.prog spB := .consM ok_Reverse sp2_ok

def w4 (a : Four) : Nat → UInt64
  | 0 => a.w0
  | 1 => a.w1
  | 2 => a.w2
  | _ => a.w3
def bytesL (a : Four) : List UInt8 := (List.range 32).map fun i => (shr64 (w4 a (i / 8)) (8 * (i % 8))).toUInt8
def limb_Bytes (a : Four) (big : Bool) : List UInt8 := cond big (bytesL a).reverse (bytesL a)
abbrev AB := Four × Bool × Unit
noncomputable def vBy (t : List UInt8) (a : AB) : Prop := FnRaw tt spB 40 [] Tryz.f31 (fun _ : AB => t) a
def mkOb (n : Int) (p : Prop) : Prop := (0 ≤ n ∧ n = n ∧ n ≤ 1099511627776) ∧ p
theorem bytes_vc (a : Four) : ([false, true] : List Bool).map (fun big => vBy (limb_Bytes a big) (a, big, ())) =
    ([false, true] : List Bool).map fun big => mkOb 32 (obl ((List.range 32).map fun k : Nat => (k : Int)) 32 (Same (.lst (.bytes (limb_Bytes a big))))) := by kernel_rfl
theorem bytes_ob (x : SV) : mkOb 32 (obl ((List.range 32).map fun k : Nat => (k : Int)) 32 (Same x)) := by
  refine And.intro (by decide) (obl_mk (Same.mk _) fun k hk => ?_)
  obtain ⟨m, hm, rfl⟩ := List.mem_map.1 hk
  rw [List.mem_range] at hm
  omega
abbrev sBytes : SpecF := fspec (α := AB) total fun p => limb_Bytes p.1 p.2.1
theorem bytes_cases (a : Four) (big : Bool) : ∃ D, FnVD tt spB 40 D Tryz.f31 (fun p : AB => limb_Bytes p.1 p.2.1) (a, big, ()) := by
  have h1 := bytes_vc a
  simp only [List.map_cons, List.map_nil, List.cons.injEq, and_true] at h1
  refine ⟨[], ?_⟩
  cases big
  · exact FnVD.of (limb_Bytes a false) (Eq.refl _) h1.1 (bytes_ob _)
  · exact FnVD.of (limb_Bytes a true) (Eq.refl _) h1.2 (bytes_ob _)
theorem ok_Bytes : SpecOK Tryz.prog 31 sBytes :=
  fn_okD mixed tt_ok spB_ok 40 Tryz.func31 (by decide +kernel) (by kernel_rfl) (fun ⟨a, big, ()⟩ _ => bytes_cases a big)
end Go.Proofs.YtficbeeoafiiaaaGreatDoor
/- Layer 1's laws: what they begin with. -/
set_option maxRecDepth 10000
namespace Go.Proofs.YtficbeeoafiiaaaGreatDoor
open Go.Sym

def spL0 : Specs := [(83, sAdd), (81, sSub), (102, sCmp), (108, sBits), (86, sMul), (1000002, Sym.sNo),
  (1000001, Sym.sNo), (88, sRight), (109, sBit), (19, sOf), (31, sBytes), (84, sSelect)]
theorem spL0_ok : SpecsOK Tryz.prog spL0 := .cons ok_Add <| .cons ok_Sub <| .cons ok_Cmp <| .cons ok_Bits <| .cons ok_Mul <| .cons ok_MulWord <| .cons ok_Left <| .cons ok_Right <| .cons ok_Bit <| .cons ok_Of <| .cons ok_Bytes <| .cons ok_Select <| .nil _
abbrev sAwake1 : SpecF := fspec (α := Unit) total fun _ => true
theorem ok_awake1 : SpecOK Tryz.prog 1000000 Sym.sNo := Sym.sNo_ok _ _
def spL1 : Specs := (1000000, Sym.sNo) :: spL0
theorem spL1_ok : SpecsOK Tryz.prog spL1 := .cons ok_awake1 spL0_ok
end Go.Proofs.YtficbeeoafiiaaaGreatDoor
/- Layer 1, what is added and taken away: the law's body. -/
set_option maxRecDepth 10000
namespace Go.Proofs.YtficbeeoafiiaaaGreatDoor
open Go.Sym

def eq4 (x y : Four) : Bool := (x.w0 == y.w0) && ((x.w1 == y.w1) && ((x.w2 == y.w2) && ((x.w3 == y.w3) && true)))
def eq8 (x y : Eight) : Bool := (x.e0 == y.e0) && ((x.e1 == y.e1) && ((x.e2 == y.e2) && ((x.e3 == y.e3) && ((x.e4 == y.e4) && ((x.e5 == y.e5) && ((x.e6 == y.e6) && ((x.e7 == y.e7) && true)))))))
def shOf (w : UInt64) : Int := wr ((w % 256).toNat : Int)
def lessBits (x n : Int) : Int := if 0 > wr (x - n) then 0 else wr (x - n)
abbrev ABk := Four × Four × UInt64 × Unit
def backE (a b : Four) (w : UInt64) : Prop :=
  (!true) = false ∧ (!eq4 (limb_Sub (limb_Add a b).1 b).1 a) = false ∧ ((limb_Sub (limb_Add a b).1 b).2 != (limb_Add a b).2) = false ∧ ((limb_Of (limb_Bytes a true) true).2 != 0) = false ∧
  (!eq4 (limb_Of (limb_Bytes a true) true).1 a) = false ∧ (limb_Cmp a b != wr (0 - limb_Cmp b a)) = false ∧ (!eq8 (limb_Mul a b) (limb_Mul b a)) = false ∧
  (!eq4 (limb_Right (limb_Left a (shOf w)) (shOf w)) (limb_Right (limb_Left (limb_Right (limb_Left a (shOf w)) (shOf w)) (shOf w)) (shOf w))) = false ∧
  (limb_Bits (limb_Right a (shOf w)) != lessBits (limb_Bits a) (shOf w)) = false ∧
  eq4 (limb_Add (limb_MulWord a w).1 (limb_MulWord b w).1).1 (limb_MulWord (limb_Add a b).1 w).1 = true ∧ Same (.bool true)
end Go.Proofs.YtficbeeoafiiaaaGreatDoor
