/- A symbolic machine for Go functions, and what the functions that the law reaches come to: Limb2, Limb3, Limb4, Limb5, Limb6, RefD, RefE, NoA, NoB, NoC, NoR, NoD, NoE. -/
import Derived.Test.YtomoihkepkmgdaaDoorQ10
import Derived.Test.YtomoihkepkmgdaaDoorQ2
import Derived.Test.YtomoihkepkmgdaaDoorQ11
import Derived.Test.YtomoihkepkmgdaaDoorQ6
import Derived.Test.YtomoihkepkmgdaaDoorQ8
import Derived.Test.YtomoihkepkmgdaaDoorQ9
/- Package limb: shifts, bits, bytes. -/
set_option maxRecDepth 10000
namespace Go.Proofs.YtomoihkepkmgdaaDoor
open Go.Sym

/-! math/bits.Len64 -/
def len64 (x : UInt64) : Int := (Lib.bitLen x.toNat : Nat)
abbrev sLen64 : SpecF := fspec (α := UInt64 × Unit) total fun a => len64 a.1
theorem ok_Len64 : SpecOK Tryd.prog 68 sLen64 := by
  refine spec_of_calls (fn := Tryd.f68) (c := Tryd.f68.body.getD .skip) Tryd.func68 (by decide +kernel) (by kernel_rfl) ?_
  intro svs pre r hs hp at_ w vs hr
  unfold sLen64 fspec at hs
  split at hs
  · rename_i a ha
    simp only [Option.some.injEq, Prod.mk.injEq] at hs
    obtain ⟨rfl, rfl⟩ := hs
    obtain ⟨x, u⟩ := a
    have := Args.ok ha hr
    have hx := u64_lt x
    simp only [Args.encL, Enc.enc, RelL, Rel] at this
    obtain ⟨v, vs', rfl, rfl, rfl⟩ := this
    refine (bits_Len64 _ w (by omega) (by omega)).mono ?_
    rintro e w' ⟨rfl, rfl⟩
    refine ⟨_, rfl, ?_, Go.RowKit.Below.refl _ _⟩
    simp only [RetL.retL, retSV, Enc.enc, Rel, len64, Int.toNat_natCast]
  · cases hs
def sp3 : Specs := (68, sLen64) :: sp2
theorem sp3_ok : SpecsOK Tryd.prog sp3 := .cons ok_Len64 sp2_ok

def wr (n : Int) : Int := IntKind.i64.wrap n
def limb_Bits (a : Four) : Int :=
  cond (a.w3 != 0) (wr (192 + len64 a.w3)) (cond (a.w2 != 0) (wr (128 + len64 a.w2)) (cond (a.w1 != 0) (wr (64 + len64 a.w1)) (cond (a.w0 != 0) (wr (0 + len64 a.w0)) 0)))
abbrev sBits : SpecF := fspec (α := Four × Unit) total fun a => limb_Bits a.1
theorem ok_Bits : SpecOK Tryd.prog 46 sBits :=
  fn_ok mixed tt_ok sp3_ok 9 Tryd.func46 (by decide +kernel) (by kernel_rfl)
    (fun p => let a := p.1; let r := SV.i64 (limb_Bits a)
      bcase (a.w3 != 0) (.i64 (wr (192 + len64 a.w3)) = r) (bcase (a.w2 != 0) (.i64 (wr (128 + len64 a.w2)) = r)
        (bcase (a.w1 != 0) (.i64 (wr (64 + len64 a.w1)) = r) (bcase (a.w0 != 0) (.i64 (wr (0 + len64 a.w0)) = r) (.i64 0 = r)))))
    (fun a => by kernel_rfl)
    (fun p _ => by
      simp only [limb_Bits]
      repeat' (refine bcase_intro (fun h => ?_) (fun h => ?_))
      all_goals simp only [*, cond_true, cond_false])

/-! Shifts. -/
def lx (x y : UInt64) (k : Nat) : UInt64 := cond (Nat.blt 0 k) (shl64 x k ||| shr64 y (64 - k)) (shl64 x k)
def rx (x y : UInt64) (k : Nat) : UInt64 := cond (Nat.blt 0 k) (shr64 x k ||| shl64 y (64 - k)) (shr64 x k)
def leftN (a : Four) (n : Nat) : Four :=
  match n / 64 with
  | 0 => ⟨shl64 a.w0 (n % 64), lx a.w1 a.w0 (n % 64), lx a.w2 a.w1 (n % 64), lx a.w3 a.w2 (n % 64)⟩
  | 1 => ⟨0, shl64 a.w0 (n % 64), lx a.w1 a.w0 (n % 64), lx a.w2 a.w1 (n % 64)⟩
  | 2 => ⟨0, 0, shl64 a.w0 (n % 64), lx a.w1 a.w0 (n % 64)⟩
  | _ => ⟨0, 0, 0, shl64 a.w0 (n % 64)⟩
def rightN (a : Four) (n : Nat) : Four :=
  match n / 64 with
  | 0 => ⟨rx a.w0 a.w1 (n % 64), rx a.w1 a.w2 (n % 64), rx a.w2 a.w3 (n % 64), shr64 a.w3 (n % 64)⟩
  | 1 => ⟨rx a.w1 a.w2 (n % 64), rx a.w2 a.w3 (n % 64), shr64 a.w3 (n % 64), 0⟩
  | 2 => ⟨rx a.w2 a.w3 (n % 64), shr64 a.w3 (n % 64), 0, 0⟩
  | _ => ⟨shr64 a.w3 (n % 64), 0, 0, 0⟩
def bitN (a : Four) (n : Nat) : UInt64 :=
  match n / 64 with
  | 0 => shr64 a.w0 (n % 64) &&& 1
  | 1 => shr64 a.w1 (n % 64) &&& 1
  | 2 => shr64 a.w2 (n % 64) &&& 1
  | _ => shr64 a.w3 (n % 64) &&& 1
def zero4 : Four := ⟨0, 0, 0, 0⟩
def limb_Left (a : Four) (n : Int) : Four := if n ≤ 0 then a else if 255 < n then zero4 else leftN a n.toNat
def limb_Right (a : Four) (n : Int) : Four := if n ≤ 0 then a else if 255 < n then zero4 else rightN a n.toNat
def limb_Bit (a : Four) (n : Int) : UInt64 := if n < 0 then 0 else if 255 < n then 0 else bitN a n.toNat

end Go.Proofs.YtomoihkepkmgdaaDoor
/- Package limb: shifts and a bit, walked. -/
set_option maxRecDepth 10000
namespace Go.Proofs.YtomoihkepkmgdaaDoor
open Go.Sym

def lxK (x y K : UInt64) : UInt64 := shl64 x K.toNat ||| shr64 y ((64 : UInt64) - K).toNat
def rxK (x y K : UInt64) : UInt64 := shr64 x K.toNat ||| shl64 y ((64 : UInt64) - K).toNat
def leftK (a : Four) (K : UInt64) : Nat → Four
  | 0 => ⟨shl64 a.w0 K.toNat, lxK a.w1 a.w0 K, lxK a.w2 a.w1 K, lxK a.w3 a.w2 K⟩
  | 1 => ⟨0, shl64 a.w0 K.toNat, lxK a.w1 a.w0 K, lxK a.w2 a.w1 K⟩
  | 2 => ⟨0, 0, shl64 a.w0 K.toNat, lxK a.w1 a.w0 K⟩
  | _ => ⟨0, 0, 0, shl64 a.w0 K.toNat⟩
def rightK (a : Four) (K : UInt64) : Nat → Four
  | 0 => ⟨rxK a.w0 a.w1 K, rxK a.w1 a.w2 K, rxK a.w2 a.w3 K, shr64 a.w3 K.toNat⟩
  | 1 => ⟨rxK a.w1 a.w2 K, rxK a.w2 a.w3 K, shr64 a.w3 K.toNat, 0⟩
  | 2 => ⟨rxK a.w2 a.w3 K, shr64 a.w3 K.toNat, 0, 0⟩
  | _ => ⟨shr64 a.w3 K.toNat, 0, 0, 0⟩
def left0 (a : Four) : Nat → Four
  | 0 => ⟨shl64 a.w0 0, shl64 a.w1 0, shl64 a.w2 0, shl64 a.w3 0⟩
  | 1 => ⟨0, shl64 a.w0 0, shl64 a.w1 0, shl64 a.w2 0⟩
  | 2 => ⟨0, 0, shl64 a.w0 0, shl64 a.w1 0⟩
  | _ => ⟨0, 0, 0, shl64 a.w0 0⟩
def right0 (a : Four) : Nat → Four
  | 0 => ⟨shr64 a.w0 0, shr64 a.w1 0, shr64 a.w2 0, shr64 a.w3 0⟩
  | 1 => ⟨shr64 a.w1 0, shr64 a.w2 0, shr64 a.w3 0, 0⟩
  | 2 => ⟨shr64 a.w2 0, shr64 a.w3 0, 0, 0⟩
  | _ => ⟨shr64 a.w3 0, 0, 0, 0⟩
def bitK (a : Four) (K : UInt64) : Nat → UInt64
  | 0 => shr64 a.w0 K.toNat &&& 1
  | 1 => shr64 a.w1 K.toNat &&& 1
  | 2 => shr64 a.w2 K.toNat &&& 1
  | _ => shr64 a.w3 K.toNat &&& 1
def lowOf (n : Int) : UInt64 := UInt64.ofInt (n.tmod 64)

abbrev A2 := Four × Int × Unit
def dLow : Dec := [(1, 1, .b true)]
def dHigh : Dec := [(1, 1, .b false), (3, 1, .b true)]
def dK (q : Nat) : Dec := [(1, 1, .b false), (3, 1, .b false), (5, 1, .i (Int.ofNat q)), (11, 1, .b true)]
def d0 (q : Nat) : Dec := [(1, 1, .b false), (3, 1, .b false), (5, 1, .i (Int.ofNat q)), (5, 3, .i 0)]
def oK (n : Int) (q : Nat) (r : Prop) : Prop := decide (n ≤ 0) = false ∧ decide (n > 255) = false ∧ wr (n.tdiv 64) = Int.ofNat q ∧ times (4 - q) (decide (0 < lowOf n) = true) r
def o0 (n : Int) (q : Nat) (r : Prop) : Prop := decide (n ≤ 0) = false ∧ decide (n > 255) = false ∧ wr (n.tdiv 64) = Int.ofNat q ∧ n.tmod 64 = 0 ∧ r

end Go.Proofs.YtomoihkepkmgdaaDoor
/- Package limb: shifts and a bit as functions of numbers; bytes. -/
set_option maxRecDepth 10000
namespace Go.Proofs.YtomoihkepkmgdaaDoor
open Go.Sym

theorem wr_small {n : Int} (h : -9223372036854775808 ≤ n) (h' : n < 9223372036854775808) : wr n = n := by
  simp only [wr, IntKind.wrap, IntKind.signed, IntKind.bits, Bool.true_and]
  split
  · rename_i k; simp at k; omega
  · rename_i k; simp at k; omega
theorem low_nat {n : Int} (h : 0 ≤ n) : (lowOf n).toNat = n.toNat % 64 := by
  obtain ⟨m, rfl⟩ := Int.eq_ofNat_of_zero_le h
  have e : (m : Int).tmod 64 = ((m % 64 : Nat) : Int) := Int.tmod_eq_emod_of_nonneg (by omega)
  simp only [lowOf, e, Int.toNat_natCast]
  have : (UInt64.ofInt ((m % 64 : Nat) : Int)).toNat = m % 64 := by
    rw [UInt64.ofInt]
    simp
    omega
  exact this
theorem sub_low {K : UInt64} (h : K.toNat < 64) : ((64 : UInt64) - K).toNat = 64 - K.toNat := by
  rw [UInt64.toNat_sub_of_le]
  · rfl
  · rw [UInt64.le_iff_toNat_le]; show _ ≤ 64; omega
theorem lxK_eq (x y K : UInt64) (h0 : 0 < K.toNat) (h : K.toNat < 64) : lxK x y K = lx x y K.toNat := by
  simp only [lxK, lx, sub_low h, show Nat.blt 0 K.toNat = true by rw [Nat.blt_eq]; exact h0, cond_true]
theorem rxK_eq (x y K : UInt64) (h0 : 0 < K.toNat) (h : K.toNat < 64) : rxK x y K = rx x y K.toNat := by
  simp only [rxK, rx, sub_low h, show Nat.blt 0 K.toNat = true by rw [Nat.blt_eq]; exact h0, cond_true]
theorem quo_eq {n : Int} (h : 0 ≤ n) (h' : n ≤ 255) : wr (n.tdiv 64) = Int.ofNat (n.toNat / 64) := by
  obtain ⟨m, rfl⟩ := Int.eq_ofNat_of_zero_le h
  rw [show (m : Int).tdiv 64 = ((m / 64 : Nat) : Int) from Int.tdiv_eq_ediv_of_nonneg (by omega)]
  rw [wr_small (by omega) (by omega)]
  simp
theorem tmod_zero {n : Int} (h : 0 ≤ n) (hk : n.toNat % 64 = 0) : n.tmod 64 = 0 := by
  rw [Int.tmod_eq_emod_of_nonneg h]; omega
abbrev sLeft : SpecF := fspec (α := A2) total fun p => limb_Left p.1 p.2.1
theorem ok_Left : SpecOK Tryd.prog 1000001 Sym.sNo := Sym.sNo_ok _ _
abbrev sRight : SpecF := fspec (α := A2) total fun p => limb_Right p.1 p.2.1
theorem ok_Right : SpecOK Tryd.prog 1000002 Sym.sNo := Sym.sNo_ok _ _
abbrev sBit : SpecF := fspec (α := A2) total fun p => limb_Bit p.1 p.2.1
theorem ok_Bit : SpecOK Tryd.prog 1000000 Sym.sNo := Sym.sNo_ok _ _
end Go.Proofs.YtomoihkepkmgdaaDoor
/- Package limb: numbers of bytes, bytes of numbers. -/
set_option maxRecDepth 10000
namespace Go.Proofs.YtomoihkepkmgdaaDoor
open Go.Sym

def byteAt (big : Bool) (k : Nat) : Nat := cond big (31 - k) k
def wordOf (xs : List UInt8) (big : Bool) (i : Nat) : UInt64 := (List.range 8).foldl (fun acc j => acc ||| shl64 (xs.getD (byteAt big (8 * i + j)) 0).toUInt64 (8 * j)) 0
def fourOf (xs : List UInt8) (big : Bool) : Four := ⟨wordOf xs big 0, wordOf xs big 1, wordOf xs big 2, wordOf xs big 3⟩
def limb_Of (xs : List UInt8) (big : Bool) : Four × Int := if xs.length = 32 then (fourOf xs big, 0) else (zero4, 2)
def obl : List Int → Int → Prop → Prop
  | [], _, p => p
  | k :: ks, L, p => (0 ≤ k ∧ k < L) ∧ obl ks L p
theorem obl_mk {L : Int} {p : Prop} (hp : p) : ∀ {ks : List Int}, (∀ k ∈ ks, 0 ≤ k ∧ k < L) → obl ks L p
  | [], _ => hp
  | k :: ks, h => ⟨h k (by simp), obl_mk hp (fun x hx => h x (by simp [hx]))⟩
abbrev AOf := List UInt8 × Bool × Unit
noncomputable def vOf (D : Dec) (t : Four × Int) (a : AOf) : Prop := FnRaw tt sp2 40 D Tryd.f45 (fun _ : AOf => t) a
theorem of_bad (xs : List UInt8) (big : Bool) : vOf [(1, 2, .b true)] (zero4, 2) (xs, big, ()) = (((xs.length : Int) != 32) = true ∧ Same (.tup [zero4.sv, .i64 2])) := by kernel_rfl
theorem of_good (xs : List UInt8) : ([false, true] : List Bool).map (fun big => vOf [(1, 2, .b false)] (fourOf xs big, 0) (xs, big, ())) =
    ([false, true] : List Bool).map fun big => (((xs.length : Int) != 32) = false ∧ obl ((List.range 32).map fun k => ((byteAt big k : Nat) : Int)) (xs.length : Int) (Same (.tup [(fourOf xs big).sv, .i64 0]))) := by kernel_rfl
theorem of_cases (xs : List UInt8) (big : Bool) : ∃ D, FnVD tt sp2 40 D Tryd.f45 (fun p : AOf => limb_Of p.1 p.2.1) (xs, big, ()) := by
  by_cases h : xs.length = 32
  · refine ⟨[(1, 2, .b false)], ?_⟩
    have h1 := of_good xs
    simp only [List.map_cons, List.map_nil, List.cons.injEq, and_true] at h1
    have key : ∀ big, obl ((List.range 32).map fun k => ((byteAt big k : Nat) : Int)) (xs.length : Int) (Same (.tup [(fourOf xs big).sv, .i64 0])) := by
      intro big
      refine obl_mk rfl fun k hk => ?_
      obtain ⟨m, hm, rfl⟩ := List.mem_map.1 hk
      rw [List.mem_range] at hm
      rw [h]
      cases big <;> simp [byteAt] <;> omega
    cases big
    · exact FnVD.of (fourOf xs false, 0) (by simp [limb_Of, h]) h1.1 ⟨by simp [h], key _⟩
    · exact FnVD.of (fourOf xs true, 0) (by simp [limb_Of, h]) h1.2 ⟨by simp [h], key _⟩
  · refine ⟨[(1, 2, .b true)], FnVD.of (zero4, 2) (by simp [limb_Of, h]) (of_bad xs big) ⟨by simp; omega, rfl⟩⟩
abbrev sOf : SpecF := fspec (α := AOf) total fun p => limb_Of p.1 p.2.1
theorem ok_Of : SpecOK Tryd.prog 45 sOf :=
  fn_okD mixed tt_ok sp2_ok 40 Tryd.func45 (by decide +kernel) (by kernel_rfl) (fun ⟨xs, big, ()⟩ _ => of_cases xs big)

/-! slices.Reverse of 32 bytes of the caller's own. -/
def sReverse : MSpecF := fun look svs =>
  match svs with
  | [.sl b 0 32] => match look b with
    | some [.own (.bytes xs)] => if xs.length = 32 then some ⟨none, .tup [], [(b, [.own (.bytes xs.reverse)])]⟩ else none
    | _ => none
  | _ => none
def revA (g : Nat → UInt8) : List UInt8 := (List.range 32).map g
def revB (g : Nat → UInt8) : List UInt8 := (List.range 32).map fun i => g (31 - i)
noncomputable def vRev (g : Nat → UInt8) : Prop :=
  vc tt [] 40 [] (Tryd.f87.body.getD .skip) (initM [.sl 0 0 32] Tryd.f87.ntmps [[.own (.bytes (revA g))]])
    (finM tt Tryd.f87.results.toList 1 (fun r M => r = .tup [] ∧ M = [[.own (.bytes (revB g))]]))
def revE (x : SV) (y : List Blk) : Prop := x = x ∧ y = y
theorem revE_ok (x : SV) (y : List Blk) : revE x y := And.intro (Eq.refl x) (Eq.refl y)
def revK : List Int := (List.range 16).flatMap fun k => [((31 - k : Nat) : Int), (k : Int), (k : Int), ((31 - k : Nat) : Int)]
theorem rev_vc (g : Nat → UInt8) : vRev g = obl revK 32 (revE (.tup []) [[.own (.bytes (revB g))]]) := by kernel_rfl
theorem revK_ok : ∀ k ∈ revK, 0 ≤ k ∧ k < (32 : Int) := by decide
theorem rev_awp (g : Nat → UInt8) (B : Base) : AWp none Tryd.prog B (Tryd.f87.body.getD .skip) (initM [.sl 0 0 32] Tryd.f87.ntmps [[.own (.bytes (revA g))]])
    (finM tt Tryd.f87.results.toList 1 (fun r M => r = .tup [] ∧ M = [[.own (.bytes (revB g))]])) := by
  refine vc_ok mixed tt_ok (SpecsOK.nil _) (fuel := 40) (D := []) _ _ _ ?_
  have e := rev_vc g
  unfold vRev at e
  rw [e]; exact obl_mk (revE_ok _ _) revK_ok
end Go.Proofs.YtomoihkepkmgdaaDoor
/- Package limb: bytes of numbers. -/
set_option maxRecDepth 10000
namespace Go.Proofs.YtomoihkepkmgdaaDoor
open Go.Sym

theorem asU8s_eq : ∀ {cs : List SV} {xs : List UInt8}, asU8s cs = some xs → cs = xs.map .u8
  | [], xs, h => by simp only [asU8s, Option.some.injEq] at h; subst h; rfl
  | c :: cs, xs, h => by
    cases c <;> simp only [asU8s] at h <;> try (cases h; done)
    obtain ⟨ys, h1, h2⟩ := Option.map_eq_some_iff.1 h
    subst h2
    rw [asU8s_eq h1]; rfl
theorem list_range {xs : List UInt8} {n : Nat} (h : xs.length = n) : xs = (List.range n).map fun i => xs.getD i 0 := by
  apply List.ext_getElem
  · simp [h]
  · intro i h1 h2
    simp [h1]
theorem list_rev {xs : List UInt8} (h : xs.length = 32) : xs.reverse = (List.range 32).map fun i => xs.getD (31 - i) 0 := by
  apply List.ext_getElem
  · simp [h]
  · intro i h1 h2
    have : 31 - i < xs.length := by simp at h2; omega
    simp only [List.getElem_reverse, List.getElem_map, List.getElem_range, h]
    rw [List.getD_eq_getElem?_getD, List.getElem?_eq_getElem (by omega)]; rfl
theorem ok_Reverse : MSpecOK Tryd.prog 87 sReverse := by
  refine mspec_of_awp (c := Tryd.f87.body.getD .skip) tt_ok Tryd.func87 (by decide +kernel) (by kernel_rfl) ?_
  intro look svs out hs hp
  unfold sReverse at hs
  split at hs
  · rename_i b
    split at hs
    · rename_i xs hl
      split at hs
      · rename_i hlen
        simp only [Option.some.injEq] at hs
        subst hs
        refine ⟨[b], [[.own (.bytes xs)]], [[.own (.bytes xs.reverse)]], [.sl 0 0 32], [.sl b 0 32], by simp, rfl, ?_, ?_, fun _ _ _ h => h, rfl, rfl, fun B _ _ _ => ?_⟩
        · intro i c hi
          cases i with
          | zero => simp at hi; subst hi; exact ⟨_, rfl, hl⟩
          | succ i => simp at hi
        · intro c hc
          simp at hc
          subst hc; rfl
        · have key := rev_awp (fun i => xs.getD i 0) B
          have e1 : revA (fun i => xs.getD i 0) = xs := (list_range hlen).symm
          have e2 : revB (fun i => xs.getD i 0) = xs.reverse := (list_rev hlen).symm
          rw [e1, e2] at key
          exact key
      · cases hs
    · cases hs
  · cases hs
def spB : Specs := (87, .mem sReverse) :: sp2
theorem spB_ok : SpecsOK Tryd.prog spB := .consM ok_Reverse sp2_ok

def w4 (a : Four) : Nat → UInt64
  | 0 => a.w0
  | 1 => a.w1
  | 2 => a.w2
  | _ => a.w3
def bytesL (a : Four) : List UInt8 := (List.range 32).map fun i => (shr64 (w4 a (i / 8)) (8 * (i % 8))).toUInt8
def limb_Bytes (a : Four) (big : Bool) : List UInt8 := cond big (bytesL a).reverse (bytesL a)
abbrev AB := Four × Bool × Unit
noncomputable def vBy (t : List UInt8) (a : AB) : Prop := FnRaw tt spB 40 [] Tryd.f71 (fun _ : AB => t) a
def mkOb (n : Int) (p : Prop) : Prop := (0 ≤ n ∧ n = n ∧ n ≤ 1099511627776) ∧ p
theorem bytes_vc (a : Four) : ([false, true] : List Bool).map (fun big => vBy (limb_Bytes a big) (a, big, ())) =
    ([false, true] : List Bool).map fun big => mkOb 32 (obl ((List.range 32).map fun k : Nat => (k : Int)) 32 (Same (.lst (.bytes (limb_Bytes a big))))) := by kernel_rfl
theorem bytes_ob (x : SV) : mkOb 32 (obl ((List.range 32).map fun k : Nat => (k : Int)) 32 (Same x)) := by
  refine And.intro (by decide) (obl_mk (Same.mk _) fun k hk => ?_)
  obtain ⟨m, hm, rfl⟩ := List.mem_map.1 hk
  rw [List.mem_range] at hm
  omega
abbrev sBytes : SpecF := fspec (α := AB) total fun p => limb_Bytes p.1 p.2.1
theorem bytes_cases (a : Four) (big : Bool) : ∃ D, FnVD tt spB 40 D Tryd.f71 (fun p : AB => limb_Bytes p.1 p.2.1) (a, big, ()) := by
  have h1 := bytes_vc a
  simp only [List.map_cons, List.map_nil, List.cons.injEq, and_true] at h1
  refine ⟨[], ?_⟩
  cases big
  · exact FnVD.of (limb_Bytes a false) (Eq.refl _) h1.1 (bytes_ob _)
  · exact FnVD.of (limb_Bytes a true) (Eq.refl _) h1.2 (bytes_ob _)
theorem ok_Bytes : SpecOK Tryd.prog 71 sBytes :=
  fn_okD mixed tt_ok spB_ok 40 Tryd.func71 (by decide +kernel) (by kernel_rfl) (fun ⟨a, big, ()⟩ _ => bytes_cases a big)
end Go.Proofs.YtomoihkepkmgdaaDoor
/- The reference's functions on digits (7): quotients and rests: what they say, and what their bodies come to. -/
set_option maxRecDepth 10000
namespace Go.Proofs.YtomoihkepkmgdaaDoor.R1
open Go.Sym Go.Dig

--STOP Go.Dig.Dig, Dg, Can, Sm

def spDg : Specs := [(74, sSmall), (55, nCmp), (92, nSub), (80, sTrim)]
def iDgA (a : Nat) (b : List Int) (rest : Nat) (i : Int) (q : List Int) : Prop := -1 ≤ i ∧ i < (dg a).length ∧ q.length = (dg a).length ∧ Dig q ∧ (∀ k : Nat, (k : Int) ≤ i → q.getD k 0 = 0) ∧
  rest = a / 16777216 ^ (i + 1).toNat % nv b ∧ nv q = 16777216 ^ (i + 1).toNat * (a / 16777216 ^ (i + 1).toNat / nv b)
def iDgB (b : List Int) (rest : Nat) (q0 : List Int) (low high : Int) (q : List Int) : Prop := q = q0 ∧ 0 ≤ low ∧ low ≤ ((rest / nv b : Nat) : Int) ∧ ((rest / nv b : Nat) : Int) < high ∧ high ≤ 16777216
def lDigits : Plan := { loops := [(0, { β := Num × List Int × Unit, α := Num × OwnI × Int × Unit, same := [0, 1], keep := [6, 7, 8], inv := fun b _ x => iDgA b.1.n b.2.1 x.1.n x.2.2.1 x.2.1.l, meas := fun _ x => (x.2.2.1 + 1).toNat }), (2, { β := Num × List Int × Num × Int × Unit, α := OwnI × Int × Int × Unit, same := [0, 1, 6, 8], keep := [7, 10, 11], inv := fun b x0 x => iDgB b.2.1 b.2.2.1.n x0.1.l x.2.1 x.2.2.1 x.1.l, meas := fun _ x => (x.2.2.1 - x.2.1).toNat })], cuts := [(7, { β := Num × List Int × Int × Unit, γ := Num × OwnI × Unit, α := Num × OwnI × Unit, same := [0, 1, 8], pre := [6, 7], keep := [6, 7], inv := fun b g x => x.1.n = ((dg b.1.n).getD b.2.2.1.toNat 0).toNat + 16777216 * g.1.n ∧ x.2.1.l = g.2.1.l })], forks := [(10, { β := Num × List Int × Num × Int × Unit, γ := OwnI × Unit, α := OwnI × Int × Int × Unit, same := [0, 1, 6, 8], pre := [7], keep := [7, 10, 11], inv := fun b g x => iDgB b.2.1 b.2.2.1.n g.1.l x.2.1 x.2.2.1 x.1.l })] }
theorem vcDigits (a : Nat) (b : List Int) (Q : SV → Prop) : LnRaw tt spDg 3 [] lDigits Tryd.f88 Q ((⟨a⟩ : Num), b, ()) =
  ((((0 : Int) ≤ (↑(List.length (dg a)) : Int)) ∧
   (((↑(List.length (dg a)) : Int) = (↑(List.length (dg a)) : Int)) ∧
   ((↑(List.length (dg a)) : Int) ≤ (1099511627776 : Int)))) ∧
  ((((0 : Nat) = (0 : Nat)) ∧
   (Int.toNat (↑(List.length (dg a)) : Int) =
  List.length (List.replicate (Int.toNat (↑(List.length (dg a)) : Int)) (0 : Int)))) ∧
  ((iDgA a b (0 : Nat) (IntKind.wrap IntKind.i64 ((↑(List.length (dg a)) : Int) - (1 : Int)))
  (List.replicate (Int.toNat (↑(List.length (dg a)) : Int)) (0 : Int))) ∧
  (∀ a_1 : Num,
  (∀ l : List Int,
  (∀ a_2 : Int,
  ((iDgA a b (Num.n a_1) a_2 l) →
  bcase (decide (a_2 ≥ (0 : Int)))
    (((((0 : Int) ≤ a_2) ∧
     (a_2 < (↑(List.length (dg a)) : Int))) ∧
    ((((0 : Nat) = (0 : Nat)) ∧
     (List.length l = List.length l)) ∧
    (((((0 : Nat) + (1 : Nat) = List.length [List.getD (dg a) (Int.toNat a_2) (0 : Int)]) ∧
      (List.length
    (List.drop (0 : Nat)
        (List.take (List.length [List.getD (dg a) (Int.toNat a_2) (0 : Int)])
          [List.getD (dg a) (Int.toNat a_2) (0 : Int)]) ++
      dg (Num.n a_1)) ≤
  appLim)) ∧
     (((Dig
  (List.drop (0 : Nat)
    (List.take
      ((0 : Nat) +
        List.length
          (List.drop (0 : Nat)
              (List.take (List.length [List.getD (dg a) (Int.toNat a_2) (0 : Int)])
                [List.getD (dg a) (Int.toNat a_2) (0 : Int)]) ++
            dg (Num.n a_1)))
      (List.drop (0 : Nat)
          (List.take (List.length [List.getD (dg a) (Int.toNat a_2) (0 : Int)])
            [List.getD (dg a) (Int.toNat a_2) (0 : Int)]) ++
        dg (Num.n a_1))))) ∧
      (List.length
    (List.drop (0 : Nat)
      (List.take
        ((0 : Nat) +
          List.length
            (List.drop (0 : Nat)
                (List.take (List.length [List.getD (dg a) (Int.toNat a_2) (0 : Int)])
                  [List.getD (dg a) (Int.toNat a_2) (0 : Int)]) ++
              dg (Num.n a_1)))
        (List.drop (0 : Nat)
            (List.take (List.length [List.getD (dg a) (Int.toNat a_2) (0 : Int)])
              [List.getD (dg a) (Int.toNat a_2) (0 : Int)]) ++
          dg (Num.n a_1)))) ≤
  (4294967296 : Nat))) ∧
     ((((0 : Nat) = (0 : Nat)) ∧
      (List.length l = List.length l)) ∧
     (((Num.mk a, b, a_2, ()) = (Num.mk a, b, a_2, ())) ∧
     ((nv
    (List.drop (0 : Nat)
      (List.take
        ((0 : Nat) +
          List.length
            (List.drop (0 : Nat)
                (List.take (List.length [List.getD (dg a) (Int.toNat a_2) (0 : Int)])
                  [List.getD (dg a) (Int.toNat a_2) (0 : Int)]) ++
              dg (Num.n a_1)))
        (List.drop (0 : Nat)
            (List.take (List.length [List.getD (dg a) (Int.toNat a_2) (0 : Int)])
              [List.getD (dg a) (Int.toNat a_2) (0 : Int)]) ++
          dg (Num.n a_1)))) =
  Int.toNat (List.getD (dg a) (Int.toNat a_2) (0 : Int)) + (16777216 : Nat) * Num.n a_1) ∧
     (l = l)))))) ∧
    (∀ a_3 : Num,
    (∀ l_1 : List Int,
    (((Num.n a_3 = Int.toNat (List.getD (dg a) (Int.toNat a_2) (0 : Int)) + (16777216 : Nat) * Num.n a_1) ∧
    (l_1 = l)) →
    ((((0 : Nat) = (0 : Nat)) ∧
     (List.length l_1 = List.length l_1)) ∧
    (bcase (decide ((↑(List.length (dg (Num.n a_3))) : Int) < (↑(List.length b) : Int)))
       (((((0 : Nat) = (0 : Nat)) ∧
        (List.length l_1 = List.length l_1)) ∧
       (((Num.mk a, b, a_3, a_2, ()) = (Num.mk a, b, a_3, a_2, ())) ∧
       (iDgB b (Num.n a_3) l_1 (0 : Int) (1 : Int) l_1))))
       (((((0 : Int) ≤ IntKind.wrap IntKind.i64 ((↑(List.length (dg (Num.n a_3))) : Int) - (1 : Int))) ∧
        (IntKind.wrap IntKind.i64 ((↑(List.length (dg (Num.n a_3))) : Int) - (1 : Int)) < (↑(List.length (dg (Num.n a_3))) : Int))) ∧
       bcase (decide ((↑(List.length (dg (Num.n a_3))) : Int) > (↑(List.length b) : Int)))
         (((((0 : Int) ≤ IntKind.wrap IntKind.i64 ((↑(List.length (dg (Num.n a_3))) : Int) - (2 : Int))) ∧
          (IntKind.wrap IntKind.i64 ((↑(List.length (dg (Num.n a_3))) : Int) - (2 : Int)) < (↑(List.length (dg (Num.n a_3))) : Int))) ∧
         ((((0 : Int) ≤ IntKind.wrap IntKind.i64 ((↑(List.length b) : Int) - (1 : Int))) ∧
          (IntKind.wrap IntKind.i64 ((↑(List.length b) : Int) - (1 : Int)) < (↑(List.length b) : Int))) ∧
         ((IntKind.wrap IntKind.i64
    (List.getD b (Int.toNat (IntKind.wrap IntKind.i64 ((↑(List.length b) : Int) - (1 : Int)))) (0 : Int) + (1 : Int)) ≠
  (0 : Int)) ∧
         ((((0 : Int) ≤ IntKind.wrap IntKind.i64 ((↑(List.length b) : Int) - (1 : Int))) ∧
          (IntKind.wrap IntKind.i64 ((↑(List.length b) : Int) - (1 : Int)) < (↑(List.length b) : Int))) ∧
         ((List.getD b (Int.toNat (IntKind.wrap IntKind.i64 ((↑(List.length b) : Int) - (1 : Int)))) (0 : Int) ≠ (0 : Int)) ∧
         bcase (decide
  (IntKind.wrap IntKind.i64
      (IntKind.wrap IntKind.i64
          (Int.tdiv
            (IntKind.wrap IntKind.i64
              (IntKind.wrap IntKind.i64
                  (List.getD (dg (Num.n a_3))
                      (Int.toNat (IntKind.wrap IntKind.i64 ((↑(List.length (dg (Num.n a_3))) : Int) - (1 : Int))))
                      (0 : Int) *
                    (16777216 : Int)) +
                List.getD (dg (Num.n a_3))
                  (Int.toNat (IntKind.wrap IntKind.i64 ((↑(List.length (dg (Num.n a_3))) : Int) - (2 : Int))))
                  (0 : Int)))
            (List.getD b (Int.toNat (IntKind.wrap IntKind.i64 ((↑(List.length b) : Int) - (1 : Int)))) (0 : Int))) +
        (1 : Int)) >
    (16777216 : Int)))
           (((((0 : Nat) = (0 : Nat)) ∧
            (List.length l_1 = List.length l_1)) ∧
           (((Num.mk a, b, a_3, a_2, ()) = (Num.mk a, b, a_3, a_2, ())) ∧
           (iDgB b (Num.n a_3) l_1
  (IntKind.wrap IntKind.i64
    (Int.tdiv
      (IntKind.wrap IntKind.i64
        (IntKind.wrap IntKind.i64
            (List.getD (dg (Num.n a_3))
                (Int.toNat (IntKind.wrap IntKind.i64 ((↑(List.length (dg (Num.n a_3))) : Int) - (1 : Int)))) (0 : Int) *
              (16777216 : Int)) +
          List.getD (dg (Num.n a_3))
            (Int.toNat (IntKind.wrap IntKind.i64 ((↑(List.length (dg (Num.n a_3))) : Int) - (2 : Int)))) (0 : Int)))
      (IntKind.wrap IntKind.i64
        (List.getD b (Int.toNat (IntKind.wrap IntKind.i64 ((↑(List.length b) : Int) - (1 : Int)))) (0 : Int) +
          (1 : Int)))))
  (16777216 : Int) l_1))))
           (((((0 : Nat) = (0 : Nat)) ∧
            (List.length l_1 = List.length l_1)) ∧
           (((Num.mk a, b, a_3, a_2, ()) = (Num.mk a, b, a_3, a_2, ())) ∧
           (iDgB b (Num.n a_3) l_1
  (IntKind.wrap IntKind.i64
    (Int.tdiv
      (IntKind.wrap IntKind.i64
        (IntKind.wrap IntKind.i64
            (List.getD (dg (Num.n a_3))
                (Int.toNat (IntKind.wrap IntKind.i64 ((↑(List.length (dg (Num.n a_3))) : Int) - (1 : Int)))) (0 : Int) *
              (16777216 : Int)) +
          List.getD (dg (Num.n a_3))
            (Int.toNat (IntKind.wrap IntKind.i64 ((↑(List.length (dg (Num.n a_3))) : Int) - (2 : Int)))) (0 : Int)))
      (IntKind.wrap IntKind.i64
        (List.getD b (Int.toNat (IntKind.wrap IntKind.i64 ((↑(List.length b) : Int) - (1 : Int)))) (0 : Int) +
          (1 : Int)))))
  (IntKind.wrap IntKind.i64
    (IntKind.wrap IntKind.i64
        (Int.tdiv
          (IntKind.wrap IntKind.i64
            (IntKind.wrap IntKind.i64
                (List.getD (dg (Num.n a_3))
                    (Int.toNat (IntKind.wrap IntKind.i64 ((↑(List.length (dg (Num.n a_3))) : Int) - (1 : Int))))
                    (0 : Int) *
                  (16777216 : Int)) +
              List.getD (dg (Num.n a_3))
                (Int.toNat (IntKind.wrap IntKind.i64 ((↑(List.length (dg (Num.n a_3))) : Int) - (2 : Int)))) (0 : Int)))
          (List.getD b (Int.toNat (IntKind.wrap IntKind.i64 ((↑(List.length b) : Int) - (1 : Int)))) (0 : Int))) +
      (1 : Int)))
  l_1))))))))))
         (((((0 : Int) ≤ IntKind.wrap IntKind.i64 ((↑(List.length b) : Int) - (1 : Int))) ∧
          (IntKind.wrap IntKind.i64 ((↑(List.length b) : Int) - (1 : Int)) < (↑(List.length b) : Int))) ∧
         ((IntKind.wrap IntKind.i64
    (List.getD b (Int.toNat (IntKind.wrap IntKind.i64 ((↑(List.length b) : Int) - (1 : Int)))) (0 : Int) + (1 : Int)) ≠
  (0 : Int)) ∧
         ((((0 : Int) ≤ IntKind.wrap IntKind.i64 ((↑(List.length b) : Int) - (1 : Int))) ∧
          (IntKind.wrap IntKind.i64 ((↑(List.length b) : Int) - (1 : Int)) < (↑(List.length b) : Int))) ∧
         ((List.getD b (Int.toNat (IntKind.wrap IntKind.i64 ((↑(List.length b) : Int) - (1 : Int)))) (0 : Int) ≠ (0 : Int)) ∧
         bcase (decide
  (IntKind.wrap IntKind.i64
      (IntKind.wrap IntKind.i64
          (Int.tdiv
            (List.getD (dg (Num.n a_3))
              (Int.toNat (IntKind.wrap IntKind.i64 ((↑(List.length (dg (Num.n a_3))) : Int) - (1 : Int)))) (0 : Int))
            (List.getD b (Int.toNat (IntKind.wrap IntKind.i64 ((↑(List.length b) : Int) - (1 : Int)))) (0 : Int))) +
        (1 : Int)) >
    (16777216 : Int)))
           (((((0 : Nat) = (0 : Nat)) ∧
            (List.length l_1 = List.length l_1)) ∧
           (((Num.mk a, b, a_3, a_2, ()) = (Num.mk a, b, a_3, a_2, ())) ∧
           (iDgB b (Num.n a_3) l_1
  (IntKind.wrap IntKind.i64
    (Int.tdiv
      (List.getD (dg (Num.n a_3))
        (Int.toNat (IntKind.wrap IntKind.i64 ((↑(List.length (dg (Num.n a_3))) : Int) - (1 : Int)))) (0 : Int))
      (IntKind.wrap IntKind.i64
        (List.getD b (Int.toNat (IntKind.wrap IntKind.i64 ((↑(List.length b) : Int) - (1 : Int)))) (0 : Int) +
          (1 : Int)))))
  (16777216 : Int) l_1))))
           (((((0 : Nat) = (0 : Nat)) ∧
            (List.length l_1 = List.length l_1)) ∧
           (((Num.mk a, b, a_3, a_2, ()) = (Num.mk a, b, a_3, a_2, ())) ∧
           (iDgB b (Num.n a_3) l_1
  (IntKind.wrap IntKind.i64
    (Int.tdiv
      (List.getD (dg (Num.n a_3))
        (Int.toNat (IntKind.wrap IntKind.i64 ((↑(List.length (dg (Num.n a_3))) : Int) - (1 : Int)))) (0 : Int))
      (IntKind.wrap IntKind.i64
        (List.getD b (Int.toNat (IntKind.wrap IntKind.i64 ((↑(List.length b) : Int) - (1 : Int)))) (0 : Int) +
          (1 : Int)))))
  (IntKind.wrap IntKind.i64
    (IntKind.wrap IntKind.i64
        (Int.tdiv
          (List.getD (dg (Num.n a_3))
            (Int.toNat (IntKind.wrap IntKind.i64 ((↑(List.length (dg (Num.n a_3))) : Int) - (1 : Int)))) (0 : Int))
          (List.getD b (Int.toNat (IntKind.wrap IntKind.i64 ((↑(List.length b) : Int) - (1 : Int)))) (0 : Int))) +
      (1 : Int)))
  l_1))))))))))) ∧
    (∀ l_2 : List Int,
    (∀ a_4 : Int,
    (∀ a_5 : Int,
    ((iDgB b (Num.n a_3) l_1 a_4 a_5 l_2) →
    ((((0 : Nat) = (0 : Nat)) ∧
     (List.length l_2 = List.length l_2)) ∧
    ((iDgB b (Num.n a_3) l_2 a_4 a_5 l_2) ∧
    (∀ l_3 : List Int,
    (∀ a_6 : Int,
    (∀ a_7 : Int,
    ((iDgB b (Num.n a_3) l_2 a_6 a_7 l_3) →
    bcase (decide (IntKind.wrap IntKind.i64 (a_7 - a_6) > (1 : Int)))
      ((((Dg b) ∧
       (((0 : Int) ≤ IntKind.wrap IntKind.i64 (Int.tdiv (IntKind.wrap IntKind.i64 (a_6 + a_7)) (2 : Int))) ∧
       (IntKind.wrap IntKind.i64 (Int.tdiv (IntKind.wrap IntKind.i64 (a_6 + a_7)) (2 : Int)) < (9223372036854775808 : Int)))) ∧
      (((Sm (nv b * Int.toNat (IntKind.wrap IntKind.i64 (Int.tdiv (IntKind.wrap IntKind.i64 (a_6 + a_7)) (2 : Int))))) ∧
       (Sm (Num.n a_3))) ∧
      bcase (decide
  (cmpN (nv b * Int.toNat (IntKind.wrap IntKind.i64 (Int.tdiv (IntKind.wrap IntKind.i64 (a_6 + a_7)) (2 : Int))))
      (Num.n a_3) ≤
    (0 : Int)))
        (((((0 : Nat) = (0 : Nat)) ∧
         (List.length l_3 = List.length l_3)) ∧
        (((Num.mk a, b, a_3, a_2, ()) = (Num.mk a, b, a_3, a_2, ())) ∧
        ((iDgB b (Num.n a_3) l_2 (IntKind.wrap IntKind.i64 (Int.tdiv (IntKind.wrap IntKind.i64 (a_6 + a_7)) (2 : Int))) a_7 l_3) ∧
        (Int.toNat (a_7 - IntKind.wrap IntKind.i64 (Int.tdiv (IntKind.wrap IntKind.i64 (a_6 + a_7)) (2 : Int))) <
  Int.toNat (a_7 - a_6))))))
        (((((0 : Nat) = (0 : Nat)) ∧
         (List.length l_3 = List.length l_3)) ∧
        (((Num.mk a, b, a_3, a_2, ()) = (Num.mk a, b, a_3, a_2, ())) ∧
        ((iDgB b (Num.n a_3) l_2 a_6 (IntKind.wrap IntKind.i64 (Int.tdiv (IntKind.wrap IntKind.i64 (a_6 + a_7)) (2 : Int))) l_3) ∧
        (Int.toNat (IntKind.wrap IntKind.i64 (Int.tdiv (IntKind.wrap IntKind.i64 (a_6 + a_7)) (2 : Int)) - a_6) <
  Int.toNat (a_7 - a_6)))))))))
      (((((0 : Int) ≤ a_2) ∧
       (a_2 < (↑(List.length l_3) : Int))) ∧
      (((Dg b) ∧
       (((0 : Int) ≤ a_6) ∧
       (a_6 < (9223372036854775808 : Int)))) ∧
      (((Sm (Num.n a_3)) ∧
       ((nv b * Int.toNat a_6 ≤ Num.n a_3) ∧
       (Sm (nv b * Int.toNat a_6)))) ∧
      ((((0 : Nat) = (0 : Nat)) ∧
       (List.length l_3 = List.length (List.set l_3 ((0 : Nat) + Int.toNat a_2) a_6))) ∧
      (((Num.mk a, b, ()) = (Num.mk a, b, ())) ∧
      ((iDgA a b (Num.n a_3 - nv b * Int.toNat a_6) (IntKind.wrap IntKind.i64 (a_2 - (1 : Int)))
  (List.set l_3 ((0 : Nat) + Int.toNat a_2) a_6)) ∧
      (Int.toNat (IntKind.wrap IntKind.i64 (a_2 - (1 : Int)) + (1 : Int)) < Int.toNat (a_2 + (1 : Int)))))))))))))))))))))))))))))
    ((((Dig (List.drop (0 : Nat) (List.take ((0 : Nat) + List.length l) l))) ∧
     (List.length (List.drop (0 : Nat) (List.take ((0 : Nat) + List.length l) l)) ≤ (4294967296 : Nat))) ∧
    (Q
  (SV.tup
    [SV.lst (LV.num (nv (List.drop (0 : Nat) (List.take ((0 : Nat) + List.length l) l)))), SV.lst (LV.num (Num.n a_1))]))))))))))) := by kernel_rfl
def sDigits : SpecF := fspec (α := Num × List Int × Unit) (β := Num × Num × Unit) (fun a => some (Sm a.1.n ∧ Can a.2.1 ∧ a.2.1.length ≤ 1073741000 ∧ 0 < nv a.2.1)) (fun a => (⟨a.1.n / nv a.2.1⟩, ⟨a.1.n % nv a.2.1⟩, ()))
def spDv : Specs := [(74, nSmall), (88, sDigits)]
def lDiv : Plan := { cuts := [(1, { β := Num × Num × Unit, γ := Unit, α := Int × Unit, same := [0, 1], pre := [], keep := [6], inv := fun _ _ x => 1 ≤ x.1 ∧ x.1 ≤ 8388608 })] }
theorem vcDiv (a b : Nat) (Q : SV → Prop) : LnRaw tt spDv 3 [] lDiv Tryd.f72 Q ((⟨a⟩ : Num), (⟨b⟩ : Num), ()) =
  (((((0 : Int) ≤ IntKind.wrap IntKind.i64 ((↑(List.length (dg b)) : Int) - (1 : Int))) ∧
    (IntKind.wrap IntKind.i64 ((↑(List.length (dg b)) : Int) - (1 : Int)) < (↑(List.length (dg b)) : Int))) ∧
   ((IntKind.wrap IntKind.i64
    (List.getD (dg b) (Int.toNat (IntKind.wrap IntKind.i64 ((↑(List.length (dg b)) : Int) - (1 : Int)))) (0 : Int) +
      (1 : Int)) ≠
  (0 : Int)) ∧
   (((Num.mk a, Num.mk b, ()) = (Num.mk a, Num.mk b, ())) ∧
   (((1 : Int) ≤
  IntKind.wrap IntKind.i64
    (Int.tdiv (16777216 : Int)
      (IntKind.wrap IntKind.i64
        (List.getD (dg b) (Int.toNat (IntKind.wrap IntKind.i64 ((↑(List.length (dg b)) : Int) - (1 : Int)))) (0 : Int) +
          (1 : Int))))) ∧
   (IntKind.wrap IntKind.i64
    (Int.tdiv (16777216 : Int)
      (IntKind.wrap IntKind.i64
        (List.getD (dg b) (Int.toNat (IntKind.wrap IntKind.i64 ((↑(List.length (dg b)) : Int) - (1 : Int)))) (0 : Int) +
          (1 : Int)))) ≤
  (8388608 : Int)))))) ∧
  (∀ a_1 : Int,
  ((((1 : Int) ≤ a_1) ∧
  (a_1 ≤ (8388608 : Int))) →
  (((Sm a) ∧
   (((0 : Int) ≤ a_1) ∧
   (a_1 < (9223372036854775808 : Int)))) ∧
  (((Sm b) ∧
   (((0 : Int) ≤ a_1) ∧
   (a_1 < (9223372036854775808 : Int)))) ∧
  (((Sm (a * Int.toNat a_1)) ∧
   ((Can (dg (b * Int.toNat a_1))) ∧
   ((List.length (dg (b * Int.toNat a_1)) ≤ (1073741000 : Nat)) ∧
   ((0 : Nat) < nv (dg (b * Int.toNat a_1)))))) ∧
  bcase (decide (a_1 > (1 : Int)))
    ((((Sm (a * Int.toNat a_1 % nv (dg (b * Int.toNat a_1)))) ∧
     ((Can (List.drop (0 : Nat) (List.take ((0 : Nat) + (1 : Nat)) [a_1]))) ∧
     ((List.length (List.drop (0 : Nat) (List.take ((0 : Nat) + (1 : Nat)) [a_1])) ≤ (1073741000 : Nat)) ∧
     ((0 : Nat) < nv (List.drop (0 : Nat) (List.take ((0 : Nat) + (1 : Nat)) [a_1])))))) ∧
    (Q
  (SV.tup
    [SV.lst (LV.num (a * Int.toNat a_1 / nv (dg (b * Int.toNat a_1)))),
      SV.lst
        (LV.num
          (a * Int.toNat a_1 % nv (dg (b * Int.toNat a_1)) /
            nv (List.drop (0 : Nat) (List.take ((0 : Nat) + (1 : Nat)) [a_1]))))]))))
    ((Q
  (SV.tup
    [SV.lst (LV.num (a * Int.toNat a_1 / nv (dg (b * Int.toNat a_1)))),
      SV.lst (LV.num (a * Int.toNat a_1 % nv (dg (b * Int.toNat a_1))))]))))))))) := by kernel_rfl
def nDiv : SpecF := fspec (α := N2) (β := Num × Num × Unit) (fun a => some ((dg a.1.n).length ≤ 536870912 ∧ (dg a.2.1.n).length ≤ 536870912 ∧ 0 < a.2.1.n)) (fun a => (⟨a.1.n / a.2.1.n⟩, ⟨a.1.n % a.2.1.n⟩, ()))
theorem vcMod (a b : Nat) (Q : SV → Prop) : LnRaw tt [(72, nDiv)] 3 [] {} Tryd.f52 Q ((⟨a⟩ : Num), (⟨b⟩ : Num), ()) =
  (((List.length (dg a) ≤ (536870912 : Nat)) ∧
   ((List.length (dg b) ≤ (536870912 : Nat)) ∧
   ((0 : Nat) < b))) ∧
  (Q (SV.lst (LV.num (a % b))))) := by kernel_rfl
def nMod : SpecF := fspec (α := N2) (β := Num) (fun a => some ((dg a.1.n).length ≤ 536870912 ∧ (dg a.2.1.n).length ≤ 536870912 ∧ 0 < a.2.1.n)) (fun a => ⟨a.1.n % a.2.1.n⟩)
end Go.Proofs.YtomoihkepkmgdaaDoor.R1
/- The reference's functions on digits (8): quotients and rests: what they say is so. -/
set_option maxRecDepth 10000
namespace Go.Proofs.YtomoihkepkmgdaaDoor.R1
open Go.Sym Go.Dig

/-- What the highest digits say of a quotient. -/
theorem quot_bounds {n b P bt bl : Nat} (hP : 0 < P) (hb : b = bl + P * bt) (hl : bl < P) (ht : 1 ≤ bt) : n / P / (bt + 1) ≤ n / b ∧ n / b < n / P / bt + 1 := by
  have hbp : 0 < b := by have := Nat.mul_pos hP ht; omega
  refine ⟨?_, ?_⟩
  · rw [Nat.le_div_iff_mul_le hbp]
    have h1 : n / P / (bt + 1) * (bt + 1) ≤ n / P := Nat.div_mul_le_self _ _
    have h2 : P * (n / P) ≤ n := Nat.mul_div_le n P
    have h3 : b ≤ P * (bt + 1) := by rw [Nat.mul_add]; omega
    calc n / P / (bt + 1) * b ≤ n / P / (bt + 1) * (P * (bt + 1)) := Nat.mul_le_mul_left _ h3
      _ = P * (n / P / (bt + 1) * (bt + 1)) := by rw [Nat.mul_left_comm]
      _ ≤ P * (n / P) := Nat.mul_le_mul_left _ h1
      _ ≤ n := h2
  · rw [Nat.div_lt_iff_lt_mul hbp]
    have h1 : n < P * (n / P + 1) := Nat.lt_mul_div_succ n hP
    have h2 : n / P < bt * (n / P / bt + 1) := Nat.lt_mul_div_succ _ (by omega)
    have h3 : P * bt ≤ b := by omega
    calc n < P * (n / P + 1) := h1
      _ ≤ P * (bt * (n / P / bt + 1)) := Nat.mul_le_mul_left _ h2
      _ = P * bt * (n / P / bt + 1) := by rw [Nat.mul_assoc]
      _ ≤ b * (n / P / bt + 1) := Nat.mul_le_mul_right _ h3
      _ = (n / P / bt + 1) * b := Nat.mul_comm _ _
theorem dg_top_ge {n : Nat} (h : n ≠ 0) : 16777216 ^ ((dg n).length - 1) ≤ n := by
  have hc : dg n ≠ [] := fun e => h (dg_nil_iff.1 e)
  have hlen : 0 < (dg n).length := List.length_pos_iff.2 hc
  by_cases e : 16777216 ^ ((dg n).length - 1) ≤ n
  · exact e
  · have := dg_length_lt (n := n) (k := (dg n).length - 1) (by omega)
    omega
theorem len_le_of_lt {n k : Nat} (h : n < 16777216 ^ k) : (dg n).length ≤ k := dg_length_lt h
theorem lt_len {n k : Nat} (h : 16777216 ^ k ≤ n) : k < (dg n).length := by
  by_cases e : k < (dg n).length
  · exact e
  · have h1 := lt_of_dg_length n
    have h2 : (16777216 : Nat) ^ (dg n).length ≤ 16777216 ^ k := Nat.pow_le_pow_right (by omega) (by omega)
    omega
theorem dg_digit (n q : Nat) : ((dg n).getD q 0) = ((n / 16777216 ^ q % 16777216 : Nat) : Int) := by
  have h := digit_nat (dig_dg n) q
  rw [nv_dg] at h
  have := getD_dig (dig_dg n) q
  omega
theorem spDg_ok : SpecsOK Tryd.prog spDg := .cons ok_Small <| .cons ok_nCmp <| .cons ok_nSub <| .cons ok_Trim <| .nil _
theorem cmpN_le {x y : Nat} : cmpN x y ≤ 0 ↔ x ≤ y := by
  unfold cmpN
  split
  · simp; omega
  · split <;> simp <;> omega

theorem ok_Digits : SpecOK Tryd.prog 88 sDigits := by
  refine fn_okL (by kernel_rfl) tt_ok spDg_ok 3 Tryd.func88 (by decide +kernel) (by kernel_rfl) ?_
  rintro ⟨⟨a⟩, b, _⟩ ⟨hsa, hcb, hlb, hb0⟩
  simp only at hsa hcb hlb hb0
  refine ⟨[], lDigits, fun x => x = .tup [.lst (.num (a / nv b)), .lst (.num (a % nv b))], LnVD.of (vcDigits a b _) ?_, fun x h at_ w v r => by have h' : x = _ := h; subst h'; exact r⟩
  have hla : (dg a).length ≤ 1073741824 := hsa
  have hne : b ≠ [] := by rintro rfl; simp [nv_nil] at hb0
  have hlen : 0 < b.length := List.length_pos_iff.2 hne
  have hdb := hcb.dig
  have htop := can_top hcb hne
  have htd := getD_dig hdb (b.length - 1)
  obtain ⟨bt, hbt⟩ : ∃ t : Nat, b.getD (b.length - 1) 0 = t := ⟨(b.getD (b.length - 1) 0).toNat, by omega⟩
  obtain ⟨bl, hbl, hbl2⟩ : ∃ bl : Nat, nv b = bl + 16777216 ^ (b.length - 1) * bt ∧ bl < 16777216 ^ (b.length - 1) := by
    have h1 := (can_ge hcb hne).2
    have h2 := val_lt (hdb.take (b.length - 1))
    have h3 := val_nonneg (hdb.take (b.length - 1))
    have h4 := nv_val hdb
    rw [List.length_take, Nat.min_eq_left (by omega)] at h2
    refine ⟨(val (b.take (b.length - 1))).toNat, ?_, pw_lt_nat (by omega)⟩
    apply Int.ofNat_inj.1
    rw [h4, h1, hbt, Int.natCast_add, Int.natCast_mul, pw_cast]
    omega
  have hbB : nv b < 16777216 ^ b.length := nv_lt hdb
  rw [wr (x := ((dg a).length : Int) - 1) (by omega)]
  refine ⟨⟨by omega, by trivial, by omega⟩, ⟨by trivial, by simp⟩, ⟨by omega, by omega, by simp, Dig.replicate _, fun k _ => ?_, ?_, ?_⟩, fun ⟨rest⟩ q i ⟨i0, i1, hql, hqd, hqz, hr, hv⟩ => ?_⟩
  · simp only [List.getD_eq_getElem?_getD, List.getElem?_replicate]; split <;> rfl
  · have := lt_of_dg_length a
    rw [show (((dg a).length : Int) - 1 + 1).toNat = (dg a).length by omega, Nat.div_eq_of_lt this, Nat.zero_mod]
  · have := lt_of_dg_length a
    rw [show (((dg a).length : Int) - 1 + 1).toNat = (dg a).length by omega, Nat.div_eq_of_lt this, Nat.zero_div, Nat.mul_zero]
    simp [nv, val_replicate]
  simp only at hr hv ⊢
  rw [bcase_dec]
  refine ⟨fun hi => ?_, fun hi => ?_⟩
  · have hda := getD_dig (dig_dg a) i.toNat
    have hrb : rest < nv b := by rw [hr]; exact Nat.mod_lt _ hb0
    have hrl : (dg rest).length ≤ b.length := dg_length_lt (Nat.lt_trans hrb hbB)
    have e1 : ∀ x : Int, List.drop 0 (List.take (List.length [x]) [x]) = [x] := fun x => rfl
    simp only [e1, whole]
    have hcd : Dig ((dg a).getD i.toNat 0 :: dg rest) := Dig.cons hda.1 hda.2 (dig_dg rest)
    have hnv : nv ([(dg a).getD i.toNat 0] ++ dg rest) = ((dg a).getD i.toNat 0).toNat + 16777216 * rest := by
      simp only [List.singleton_append, nv, val, val_dg]; omega
    refine ⟨⟨hi, i1⟩, ⟨by trivial, by trivial⟩, ⟨⟨by simp, by simp [appLim]; omega⟩, ⟨hcd, by simp; omega⟩, ⟨by trivial, by trivial⟩, by trivial, hnv, by trivial⟩, fun ⟨n⟩ q1 ⟨hn, hq1⟩ => ?_⟩
    subst hq1
    simp only at hn ⊢
    have hnb : n < nv b * 16777216 := by
      rw [hn]; omega
    have hnB : n < 16777216 ^ (b.length + 1) := by rw [Nat.pow_succ]; exact Nat.lt_trans hnb (Nat.mul_lt_mul_of_pos_right hbB (by omega))
    have hnl : (dg n).length ≤ b.length + 1 := dg_length_lt hnB
    have hd : n / nv b < 16777216 := Nat.div_lt_of_lt_mul hnb
    have hqb := quot_bounds (n := n) (Nat.pow_pos (n := b.length - 1) (show 0 < 16777216 by omega)) hbl hbl2 (by omega)
    have eb : ((b.length : Int) - 1).toNat = b.length - 1 := by omega
    have hsn : Sm n := by show (dg n).length ≤ _; omega
    obtain ⟨D, hD⟩ : ∃ D, D = n / nv b := ⟨_, rfl⟩
    simp only [iDgB, ← hD]
    rw [← hD] at hd hqb
    refine ⟨⟨by trivial, by trivial⟩, ?_, fun q2 low high ⟨hq2, b0, b1, b2, b3⟩ => ⟨⟨by trivial, by trivial⟩, ⟨by trivial, b0, b1, b2, b3⟩, fun q3 lo hh ⟨hq3, c0, c1, c2, c3⟩ => ?_⟩⟩
    · rw [wr (x := (b.length : Int) - 1) (by omega), eb, hbt, wr (x := (bt : Int) + 1) (by omega)]
      simp only [bcase_dec, true_and, and_true]
      refine ⟨fun hlt => ⟨by omega, by omega, ?_, by omega⟩, fun hge => ?_⟩
      · have : n < nv b := by
          have h1 := lt_of_dg_length n
          have h2 : (16777216 : Nat) ^ (dg n).length ≤ 16777216 ^ (b.length - 1) := Nat.pow_le_pow_right (by omega) (by omega)
          have h3 : 16777216 ^ (b.length - 1) * 1 ≤ 16777216 ^ (b.length - 1) * bt := Nat.mul_le_mul_left _ (by omega)
          omega
        have : D = 0 := by rw [hD, Nat.div_eq_of_lt this]
        omega
      · have hnz : dg n ≠ [] := fun e => by have h0 : (dg n).length = 0 := by rw [e]; rfl
                                            omega
        have hn1 : 0 < (dg n).length := List.length_pos_iff.2 hnz
        rw [wr (x := ((dg n).length : Int) - 1) (by omega), show (((dg n).length : Int) - 1).toNat = (dg n).length - 1 by omega]
        have hlt := lt_of_dg_length n
        refine ⟨⟨by omega, by omega⟩, fun hgt => ?_, fun hgt => ?_⟩
        · have hL : (dg n).length = b.length + 1 := by omega
          rw [wr (x := ((dg n).length : Int) - 2) (by omega), show (((dg n).length : Int) - 2).toNat = b.length - 1 by omega, hL, show b.length + 1 - 1 = b.length from rfl]
          rw [dg_digit, dg_digit]
          have ht1 : n / 16777216 ^ b.length = n / 16777216 ^ (b.length - 1) / 16777216 := by
            rw [Nat.div_div_eq_div_mul, ← Nat.pow_succ, show (b.length - 1).succ = b.length by omega]
          have ht2 : n / 16777216 ^ b.length < 16777216 := Nat.div_lt_of_lt_mul (by rw [← Nat.pow_succ]; exact hnB)
          rw [Nat.mod_eq_of_lt ht2]
          generalize n / 16777216 ^ b.length = t1 at *
          generalize n / 16777216 ^ (b.length - 1) = t at *
          rw [wr (x := (t1 : Int) * 16777216) (by omega), wr (x := (t1 : Int) * 16777216 + _) (by omega), show (t1 : Int) * 16777216 + ((t % 16777216 : Nat) : Int) = (t : Int) by omega]
          rw [tdiv_nn (x := (t : Int)) (by omega), tdiv_nn (x := (t : Int)) (by omega), show (bt : Int) + 1 = ((bt + 1 : Nat) : Int) by omega, ← Int.natCast_ediv, ← Int.natCast_ediv]
          have hl1 : t / (bt + 1) ≤ t := Nat.div_le_self _ _
          have hl2 : t / bt ≤ t := Nat.div_le_self _ _
          generalize t / (bt + 1) = u1 at *
          generalize t / bt = u2 at *
          rw [wr (x := (u1 : Int)) (by omega), wr (x := (u2 : Int)) (by omega), wr (x := (u2 : Int) + 1) (by omega)]
          exact ⟨⟨by omega, by omega⟩, ⟨by omega, by omega⟩, by omega, ⟨by omega, by omega⟩, by omega, fun hc => ⟨by omega, by omega, by omega, by omega⟩, fun hc => ⟨by omega, by omega, by omega, by omega⟩⟩
        · have hL : (dg n).length = b.length := by omega
          rw [hL, dg_digit]
          have ht2 : n / 16777216 ^ (b.length - 1) < 16777216 := Nat.div_lt_of_lt_mul (by rw [← Nat.pow_succ, show (b.length - 1).succ = b.length by omega, ← hL]; exact hlt)
          rw [Nat.mod_eq_of_lt ht2]
          generalize n / 16777216 ^ (b.length - 1) = t at *
          rw [tdiv_nn (x := (t : Int)) (by omega), tdiv_nn (x := (t : Int)) (by omega), show (bt : Int) + 1 = ((bt + 1 : Nat) : Int) by omega, ← Int.natCast_ediv, ← Int.natCast_ediv]
          have hl1 : t / (bt + 1) ≤ t := Nat.div_le_self _ _
          have hl2 : t / bt ≤ t := Nat.div_le_self _ _
          generalize t / (bt + 1) = u1 at *
          generalize t / bt = u2 at *
          rw [wr (x := (u1 : Int)) (by omega), wr (x := (u2 : Int)) (by omega), wr (x := (u2 : Int) + 1) (by omega)]
          exact ⟨⟨by omega, by omega⟩, by omega, ⟨by omega, by omega⟩, by omega, fun hc => ⟨by omega, by omega, by omega, by omega⟩, fun hc => ⟨by omega, by omega, by omega, by omega⟩⟩
    · subst hq2
      subst hq3
      have hmul : ∀ m : Nat, m ≤ 16777216 → (dg (nv b * m)).length ≤ b.length + 1 := fun m hm => by
        refine dg_length_lt ?_
        rw [Nat.pow_succ]
        exact Nat.lt_of_le_of_lt (Nat.mul_le_mul_left _ hm) (Nat.mul_lt_mul_of_pos_right hbB (by omega))
      have hdg : Dg b := ⟨hdb, by omega⟩
      rw [wr (x := hh - lo) (by omega), bcase_dec]
      refine ⟨fun hgo => ?_, fun hgo => ?_⟩
      · rw [wr (x := lo + hh) (by omega), tdiv_nn (by omega), wr (x := (lo + hh) / 2) (by omega)]
        obtain ⟨m, hm⟩ : ∃ m : Nat, (lo + hh) / 2 = m := ⟨((lo + hh) / 2).toNat, by omega⟩
        rw [hm, Int.toNat_natCast, bcase_dec, cmpN_le]
        refine ⟨⟨hdg, by omega, by omega⟩, ⟨Nat.le_trans (hmul m (by omega)) (by omega), hsn⟩, fun hc => ⟨⟨by trivial, by trivial⟩, by trivial, ⟨by trivial, by omega, ?_, c2, c3⟩, by omega⟩, fun hc => ⟨⟨by trivial, by trivial⟩, by trivial, ⟨by trivial, c0, c1, ?_, by omega⟩, by omega⟩⟩
        · have : m ≤ D := by rw [hD, Nat.le_div_iff_mul_le hb0, Nat.mul_comm]; exact hc
          omega
        · have : D < m := by rw [hD, Nat.div_lt_iff_lt_mul hb0, Nat.mul_comm]; omega
          omega
      · have hlo : lo = D := by omega
        rw [hlo, Int.toNat_natCast, wr (x := i - 1) (by omega), show 0 + i.toNat = i.toNat by omega]
        have hDn : nv b * D ≤ n := by rw [hD]; exact Nat.mul_div_le _ _
        have e2 : (i - 1 + 1).toNat = i.toNat := by omega
        have e3 : (i + 1).toNat = i.toNat + 1 := by omega
        rw [e3] at hr hv
        have hAi : a / 16777216 ^ i.toNat = 16777216 * (a / 16777216 ^ (i.toNat + 1)) + ((dg a).getD i.toNat 0).toNat := by
          rw [dg_digit, Nat.pow_succ, ← Nat.div_div_eq_div_mul, Int.toNat_natCast]; omega
        have hAn : a / 16777216 ^ i.toNat = nv b * (16777216 * (a / 16777216 ^ (i.toNat + 1) / nv b)) + n := by
          rw [hAi, hn, hr]
          have := Nat.div_add_mod (a / 16777216 ^ (i.toNat + 1)) (nv b)
          generalize a / 16777216 ^ (i.toNat + 1) = A at *
          rw [Nat.mul_left_comm]
          omega
        have hq0 := hqz i.toNat (by omega)
        have hset : val (q3.set i.toNat (D : Int)) = val q3 + 16777216 ^ i.toNat * D := by
          rw [val_set _ _ _ (by omega), hq0, Int.sub_zero]
        refine ⟨⟨hi, by omega⟩, ⟨hdg, by omega, by omega⟩, ⟨hsn, hDn, Nat.le_trans (hmul D (by omega)) (by omega)⟩, ⟨by trivial, by simp⟩, by trivial, ⟨by omega, by omega, by simp [hql], Dig.set hqd _ (by omega), fun k hk => ?_, ?_, ?_⟩, by omega⟩
        · rw [getD_set _ _ _ _ (by omega)]; exact hqz k (by omega)
        · rw [e2, hAn, Nat.mul_add_mod, hD]
          have := Nat.div_add_mod n (nv b)
          omega
        · rw [e2, hAn, Nat.mul_add_div hb0, ← hD]
          have h1 := nv_val (Dig.set hqd i.toNat (show (0 : Int) ≤ D ∧ (D : Int) < 16777216 by omega))
          rw [hset, ← nv_val hqd, hv, ← pw_cast, ← Int.natCast_mul, ← Int.natCast_add] at h1
          have h2 := Int.ofNat_inj.1 h1
          rw [h2, Nat.pow_succ, Nat.mul_add, Nat.mul_assoc]
  · simp only [whole]
    have e3 : (i + 1).toNat = 0 := by omega
    rw [e3] at hr hv
    simp only [Nat.pow_zero, Nat.div_one, Nat.one_mul] at hr hv
    refine ⟨⟨hqd, by omega⟩, ?_⟩
    rw [hr, hv]

theorem spDv_ok : SpecsOK Tryd.prog spDv := .cons ok_nSmall <| .cons ok_Digits <| .nil _
theorem dg_len_mul {n m k l : Nat} (h : (dg n).length ≤ k) (h' : (dg m).length ≤ l) : (dg (n * m)).length ≤ k + l := by
  refine dg_length_lt ?_
  rw [Nat.pow_add]
  have h1 := Nat.lt_of_lt_of_le (lt_of_dg_length n) (Nat.pow_le_pow_right (show 0 < 16777216 by omega) h)
  have h2 := Nat.lt_of_lt_of_le (lt_of_dg_length m) (Nat.pow_le_pow_right (show 0 < 16777216 by omega) h')
  exact Nat.mul_lt_mul_of_lt_of_le h1 (Nat.le_of_lt h2) (Nat.pow_pos (by omega))
theorem dg_len_le {n m : Nat} (h : n ≤ m) : (dg n).length ≤ (dg m).length := dg_length_lt (Nat.lt_of_le_of_lt h (lt_of_dg_length m))
theorem ok_nDiv : SpecOK Tryd.prog 72 nDiv := by
  refine fn_okL (by kernel_rfl) tt_ok spDv_ok 3 Tryd.func72 (by decide +kernel) (by kernel_rfl) ?_
  rintro ⟨⟨a⟩, ⟨b⟩, _⟩ ⟨hla, hlb, hb0⟩
  simp only at hla hlb hb0
  refine ⟨[], lDiv, fun x => x = .tup [.lst (.num (a / b)), .lst (.num (a % b))], LnVD.of (vcDiv a b _) ?_, fun x h at_ w v r => by have h' : x = _ := h; subst h'; exact r⟩
  have hc : Can (dg b) := Can.dg (by omega)
  have hne : dg b ≠ [] := fun e => by have := dg_nil_iff.1 e; omega
  have hlen : 0 < (dg b).length := List.length_pos_iff.2 hne
  have htop := can_top hc hne
  have htd := getD_dig (dig_dg b) ((dg b).length - 1)
  rw [wr (x := ((dg b).length : Int) - 1) (by omega), show (((dg b).length : Int) - 1).toNat = (dg b).length - 1 by omega]
  generalize (dg b).getD ((dg b).length - 1) 0 = t at *
  rw [wr (x := t + 1) (by omega), tdiv_nn (by omega)]
  have hf : (1 : Int) ≤ 16777216 / (t + 1) ∧ 16777216 / (t + 1) ≤ 8388608 := by
    refine ⟨(Int.le_ediv_iff_mul_le (by omega)).2 (by omega), ?_⟩
    have h1 : (t + 1) * (16777216 / (t + 1)) ≤ 16777216 := Int.mul_ediv_self_le (by omega)
    have h2 : 2 * (16777216 / (t + 1)) ≤ (t + 1) * (16777216 / (t + 1)) := Int.mul_le_mul_of_nonneg_right (by omega) (Int.ediv_nonneg (by omega) (by omega))
    omega
  generalize 16777216 / (t + 1) = f0 at *
  rw [wr (x := f0) (by omega)]
  refine ⟨⟨⟨by omega, by omega⟩, by omega, by trivial, hf⟩, fun f ⟨hf1, hf2⟩ => ?_⟩
  obtain ⟨F, hF⟩ : ∃ F : Nat, f = F := ⟨f.toNat, by omega⟩
  subst hF
  rw [Int.toNat_natCast, nv_dg]
  have hF1 : 0 < F := by omega
  have hFl : (dg F).length ≤ 1 := dlen 1 (by omega)
  have hal := dg_len_mul hla hFl
  have hbl := dg_len_mul hlb hFl
  have e1 : List.drop 0 (List.take (0 + 1) [(F : Int)]) = [(F : Int)] := rfl
  have hnF : nv [(F : Int)] = F := by simp [nv, val]
  have ecan : Can [(F : Int)] := by
    refine ⟨?_, by simp⟩
    rw [hnF, dg_pos hF1, Nat.div_eq_of_lt (by omega), dg_zero, Nat.mod_eq_of_lt (by omega)]
  rw [e1, hnF, bcase_dec, Nat.mul_div_mul_right _ _ hF1, Nat.mul_mod_mul_right]
  refine ⟨⟨Nat.le_trans hla (by omega), by omega, by omega⟩, ⟨Nat.le_trans hlb (by omega), by omega, by omega⟩, ⟨Nat.le_trans hal (by omega), Can.dg (by omega), by omega, Nat.mul_pos hb0 hF1⟩, fun h => ⟨⟨?_, ecan, by simp, hF1⟩, ?_⟩, fun h => ?_⟩
  · refine Nat.le_trans (dg_len_le (m := a * F) ?_) (by omega)
    exact Nat.mul_le_mul_right _ (Nat.mod_le _ _)
  · rw [Nat.mul_div_cancel _ hF1]
  · have : F = 1 := by omega
    rw [this, Nat.mul_one]
theorem ok_nMod : SpecOK Tryd.prog 52 nMod := by
  refine fn_okL (by kernel_rfl) tt_ok (.cons ok_nDiv <| .nil _) 3 Tryd.func52 (by decide +kernel) (by kernel_rfl) ?_
  rintro ⟨⟨a⟩, ⟨b⟩, _⟩ h
  refine ⟨[], {}, isNum (a % b), LnVD.of (vcMod a b _) ?_, fun x h at_ w v r => isNum_ok h r⟩
  exact ⟨h, .inl rfl⟩
end Go.Proofs.YtomoihkepkmgdaaDoor.R1
/- Layer 8: numbers told by a source: what is said of the functions. -/
set_option maxRecDepth 10000
namespace Go.Proofs.YtomoihkepkmgdaaDoor.H8
open Go.Sym Go.Dig R1 H5 H7
theorem bytes_vcF (a : Four) (Q : SV → Prop) : LfRaw tt spB 40 [] {} Tryd.f71 Q (a, true, ()) = mkOb 32 (obl ((List.range 32).map fun k : Nat => (k : Int)) 32 (Q (.lst (.bytes (limb_Bytes a true))))) := by kernel_rfl
theorem by_ex8 : ∃ f : Four → List UInt8, f = fun a => limb_Bytes a true := ⟨_, rfl⟩
noncomputable def byO : Four → List UInt8 := Classical.choose by_ex8
theorem byO_eq : byO = fun a => limb_Bytes a true := Classical.choose_spec by_ex8
noncomputable def sByO : SpecF := fspec (α := Four × Bool × Unit) (fun a => some (a.2.1 = true)) (fun a => byO a.1)
theorem ok_ByO : FSpecOK Tryd.prog 71 sByO := by
  unfold sByO
  rw [byO_eq]
  refine fn_okF (by kernel_rfl) tt_ok spB_ok 40 Tryd.func71 (by decide +kernel) (by kernel_rfl) ?_
  rintro ⟨a, b, _⟩ hb
  have hb' : b = true := hb
  subst hb'
  refine ⟨[], {}, fun x => x = .lst (.bytes (limb_Bytes a true)), LfVD.of (bytes_vcF a _) ?_, fun x h at_ n w v r => by have h' : x = _ := h; subst h'; exact r⟩
  refine And.intro (by decide) (obl_mk rfl fun k hk => ?_)
  obtain ⟨m, hm, rfl⟩ := List.mem_map.1 hk
  rw [List.mem_range] at hm
  omega
/-! Numbers that the machine does not compute. -/
theorem of_ex8 : ∃ f : List UInt8 → Four × Int, f = fun b => limb_Of b true := ⟨_, rfl⟩
noncomputable def ofO : List UInt8 → Four × Int := Classical.choose of_ex8
theorem ofO_eq : ofO = fun b => limb_Of b true := Classical.choose_spec of_ex8
noncomputable def sOfO : SpecF := fspec (α := List UInt8 × Bool × Unit) (β := Four × Int × Unit) (fun a => some (a.2.1 = true)) (fun a => ((ofO a.1).1, (ofO a.1).2, ()))
theorem cm_ex8 : ∃ f : Four → Four → Int, f = limb_Cmp := ⟨_, rfl⟩
noncomputable def cm4 : Four → Four → Int := Classical.choose cm_ex8
theorem cm4_eq : cm4 = limb_Cmp := Classical.choose_spec cm_ex8
noncomputable def sCm4 : SpecF := fspec (α := Four × Four × Unit) total fun a => cm4 a.1 a.2.1
theorem sb_ex8 : ∃ f : Four → Four → Four × UInt64, f = limb_Sub := ⟨_, rfl⟩
noncomputable def sb4 : Four → Four → Four × UInt64 := Classical.choose sb_ex8
theorem sb4_eq : sb4 = limb_Sub := Classical.choose_spec sb_ex8
noncomputable def sSb4 : SpecF := fspec (α := Four × Four × Unit) total fun a => sb4 a.1 a.2.1
theorem bt_ex8 : ∃ f : Four → Int, f = limb_Bits := ⟨_, rfl⟩
noncomputable def bt4 : Four → Int := Classical.choose bt_ex8
theorem bt4_eq : bt4 = limb_Bits := Classical.choose_spec bt_ex8
noncomputable def sBt4 : SpecF := fspec (α := Four × Unit) total fun a => bt4 a.1
/-- A number of 256 bits, below the order. -/
noncomputable def red0 (a q : Four) : List UInt8 := if cm4 a q ≥ 0 then byO (sb4 a q).1 else byO a
theorem red_ex8 : ∃ f : Four → Four → List UInt8, f = red0 := ⟨_, rfl⟩
noncomputable def redV : Four → Four → List UInt8 := Classical.choose red_ex8
theorem redV_eq : redV = red0 := Classical.choose_spec red_ex8
noncomputable def spRe : Specs := [(28, sCm4), (70, sSb4), (71, .fresh sByO)]
noncomputable def sRe : SpecF := fspec (α := Four × Four × Unit) total fun a => redV a.1 a.2.1
/-! A source. -/
structure SrcV where
  k : List UInt8
  v : List UInt8
  q : Four
  told : Bool
def SrcV.rest (s : SrcV) : List SV := [.u64 s.q.w0, .u64 s.q.w1, .u64 s.q.w2, .u64 s.q.w3, .bool s.told]
def SrcV.cells (s : SrcV) : List SV := .lst (.bytes s.k) :: .lst (.bytes s.v) :: s.rest
def dSrc : List SV → Option SrcV
  | [.lst (.bytes k), .lst (.bytes v), .u64 a, .u64 b, .u64 c, .u64 d, .bool t] => some ⟨k, v, ⟨a, b, c, d⟩, t⟩
  | _ => none
theorem dSrc_ok {cs : List SV} {s : SrcV} (h : dSrc cs = some s) : cs = s.cells := by
  unfold dSrc at h
  split at h
  · simp only [Option.some.injEq] at h; subst h; rfl
  · cases h
/-- Its first list is still the maker's own: where. -/
def dSrcS : List SV → Option (Nat × Nat × Nat × SrcV)
  | [.sl n lo len, .lst (.bytes v), .u64 a, .u64 b, .u64 c, .u64 d, .bool t] => some (n, lo, len, ⟨[], v, ⟨a, b, c, d⟩, t⟩)
  | _ => none
theorem dSrcS_ok {cs : List SV} {n lo len : Nat} {s : SrcV} (h : dSrcS cs = some (n, lo, len, s)) : cs = .sl n lo len :: .lst (.bytes s.v) :: s.rest := by
  unfold dSrcS at h
  split at h
  · simp only [Option.some.injEq, Prod.mk.injEq] at h
    obtain ⟨rfl, rfl, rfl, rfl⟩ := h
    rfl
  · cases h
/-- Both are turned. -/
noncomputable def stirV (s : SrcV) (m : List UInt8) : SrcV := ⟨macV s.k [s.v, m].flatten, macV (macV s.k [s.v, m].flatten) [s.v].flatten, s.q, s.told⟩
def okS (s : SrcV) (m : List UInt8) : Prop := s.k.length ≤ 1000 ∧ s.v.length ≤ 1000 ∧ m.length ≤ 1000
noncomputable def spSt : Specs := [(11, .memf (toN sMac))]
noncomputable def sStir : NSpecF := fun look fresh svs =>
  match svs with
  | [.ptr b 0, .sl kp lo len] => match look b, look kp with
    | some cs, some [.own (.bytes m)] => match dSrc cs with
      | some s => if b ≠ kp then some ⟨some (lo + len ≤ m.length ∧ okS s ((m.take (lo + len)).drop lo)), retSV [], [(b, (stirV s ((m.take (lo + len)).drop lo)).cells), (kp, [.own (.bytes m)])]⟩ else none
      | none => match dSrcS cs with
        | some (n, l, c, s) => match look n with
          | some [.own (.bytes k)] => if b ≠ kp ∧ b ≠ n ∧ n ≠ kp then some ⟨some (lo + len ≤ m.length ∧ okS { s with k := (k.take (l + c)).drop l } ((m.take (lo + len)).drop lo)), retSV [], [(b, (stirV { s with k := (k.take (l + c)).drop l } ((m.take (lo + len)).drop lo)).cells), (n, [.own (.bytes k)]), (kp, [.own (.bytes m)])]⟩ else none
          | _ => none
        | none => none
    | _, _ => none
  | _ => none
/-- What is left: the source's cells, the lists as they were. -/
def LeftL (cs : Blk) (m : List UInt8) (r : SV) (M : List (Option Blk)) : Prop := (r, M[0]?, M[1]?, M[5000]?) = (retSV [], some (some cs), some (some [.own (.bytes m)]), none)
def LeftS (cs : Blk) (k m : List UInt8) (r : SV) (M : List (Option Blk)) : Prop := (r, M[0]?, M[1]?, M[2]?, M[5000]?) = (retSV [], some (some cs), some (some [.own (.bytes k)]), some (some [.own (.bytes m)]), none)
def CdS (s : SrcV) (m : List UInt8) : Prop := (s.k.length ≤ 1073741824 ∧ 2 ≤ 1000000 ∧ ∀ p : List UInt8, List.Mem p [s.v, m] → p.length ≤ 1000000) ∧ ((macV s.k [s.v, m].flatten).length ≤ 1073741824 ∧ 1 ≤ 1000000 ∧ ∀ p : List UInt8, List.Mem p [s.v] → p.length ≤ 1000000)
theorem and_cs {a b c : Prop} : (a ∧ b ∧ c) = ((a ∧ b) ∧ c) := propext and_assoc.symm
end Go.Proofs.YtomoihkepkmgdaaDoor.H8
/- Layer 8: what the bodies of stir and reduced come to. -/
set_option maxRecDepth 10000
namespace Go.Proofs.YtomoihkepkmgdaaDoor.H8
open Go.Sym Go.Dig R1 H5 H7
--STOP macV, List.flatten, byO, ofO, cm4, sb4, bt4, redV, stirV
theorem vcReT (a q : Four) (Q : SV → Prop) : LfRaw tt spRe 9 [(1, 3, .b true)] {} Tryd.f48 Q (a, q, ()) =
  ((decide (cm4 a q ≥ (0 : Int)) = true) ∧
  ((true = true) ∧
  (Q
  (SV.lst
    (LV.bytes
      (List.drop (0 : Nat)
        (List.take ((0 : Nat) + List.length (byO (Prod.fst (sb4 a q)))) (byO (Prod.fst (sb4 a q)))))))))) := by kernel_rfl
theorem vcReF (a q : Four) (Q : SV → Prop) : LfRaw tt spRe 9 [(1, 3, .b false)] {} Tryd.f48 Q (a, q, ()) =
  ((decide (cm4 a q ≥ (0 : Int)) = false) ∧
  ((true = true) ∧
  (Q (SV.lst (LV.bytes (List.drop (0 : Nat) (List.take ((0 : Nat) + List.length (byO a)) (byO a)))))))) := by kernel_rfl
theorem vcStL (s : SrcV) (m : List UInt8) (lo len : Nat) : NnRaw tt spSt 9 [] {} Tryd.f49 [.ptr 0 0, .sl 1 lo len] [s.cells, [.own (.bytes m)]] (LeftL (stirV s ((m.take (lo + len)).drop lo)).cells m) =
  ((s.k.length ≤ 1073741824 ∧ 2 ≤ 1000000 ∧ ∀ p : List UInt8, List.Mem p [s.v, (m.take (lo + len)).drop lo] → p.length ≤ 1000000) ∧ ((macV s.k [s.v, (m.take (lo + len)).drop lo].flatten).length ≤ 1073741824 ∧ 1 ≤ 1000000 ∧ ∀ p : List UInt8, List.Mem p [s.v] → p.length ≤ 1000000) ∧
  (retSV [], (some (some (stirV s ((m.take (lo + len)).drop lo)).cells) : Option (Option Blk)), (some (some [.own (.bytes m)]) : Option (Option Blk)), (none : Option (Option Blk))) = (retSV [], some (some (stirV s ((m.take (lo + len)).drop lo)).cells), some (some [.own (.bytes m)]), none)) := by kernel_rfl
theorem vcStS (s : SrcV) (k m : List UInt8) (l c lo len : Nat) : NnRaw tt spSt 9 [] {} Tryd.f49 [.ptr 0 0, .sl 2 lo len] [.sl 1 l c :: .lst (.bytes s.v) :: s.rest, [.own (.bytes k)], [.own (.bytes m)]] (LeftS (stirV { s with k := (k.take (l + c)).drop l } ((m.take (lo + len)).drop lo)).cells k m) =
  ((((k.take (l + c)).drop l).length ≤ 1073741824 ∧ 2 ≤ 1000000 ∧ ∀ p : List UInt8, List.Mem p [s.v, (m.take (lo + len)).drop lo] → p.length ≤ 1000000) ∧ ((macV ((k.take (l + c)).drop l) [s.v, (m.take (lo + len)).drop lo].flatten).length ≤ 1073741824 ∧ 1 ≤ 1000000 ∧ ∀ p : List UInt8, List.Mem p [s.v] → p.length ≤ 1000000) ∧
  (retSV [], (some (some (stirV { s with k := (k.take (l + c)).drop l } ((m.take (lo + len)).drop lo)).cells) : Option (Option Blk)), (some (some [.own (.bytes k)]) : Option (Option Blk)), (some (some [.own (.bytes m)]) : Option (Option Blk)), (none : Option (Option Blk))) = (retSV [], some (some (stirV { s with k := (k.take (l + c)).drop l } ((m.take (lo + len)).drop lo)).cells), some (some [.own (.bytes k)]), some (some [.own (.bytes m)]), none)) := by kernel_rfl
end Go.Proofs.YtomoihkepkmgdaaDoor.H8
/- Layer 8: stir and reduced hold. -/
set_option maxRecDepth 10000
namespace Go.Proofs.YtomoihkepkmgdaaDoor.H8
open Go.Sym Go.Dig R1 H5 H7
theorem ok_OfO : SpecOK Tryd.prog 45 sOfO := by
  refine fspec_weaken _root_.Go.Proofs.YtomoihkepkmgdaaDoor.ok_Of (fun a => a) (fun _ _ _ _ r => r) (fun a => rfl) (fun _ _ => trivial) (fun a h at_ w v r => ?_)
  obtain ⟨b, g, _⟩ := a
  have h' : g = true := h
  subst h'
  rw [ofO_eq]
  exact r
theorem ok_Cm4 : SpecOK Tryd.prog 28 sCm4 := by
  unfold sCm4
  rw [cm4_eq]
  exact _root_.Go.Proofs.YtomoihkepkmgdaaDoor.ok_Cmp
theorem ok_Sb4 : SpecOK Tryd.prog 70 sSb4 := by
  unfold sSb4
  rw [sb4_eq]
  exact _root_.Go.Proofs.YtomoihkepkmgdaaDoor.ok_Sub
theorem ok_Bt4 : SpecOK Tryd.prog 46 sBt4 := by
  unfold sBt4
  rw [bt4_eq]
  exact _root_.Go.Proofs.YtomoihkepkmgdaaDoor.ok_Bits
theorem spRe_ok : SpecsOK Tryd.prog spRe := .cons ok_Cm4 <| .cons ok_Sb4 <| .consF ok_ByO (.nil _)
theorem ok_Re : FSpecOK Tryd.prog 48 sRe := by
  unfold sRe
  rw [redV_eq]
  refine fn_okF (by kernel_rfl) tt_ok spRe_ok 9 Tryd.func48 (by decide +kernel) (by kernel_rfl) ?_
  rintro ⟨a, q, _⟩ _
  by_cases h : cm4 a q ≥ 0
  · refine ⟨_, {}, fun x => x = .lst (.bytes (red0 a q)), LfVD.of (vcReT a q _) ⟨decide_eq_true h, rfl, ?_⟩, fun x h at_ n w v r => by have h' : x = _ := h; subst h'; exact r⟩
    rw [fl]; unfold red0; rw [if_pos h]
  · refine ⟨_, {}, fun x => x = .lst (.bytes (red0 a q)), LfVD.of (vcReF a q _) ⟨decide_eq_false h, rfl, ?_⟩, fun x h at_ n w v r => by have h' : x = _ := h; subst h'; exact r⟩
    rw [fl]; unfold red0; rw [if_neg h]
theorem spSt_ok : SpecsOK Tryd.prog spSt := .consN ok_Mac.toN (.nil _)
theorem mem2 {p a b : List UInt8} {n : Nat} (ha : a.length ≤ n) (hb : b.length ≤ n) (h : List.Mem p [a, b]) : p.length ≤ n := by
  have h' : p ∈ [a, b] := h
  simp only [List.mem_cons, List.not_mem_nil, or_false] at h'
  rcases h' with rfl | rfl <;> assumption
theorem mem1 {p a : List UInt8} {n : Nat} (ha : a.length ≤ n) (h : List.Mem p [a]) : p.length ≤ n := by
  have h' : p ∈ [a] := h
  simp only [List.mem_cons, List.not_mem_nil, or_false] at h'
  subst h'; exact ha
theorem backL8 {s : SrcV} {m : List UInt8} {b kp fresh : Nat} {r : SV} {M : List (Option Blk)} (h : LeftL s.cells m r M) : ∃ jf lo0, backAll [some b, some kp] fresh jf lo0 M r = some (retSV [], [(b, s.cells), (kp, [.own (.bytes m)])]) := by
  unfold LeftL at h
  simp only [Prod.mk.injEq] at h
  obtain ⟨rfl, h0, h1, h2⟩ := h
  refine ⟨5000, 0, ?_⟩
  simp [backAll, back1, backM, backL, newL, h0, h1, h2, SrcV.cells, SrcV.rest, retSV, SV.noName, noNameL]
theorem backS8 {s : SrcV} {k m : List UInt8} {b n kp fresh : Nat} {r : SV} {M : List (Option Blk)} (h : LeftS s.cells k m r M) : ∃ jf lo0, backAll [some b, some n, some kp] fresh jf lo0 M r = some (retSV [], [(b, s.cells), (n, [.own (.bytes k)]), (kp, [.own (.bytes m)])]) := by
  unfold LeftS at h
  simp only [Prod.mk.injEq] at h
  obtain ⟨rfl, h0, h1, h2, h3⟩ := h
  refine ⟨5000, 0, ?_⟩
  simp [backAll, back1, backM, backL, newL, h0, h1, h2, h3, SrcV.cells, SrcV.rest, retSV, SV.noName, noNameL]
theorem ok_Stir : NSpecOK Tryd.prog 49 sStir := by
  refine fn_okN (by kernel_rfl) tt_ok spSt_ok 9 (fn := Tryd.f49) Tryd.func49 (by decide +kernel) (by kernel_rfl) (fun look fresh svs out h hp => ?_)
  unfold sStir at h
  split at h
  · rename_i b kp lo len
    split at h
    · rename_i cs m hb hk
      split at h
      · rename_i s hs
        have ec := dSrc_ok hs
        subst ec
        split at h
        · rename_i hne
          obtain rfl := Option.some.inj h
          obtain ⟨p1, p2, p3, p4⟩ := hp
          refine ⟨[some b, some kp], [s.cells, [.own (.bytes m)]], [.ptr 0 0, .sl 1 lo len], _, _, by simp [hne], rfl, nmC (fun n e => by cases e; exact ⟨_, hb, rfl⟩) (nmC (fun n e => by cases e; exact ⟨_, hk, rfl⟩) nmN), nnC (fun e => by cases e) (nnC (fun e => by cases e) nnN), fun _ _ _ r => r, rfl, NnVD.of (vcStL s m lo len) ⟨⟨by omega, by decide, fun p h => mem2 (by omega) (by omega) h⟩, ⟨by rw [macV_len]; decide, by decide, fun p h => mem1 (by omega) h⟩, rfl⟩, fun r M' hl => backL8 hl⟩
        · cases h
      · split at h
        · rename_i n l c s hs
          have ec := dSrcS_ok hs
          subst ec
          split at h
          · rename_i k hn
            split at h
            · rename_i hne
              obtain ⟨n1, n2, n3⟩ := hne
              obtain rfl := Option.some.inj h
              obtain ⟨p1, p2, p3, p4⟩ := hp
              refine ⟨[some b, some n, some kp], [.sl 1 l c :: .lst (.bytes s.v) :: s.rest, [.own (.bytes k)], [.own (.bytes m)]], [.ptr 0 0, .sl 2 lo len], _, _, by simp [n1, n2, n3], rfl, nmC (fun n e => by cases e; exact ⟨_, hb, rfl⟩) (nmC (fun n e => by cases e; exact ⟨_, hn, rfl⟩) (nmC (fun n e => by cases e; exact ⟨_, hk, rfl⟩) nmN)), nnC (fun e => by cases e) (nnC (fun e => by cases e) (nnC (fun e => by cases e) nnN)), fun _ _ _ r => r, rfl, NnVD.of (vcStS s k m l c lo len) ⟨⟨Nat.le_trans p2 (by decide), by decide, fun p h => mem2 (Nat.le_trans p3 (by decide)) (by omega) h⟩, ⟨by rw [macV_len]; decide, by decide, fun p h => mem1 (Nat.le_trans p3 (by decide)) h⟩, rfl⟩, fun r M' hl => backS8 hl⟩
            · cases h
          · cases h
        · cases h
    · cases h
  · cases h
end Go.Proofs.YtomoihkepkmgdaaDoor.H8
/- slices.Repeat of one byte, 32 times. -/
set_option maxRecDepth 10000
namespace Go.Proofs.YtomoihkepkmgdaaDoor.H8
open Go.Sym Go.Dig R1 H5 H7
def sMulW : SpecF := fspec (α := UInt64 × UInt64 × Unit) (β := UInt64 × UInt64 × Unit) total (fun a => ((mul64 a.1 a.2.1).1, (mul64 a.1 a.2.1).2, ()))
theorem vcMulW (a b : UInt64) (Q : SV → Prop) : LnRaw tt sp2 9 [] {} Tryd.f69 Q (a, b, ()) =
  (Q (SV.tup [SV.u64 (Prod.fst (mul64 a b)), SV.u64 (Prod.snd (mul64 a b))])) := by kernel_rfl
def spRp : Specs := (69, sMulW) :: sp2
def sRepeat : SpecF := fspec (α := List UInt8 × Int × Unit) (β := List UInt8) (fun a => some (a.1 = [a.1.headD 0] ∧ a.2.1 = 32)) (fun a => List.replicate 32 (a.1.headD 0))
def iRep (c : UInt8) (l : List UInt8) (n : Int) : Prop := l.length = 32 ∧ 0 < n ∧ n ≤ 32 ∧ l.take n.toNat = List.replicate n.toNat c
def lRep : Plan := { loops := [(0, { β := List UInt8 × Unit, α := OwnB × Int × Unit, same := [0], keep := [7, 8], inv := fun b _ x => iRep (b.1.headD 0) x.1.l x.2.1, meas := fun _ x => (32 - x.2.1).toNat })] }
theorem vcRepeat (c : UInt8) (Q : SV → Prop) : LfRaw tt spRp 9 [] lRep Tryd.f47 Q ([c], (32 : Int), ()) =
  ((((0 : Int) ≤
  IntKind.wrap IntKind.i64
    (↑(UInt64.toNat (Prod.snd (mul64 (UInt64.ofInt (↑(1 : Nat) : Int)) (UInt64.ofInt (32 : Int))))) : Int)) ∧
   ((IntKind.wrap IntKind.i64
    (↑(UInt64.toNat (Prod.snd (mul64 (UInt64.ofInt (↑(1 : Nat) : Int)) (UInt64.ofInt (32 : Int))))) : Int) =
  IntKind.wrap IntKind.i64
    (↑(UInt64.toNat (Prod.snd (mul64 (UInt64.ofInt (↑(1 : Nat) : Int)) (UInt64.ofInt (32 : Int))))) : Int)) ∧
   (IntKind.wrap IntKind.i64
    (↑(UInt64.toNat (Prod.snd (mul64 (UInt64.ofInt (↑(1 : Nat) : Int)) (UInt64.ofInt (32 : Int))))) : Int) ≤
  (1099511627776 : Int)))) ∧
  ((((0 : Nat) = (0 : Nat)) ∧
   (Int.toNat
    (IntKind.wrap IntKind.i64
      (↑(UInt64.toNat (Prod.snd (mul64 (UInt64.ofInt (↑(1 : Nat) : Int)) (UInt64.ofInt (32 : Int))))) : Int)) =
  List.length
    (List.take (0 : Nat)
          (List.replicate
            (Int.toNat
              (IntKind.wrap IntKind.i64
                (↑(UInt64.toNat (Prod.snd (mul64 (UInt64.ofInt (↑(1 : Nat) : Int)) (UInt64.ofInt (32 : Int))))) : Int)))
            (0 : UInt8)) ++
        List.drop (0 : Nat)
          (List.take
            (Int.toNat
              (IntKind.wrap IntKind.i64
                (↑(UInt64.toNat (Prod.snd (mul64 (UInt64.ofInt (↑(1 : Nat) : Int)) (UInt64.ofInt (32 : Int))))) : Int)))
            [c]) ++
      List.drop
        ((0 : Nat) +
          List.length
            (List.drop (0 : Nat)
              (List.take
                (Int.toNat
                  (IntKind.wrap IntKind.i64
                    (↑(UInt64.toNat (Prod.snd (mul64 (UInt64.ofInt (↑(1 : Nat) : Int)) (UInt64.ofInt (32 : Int))))) :
                      Int)))
                [c])))
        (List.replicate
          (Int.toNat
            (IntKind.wrap IntKind.i64
              (↑(UInt64.toNat (Prod.snd (mul64 (UInt64.ofInt (↑(1 : Nat) : Int)) (UInt64.ofInt (32 : Int))))) : Int)))
          (0 : UInt8))))) ∧
  ((iRep (List.headD [c] (0 : UInt8))
  (List.take (0 : Nat)
        (List.replicate
          (Int.toNat
            (IntKind.wrap IntKind.i64
              (↑(UInt64.toNat (Prod.snd (mul64 (UInt64.ofInt (↑(1 : Nat) : Int)) (UInt64.ofInt (32 : Int))))) : Int)))
          (0 : UInt8)) ++
      List.drop (0 : Nat)
        (List.take
          (Int.toNat
            (IntKind.wrap IntKind.i64
              (↑(UInt64.toNat (Prod.snd (mul64 (UInt64.ofInt (↑(1 : Nat) : Int)) (UInt64.ofInt (32 : Int))))) : Int)))
          [c]) ++
    List.drop
      ((0 : Nat) +
        List.length
          (List.drop (0 : Nat)
            (List.take
              (Int.toNat
                (IntKind.wrap IntKind.i64
                  (↑(UInt64.toNat (Prod.snd (mul64 (UInt64.ofInt (↑(1 : Nat) : Int)) (UInt64.ofInt (32 : Int))))) :
                    Int)))
              [c])))
      (List.replicate
        (Int.toNat
          (IntKind.wrap IntKind.i64
            (↑(UInt64.toNat (Prod.snd (mul64 (UInt64.ofInt (↑(1 : Nat) : Int)) (UInt64.ofInt (32 : Int))))) : Int)))
        (0 : UInt8)))
  (↑(List.length
        (List.drop (0 : Nat)
          (List.take
            (Int.toNat
              (IntKind.wrap IntKind.i64
                (↑(UInt64.toNat (Prod.snd (mul64 (UInt64.ofInt (↑(1 : Nat) : Int)) (UInt64.ofInt (32 : Int))))) : Int)))
            [c]))) :
    Int)) ∧
  (∀ l : List UInt8,
  (∀ a : Int,
  ((iRep (List.headD [c] (0 : UInt8)) l a) →
  bcase (decide (a < (↑(List.length l) : Int)))
    (((((0 : Int) ≤ a) ∧
     ((a ≤ (↑(List.length l) : Int)) ∧
     ((↑(List.length l) : Int) ≤ (↑(List.length l) : Int)))) ∧
    ((((0 : Int) ≤ (0 : Int)) ∧
     (((0 : Int) ≤ a) ∧
     (a ≤ (↑(List.length l) : Int)))) ∧
    ((((0 : Nat) = (0 : Nat)) ∧
     (List.length l =
  List.length
    (List.take ((0 : Nat) + Int.toNat a) l ++
        List.drop (0 : Nat)
          (List.take (Int.toNat (↑(List.length l) : Int) - Int.toNat a)
            (List.drop ((0 : Nat) + Int.toNat (0 : Int))
              (List.take ((0 : Nat) + Int.toNat (0 : Int) + (Int.toNat a - Int.toNat (0 : Int))) l))) ++
      List.drop
        ((0 : Nat) + Int.toNat a +
          List.length
            (List.drop (0 : Nat)
              (List.take (Int.toNat (↑(List.length l) : Int) - Int.toNat a)
                (List.drop ((0 : Nat) + Int.toNat (0 : Int))
                  (List.take ((0 : Nat) + Int.toNat (0 : Int) + (Int.toNat a - Int.toNat (0 : Int))) l)))))
        l))) ∧
    ((([c], ()) = ([c], ())) ∧
    ((iRep (List.headD [c] (0 : UInt8))
  (List.take ((0 : Nat) + Int.toNat a) l ++
      List.drop (0 : Nat)
        (List.take (Int.toNat (↑(List.length l) : Int) - Int.toNat a)
          (List.drop ((0 : Nat) + Int.toNat (0 : Int))
            (List.take ((0 : Nat) + Int.toNat (0 : Int) + (Int.toNat a - Int.toNat (0 : Int))) l))) ++
    List.drop
      ((0 : Nat) + Int.toNat a +
        List.length
          (List.drop (0 : Nat)
            (List.take (Int.toNat (↑(List.length l) : Int) - Int.toNat a)
              (List.drop ((0 : Nat) + Int.toNat (0 : Int))
                (List.take ((0 : Nat) + Int.toNat (0 : Int) + (Int.toNat a - Int.toNat (0 : Int))) l)))))
      l)
  (IntKind.wrap IntKind.i64
    (a +
      (↑(List.length
            (List.drop (0 : Nat)
              (List.take (Int.toNat (↑(List.length l) : Int) - Int.toNat a)
                (List.drop ((0 : Nat) + Int.toNat (0 : Int))
                  (List.take ((0 : Nat) + Int.toNat (0 : Int) + (Int.toNat a - Int.toNat (0 : Int))) l))))) :
        Int)))) ∧
    (Int.toNat
    ((32 : Int) -
      IntKind.wrap IntKind.i64
        (a +
          (↑(List.length
                (List.drop (0 : Nat)
                  (List.take (Int.toNat (↑(List.length l) : Int) - Int.toNat a)
                    (List.drop ((0 : Nat) + Int.toNat (0 : Int))
                      (List.take ((0 : Nat) + Int.toNat (0 : Int) + (Int.toNat a - Int.toNat (0 : Int))) l))))) :
            Int))) <
  Int.toNat ((32 : Int) - a))))))))
    ((Q (SV.lst (LV.bytes (List.drop (0 : Nat) (List.take ((0 : Nat) + List.length l) l)))))))))))) := by kernel_rfl

theorem ok_MulW : SpecOK Tryd.prog 69 sMulW := by
  refine fn_okL (by kernel_rfl) tt_ok sp2_ok 9 Tryd.func69 (by decide +kernel) (by kernel_rfl) ?_
  rintro ⟨a, b, _⟩ _
  exact ⟨[], {}, fun x => x = .tup [.u64 (mul64 a b).1, .u64 (mul64 a b).2], LnVD.of (vcMulW a b _) rfl, svf⟩
theorem spRp_ok : SpecsOK Tryd.prog spRp := .cons ok_MulW sp2_ok
theorem m32 : IntKind.wrap .i64 ((mul64 (UInt64.ofInt ((1 : Nat) : Int)) (UInt64.ofInt 32)).2.toNat : Int) = 32 := by decide +kernel
theorem rep_step {c : UInt8} {l : List UInt8} {a : Nat} (hl : l.length = 32) (ha : a ≤ 32) (h : l.take a = List.replicate a c) (h0 : 0 < a) :
    ∃ k, (List.take (32 - a) (List.take a l)).length = k ∧ k = min (32 - a) a ∧ (List.take a l ++ List.take (32 - a) (List.take a l) ++ List.drop (a + k) l).length = 32 ∧
      (List.take a l ++ List.take (32 - a) (List.take a l) ++ List.drop (a + k) l).take (a + k) = List.replicate (a + k) c := by
  refine ⟨_, rfl, by simp; omega, ?_, ?_⟩
  · simp; omega
  · have hk : (List.take (32 - a) (List.take a l)).length = min (32 - a) a := by simp; omega
    rw [hk, h, List.take_replicate, List.replicate_append_replicate, List.take_append_of_le_length (by simp), List.take_replicate, Nat.min_self]
theorem ok_Repeat : FSpecOK Tryd.prog 47 sRepeat := by
  refine fn_okF (by kernel_rfl) tt_ok spRp_ok 9 Tryd.func47 (by decide +kernel) (by kernel_rfl) ?_
  rintro ⟨l0, n, _⟩ hp
  obtain ⟨h1, h2⟩ : l0 = [l0.headD 0] ∧ n = 32 := hp
  subst h2
  generalize l0.headD 0 = c at h1
  subst h1
  refine ⟨[], lRep, fun x => x = .lst (.bytes (List.replicate 32 c)), LfVD.of (vcRepeat c _) ?_, fun x h at_ n w v r => by have h' : x = _ := h; subst h'; exact r⟩
  rw [m32]
  refine ⟨⟨by decide, rfl, by decide⟩, ⟨rfl, by simp⟩, ⟨by simp, by simp, by simp, by simp⟩, fun l a ⟨i1, i2, i3, i4⟩ => ?_⟩
  rw [R1.bcase_dec]
  refine ⟨fun ha => ?_, fun ha => ?_⟩
  · rw [i1] at ha
    obtain ⟨k, k1, k2, k3, k4⟩ := rep_step i1 (by omega) i4 (by omega)
    have e1 : List.drop 0 (List.take (Int.toNat (l.length : Int) - a.toNat) (List.drop (0 + Int.toNat 0) (List.take (0 + Int.toNat 0 + (a.toNat - Int.toNat 0)) l))) = List.take (32 - a.toNat) (List.take a.toNat l) := by
      rw [i1]; simp
    rw [e1, k1, Nat.zero_add, R1.wr (x := a + (k : Int)) (by omega)]
    have e2 : (a + (k : Int)).toNat = a.toNat + k := by omega
    refine ⟨⟨by omega, by omega, by omega⟩, ⟨by omega, by omega, by omega⟩, ⟨rfl, by rw [k3, i1]⟩, rfl, ⟨k3, by omega, by omega, by rw [e2]; exact k4⟩, by omega⟩
  · have : a = 32 := by omega
    subst this
    show SV.lst (LV.bytes (List.drop 0 (List.take (0 + l.length) l))) = _
    rw [R1.whole]
    have i5 : List.take 32 l = List.replicate 32 c := i4
    have e : l = List.replicate 32 c := by rw [← i5, List.take_of_length_le (by rw [i1]; decide)]
    rw [e]

end Go.Proofs.YtomoihkepkmgdaaDoor.H8
/- Layer 8: a source is made, and asked: what is said of it. -/
set_option maxRecDepth 10000
namespace Go.Proofs.YtomoihkepkmgdaaDoor.H8
open Go.Sym Go.Dig R1 H5 H7
noncomputable def spNew : Specs := [(45, sOfO), (46, sBt4), (47, .memf (toN sRepeat)), (48, .fresh sRe), (49, .memf sStir)]
/-- Seen as a source, if it is one. -/
def QF (Q : Option SrcV → Int → Prop) (r : SV) : Prop :=
  match r with
  | .tup [.ro cs 0, .i64 e] => (match dSrc cs with | some s => Q (some s) e | none => False)
  | .tup [.val (.pointer none), .i64 e] => Q none e
  | _ => False
/-- A source that is left in the first block, and an answer. -/
def QA (Q : Four → Bool → Prop) (r : SV) : Prop :=
  match r with
  | .tup [.agg [.u64 a, .u64 b, .u64 c, .u64 d], .bool t] => Q ⟨a, b, c, d⟩ t
  | _ => False
def QN (Q : Four → Bool → SrcV → Prop) (r : SV) (M : List (Option Blk)) : Prop :=
  match M[0]? with
  | some (some cs) => (match dSrc cs with | some s => (match M[5000]? with | none => QA (fun a t => Q a t s) r | _ => False) | none => False)
  | _ => False
structure PSrc where
  v : SrcV
instance : LEnc PSrc where
  kind := none
  enc nx a := (.ptr nx 0, [a.v.cells])
  dec nx s M := match s, M with
    | .ptr b 0, some cs :: M' => if b = nx then (dSrc cs).map fun r => (none, ⟨r⟩, M') else none
    | _, _ => none
  all P := ∀ v, P ⟨v⟩
  all_ok h a := h a.v
  ok := by
    intro nx s M p a M' h hp
    split at h
    · split at h
      · rename_i hb
        obtain ⟨r, h1, h2⟩ := Option.map_eq_some_iff.1 h
        simp only [Prod.mk.injEq] at h2
        obtain ⟨_, rfl, rfl⟩ := h2
        subst hb
        rw [dSrc_ok h1]
        exact ⟨rfl, fun r => r⟩
      · cases h
    · cases h
/-- A block of four words. -/
structure PF4 where
  v : Four
def dF4 : List SV → Option Four
  | [.u64 a, .u64 b, .u64 c, .u64 d] => some ⟨a, b, c, d⟩
  | _ => none
theorem dF4_ok {cs : List SV} {r : Four} (h : dF4 cs = some r) : cs = [.u64 r.w0, .u64 r.w1, .u64 r.w2, .u64 r.w3] := by
  unfold dF4 at h
  split at h
  · simp only [Option.some.injEq] at h; subst h; rfl
  · cases h
instance : LEnc PF4 where
  kind := none
  enc nx a := (.ptr nx 0, [[.u64 a.v.w0, .u64 a.v.w1, .u64 a.v.w2, .u64 a.v.w3]])
  dec nx s M := match s, M with
    | .ptr b 0, some cs :: M' => if b = nx then (dF4 cs).map fun r => (none, ⟨r⟩, M') else none
    | _, _ => none
  all P := ∀ v, P ⟨v⟩
  all_ok h a := h a.v
  ok := by
    intro nx s M p a M' h hp
    split at h
    · split at h
      · rename_i hb
        obtain ⟨r, h1, h2⟩ := Option.map_eq_some_iff.1 h
        simp only [Prod.mk.injEq] at h2
        obtain ⟨_, rfl, rfl⟩ := h2
        subst hb
        rw [dF4_ok h1]
        exact ⟨rfl, fun r => r⟩
      · cases h
    · cases h
/-! The next number. -/
abbrev w0 : UInt64 := UInt64.ofNat (Int.toNat (0 : Int))
abbrev z4 : Four := Four.mk (UInt64.ofNat (Int.toNat (0 : Int))) (UInt64.ofNat (Int.toNat (0 : Int))) (UInt64.ofNat (Int.toNat (0 : Int))) (UInt64.ofNat (Int.toNat (0 : Int)))
abbrev b0 : List UInt8 := [UInt8.ofNat (Int.toNat (0 : Int))]
def nzB (a : Four) : Bool := !(a.w0 == UInt64.ofNat (Int.toNat (0 : Int)) && (a.w1 == UInt64.ofNat (Int.toNat (0 : Int)) && (a.w2 == UInt64.ofNat (Int.toNat (0 : Int)) && (a.w3 == UInt64.ofNat (Int.toNat (0 : Int)) && true))))
/-- A try: turned, if it is not the first, and a number from it. -/
noncomputable def tryS : Bool → SrcV → SrcV
  | true, s => SrcV.mk (stirV s b0).k (macV (stirV s b0).k (List.flatten [(stirV s b0).v])) (stirV s b0).q (stirV s b0).told
  | false, s => SrcV.mk s.k (macV s.k (List.flatten [s.v])) s.q s.told
noncomputable def good (s : SrcV) : Prop := nzB (ofO s.v).1 = true ∧ cm4 (ofO s.v).1 s.q < 0
noncomputable instance : DecidablePred good := fun _ => Classical.propDecidable _
noncomputable def trV : Nat → Bool → SrcV → SrcV × Four
  | 0, _, s => (s, z4)
  | n + 1, st, s => if good (tryS st s) then (tryS st s, (ofO (tryS st s).v).1) else trV n true (tryS st s)
theorem nr_ex : ∃ f : SrcV → SrcV × Four, f = fun s => trV 1000 s.told s := ⟨_, rfl⟩
noncomputable def nextR : SrcV → SrcV × Four := Classical.choose nr_ex
theorem nextR_eq : nextR = fun s => trV 1000 s.told s := Classical.choose_spec nr_ex
noncomputable def nextS (s : SrcV) : SrcV := SrcV.mk (nextR s).1.k (nextR s).1.v (nextR s).1.q (nzB (nextR s).2)
def lenS (s : SrcV) : Prop := 0 < s.k.length ∧ s.k.length ≤ 1000 ∧ s.v.length ≤ 1000
def iNx (R : SrcV × Four) (s : SrcV) (a o : Four) (i : Int) : Prop := a = z4 ∧ o = z4 ∧ 0 ≤ i ∧ i ≤ 1000 ∧ lenS s ∧ trV (1000 - i).toNat (decide (0 < i)) s = R
def lNx (R : SrcV × Four) : Plan := { loops := [(0, { β := Unit, α := PSrc × PF4 × PF4 × Int × Unit, same := [], keep := [0, 2, 4, 29], inv := fun _ _ x => iNx R x.1.v x.2.1.v x.2.2.1.v x.2.2.2.1, meas := fun _ x => (1000 - x.2.2.2.1).toNat })] }
noncomputable def spNx : Specs := [(11, .memf (toN sMac)), (45, sOfO), (28, sCm4), (49, .memf sStir)]
/-! As specs. -/
instance : Enc (Option SrcV) where
  enc o := match o with | none => .val (.pointer none) | some s => .ro s.cells 0
  dec | .val (.pointer none) => some none
      | .ro cs 0 => (dSrc cs).map some
      | _ => none
  ok := by
    intro s a h at_ w v r
    split at h
    · simp only [Option.some.injEq] at h; subst h; exact r
    · obtain ⟨x, h1, h2⟩ := Option.map_eq_some_iff.1 h
      subst h2
      rw [dSrc_ok h1] at r; exact r
    · cases h
  nn o := by cases o <;> rfl
abbrev zeros32 : List UInt8 := [(0 : UInt8), (0 : UInt8), (0 : UInt8), (0 : UInt8), (0 : UInt8), (0 : UInt8), (0 : UInt8), (0 : UInt8), (0 : UInt8), (0 : UInt8), (0 : UInt8), (0 : UInt8), (0 : UInt8), (0 : UInt8), (0 : UInt8), (0 : UInt8), (0 : UInt8), (0 : UInt8), (0 : UInt8), (0 : UInt8), (0 : UInt8), (0 : UInt8), (0 : UInt8), (0 : UInt8), (0 : UInt8), (0 : UInt8), (0 : UInt8), (0 : UInt8), (0 : UInt8), (0 : UInt8), (0 : UInt8), (0 : UInt8)]
abbrev b1 : List UInt8 := [UInt8.ofNat (Int.toNat (1 : Int))]
abbrev ones32 : List UInt8 := [List.headD b1 0, List.headD b1 0, List.headD b1 0, List.headD b1 0, List.headD b1 0, List.headD b1 0, List.headD b1 0, List.headD b1 0, List.headD b1 0, List.headD b1 0, List.headD b1 0, List.headD b1 0, List.headD b1 0, List.headD b1 0, List.headD b1 0, List.headD b1 0, List.headD b1 0, List.headD b1 0, List.headD b1 0, List.headD b1 0, List.headD b1 0, List.headD b1 0, List.headD b1 0, List.headD b1 0, List.headD b1 0, List.headD b1 0, List.headD b1 0, List.headD b1 0, List.headD b1 0, List.headD b1 0, List.headD b1 0, List.headD b1 0]
noncomputable def both8 (q x : Four) (h : List UInt8) : List UInt8 := redV x q ++ redV (ofO h).1 q
noncomputable def srcN (q x : Four) (h : List UInt8) : SrcV := stirV (stirV ⟨zeros32, ones32, q, false⟩ (b0 ++ both8 q x h)) (b1 ++ both8 q x h)
noncomputable def new0 (q x : Four) (h : List UInt8) : Option SrcV × Int := if ((ofO h).2 != 0) = true then (none, 2) else if (bt4 q != 256) = true then (none, 2) else (some (srcN q x h), 0)
theorem new_ex : ∃ f : Four → Four → List UInt8 → Option SrcV × Int, f = new0 := ⟨_, rfl⟩
noncomputable def newV : Four → Four → List UInt8 → Option SrcV × Int := Classical.choose new_ex
theorem newV_eq : newV = new0 := Classical.choose_spec new_ex
noncomputable def sNew8 : SpecF := fspec (α := Four × Four × List UInt8 × Unit) (β := Option SrcV × Int × Unit) total fun a => ((newV a.1 a.2.1 a.2.2.1).1, (newV a.1 a.2.1 a.2.2.1).2, ())
noncomputable def sNext : NSpecF := fun look _ svs =>
  match svs with
  | [.val (.pointer none)] => some ⟨none, .tup [.agg [.u64 z4.w0, .u64 z4.w1, .u64 z4.w2, .u64 z4.w3], .bool false], []⟩
  | [.ptr b 0] => match look b with
    | some cs => match dSrc cs with
      | some s => some ⟨some (lenS s), .tup [.agg [.u64 (nextR s).2.w0, .u64 (nextR s).2.w1, .u64 (nextR s).2.w2, .u64 (nextR s).2.w3], .bool (nzB (nextR s).2)], [(b, (nextS s).cells)]⟩
      | none => none
    | none => none
  | _ => none
end Go.Proofs.YtomoihkepkmgdaaDoor.H8
/- Layer 8: a source is made, and asked: what the bodies come to. -/
set_option maxRecDepth 10000
namespace Go.Proofs.YtomoihkepkmgdaaDoor.H8
open Go.Sym Go.Dig R1 H5 H7
--STOP macV, List.flatten, byO, ofO, cm4, sb4, bt4, redV, stirV, trV, tryS, iNx, okS
theorem vcNewE1 (q x : Four) (h : List UInt8) (Q : Option SrcV → Int → Prop) : LfRaw tt spNew 9 [(2, 1, .b true)] {} Tryd.f23 (QF Q) (q, x, h, ()) =
  ((true = true) ∧
  (((Prod.snd (ofO h) != (0 : Int)) = true) ∧
  (Q none (2 : Int)))) := by kernel_rfl
theorem vcNewE2 (q x : Four) (h : List UInt8) (Q : Option SrcV → Int → Prop) : LfRaw tt spNew 9 [(2, 1, .b false), (2, 5, .b true)] {} Tryd.f23 (QF Q) (q, x, h, ()) =
  ((true = true) ∧
  (((Prod.snd (ofO h) != (0 : Int)) = false) ∧
  (((bt4 q != (256 : Int)) = true) ∧
  (Q none (2 : Int))))) := by kernel_rfl
theorem vcNewG (q x : Four) (h : List UInt8) (Q : Option SrcV → Int → Prop) : LfRaw tt spNew 9 [(2, 1, .b false), (2, 5, .b false)] {} Tryd.f23 (QF Q) (q, x, h, ()) =
  ((true = true) ∧
  (((Prod.snd (ofO h) != (0 : Int)) = false) ∧
  (((bt4 q != (256 : Int)) = false) ∧
  ((((0 : Int) ≤ (32 : Int)) ∧
   (((32 : Int) = (32 : Int)) ∧
   ((32 : Int) ≤ (1099511627776 : Int)))) ∧
  ((([UInt8.ofNat (Int.toNat (1 : Int))] = [List.headD [UInt8.ofNat (Int.toNat (1 : Int))] (0 : UInt8)]) ∧
   ((32 : Int) = (32 : Int))) ∧
  ((((0 : Nat) + List.length (redV x q) = List.length (redV x q)) ∧
   (List.length
    (List.drop (0 : Nat) (List.take (List.length (redV x q)) (redV x q)) ++
      List.drop (0 : Nat)
        (List.take ((0 : Nat) + List.length (redV (Prod.fst (ofO h)) q)) (redV (Prod.fst (ofO h)) q))) ≤
  appLim)) ∧
  ((((0 : Nat) + (1 : Nat) = (1 : Nat)) ∧
   (List.length
    ([UInt8.ofNat (Int.toNat (0 : Int))] ++
      List.drop (0 : Nat)
        (List.take
          ((0 : Nat) +
            List.length
              (List.drop (0 : Nat) (List.take (List.length (redV x q)) (redV x q)) ++
                List.drop (0 : Nat)
                  (List.take ((0 : Nat) + List.length (redV (Prod.fst (ofO h)) q)) (redV (Prod.fst (ofO h)) q))))
          (List.drop (0 : Nat) (List.take (List.length (redV x q)) (redV x q)) ++
            List.drop (0 : Nat)
              (List.take ((0 : Nat) + List.length (redV (Prod.fst (ofO h)) q)) (redV (Prod.fst (ofO h)) q))))) ≤
  appLim)) ∧
  ((((0 : Nat) +
    List.length
      ([UInt8.ofNat (Int.toNat (0 : Int))] ++
        List.drop (0 : Nat)
          (List.take
            ((0 : Nat) +
              List.length
                (List.drop (0 : Nat) (List.take (List.length (redV x q)) (redV x q)) ++
                  List.drop (0 : Nat)
                    (List.take ((0 : Nat) + List.length (redV (Prod.fst (ofO h)) q)) (redV (Prod.fst (ofO h)) q))))
            (List.drop (0 : Nat) (List.take (List.length (redV x q)) (redV x q)) ++
              List.drop (0 : Nat)
                (List.take ((0 : Nat) + List.length (redV (Prod.fst (ofO h)) q)) (redV (Prod.fst (ofO h)) q))))) ≤
  List.length
    ([UInt8.ofNat (Int.toNat (0 : Int))] ++
      List.drop (0 : Nat)
        (List.take
          ((0 : Nat) +
            List.length
              (List.drop (0 : Nat) (List.take (List.length (redV x q)) (redV x q)) ++
                List.drop (0 : Nat)
                  (List.take ((0 : Nat) + List.length (redV (Prod.fst (ofO h)) q)) (redV (Prod.fst (ofO h)) q))))
          (List.drop (0 : Nat) (List.take (List.length (redV x q)) (redV x q)) ++
            List.drop (0 : Nat)
              (List.take ((0 : Nat) + List.length (redV (Prod.fst (ofO h)) q)) (redV (Prod.fst (ofO h)) q)))))) ∧
   (okS
  (SrcV.mk
    [(0 : UInt8), (0 : UInt8), (0 : UInt8), (0 : UInt8), (0 : UInt8), (0 : UInt8), (0 : UInt8), (0 : UInt8),
      (0 : UInt8), (0 : UInt8), (0 : UInt8), (0 : UInt8), (0 : UInt8), (0 : UInt8), (0 : UInt8), (0 : UInt8),
      (0 : UInt8), (0 : UInt8), (0 : UInt8), (0 : UInt8), (0 : UInt8), (0 : UInt8), (0 : UInt8), (0 : UInt8),
      (0 : UInt8), (0 : UInt8), (0 : UInt8), (0 : UInt8), (0 : UInt8), (0 : UInt8), (0 : UInt8), (0 : UInt8)]
    [List.headD [UInt8.ofNat (Int.toNat (1 : Int))] (0 : UInt8),
      List.headD [UInt8.ofNat (Int.toNat (1 : Int))] (0 : UInt8),
      List.headD [UInt8.ofNat (Int.toNat (1 : Int))] (0 : UInt8),
      List.headD [UInt8.ofNat (Int.toNat (1 : Int))] (0 : UInt8),
      List.headD [UInt8.ofNat (Int.toNat (1 : Int))] (0 : UInt8),
      List.headD [UInt8.ofNat (Int.toNat (1 : Int))] (0 : UInt8),
      List.headD [UInt8.ofNat (Int.toNat (1 : Int))] (0 : UInt8),
      List.headD [UInt8.ofNat (Int.toNat (1 : Int))] (0 : UInt8),
      List.headD [UInt8.ofNat (Int.toNat (1 : Int))] (0 : UInt8),
      List.headD [UInt8.ofNat (Int.toNat (1 : Int))] (0 : UInt8),
      List.headD [UInt8.ofNat (Int.toNat (1 : Int))] (0 : UInt8),
      List.headD [UInt8.ofNat (Int.toNat (1 : Int))] (0 : UInt8),
      List.headD [UInt8.ofNat (Int.toNat (1 : Int))] (0 : UInt8),
      List.headD [UInt8.ofNat (Int.toNat (1 : Int))] (0 : UInt8),
      List.headD [UInt8.ofNat (Int.toNat (1 : Int))] (0 : UInt8),
      List.headD [UInt8.ofNat (Int.toNat (1 : Int))] (0 : UInt8),
      List.headD [UInt8.ofNat (Int.toNat (1 : Int))] (0 : UInt8),
      List.headD [UInt8.ofNat (Int.toNat (1 : Int))] (0 : UInt8),
      List.headD [UInt8.ofNat (Int.toNat (1 : Int))] (0 : UInt8),
      List.headD [UInt8.ofNat (Int.toNat (1 : Int))] (0 : UInt8),
      List.headD [UInt8.ofNat (Int.toNat (1 : Int))] (0 : UInt8),
      List.headD [UInt8.ofNat (Int.toNat (1 : Int))] (0 : UInt8),
      List.headD [UInt8.ofNat (Int.toNat (1 : Int))] (0 : UInt8),
      List.headD [UInt8.ofNat (Int.toNat (1 : Int))] (0 : UInt8),
      List.headD [UInt8.ofNat (Int.toNat (1 : Int))] (0 : UInt8),
      List.headD [UInt8.ofNat (Int.toNat (1 : Int))] (0 : UInt8),
      List.headD [UInt8.ofNat (Int.toNat (1 : Int))] (0 : UInt8),
      List.headD [UInt8.ofNat (Int.toNat (1 : Int))] (0 : UInt8),
      List.headD [UInt8.ofNat (Int.toNat (1 : Int))] (0 : UInt8),
      List.headD [UInt8.ofNat (Int.toNat (1 : Int))] (0 : UInt8),
      List.headD [UInt8.ofNat (Int.toNat (1 : Int))] (0 : UInt8),
      List.headD [UInt8.ofNat (Int.toNat (1 : Int))] (0 : UInt8)]
    q false)
  (List.drop (0 : Nat)
    (List.take
      ((0 : Nat) +
        List.length
          ([UInt8.ofNat (Int.toNat (0 : Int))] ++
            List.drop (0 : Nat)
              (List.take
                ((0 : Nat) +
                  List.length
                    (List.drop (0 : Nat) (List.take (List.length (redV x q)) (redV x q)) ++
                      List.drop (0 : Nat)
                        (List.take ((0 : Nat) + List.length (redV (Prod.fst (ofO h)) q)) (redV (Prod.fst (ofO h)) q))))
                (List.drop (0 : Nat) (List.take (List.length (redV x q)) (redV x q)) ++
                  List.drop (0 : Nat)
                    (List.take ((0 : Nat) + List.length (redV (Prod.fst (ofO h)) q)) (redV (Prod.fst (ofO h)) q))))))
      ([UInt8.ofNat (Int.toNat (0 : Int))] ++
        List.drop (0 : Nat)
          (List.take
            ((0 : Nat) +
              List.length
                (List.drop (0 : Nat) (List.take (List.length (redV x q)) (redV x q)) ++
                  List.drop (0 : Nat)
                    (List.take ((0 : Nat) + List.length (redV (Prod.fst (ofO h)) q)) (redV (Prod.fst (ofO h)) q))))
            (List.drop (0 : Nat) (List.take (List.length (redV x q)) (redV x q)) ++
              List.drop (0 : Nat)
                (List.take ((0 : Nat) + List.length (redV (Prod.fst (ofO h)) q)) (redV (Prod.fst (ofO h)) q))))))))) ∧
  ((((0 : Nat) + (1 : Nat) = (1 : Nat)) ∧
   (List.length
    ([UInt8.ofNat (Int.toNat (1 : Int))] ++
      List.drop (0 : Nat)
        (List.take
          ((0 : Nat) +
            List.length
              (List.drop (0 : Nat) (List.take (List.length (redV x q)) (redV x q)) ++
                List.drop (0 : Nat)
                  (List.take ((0 : Nat) + List.length (redV (Prod.fst (ofO h)) q)) (redV (Prod.fst (ofO h)) q))))
          (List.drop (0 : Nat) (List.take (List.length (redV x q)) (redV x q)) ++
            List.drop (0 : Nat)
              (List.take ((0 : Nat) + List.length (redV (Prod.fst (ofO h)) q)) (redV (Prod.fst (ofO h)) q))))) ≤
  appLim)) ∧
  ((((0 : Nat) +
    List.length
      ([UInt8.ofNat (Int.toNat (1 : Int))] ++
        List.drop (0 : Nat)
          (List.take
            ((0 : Nat) +
              List.length
                (List.drop (0 : Nat) (List.take (List.length (redV x q)) (redV x q)) ++
                  List.drop (0 : Nat)
                    (List.take ((0 : Nat) + List.length (redV (Prod.fst (ofO h)) q)) (redV (Prod.fst (ofO h)) q))))
            (List.drop (0 : Nat) (List.take (List.length (redV x q)) (redV x q)) ++
              List.drop (0 : Nat)
                (List.take ((0 : Nat) + List.length (redV (Prod.fst (ofO h)) q)) (redV (Prod.fst (ofO h)) q))))) ≤
  List.length
    ([UInt8.ofNat (Int.toNat (1 : Int))] ++
      List.drop (0 : Nat)
        (List.take
          ((0 : Nat) +
            List.length
              (List.drop (0 : Nat) (List.take (List.length (redV x q)) (redV x q)) ++
                List.drop (0 : Nat)
                  (List.take ((0 : Nat) + List.length (redV (Prod.fst (ofO h)) q)) (redV (Prod.fst (ofO h)) q))))
          (List.drop (0 : Nat) (List.take (List.length (redV x q)) (redV x q)) ++
            List.drop (0 : Nat)
              (List.take ((0 : Nat) + List.length (redV (Prod.fst (ofO h)) q)) (redV (Prod.fst (ofO h)) q)))))) ∧
   (okS
  (stirV
    (SrcV.mk
      [(0 : UInt8), (0 : UInt8), (0 : UInt8), (0 : UInt8), (0 : UInt8), (0 : UInt8), (0 : UInt8), (0 : UInt8),
        (0 : UInt8), (0 : UInt8), (0 : UInt8), (0 : UInt8), (0 : UInt8), (0 : UInt8), (0 : UInt8), (0 : UInt8),
        (0 : UInt8), (0 : UInt8), (0 : UInt8), (0 : UInt8), (0 : UInt8), (0 : UInt8), (0 : UInt8), (0 : UInt8),
        (0 : UInt8), (0 : UInt8), (0 : UInt8), (0 : UInt8), (0 : UInt8), (0 : UInt8), (0 : UInt8), (0 : UInt8)]
      [List.headD [UInt8.ofNat (Int.toNat (1 : Int))] (0 : UInt8),
        List.headD [UInt8.ofNat (Int.toNat (1 : Int))] (0 : UInt8),
        List.headD [UInt8.ofNat (Int.toNat (1 : Int))] (0 : UInt8),
        List.headD [UInt8.ofNat (Int.toNat (1 : Int))] (0 : UInt8),
        List.headD [UInt8.ofNat (Int.toNat (1 : Int))] (0 : UInt8),
        List.headD [UInt8.ofNat (Int.toNat (1 : Int))] (0 : UInt8),
        List.headD [UInt8.ofNat (Int.toNat (1 : Int))] (0 : UInt8),
        List.headD [UInt8.ofNat (Int.toNat (1 : Int))] (0 : UInt8),
        List.headD [UInt8.ofNat (Int.toNat (1 : Int))] (0 : UInt8),
        List.headD [UInt8.ofNat (Int.toNat (1 : Int))] (0 : UInt8),
        List.headD [UInt8.ofNat (Int.toNat (1 : Int))] (0 : UInt8),
        List.headD [UInt8.ofNat (Int.toNat (1 : Int))] (0 : UInt8),
        List.headD [UInt8.ofNat (Int.toNat (1 : Int))] (0 : UInt8),
        List.headD [UInt8.ofNat (Int.toNat (1 : Int))] (0 : UInt8),
        List.headD [UInt8.ofNat (Int.toNat (1 : Int))] (0 : UInt8),
        List.headD [UInt8.ofNat (Int.toNat (1 : Int))] (0 : UInt8),
        List.headD [UInt8.ofNat (Int.toNat (1 : Int))] (0 : UInt8),
        List.headD [UInt8.ofNat (Int.toNat (1 : Int))] (0 : UInt8),
        List.headD [UInt8.ofNat (Int.toNat (1 : Int))] (0 : UInt8),
        List.headD [UInt8.ofNat (Int.toNat (1 : Int))] (0 : UInt8),
        List.headD [UInt8.ofNat (Int.toNat (1 : Int))] (0 : UInt8),
        List.headD [UInt8.ofNat (Int.toNat (1 : Int))] (0 : UInt8),
        List.headD [UInt8.ofNat (Int.toNat (1 : Int))] (0 : UInt8),
        List.headD [UInt8.ofNat (Int.toNat (1 : Int))] (0 : UInt8),
        List.headD [UInt8.ofNat (Int.toNat (1 : Int))] (0 : UInt8),
        List.headD [UInt8.ofNat (Int.toNat (1 : Int))] (0 : UInt8),
        List.headD [UInt8.ofNat (Int.toNat (1 : Int))] (0 : UInt8),
        List.headD [UInt8.ofNat (Int.toNat (1 : Int))] (0 : UInt8),
        List.headD [UInt8.ofNat (Int.toNat (1 : Int))] (0 : UInt8),
        List.headD [UInt8.ofNat (Int.toNat (1 : Int))] (0 : UInt8),
        List.headD [UInt8.ofNat (Int.toNat (1 : Int))] (0 : UInt8),
        List.headD [UInt8.ofNat (Int.toNat (1 : Int))] (0 : UInt8)]
      q false)
    (List.drop (0 : Nat)
      (List.take
        ((0 : Nat) +
          List.length
            ([UInt8.ofNat (Int.toNat (0 : Int))] ++
              List.drop (0 : Nat)
                (List.take
                  ((0 : Nat) +
                    List.length
                      (List.drop (0 : Nat) (List.take (List.length (redV x q)) (redV x q)) ++
                        List.drop (0 : Nat)
                          (List.take ((0 : Nat) + List.length (redV (Prod.fst (ofO h)) q))
                            (redV (Prod.fst (ofO h)) q))))
                  (List.drop (0 : Nat) (List.take (List.length (redV x q)) (redV x q)) ++
                    List.drop (0 : Nat)
                      (List.take ((0 : Nat) + List.length (redV (Prod.fst (ofO h)) q)) (redV (Prod.fst (ofO h)) q))))))
        ([UInt8.ofNat (Int.toNat (0 : Int))] ++
          List.drop (0 : Nat)
            (List.take
              ((0 : Nat) +
                List.length
                  (List.drop (0 : Nat) (List.take (List.length (redV x q)) (redV x q)) ++
                    List.drop (0 : Nat)
                      (List.take ((0 : Nat) + List.length (redV (Prod.fst (ofO h)) q)) (redV (Prod.fst (ofO h)) q))))
              (List.drop (0 : Nat) (List.take (List.length (redV x q)) (redV x q)) ++
                List.drop (0 : Nat)
                  (List.take ((0 : Nat) + List.length (redV (Prod.fst (ofO h)) q)) (redV (Prod.fst (ofO h)) q))))))))
  (List.drop (0 : Nat)
    (List.take
      ((0 : Nat) +
        List.length
          ([UInt8.ofNat (Int.toNat (1 : Int))] ++
            List.drop (0 : Nat)
              (List.take
                ((0 : Nat) +
                  List.length
                    (List.drop (0 : Nat) (List.take (List.length (redV x q)) (redV x q)) ++
                      List.drop (0 : Nat)
                        (List.take ((0 : Nat) + List.length (redV (Prod.fst (ofO h)) q)) (redV (Prod.fst (ofO h)) q))))
                (List.drop (0 : Nat) (List.take (List.length (redV x q)) (redV x q)) ++
                  List.drop (0 : Nat)
                    (List.take ((0 : Nat) + List.length (redV (Prod.fst (ofO h)) q)) (redV (Prod.fst (ofO h)) q))))))
      ([UInt8.ofNat (Int.toNat (1 : Int))] ++
        List.drop (0 : Nat)
          (List.take
            ((0 : Nat) +
              List.length
                (List.drop (0 : Nat) (List.take (List.length (redV x q)) (redV x q)) ++
                  List.drop (0 : Nat)
                    (List.take ((0 : Nat) + List.length (redV (Prod.fst (ofO h)) q)) (redV (Prod.fst (ofO h)) q))))
            (List.drop (0 : Nat) (List.take (List.length (redV x q)) (redV x q)) ++
              List.drop (0 : Nat)
                (List.take ((0 : Nat) + List.length (redV (Prod.fst (ofO h)) q)) (redV (Prod.fst (ofO h)) q))))))))) ∧
  (Q
  (some
    (stirV
      (stirV
        (SrcV.mk
          [(0 : UInt8), (0 : UInt8), (0 : UInt8), (0 : UInt8), (0 : UInt8), (0 : UInt8), (0 : UInt8), (0 : UInt8),
            (0 : UInt8), (0 : UInt8), (0 : UInt8), (0 : UInt8), (0 : UInt8), (0 : UInt8), (0 : UInt8), (0 : UInt8),
            (0 : UInt8), (0 : UInt8), (0 : UInt8), (0 : UInt8), (0 : UInt8), (0 : UInt8), (0 : UInt8), (0 : UInt8),
            (0 : UInt8), (0 : UInt8), (0 : UInt8), (0 : UInt8), (0 : UInt8), (0 : UInt8), (0 : UInt8), (0 : UInt8)]
          [List.headD [UInt8.ofNat (Int.toNat (1 : Int))] (0 : UInt8),
            List.headD [UInt8.ofNat (Int.toNat (1 : Int))] (0 : UInt8),
            List.headD [UInt8.ofNat (Int.toNat (1 : Int))] (0 : UInt8),
            List.headD [UInt8.ofNat (Int.toNat (1 : Int))] (0 : UInt8),
            List.headD [UInt8.ofNat (Int.toNat (1 : Int))] (0 : UInt8),
            List.headD [UInt8.ofNat (Int.toNat (1 : Int))] (0 : UInt8),
            List.headD [UInt8.ofNat (Int.toNat (1 : Int))] (0 : UInt8),
            List.headD [UInt8.ofNat (Int.toNat (1 : Int))] (0 : UInt8),
            List.headD [UInt8.ofNat (Int.toNat (1 : Int))] (0 : UInt8),
            List.headD [UInt8.ofNat (Int.toNat (1 : Int))] (0 : UInt8),
            List.headD [UInt8.ofNat (Int.toNat (1 : Int))] (0 : UInt8),
            List.headD [UInt8.ofNat (Int.toNat (1 : Int))] (0 : UInt8),
            List.headD [UInt8.ofNat (Int.toNat (1 : Int))] (0 : UInt8),
            List.headD [UInt8.ofNat (Int.toNat (1 : Int))] (0 : UInt8),
            List.headD [UInt8.ofNat (Int.toNat (1 : Int))] (0 : UInt8),
            List.headD [UInt8.ofNat (Int.toNat (1 : Int))] (0 : UInt8),
            List.headD [UInt8.ofNat (Int.toNat (1 : Int))] (0 : UInt8),
            List.headD [UInt8.ofNat (Int.toNat (1 : Int))] (0 : UInt8),
            List.headD [UInt8.ofNat (Int.toNat (1 : Int))] (0 : UInt8),
            List.headD [UInt8.ofNat (Int.toNat (1 : Int))] (0 : UInt8),
            List.headD [UInt8.ofNat (Int.toNat (1 : Int))] (0 : UInt8),
            List.headD [UInt8.ofNat (Int.toNat (1 : Int))] (0 : UInt8),
            List.headD [UInt8.ofNat (Int.toNat (1 : Int))] (0 : UInt8),
            List.headD [UInt8.ofNat (Int.toNat (1 : Int))] (0 : UInt8),
            List.headD [UInt8.ofNat (Int.toNat (1 : Int))] (0 : UInt8),
            List.headD [UInt8.ofNat (Int.toNat (1 : Int))] (0 : UInt8),
            List.headD [UInt8.ofNat (Int.toNat (1 : Int))] (0 : UInt8),
            List.headD [UInt8.ofNat (Int.toNat (1 : Int))] (0 : UInt8),
            List.headD [UInt8.ofNat (Int.toNat (1 : Int))] (0 : UInt8),
            List.headD [UInt8.ofNat (Int.toNat (1 : Int))] (0 : UInt8),
            List.headD [UInt8.ofNat (Int.toNat (1 : Int))] (0 : UInt8),
            List.headD [UInt8.ofNat (Int.toNat (1 : Int))] (0 : UInt8)]
          q false)
        (List.drop (0 : Nat)
          (List.take
            ((0 : Nat) +
              List.length
                ([UInt8.ofNat (Int.toNat (0 : Int))] ++
                  List.drop (0 : Nat)
                    (List.take
                      ((0 : Nat) +
                        List.length
                          (List.drop (0 : Nat) (List.take (List.length (redV x q)) (redV x q)) ++
                            List.drop (0 : Nat)
                              (List.take ((0 : Nat) + List.length (redV (Prod.fst (ofO h)) q))
                                (redV (Prod.fst (ofO h)) q))))
                      (List.drop (0 : Nat) (List.take (List.length (redV x q)) (redV x q)) ++
                        List.drop (0 : Nat)
                          (List.take ((0 : Nat) + List.length (redV (Prod.fst (ofO h)) q))
                            (redV (Prod.fst (ofO h)) q))))))
            ([UInt8.ofNat (Int.toNat (0 : Int))] ++
              List.drop (0 : Nat)
                (List.take
                  ((0 : Nat) +
                    List.length
                      (List.drop (0 : Nat) (List.take (List.length (redV x q)) (redV x q)) ++
                        List.drop (0 : Nat)
                          (List.take ((0 : Nat) + List.length (redV (Prod.fst (ofO h)) q))
                            (redV (Prod.fst (ofO h)) q))))
                  (List.drop (0 : Nat) (List.take (List.length (redV x q)) (redV x q)) ++
                    List.drop (0 : Nat)
                      (List.take ((0 : Nat) + List.length (redV (Prod.fst (ofO h)) q))
                        (redV (Prod.fst (ofO h)) q))))))))
      (List.drop (0 : Nat)
        (List.take
          ((0 : Nat) +
            List.length
              ([UInt8.ofNat (Int.toNat (1 : Int))] ++
                List.drop (0 : Nat)
                  (List.take
                    ((0 : Nat) +
                      List.length
                        (List.drop (0 : Nat) (List.take (List.length (redV x q)) (redV x q)) ++
                          List.drop (0 : Nat)
                            (List.take ((0 : Nat) + List.length (redV (Prod.fst (ofO h)) q))
                              (redV (Prod.fst (ofO h)) q))))
                    (List.drop (0 : Nat) (List.take (List.length (redV x q)) (redV x q)) ++
                      List.drop (0 : Nat)
                        (List.take ((0 : Nat) + List.length (redV (Prod.fst (ofO h)) q))
                          (redV (Prod.fst (ofO h)) q))))))
          ([UInt8.ofNat (Int.toNat (1 : Int))] ++
            List.drop (0 : Nat)
              (List.take
                ((0 : Nat) +
                  List.length
                    (List.drop (0 : Nat) (List.take (List.length (redV x q)) (redV x q)) ++
                      List.drop (0 : Nat)
                        (List.take ((0 : Nat) + List.length (redV (Prod.fst (ofO h)) q)) (redV (Prod.fst (ofO h)) q))))
                (List.drop (0 : Nat) (List.take (List.length (redV x q)) (redV x q)) ++
                  List.drop (0 : Nat)
                    (List.take ((0 : Nat) + List.length (redV (Prod.fst (ofO h)) q)) (redV (Prod.fst (ofO h)) q)))))))))
  (0 : Int)))))))))))) := by kernel_rfl
theorem vcNx (R : SrcV × Four) (s : SrcV) (Q : Four → Bool → SrcV → Prop) : NnRaw tt spNx 9 [] (lNx R) Tryd.f26 [.ptr 0 0] [s.cells] (QN Q) =
  bcase ((↑(List.length (SrcV.k s)) : Int) == (0 : Int))
    ((Q
  (Four.mk (UInt64.ofNat (Int.toNat (0 : Int))) (UInt64.ofNat (Int.toNat (0 : Int)))
    (UInt64.ofNat (Int.toNat (0 : Int))) (UInt64.ofNat (Int.toNat (0 : Int))))
  false s))
    (bcase (SrcV.told s)
      (((((0 : Nat) + (1 : Nat) ≤ (1 : Nat)) ∧
       (okS s [UInt8.ofNat (Int.toNat (0 : Int))])) ∧
      ((iNx R (stirV s [UInt8.ofNat (Int.toNat (0 : Int))])
  (Four.mk (UInt64.ofNat (Int.toNat (0 : Int))) (UInt64.ofNat (Int.toNat (0 : Int)))
    (UInt64.ofNat (Int.toNat (0 : Int))) (UInt64.ofNat (Int.toNat (0 : Int))))
  (Four.mk (UInt64.ofNat (Int.toNat (0 : Int))) (UInt64.ofNat (Int.toNat (0 : Int)))
    (UInt64.ofNat (Int.toNat (0 : Int))) (UInt64.ofNat (Int.toNat (0 : Int))))
  (0 : Int)) ∧
      (∀ v : SrcV,
      (∀ v_1 : Four,
      (∀ v_2 : Four,
      (∀ a : Int,
      ((iNx R v v_1 v_2 a) →
      bcase (decide (a < (1000 : Int)))
        (bcase (decide (a > (0 : Int)))
          (((((0 : Nat) + (1 : Nat) ≤ (1 : Nat)) ∧
           (okS v [UInt8.ofNat (Int.toNat (0 : Int))])) ∧
          (((List.length (SrcV.k (stirV v [UInt8.ofNat (Int.toNat (0 : Int))])) ≤ (1073741824 : Nat)) ∧
           (((1 : Nat) ≤ (1000000 : Nat)) ∧
           (∀ p : List UInt8,
           ((List.Mem p [SrcV.v (stirV v [UInt8.ofNat (Int.toNat (0 : Int))])]) →
           (List.length p ≤ (1000000 : Nat)))))) ∧
          ((true = true) ∧
          bcase (!(Four.w0
        (Prod.fst
          (ofO
            (macV (SrcV.k (stirV v [UInt8.ofNat (Int.toNat (0 : Int))]))
              (List.flatten [SrcV.v (stirV v [UInt8.ofNat (Int.toNat (0 : Int))])])))) ==
      UInt64.ofNat (Int.toNat (0 : Int)) &&
    (Four.w1
          (Prod.fst
            (ofO
              (macV (SrcV.k (stirV v [UInt8.ofNat (Int.toNat (0 : Int))]))
                (List.flatten [SrcV.v (stirV v [UInt8.ofNat (Int.toNat (0 : Int))])])))) ==
        UInt64.ofNat (Int.toNat (0 : Int)) &&
      (Four.w2
            (Prod.fst
              (ofO
                (macV (SrcV.k (stirV v [UInt8.ofNat (Int.toNat (0 : Int))]))
                  (List.flatten [SrcV.v (stirV v [UInt8.ofNat (Int.toNat (0 : Int))])])))) ==
          UInt64.ofNat (Int.toNat (0 : Int)) &&
        (Four.w3
              (Prod.fst
                (ofO
                  (macV (SrcV.k (stirV v [UInt8.ofNat (Int.toNat (0 : Int))]))
                    (List.flatten [SrcV.v (stirV v [UInt8.ofNat (Int.toNat (0 : Int))])])))) ==
            UInt64.ofNat (Int.toNat (0 : Int)) &&
          true)))))
            (bcase (decide
  (cm4
      (Prod.fst
        (ofO
          (macV (SrcV.k (stirV v [UInt8.ofNat (Int.toNat (0 : Int))]))
            (List.flatten [SrcV.v (stirV v [UInt8.ofNat (Int.toNat (0 : Int))])]))))
      (SrcV.q (stirV v [UInt8.ofNat (Int.toNat (0 : Int))])) <
    (0 : Int)))
              ((Q
  (Prod.fst
    (ofO
      (macV (SrcV.k (stirV v [UInt8.ofNat (Int.toNat (0 : Int))]))
        (List.flatten [SrcV.v (stirV v [UInt8.ofNat (Int.toNat (0 : Int))])]))))
  (!(Four.w0
          (Prod.fst
            (ofO
              (macV (SrcV.k (stirV v [UInt8.ofNat (Int.toNat (0 : Int))]))
                (List.flatten [SrcV.v (stirV v [UInt8.ofNat (Int.toNat (0 : Int))])])))) ==
        UInt64.ofNat (Int.toNat (0 : Int)) &&
      (Four.w1
            (Prod.fst
              (ofO
                (macV (SrcV.k (stirV v [UInt8.ofNat (Int.toNat (0 : Int))]))
                  (List.flatten [SrcV.v (stirV v [UInt8.ofNat (Int.toNat (0 : Int))])])))) ==
          UInt64.ofNat (Int.toNat (0 : Int)) &&
        (Four.w2
              (Prod.fst
                (ofO
                  (macV (SrcV.k (stirV v [UInt8.ofNat (Int.toNat (0 : Int))]))
                    (List.flatten [SrcV.v (stirV v [UInt8.ofNat (Int.toNat (0 : Int))])])))) ==
            UInt64.ofNat (Int.toNat (0 : Int)) &&
          (Four.w3
                (Prod.fst
                  (ofO
                    (macV (SrcV.k (stirV v [UInt8.ofNat (Int.toNat (0 : Int))]))
                      (List.flatten [SrcV.v (stirV v [UInt8.ofNat (Int.toNat (0 : Int))])])))) ==
              UInt64.ofNat (Int.toNat (0 : Int)) &&
            true)))))
  (SrcV.mk (SrcV.k (stirV v [UInt8.ofNat (Int.toNat (0 : Int))]))
    (macV (SrcV.k (stirV v [UInt8.ofNat (Int.toNat (0 : Int))]))
      (List.flatten [SrcV.v (stirV v [UInt8.ofNat (Int.toNat (0 : Int))])]))
    (SrcV.q (stirV v [UInt8.ofNat (Int.toNat (0 : Int))]))
    !(Four.w0
            (Prod.fst
              (ofO
                (macV (SrcV.k (stirV v [UInt8.ofNat (Int.toNat (0 : Int))]))
                  (List.flatten [SrcV.v (stirV v [UInt8.ofNat (Int.toNat (0 : Int))])])))) ==
          UInt64.ofNat (Int.toNat (0 : Int)) &&
        (Four.w1
              (Prod.fst
                (ofO
                  (macV (SrcV.k (stirV v [UInt8.ofNat (Int.toNat (0 : Int))]))
                    (List.flatten [SrcV.v (stirV v [UInt8.ofNat (Int.toNat (0 : Int))])])))) ==
            UInt64.ofNat (Int.toNat (0 : Int)) &&
          (Four.w2
                (Prod.fst
                  (ofO
                    (macV (SrcV.k (stirV v [UInt8.ofNat (Int.toNat (0 : Int))]))
                      (List.flatten [SrcV.v (stirV v [UInt8.ofNat (Int.toNat (0 : Int))])])))) ==
              UInt64.ofNat (Int.toNat (0 : Int)) &&
            (Four.w3
                  (Prod.fst
                    (ofO
                      (macV (SrcV.k (stirV v [UInt8.ofNat (Int.toNat (0 : Int))]))
                        (List.flatten [SrcV.v (stirV v [UInt8.ofNat (Int.toNat (0 : Int))])])))) ==
                UInt64.ofNat (Int.toNat (0 : Int)) &&
              true)))))))
              (((() = ()) ∧
              ((iNx R
  (SrcV.mk (SrcV.k (stirV v [UInt8.ofNat (Int.toNat (0 : Int))]))
    (macV (SrcV.k (stirV v [UInt8.ofNat (Int.toNat (0 : Int))]))
      (List.flatten [SrcV.v (stirV v [UInt8.ofNat (Int.toNat (0 : Int))])]))
    (SrcV.q (stirV v [UInt8.ofNat (Int.toNat (0 : Int))])) (SrcV.told (stirV v [UInt8.ofNat (Int.toNat (0 : Int))])))
  v_1 v_2 (IntKind.wrap IntKind.i64 (a + (1 : Int)))) ∧
              (Int.toNat ((1000 : Int) - IntKind.wrap IntKind.i64 (a + (1 : Int))) < Int.toNat ((1000 : Int) - a))))))
            (((() = ()) ∧
            ((iNx R
  (SrcV.mk (SrcV.k (stirV v [UInt8.ofNat (Int.toNat (0 : Int))]))
    (macV (SrcV.k (stirV v [UInt8.ofNat (Int.toNat (0 : Int))]))
      (List.flatten [SrcV.v (stirV v [UInt8.ofNat (Int.toNat (0 : Int))])]))
    (SrcV.q (stirV v [UInt8.ofNat (Int.toNat (0 : Int))])) (SrcV.told (stirV v [UInt8.ofNat (Int.toNat (0 : Int))])))
  v_1 v_2 (IntKind.wrap IntKind.i64 (a + (1 : Int)))) ∧
            (Int.toNat ((1000 : Int) - IntKind.wrap IntKind.i64 (a + (1 : Int))) < Int.toNat ((1000 : Int) - a)))))))))
          ((((List.length (SrcV.k v) ≤ (1073741824 : Nat)) ∧
           (((1 : Nat) ≤ (1000000 : Nat)) ∧
           (∀ p : List UInt8,
           ((List.Mem p [SrcV.v v]) →
           (List.length p ≤ (1000000 : Nat)))))) ∧
          ((true = true) ∧
          bcase (!(Four.w0 (Prod.fst (ofO (macV (SrcV.k v) (List.flatten [SrcV.v v])))) == UInt64.ofNat (Int.toNat (0 : Int)) &&
    (Four.w1 (Prod.fst (ofO (macV (SrcV.k v) (List.flatten [SrcV.v v])))) == UInt64.ofNat (Int.toNat (0 : Int)) &&
      (Four.w2 (Prod.fst (ofO (macV (SrcV.k v) (List.flatten [SrcV.v v])))) == UInt64.ofNat (Int.toNat (0 : Int)) &&
        (Four.w3 (Prod.fst (ofO (macV (SrcV.k v) (List.flatten [SrcV.v v])))) == UInt64.ofNat (Int.toNat (0 : Int)) &&
          true)))))
            (bcase (decide (cm4 (Prod.fst (ofO (macV (SrcV.k v) (List.flatten [SrcV.v v])))) (SrcV.q v) < (0 : Int)))
              ((Q (Prod.fst (ofO (macV (SrcV.k v) (List.flatten [SrcV.v v]))))
  (!(Four.w0 (Prod.fst (ofO (macV (SrcV.k v) (List.flatten [SrcV.v v])))) == UInt64.ofNat (Int.toNat (0 : Int)) &&
      (Four.w1 (Prod.fst (ofO (macV (SrcV.k v) (List.flatten [SrcV.v v])))) == UInt64.ofNat (Int.toNat (0 : Int)) &&
        (Four.w2 (Prod.fst (ofO (macV (SrcV.k v) (List.flatten [SrcV.v v])))) == UInt64.ofNat (Int.toNat (0 : Int)) &&
          (Four.w3 (Prod.fst (ofO (macV (SrcV.k v) (List.flatten [SrcV.v v])))) == UInt64.ofNat (Int.toNat (0 : Int)) &&
            true)))))
  (SrcV.mk (SrcV.k v) (macV (SrcV.k v) (List.flatten [SrcV.v v])) (SrcV.q v)
    !(Four.w0 (Prod.fst (ofO (macV (SrcV.k v) (List.flatten [SrcV.v v])))) == UInt64.ofNat (Int.toNat (0 : Int)) &&
        (Four.w1 (Prod.fst (ofO (macV (SrcV.k v) (List.flatten [SrcV.v v])))) == UInt64.ofNat (Int.toNat (0 : Int)) &&
          (Four.w2 (Prod.fst (ofO (macV (SrcV.k v) (List.flatten [SrcV.v v])))) == UInt64.ofNat (Int.toNat (0 : Int)) &&
            (Four.w3 (Prod.fst (ofO (macV (SrcV.k v) (List.flatten [SrcV.v v])))) ==
                UInt64.ofNat (Int.toNat (0 : Int)) &&
              true)))))))
              (((() = ()) ∧
              ((iNx R (SrcV.mk (SrcV.k v) (macV (SrcV.k v) (List.flatten [SrcV.v v])) (SrcV.q v) (SrcV.told v)) v_1 v_2
  (IntKind.wrap IntKind.i64 (a + (1 : Int)))) ∧
              (Int.toNat ((1000 : Int) - IntKind.wrap IntKind.i64 (a + (1 : Int))) < Int.toNat ((1000 : Int) - a))))))
            (((() = ()) ∧
            ((iNx R (SrcV.mk (SrcV.k v) (macV (SrcV.k v) (List.flatten [SrcV.v v])) (SrcV.q v) (SrcV.told v)) v_1 v_2
  (IntKind.wrap IntKind.i64 (a + (1 : Int)))) ∧
            (Int.toNat ((1000 : Int) - IntKind.wrap IntKind.i64 (a + (1 : Int))) < Int.toNat ((1000 : Int) - a)))))))))
        ((Q v_2
  (!(Four.w0 v_2 == UInt64.ofNat (Int.toNat (0 : Int)) &&
      (Four.w1 v_2 == UInt64.ofNat (Int.toNat (0 : Int)) &&
        (Four.w2 v_2 == UInt64.ofNat (Int.toNat (0 : Int)) &&
          (Four.w3 v_2 == UInt64.ofNat (Int.toNat (0 : Int)) && true)))))
  (SrcV.mk (SrcV.k v) (SrcV.v v) (SrcV.q v)
    !(Four.w0 v_2 == UInt64.ofNat (Int.toNat (0 : Int)) &&
        (Four.w1 v_2 == UInt64.ofNat (Int.toNat (0 : Int)) &&
          (Four.w2 v_2 == UInt64.ofNat (Int.toNat (0 : Int)) &&
            (Four.w3 v_2 == UInt64.ofNat (Int.toNat (0 : Int)) && true)))))))))))))))
      (((iNx R s
  (Four.mk (UInt64.ofNat (Int.toNat (0 : Int))) (UInt64.ofNat (Int.toNat (0 : Int)))
    (UInt64.ofNat (Int.toNat (0 : Int))) (UInt64.ofNat (Int.toNat (0 : Int))))
  (Four.mk (UInt64.ofNat (Int.toNat (0 : Int))) (UInt64.ofNat (Int.toNat (0 : Int)))
    (UInt64.ofNat (Int.toNat (0 : Int))) (UInt64.ofNat (Int.toNat (0 : Int))))
  (0 : Int)) ∧
      (∀ v : SrcV,
      (∀ v_1 : Four,
      (∀ v_2 : Four,
      (∀ a : Int,
      ((iNx R v v_1 v_2 a) →
      bcase (decide (a < (1000 : Int)))
        (bcase (decide (a > (0 : Int)))
          (((((0 : Nat) + (1 : Nat) ≤ (1 : Nat)) ∧
           (okS v [UInt8.ofNat (Int.toNat (0 : Int))])) ∧
          (((List.length (SrcV.k (stirV v [UInt8.ofNat (Int.toNat (0 : Int))])) ≤ (1073741824 : Nat)) ∧
           (((1 : Nat) ≤ (1000000 : Nat)) ∧
           (∀ p : List UInt8,
           ((List.Mem p [SrcV.v (stirV v [UInt8.ofNat (Int.toNat (0 : Int))])]) →
           (List.length p ≤ (1000000 : Nat)))))) ∧
          ((true = true) ∧
          bcase (!(Four.w0
        (Prod.fst
          (ofO
            (macV (SrcV.k (stirV v [UInt8.ofNat (Int.toNat (0 : Int))]))
              (List.flatten [SrcV.v (stirV v [UInt8.ofNat (Int.toNat (0 : Int))])])))) ==
      UInt64.ofNat (Int.toNat (0 : Int)) &&
    (Four.w1
          (Prod.fst
            (ofO
              (macV (SrcV.k (stirV v [UInt8.ofNat (Int.toNat (0 : Int))]))
                (List.flatten [SrcV.v (stirV v [UInt8.ofNat (Int.toNat (0 : Int))])])))) ==
        UInt64.ofNat (Int.toNat (0 : Int)) &&
      (Four.w2
            (Prod.fst
              (ofO
                (macV (SrcV.k (stirV v [UInt8.ofNat (Int.toNat (0 : Int))]))
                  (List.flatten [SrcV.v (stirV v [UInt8.ofNat (Int.toNat (0 : Int))])])))) ==
          UInt64.ofNat (Int.toNat (0 : Int)) &&
        (Four.w3
              (Prod.fst
                (ofO
                  (macV (SrcV.k (stirV v [UInt8.ofNat (Int.toNat (0 : Int))]))
                    (List.flatten [SrcV.v (stirV v [UInt8.ofNat (Int.toNat (0 : Int))])])))) ==
            UInt64.ofNat (Int.toNat (0 : Int)) &&
          true)))))
            (bcase (decide
  (cm4
      (Prod.fst
        (ofO
          (macV (SrcV.k (stirV v [UInt8.ofNat (Int.toNat (0 : Int))]))
            (List.flatten [SrcV.v (stirV v [UInt8.ofNat (Int.toNat (0 : Int))])]))))
      (SrcV.q (stirV v [UInt8.ofNat (Int.toNat (0 : Int))])) <
    (0 : Int)))
              ((Q
  (Prod.fst
    (ofO
      (macV (SrcV.k (stirV v [UInt8.ofNat (Int.toNat (0 : Int))]))
        (List.flatten [SrcV.v (stirV v [UInt8.ofNat (Int.toNat (0 : Int))])]))))
  (!(Four.w0
          (Prod.fst
            (ofO
              (macV (SrcV.k (stirV v [UInt8.ofNat (Int.toNat (0 : Int))]))
                (List.flatten [SrcV.v (stirV v [UInt8.ofNat (Int.toNat (0 : Int))])])))) ==
        UInt64.ofNat (Int.toNat (0 : Int)) &&
      (Four.w1
            (Prod.fst
              (ofO
                (macV (SrcV.k (stirV v [UInt8.ofNat (Int.toNat (0 : Int))]))
                  (List.flatten [SrcV.v (stirV v [UInt8.ofNat (Int.toNat (0 : Int))])])))) ==
          UInt64.ofNat (Int.toNat (0 : Int)) &&
        (Four.w2
              (Prod.fst
                (ofO
                  (macV (SrcV.k (stirV v [UInt8.ofNat (Int.toNat (0 : Int))]))
                    (List.flatten [SrcV.v (stirV v [UInt8.ofNat (Int.toNat (0 : Int))])])))) ==
            UInt64.ofNat (Int.toNat (0 : Int)) &&
          (Four.w3
                (Prod.fst
                  (ofO
                    (macV (SrcV.k (stirV v [UInt8.ofNat (Int.toNat (0 : Int))]))
                      (List.flatten [SrcV.v (stirV v [UInt8.ofNat (Int.toNat (0 : Int))])])))) ==
              UInt64.ofNat (Int.toNat (0 : Int)) &&
            true)))))
  (SrcV.mk (SrcV.k (stirV v [UInt8.ofNat (Int.toNat (0 : Int))]))
    (macV (SrcV.k (stirV v [UInt8.ofNat (Int.toNat (0 : Int))]))
      (List.flatten [SrcV.v (stirV v [UInt8.ofNat (Int.toNat (0 : Int))])]))
    (SrcV.q (stirV v [UInt8.ofNat (Int.toNat (0 : Int))]))
    !(Four.w0
            (Prod.fst
              (ofO
                (macV (SrcV.k (stirV v [UInt8.ofNat (Int.toNat (0 : Int))]))
                  (List.flatten [SrcV.v (stirV v [UInt8.ofNat (Int.toNat (0 : Int))])])))) ==
          UInt64.ofNat (Int.toNat (0 : Int)) &&
        (Four.w1
              (Prod.fst
                (ofO
                  (macV (SrcV.k (stirV v [UInt8.ofNat (Int.toNat (0 : Int))]))
                    (List.flatten [SrcV.v (stirV v [UInt8.ofNat (Int.toNat (0 : Int))])])))) ==
            UInt64.ofNat (Int.toNat (0 : Int)) &&
          (Four.w2
                (Prod.fst
                  (ofO
                    (macV (SrcV.k (stirV v [UInt8.ofNat (Int.toNat (0 : Int))]))
                      (List.flatten [SrcV.v (stirV v [UInt8.ofNat (Int.toNat (0 : Int))])])))) ==
              UInt64.ofNat (Int.toNat (0 : Int)) &&
            (Four.w3
                  (Prod.fst
                    (ofO
                      (macV (SrcV.k (stirV v [UInt8.ofNat (Int.toNat (0 : Int))]))
                        (List.flatten [SrcV.v (stirV v [UInt8.ofNat (Int.toNat (0 : Int))])])))) ==
                UInt64.ofNat (Int.toNat (0 : Int)) &&
              true)))))))
              (((() = ()) ∧
              ((iNx R
  (SrcV.mk (SrcV.k (stirV v [UInt8.ofNat (Int.toNat (0 : Int))]))
    (macV (SrcV.k (stirV v [UInt8.ofNat (Int.toNat (0 : Int))]))
      (List.flatten [SrcV.v (stirV v [UInt8.ofNat (Int.toNat (0 : Int))])]))
    (SrcV.q (stirV v [UInt8.ofNat (Int.toNat (0 : Int))])) (SrcV.told (stirV v [UInt8.ofNat (Int.toNat (0 : Int))])))
  v_1 v_2 (IntKind.wrap IntKind.i64 (a + (1 : Int)))) ∧
              (Int.toNat ((1000 : Int) - IntKind.wrap IntKind.i64 (a + (1 : Int))) < Int.toNat ((1000 : Int) - a))))))
            (((() = ()) ∧
            ((iNx R
  (SrcV.mk (SrcV.k (stirV v [UInt8.ofNat (Int.toNat (0 : Int))]))
    (macV (SrcV.k (stirV v [UInt8.ofNat (Int.toNat (0 : Int))]))
      (List.flatten [SrcV.v (stirV v [UInt8.ofNat (Int.toNat (0 : Int))])]))
    (SrcV.q (stirV v [UInt8.ofNat (Int.toNat (0 : Int))])) (SrcV.told (stirV v [UInt8.ofNat (Int.toNat (0 : Int))])))
  v_1 v_2 (IntKind.wrap IntKind.i64 (a + (1 : Int)))) ∧
            (Int.toNat ((1000 : Int) - IntKind.wrap IntKind.i64 (a + (1 : Int))) < Int.toNat ((1000 : Int) - a)))))))))
          ((((List.length (SrcV.k v) ≤ (1073741824 : Nat)) ∧
           (((1 : Nat) ≤ (1000000 : Nat)) ∧
           (∀ p : List UInt8,
           ((List.Mem p [SrcV.v v]) →
           (List.length p ≤ (1000000 : Nat)))))) ∧
          ((true = true) ∧
          bcase (!(Four.w0 (Prod.fst (ofO (macV (SrcV.k v) (List.flatten [SrcV.v v])))) == UInt64.ofNat (Int.toNat (0 : Int)) &&
    (Four.w1 (Prod.fst (ofO (macV (SrcV.k v) (List.flatten [SrcV.v v])))) == UInt64.ofNat (Int.toNat (0 : Int)) &&
      (Four.w2 (Prod.fst (ofO (macV (SrcV.k v) (List.flatten [SrcV.v v])))) == UInt64.ofNat (Int.toNat (0 : Int)) &&
        (Four.w3 (Prod.fst (ofO (macV (SrcV.k v) (List.flatten [SrcV.v v])))) == UInt64.ofNat (Int.toNat (0 : Int)) &&
          true)))))
            (bcase (decide (cm4 (Prod.fst (ofO (macV (SrcV.k v) (List.flatten [SrcV.v v])))) (SrcV.q v) < (0 : Int)))
              ((Q (Prod.fst (ofO (macV (SrcV.k v) (List.flatten [SrcV.v v]))))
  (!(Four.w0 (Prod.fst (ofO (macV (SrcV.k v) (List.flatten [SrcV.v v])))) == UInt64.ofNat (Int.toNat (0 : Int)) &&
      (Four.w1 (Prod.fst (ofO (macV (SrcV.k v) (List.flatten [SrcV.v v])))) == UInt64.ofNat (Int.toNat (0 : Int)) &&
        (Four.w2 (Prod.fst (ofO (macV (SrcV.k v) (List.flatten [SrcV.v v])))) == UInt64.ofNat (Int.toNat (0 : Int)) &&
          (Four.w3 (Prod.fst (ofO (macV (SrcV.k v) (List.flatten [SrcV.v v])))) == UInt64.ofNat (Int.toNat (0 : Int)) &&
            true)))))
  (SrcV.mk (SrcV.k v) (macV (SrcV.k v) (List.flatten [SrcV.v v])) (SrcV.q v)
    !(Four.w0 (Prod.fst (ofO (macV (SrcV.k v) (List.flatten [SrcV.v v])))) == UInt64.ofNat (Int.toNat (0 : Int)) &&
        (Four.w1 (Prod.fst (ofO (macV (SrcV.k v) (List.flatten [SrcV.v v])))) == UInt64.ofNat (Int.toNat (0 : Int)) &&
          (Four.w2 (Prod.fst (ofO (macV (SrcV.k v) (List.flatten [SrcV.v v])))) == UInt64.ofNat (Int.toNat (0 : Int)) &&
            (Four.w3 (Prod.fst (ofO (macV (SrcV.k v) (List.flatten [SrcV.v v])))) ==
                UInt64.ofNat (Int.toNat (0 : Int)) &&
              true)))))))
              (((() = ()) ∧
              ((iNx R (SrcV.mk (SrcV.k v) (macV (SrcV.k v) (List.flatten [SrcV.v v])) (SrcV.q v) (SrcV.told v)) v_1 v_2
  (IntKind.wrap IntKind.i64 (a + (1 : Int)))) ∧
              (Int.toNat ((1000 : Int) - IntKind.wrap IntKind.i64 (a + (1 : Int))) < Int.toNat ((1000 : Int) - a))))))
            (((() = ()) ∧
            ((iNx R (SrcV.mk (SrcV.k v) (macV (SrcV.k v) (List.flatten [SrcV.v v])) (SrcV.q v) (SrcV.told v)) v_1 v_2
  (IntKind.wrap IntKind.i64 (a + (1 : Int)))) ∧
            (Int.toNat ((1000 : Int) - IntKind.wrap IntKind.i64 (a + (1 : Int))) < Int.toNat ((1000 : Int) - a)))))))))
        ((Q v_2
  (!(Four.w0 v_2 == UInt64.ofNat (Int.toNat (0 : Int)) &&
      (Four.w1 v_2 == UInt64.ofNat (Int.toNat (0 : Int)) &&
        (Four.w2 v_2 == UInt64.ofNat (Int.toNat (0 : Int)) &&
          (Four.w3 v_2 == UInt64.ofNat (Int.toNat (0 : Int)) && true)))))
  (SrcV.mk (SrcV.k v) (SrcV.v v) (SrcV.q v)
    !(Four.w0 v_2 == UInt64.ofNat (Int.toNat (0 : Int)) &&
        (Four.w1 v_2 == UInt64.ofNat (Int.toNat (0 : Int)) &&
          (Four.w2 v_2 == UInt64.ofNat (Int.toNat (0 : Int)) &&
            (Four.w3 v_2 == UInt64.ofNat (Int.toNat (0 : Int)) && true))))))))))))))) := by kernel_rfl
theorem vcNxN (Q : Four → Bool → Prop) : NnRaw tt spNx 9 [] {} Tryd.f26 [.val (.pointer none)] [] (fun r _ => QA Q r) =
  (Q
  (Four.mk (UInt64.ofNat (Int.toNat (0 : Int))) (UInt64.ofNat (Int.toNat (0 : Int)))
    (UInt64.ofNat (Int.toNat (0 : Int))) (UInt64.ofNat (Int.toNat (0 : Int))))
  false) := by kernel_rfl
end Go.Proofs.YtomoihkepkmgdaaDoor.H8
