/- Package limb: numbers of bytes, bytes of numbers. -/
import Derived.Test.YthechjccpljljaaLimb4
namespace Go.Proofs.Ythechjccpljljaa
open Go.Sym

def byteAt (big : Bool) (k : Nat) : Nat := cond big (31 - k) k
def wordOf (xs : List UInt8) (big : Bool) (i : Nat) : UInt64 := (List.range 8).foldl (fun acc j => acc ||| shl64 (xs.getD (byteAt big (8 * i + j)) 0).toUInt64 (8 * j)) 0
def fourOf (xs : List UInt8) (big : Bool) : Four := ⟨wordOf xs big 0, wordOf xs big 1, wordOf xs big 2, wordOf xs big 3⟩
def limb_Of (xs : List UInt8) (big : Bool) : Four × Int := if xs.length = 32 then (fourOf xs big, 0) else (zero4, 2)
def obl : List Int → Int → Prop → Prop
  | [], _, p => p
  | k :: ks, L, p => (0 ≤ k ∧ k < L) ∧ obl ks L p
theorem obl_mk {L : Int} {p : Prop} (hp : p) : ∀ {ks : List Int}, (∀ k ∈ ks, 0 ≤ k ∧ k < L) → obl ks L p
  | [], _ => hp
  | k :: ks, h => ⟨h k (by simp), obl_mk hp (fun x hx => h x (by simp [hx]))⟩
abbrev AOf := List UInt8 × Bool × Unit
noncomputable def vOf (D : Dec) (t : Four × Int) (a : AOf) : Prop := FnRaw tt sp2 40 D Try.f23 (fun _ : AOf => t) a
theorem of_bad (xs : List UInt8) (big : Bool) : vOf [(1, 2, .b true)] (zero4, 2) (xs, big, ()) = (((xs.length : Int) != 32) = true ∧ Same (.tup [zero4.sv, .i64 2])) := by kernel_rfl
theorem of_good (xs : List UInt8) : ([false, true] : List Bool).map (fun big => vOf [(1, 2, .b false)] (fourOf xs big, 0) (xs, big, ())) =
    ([false, true] : List Bool).map fun big => (((xs.length : Int) != 32) = false ∧ obl ((List.range 32).map fun k => ((byteAt big k : Nat) : Int)) (xs.length : Int) (Same (.tup [(fourOf xs big).sv, .i64 0]))) := by kernel_rfl
theorem of_cases (xs : List UInt8) (big : Bool) : ∃ D, FnVD tt sp2 40 D Try.f23 (fun p : AOf => limb_Of p.1 p.2.1) (xs, big, ()) := by
  by_cases h : xs.length = 32
  · refine ⟨[(1, 2, .b false)], ?_⟩
    have h1 := of_good xs
    simp only [List.map_cons, List.map_nil, List.cons.injEq, and_true] at h1
    have key : ∀ big, obl ((List.range 32).map fun k => ((byteAt big k : Nat) : Int)) (xs.length : Int) (Same (.tup [(fourOf xs big).sv, .i64 0])) := by
      intro big
      refine obl_mk rfl fun k hk => ?_
      obtain ⟨m, hm, rfl⟩ := List.mem_map.1 hk
      rw [List.mem_range] at hm
      rw [h]
      cases big <;> simp [byteAt] <;> omega
    cases big
    · exact FnVD.of (fourOf xs false, 0) (by simp [limb_Of, h]) h1.1 ⟨by simp [h], key _⟩
    · exact FnVD.of (fourOf xs true, 0) (by simp [limb_Of, h]) h1.2 ⟨by simp [h], key _⟩
  · refine ⟨[(1, 2, .b true)], FnVD.of (zero4, 2) (by simp [limb_Of, h]) (of_bad xs big) ⟨by simp; omega, rfl⟩⟩
abbrev sOf : SpecF := fspec (α := AOf) total fun p => limb_Of p.1 p.2.1
theorem ok_Of : SpecOK Try.prog 23 sOf :=
  fn_okD mixed tt_ok sp2_ok 40 Try.func23 (by decide +kernel) rfl (fun ⟨xs, big, ()⟩ _ => of_cases xs big)

/-! slices.Reverse of 32 bytes of the caller's own. -/
def sReverse : MSpecF := fun look svs =>
  match svs with
  | [.sl b 0 32] => match look b with
    | some [.own (.bytes xs)] => if xs.length = 32 then some ⟨none, .tup [], [(b, [.own (.bytes xs.reverse)])]⟩ else none
    | _ => none
  | _ => none
def revA (g : Nat → UInt8) : List UInt8 := (List.range 32).map g
def revB (g : Nat → UInt8) : List UInt8 := (List.range 32).map fun i => g (31 - i)
noncomputable def vRev (g : Nat → UInt8) : Prop :=
  vc tt [] 40 [] (Try.f67.body.getD .skip) (initM [.sl 0 0 32] Try.f67.ntmps [[.own (.bytes (revA g))]])
    (finM tt Try.f67.results.toList 1 (fun r M => r = .tup [] ∧ M = [[.own (.bytes (revB g))]]))
def revE (x : SV) (y : List Blk) : Prop := x = x ∧ y = y
theorem revE_ok (x : SV) (y : List Blk) : revE x y := And.intro (Eq.refl x) (Eq.refl y)
def revK : List Int := (List.range 16).flatMap fun k => [((31 - k : Nat) : Int), (k : Int), (k : Int), ((31 - k : Nat) : Int)]
theorem rev_vc (g : Nat → UInt8) : vRev g = obl revK 32 (revE (.tup []) [[.own (.bytes (revB g))]]) := by kernel_rfl
theorem revK_ok : ∀ k ∈ revK, 0 ≤ k ∧ k < (32 : Int) := by decide
theorem rev_awp (g : Nat → UInt8) (at0 : At) (w0 : World) : AWp Try.prog at0 w0 (Try.f67.body.getD .skip) (initM [.sl 0 0 32] Try.f67.ntmps [[.own (.bytes (revA g))]])
    (finM tt Try.f67.results.toList 1 (fun r M => r = .tup [] ∧ M = [[.own (.bytes (revB g))]])) := by
  refine vc_ok mixed tt_ok (SpecsOK.nil _) (fuel := 40) (D := []) _ _ _ ?_
  have e := rev_vc g
  unfold vRev at e
  rw [e]; exact obl_mk (revE_ok _ _) revK_ok
end Go.Proofs.Ythechjccpljljaa
