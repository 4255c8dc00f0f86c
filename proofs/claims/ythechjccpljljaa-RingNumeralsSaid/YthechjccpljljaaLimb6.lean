/- Package limb: bytes of numbers. -/
import Derived.Test.YthechjccpljljaaLimb5
namespace Go.Proofs.Ythechjccpljljaa
open Go.Sym

theorem asU8s_eq : ∀ {cs : List SV} {xs : List UInt8}, asU8s cs = some xs → cs = xs.map .u8
  | [], xs, h => by simp only [asU8s, Option.some.injEq] at h; subst h; rfl
  | c :: cs, xs, h => by
    cases c <;> simp only [asU8s] at h <;> try (cases h; done)
    obtain ⟨ys, h1, h2⟩ := Option.map_eq_some_iff.1 h
    subst h2
    rw [asU8s_eq h1]; rfl
theorem list_range {xs : List UInt8} {n : Nat} (h : xs.length = n) : xs = (List.range n).map fun i => xs.getD i 0 := by
  apply List.ext_getElem
  · simp [h]
  · intro i h1 h2
    simp [h1]
theorem list_rev {xs : List UInt8} (h : xs.length = 32) : xs.reverse = (List.range 32).map fun i => xs.getD (31 - i) 0 := by
  apply List.ext_getElem
  · simp [h]
  · intro i h1 h2
    have : 31 - i < xs.length := by simp at h2; omega
    simp only [List.getElem_reverse, List.getElem_map, List.getElem_range, h]
    rw [List.getD_eq_getElem?_getD, List.getElem?_eq_getElem (by omega)]; rfl
theorem ok_Reverse : MSpecOK Try.prog 67 sReverse := by
  refine mspec_of_awp (c := Try.f67.body.getD .skip) tt_ok Try.func67 (by decide +kernel) (by kernel_rfl) ?_
  intro look svs out hs hp
  unfold sReverse at hs
  split at hs
  · rename_i b
    split at hs
    · rename_i xs hl
      split at hs
      · rename_i hlen
        simp only [Option.some.injEq] at hs
        subst hs
        refine ⟨[b], [[.own (.bytes xs)]], [[.own (.bytes xs.reverse)]], [.sl 0 0 32], [.sl b 0 32], by simp, rfl, ?_, ?_, fun _ _ _ h => h, rfl, rfl, fun at0 w0 _ => ?_⟩
        · intro i c hi
          cases i with
          | zero => simp at hi; subst hi; exact ⟨_, rfl, hl⟩
          | succ i => simp at hi
        · intro c hc
          simp at hc
          subst hc; rfl
        · have key := rev_awp (fun i => xs.getD i 0) at0 w0
          have e1 : revA (fun i => xs.getD i 0) = xs := (list_range hlen).symm
          have e2 : revB (fun i => xs.getD i 0) = xs.reverse := (list_rev hlen).symm
          rw [e1, e2] at key
          exact key
      · cases hs
    · cases hs
  · cases hs
def spB : Specs := (67, .mem sReverse) :: sp2
theorem spB_ok : SpecsOK Try.prog spB := .consM ok_Reverse sp2_ok

def w4 (a : Four) : Nat → UInt64
  | 0 => a.w0
  | 1 => a.w1
  | 2 => a.w2
  | _ => a.w3
def bytesL (a : Four) : List UInt8 := (List.range 32).map fun i => (shr64 (w4 a (i / 8)) (8 * (i % 8))).toUInt8
def limb_Bytes (a : Four) (big : Bool) : List UInt8 := cond big (bytesL a).reverse (bytesL a)
abbrev AB := Four × Bool × Unit
noncomputable def vBy (t : List UInt8) (a : AB) : Prop := FnRaw tt spB 40 [] Try.f27 (fun _ : AB => t) a
def mkOb (n : Int) (p : Prop) : Prop := (0 ≤ n ∧ n = n ∧ n ≤ 1099511627776) ∧ p
theorem bytes_vc (a : Four) : ([false, true] : List Bool).map (fun big => vBy (limb_Bytes a big) (a, big, ())) =
    ([false, true] : List Bool).map fun big => mkOb 32 (obl ((List.range 32).map fun k : Nat => (k : Int)) 32 (Same (.lst (.bytes (limb_Bytes a big))))) := by kernel_rfl
theorem bytes_ob (x : SV) : mkOb 32 (obl ((List.range 32).map fun k : Nat => (k : Int)) 32 (Same x)) := by
  refine And.intro (by decide) (obl_mk (Same.mk _) fun k hk => ?_)
  obtain ⟨m, hm, rfl⟩ := List.mem_map.1 hk
  rw [List.mem_range] at hm
  omega
abbrev sBytes : SpecF := fspec (α := AB) total fun p => limb_Bytes p.1 p.2.1
theorem bytes_cases (a : Four) (big : Bool) : ∃ D, FnVD tt spB 40 D Try.f27 (fun p : AB => limb_Bytes p.1 p.2.1) (a, big, ()) := by
  have h1 := bytes_vc a
  simp only [List.map_cons, List.map_nil, List.cons.injEq, and_true] at h1
  refine ⟨[], ?_⟩
  cases big
  · exact FnVD.of (limb_Bytes a false) (Eq.refl _) h1.1 (bytes_ob _)
  · exact FnVD.of (limb_Bytes a true) (Eq.refl _) h1.2 (bytes_ob _)
theorem ok_Bytes : SpecOK Try.prog 27 sBytes :=
  fn_okD mixed tt_ok spB_ok 40 Try.func27 (by decide +kernel) rfl (fun ⟨a, big, ()⟩ _ => bytes_cases a big)
end Go.Proofs.Ythechjccpljljaa
