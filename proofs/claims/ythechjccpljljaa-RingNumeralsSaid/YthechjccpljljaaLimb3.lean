/- Package limb: shifts and a bit, walked. -/
import Derived.Test.YthechjccpljljaaLimb2
namespace Go.Proofs.Ythechjccpljljaa
open Go.Sym

def lxK (x y K : UInt64) : UInt64 := shl64 x K.toNat ||| shr64 y ((64 : UInt64) - K).toNat
def rxK (x y K : UInt64) : UInt64 := shr64 x K.toNat ||| shl64 y ((64 : UInt64) - K).toNat
def leftK (a : Four) (K : UInt64) : Nat → Four
  | 0 => ⟨shl64 a.w0 K.toNat, lxK a.w1 a.w0 K, lxK a.w2 a.w1 K, lxK a.w3 a.w2 K⟩
  | 1 => ⟨0, shl64 a.w0 K.toNat, lxK a.w1 a.w0 K, lxK a.w2 a.w1 K⟩
  | 2 => ⟨0, 0, shl64 a.w0 K.toNat, lxK a.w1 a.w0 K⟩
  | _ => ⟨0, 0, 0, shl64 a.w0 K.toNat⟩
def rightK (a : Four) (K : UInt64) : Nat → Four
  | 0 => ⟨rxK a.w0 a.w1 K, rxK a.w1 a.w2 K, rxK a.w2 a.w3 K, shr64 a.w3 K.toNat⟩
  | 1 => ⟨rxK a.w1 a.w2 K, rxK a.w2 a.w3 K, shr64 a.w3 K.toNat, 0⟩
  | 2 => ⟨rxK a.w2 a.w3 K, shr64 a.w3 K.toNat, 0, 0⟩
  | _ => ⟨shr64 a.w3 K.toNat, 0, 0, 0⟩
def left0 (a : Four) : Nat → Four
  | 0 => ⟨shl64 a.w0 0, shl64 a.w1 0, shl64 a.w2 0, shl64 a.w3 0⟩
  | 1 => ⟨0, shl64 a.w0 0, shl64 a.w1 0, shl64 a.w2 0⟩
  | 2 => ⟨0, 0, shl64 a.w0 0, shl64 a.w1 0⟩
  | _ => ⟨0, 0, 0, shl64 a.w0 0⟩
def right0 (a : Four) : Nat → Four
  | 0 => ⟨shr64 a.w0 0, shr64 a.w1 0, shr64 a.w2 0, shr64 a.w3 0⟩
  | 1 => ⟨shr64 a.w1 0, shr64 a.w2 0, shr64 a.w3 0, 0⟩
  | 2 => ⟨shr64 a.w2 0, shr64 a.w3 0, 0, 0⟩
  | _ => ⟨shr64 a.w3 0, 0, 0, 0⟩
def bitK (a : Four) (K : UInt64) : Nat → UInt64
  | 0 => shr64 a.w0 K.toNat &&& 1
  | 1 => shr64 a.w1 K.toNat &&& 1
  | 2 => shr64 a.w2 K.toNat &&& 1
  | _ => shr64 a.w3 K.toNat &&& 1
def lowOf (n : Int) : UInt64 := UInt64.ofInt (n.tmod 64)

abbrev A2 := Four × Int × Unit
noncomputable def vL (D : Dec) (t : Four) (a : A2) : Prop := FnRaw tt sp2 9 D Try.f37 (fun _ : A2 => t) a
noncomputable def vR (D : Dec) (t : Four) (a : A2) : Prop := FnRaw tt sp2 9 D Try.f38 (fun _ : A2 => t) a
noncomputable def vB (D : Dec) (t : UInt64) (a : A2) : Prop := FnRaw tt sp2 9 D Try.f39 (fun _ : A2 => t) a
def dLow : Dec := [(1, 1, .b true)]
def dHigh : Dec := [(1, 1, .b false), (3, 1, .b true)]
def dK (q : Nat) : Dec := [(1, 1, .b false), (3, 1, .b false), (5, 1, .i (Int.ofNat q)), (11, 1, .b true)]
def d0 (q : Nat) : Dec := [(1, 1, .b false), (3, 1, .b false), (5, 1, .i (Int.ofNat q)), (5, 3, .i 0)]
def oK (n : Int) (q : Nat) (r : Prop) : Prop := decide (n ≤ 0) = false ∧ decide (n > 255) = false ∧ wr (n.tdiv 64) = Int.ofNat q ∧ times (4 - q) (decide (0 < lowOf n) = true) r
def o0 (n : Int) (q : Nat) (r : Prop) : Prop := decide (n ≤ 0) = false ∧ decide (n > 255) = false ∧ wr (n.tdiv 64) = Int.ofNat q ∧ n.tmod 64 = 0 ∧ r

theorem left_low (a : Four) (n : Int) : vL dLow a (a, n, ()) = (decide (n ≤ 0) = true ∧ Same a.sv) := by kernel_rfl
theorem left_high (a : Four) (n : Int) : vL dHigh zero4 (a, n, ()) = (decide (n ≤ 0) = false ∧ decide (n > 255) = true ∧ Same zero4.sv) := by kernel_rfl
theorem left_K (a : Four) (n : Int) : (List.range 4).map (fun q => vL (dK q) (leftK a (lowOf n) q) (a, n, ())) = (List.range 4).map fun q => oK n q (Same (leftK a (lowOf n) q).sv) := by kernel_rfl
theorem left_0 (a : Four) (n : Int) : (List.range 4).map (fun q => vL (d0 q) (left0 a q) (a, n, ())) = (List.range 4).map fun q => o0 n q (Same (left0 a q).sv) := by kernel_rfl
theorem right_low (a : Four) (n : Int) : vR dLow a (a, n, ()) = (decide (n ≤ 0) = true ∧ Same a.sv) := by kernel_rfl
theorem right_high (a : Four) (n : Int) : vR dHigh zero4 (a, n, ()) = (decide (n ≤ 0) = false ∧ decide (n > 255) = true ∧ Same zero4.sv) := by kernel_rfl
theorem right_K (a : Four) (n : Int) : (List.range 4).map (fun q => vR (dK q) (rightK a (lowOf n) q) (a, n, ())) = (List.range 4).map fun q => oK n q (Same (rightK a (lowOf n) q).sv) := by kernel_rfl
theorem right_0 (a : Four) (n : Int) : (List.range 4).map (fun q => vR (d0 q) (right0 a q) (a, n, ())) = (List.range 4).map fun q => o0 n q (Same (right0 a q).sv) := by kernel_rfl
theorem bit_low (a : Four) (n : Int) : vB [(1, 1, .b true)] 0 (a, n, ()) = (decide (n < 0) = true ∧ Same (.u64 0)) := by kernel_rfl
theorem bit_high (a : Four) (n : Int) : vB [(1, 1, .b false), (1, 4, .b true)] 0 (a, n, ()) = (decide (n < 0) = false ∧ decide (n > 255) = true ∧ Same (.u64 0)) := by kernel_rfl
theorem bit_K (a : Four) (n : Int) : (List.range 4).map (fun q => vB [(1, 1, .b false), (1, 4, .b false), (3, 1, .i (Int.ofNat q))] (bitK a (lowOf n) q) (a, n, ())) =
    (List.range 4).map fun q => decide (n < 0) = false ∧ decide (n > 255) = false ∧ wr (n.tdiv 64) = Int.ofNat q ∧ Same (.u64 (bitK a (lowOf n) q)) := by kernel_rfl
end Go.Proofs.Ythechjccpljljaa
