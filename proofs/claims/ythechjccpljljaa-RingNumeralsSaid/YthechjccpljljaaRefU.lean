/- The reference's functions on numbers. -/
import Derived.Test.YthechjccpljljaaRefT
namespace Go.Sym
open Go.RowKit
section
variable {P : Program} {α β α' β' : Type} [Args α] [RetL β] [Args α'] [RetL β']
/-- A specification out of one that says as much. -/
theorem fspec_weaken {f : FuncId} {pre : α → Option Prop} {g : α → β} {pre' : α' → Option Prop} {g' : α' → β'} (h : SpecOK P f (fspec pre g)) (conv : α' → α)
    (hc : ∀ a (at_ : At) w vs, RelL at_ w (Args.encL a) vs → RelL at_ w (Args.encL (conv a)) vs) (hd : ∀ a, Args.decL (Args.encL (conv a)) = some (conv a)) (hp : ∀ a, Ok (pre' a) → Ok (pre (conv a)))
    (hg : ∀ a, Ok (pre' a) → ∀ (at_ : At) w v, Rel at_ w (retSV (RetL.retL (g (conv a)))) v → Rel at_ w (retSV (RetL.retL (g' a))) v) : SpecOK P f (fspec pre' g') := by
  intro at_ w svs vs pr r h1 h2 hs hpr hr
  unfold fspec at hs
  split at hs
  · rename_i a ha
    simp only [Option.some.injEq, Prod.mk.injEq] at hs
    obtain ⟨rfl, rfl⟩ := hs
    have := h at_ w (Args.encL (conv a)) vs (pre (conv a)) _ h1 h2 (by unfold fspec; rw [hd]) (hp a hpr) (hc a _ _ _ (Args.ok ha hr))
    exact Outcome.mono (fun v w' ⟨h3, h4⟩ => ⟨hg a hpr _ _ _ h3, h4⟩) this
  · cases hs
end
theorem SpecsOK.append {P : Program} {a b : Specs} (h : SpecsOK P a) (k : SpecsOK P b) : SpecsOK P (a ++ b) := by
  intro f s hl
  rw [List.lookup_append] at hl
  cases ha : a.lookup f with
  | none => rw [ha] at hl; exact k f s (by simpa using hl)
  | some x => rw [ha] at hl; exact h f s (by rw [ha]; simpa using hl)
end Go.Sym
namespace Go.Proofs.Ythechjccpljljaa.R1
open Go.Sym Go.Dig
/-- Not too many digits. -/
def Sm (n : Nat) : Prop := (dg n).length ≤ 1073741824
theorem Sm.of {n : Nat} (k : Nat) (h : n < 2 ^ (24 * k)) (hk : k ≤ 1073741824) : Sm n := Nat.le_trans (dlen k h) hk
abbrev N1 := Num × Unit
abbrev N2 := Num × Num × Unit
abbrev NI := Num × Int × Unit
def nAdd : SpecF := fspec (α := N2) (β := Num) (fun a => some (Sm a.1.n ∧ Sm a.2.1.n)) (fun a => ⟨a.1.n + a.2.1.n⟩)
def nSub : SpecF := fspec (α := N2) (β := Num) (fun a => some (Sm a.1.n ∧ a.2.1.n ≤ a.1.n ∧ Sm a.2.1.n)) (fun a => ⟨a.1.n - a.2.1.n⟩)
def nMul : SpecF := fspec (α := N2) (β := Num) (fun a => some (Sm a.1.n ∧ Sm a.2.1.n)) (fun a => ⟨a.1.n * a.2.1.n⟩)
def nCmp : SpecF := fspec (α := N2) (β := Int) (fun a => some (Sm a.1.n ∧ Sm a.2.1.n)) (fun a => cmpN a.1.n a.2.1.n)
def nSmall : SpecF := fspec (α := NI) (β := Num) (fun a => some (Sm a.1.n ∧ 0 ≤ a.2.1 ∧ a.2.1 < 9223372036854775808)) (fun a => ⟨a.1.n * a.2.1.toNat⟩)
def nShift : SpecF := fspec (α := NI) (β := Num) (fun a => some ((dg a.1.n).length ≤ 536870912 ∧ 0 ≤ a.2.1 ∧ a.2.1 ≤ 1073741824)) (fun a => ⟨a.1.n * 2 ^ a.2.1.toNat⟩)
def nDown : SpecF := fspec (α := NI) (β := Num) (fun a => some (Sm a.1.n ∧ 0 ≤ a.2.1 ∧ a.2.1 ≤ 1073741824)) (fun a => ⟨a.1.n / 2 ^ a.2.1.toNat⟩)
def nBit : SpecF := fspec (α := NI) (β := Int) (fun a => some (Sm a.1.n ∧ 0 ≤ a.2.1 ∧ a.2.1 ≤ 1073741824)) (fun a => ((a.1.n / 2 ^ a.2.1.toNat % 2 : Nat) : Int))
def nBits : SpecF := fspec (α := N1) (β := Int) (fun a => some (Sm a.1.n)) (fun a => bitsN a.1.n)
def nToWords : SpecF := fspec (α := NI) (β := List UInt64) (fun a => some (Sm a.1.n ∧ 0 ≤ a.2.1 ∧ a.2.1 ≤ 1048576)) (fun a => wordsL a.1.n a.2.1.toNat)
def nFour : SpecF := fspec (α := N1) (β := Four) (fun a => some (Sm a.1.n)) (fun a => fourN a.1.n)
def nToLittle : SpecF := fspec (α := NI) (β := List UInt8) (fun a => some (Sm a.1.n ∧ 0 ≤ a.2.1 ∧ a.2.1 ≤ 1048576)) (fun a => bytesN a.1.n a.2.1.toNat)
def nToBig : SpecF := fspec (α := NI) (β := List UInt8) (fun a => some (Sm a.1.n ∧ 0 ≤ a.2.1 ∧ a.2.1 ≤ 1048576)) (fun a => (bytesN a.1.n a.2.1.toNat).reverse)

def c1 (a : N1) : List Int × Unit := (dg a.1.n, ())
def c2 (a : N2) : List Int × List Int × Unit := (dg a.1.n, dg a.2.1.n, ())
def cI (a : NI) : List Int × Int × Unit := (dg a.1.n, a.2.1, ())
theorem c1_rel (a : N1) (at_ : At) (w : World) (vs : List Value) (h : RelL at_ w (Args.encL a) vs) : RelL at_ w (Args.encL (c1 a)) vs := by
  simp only [Args.encL, RelL, Enc.enc, c1] at h ⊢
  obtain ⟨v, _, rfl, h1, h2⟩ := h
  exact ⟨_, _, rfl, num_ints.1 h1, h2⟩
theorem c2_rel (a : N2) (at_ : At) (w : World) (vs : List Value) (h : RelL at_ w (Args.encL a) vs) : RelL at_ w (Args.encL (c2 a)) vs := by
  simp only [Args.encL, RelL, Enc.enc, c2] at h ⊢
  obtain ⟨v, _, rfl, h1, _, _, rfl, h2, h3⟩ := h
  exact ⟨_, _, rfl, num_ints.1 h1, _, _, rfl, num_ints.1 h2, h3⟩
theorem cI_rel (a : NI) (at_ : At) (w : World) (vs : List Value) (h : RelL at_ w (Args.encL a) vs) : RelL at_ w (Args.encL (cI a)) vs := by
  simp only [Args.encL, RelL, Enc.enc, cI] at h ⊢
  obtain ⟨v, _, rfl, h1, h2⟩ := h
  exact ⟨_, _, rfl, num_ints.1 h1, h2⟩

theorem ok_nAdd : SpecOK Try.prog 16 nAdd := fspec_weaken ok_Add c2 c2_rel (fun _ => rfl) (fun _ h => ⟨Dg.dg h.1, Dg.dg h.2⟩) (fun a _ _ _ _ r => by simpa only [c2, nv_dg] using r)
theorem ok_nSub : SpecOK Try.prog 17 nSub := fspec_weaken ok_Sub c2 c2_rel (fun _ => rfl) (fun _ h => ⟨Dg.dg h.1, Dg.dg h.2.2, by simp only [c2, nv_dg]; exact h.2.1⟩) (fun a _ _ _ _ r => by simpa only [c2, nv_dg] using r)
theorem ok_nMul : SpecOK Try.prog 32 nMul := fspec_weaken ok_Mul c2 c2_rel (fun _ => rfl) (fun _ h => ⟨Dg.dg h.1, Dg.dg h.2⟩) (fun a _ _ _ _ r => by simpa only [c2, nv_dg] using r)
theorem ok_nCmp : SpecOK Try.prog 19 nCmp := fspec_weaken ok_Cmp c2 c2_rel (fun _ => rfl) (fun _ h => ⟨Can.dg h.1, Can.dg h.2⟩) (fun a _ _ _ _ r => by simpa only [c2, nv_dg] using r)
theorem ok_nSmall : SpecOK Try.prog 68 nSmall := fspec_weaken ok_Small cI cI_rel (fun _ => rfl) (fun _ h => ⟨Dg.dg h.1, h.2⟩) (fun a _ _ _ _ r => by simpa only [cI, nv_dg] using r)
theorem ok_nShift : SpecOK Try.prog 35 nShift := fspec_weaken ok_Shift cI cI_rel (fun _ => rfl) (fun _ h => ⟨dig_dg _, h⟩) (fun a _ _ _ _ r => by simpa only [cI, nv_dg] using r)
theorem ok_nDown : SpecOK Try.prog 36 nDown := fspec_weaken ok_Down cI cI_rel (fun _ => rfl) (fun _ h => ⟨Dg.dg h.1, h.2⟩) (fun a _ _ _ _ r => by simpa only [cI, nv_dg] using r)
theorem ok_nBit : SpecOK Try.prog 21 nBit := fspec_weaken ok_Bit cI cI_rel (fun _ => rfl) (fun _ h => ⟨Dg.dg h.1, h.2⟩) (fun a _ _ _ _ r => by simpa only [cI, nv_dg] using r)
theorem ok_nBits : SpecOK Try.prog 41 nBits := fspec_weaken ok_Bits c1 c1_rel (fun _ => rfl) (fun _ h => Can.dg h) (fun a _ _ _ _ r => by simpa only [c1, nv_dg] using r)
theorem ok_nToWords : SpecOK Try.prog 31 nToWords := fspec_weaken ok_ToWords cI cI_rel (fun _ => rfl) (fun _ h => ⟨Dg.dg h.1, h.2⟩) (fun a _ _ _ _ r => by simpa only [cI, nv_dg] using r)
theorem ok_nFour : SpecOK Try.prog 20 nFour := fspec_weaken ok_Four c1 c1_rel (fun _ => rfl) (fun _ h => Dg.dg h) (fun a _ _ _ _ r => by simpa only [c1, nv_dg] using r)
theorem ok_nToLittle : SpecOK Try.prog 24 nToLittle := fspec_weaken ok_ToLittle cI cI_rel (fun _ => rfl) (fun _ h => ⟨Dg.dg h.1, h.2⟩) (fun a _ _ _ _ r => by simpa only [cI, nv_dg] using r)
theorem ok_nToBig : SpecOK Try.prog 25 nToBig := fspec_weaken ok_ToBig cI cI_rel (fun _ => rfl) (fun _ h => ⟨Dg.dg h.1, h.2⟩) (fun a _ _ _ _ r => by simpa only [cI, nv_dg] using r)

def spN : Specs := (13, sOf) :: (16, nAdd) :: (17, nSub) :: (18, sPower) :: (19, nCmp) ::
  (20, nFour) :: (21, nBit) :: (24, nToLittle) :: (25, nToBig) :: (26, sSame) ::
  (28, sLittle) :: (29, sBig) :: (31, nToWords) :: (32, nMul) :: (34, sWords) ::
  (35, nShift) :: (36, nDown) :: (41, nBits) :: (69, sInt) :: (68, nSmall) :: (65, sPow2) :: []
theorem spN_ok : SpecsOK Try.prog spN := .cons ok_Of <| .cons ok_nAdd <| .cons ok_nSub <| .cons ok_Power <| .cons ok_nCmp <| .cons ok_nFour <| .cons ok_nBit <| .cons ok_nToLittle <| .cons ok_nToBig <| .cons ok_Same <|
  .cons ok_Little <| .cons ok_Big <| .cons ok_nToWords <| .cons ok_nMul <| .cons ok_Words <| .cons ok_nShift <| .cons ok_nDown <| .cons ok_nBits <| .cons ok_Int <| .cons ok_nSmall <| .cons ok_Pow2 <| .nil _
end Go.Proofs.Ythechjccpljljaa.R1
