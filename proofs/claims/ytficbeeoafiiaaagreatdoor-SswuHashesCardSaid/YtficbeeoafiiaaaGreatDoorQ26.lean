/- A symbolic machine for Go functions, and what the functions that the law reaches come to: SxA, SxB, SxC, SxF, SxG, SxH, SxD, SxE, SxI. -/
import Derived.Test.YtficbeeoafiiaaaGreatDoorQ25
import Derived.Test.YtficbeeoafiiaaaGreatDoorQ4
import Derived.Test.YtficbeeoafiiaaaGreatDoorQ6
/- Layer 39: messages as many bytes: what is said of the functions. -/
set_option maxRecDepth 10000
namespace Go.Proofs.YtficbeeoafiiaaaGreatDoor.H39
open Go.Sym Go.Dig R1 H5
/-! A copy. -/
structure VSl where
  ad : Option Addr
  c : Nat
instance : Enc VSl where
  enc a := .val (.slice a.ad 0 a.c)
  dec | .val (.slice ad 0 c) => some ⟨ad, c⟩
      | _ => none
  ok := by
    intro s a h at_ w v r
    split at h
    · simp only [Option.some.injEq] at h; subst h; exact r
    · cases h
  nn _ := rfl
def sCloneV : SpecF := fspec (α := VSl × Unit) (β := List UInt8) total fun _ => []
def sCloneP : SpecF := fspec (α := List UInt8 × Unit) (β := List UInt8) (fun a => some (0 < a.1.length ∧ a.1.length ≤ appLim)) (fun a => a.1)
def sClone : SpecF := fspec (α := List UInt8 × Unit) (β := List UInt8) (fun a => some (a.1.length ≤ appLim)) (fun a => a.1)
/-! The sum of parts. -/
def iSm (l : List (List UInt8)) (v : HashV) (i : Int) : Prop := 0 ≤ i ∧ i ≤ l.length ∧ v = hv (l.take i.toNat).flatten
def lSm (l : List (List UInt8)) : Plan := { loops := [(0, { β := List (List UInt8) × Int × Unit, α := PHn × Int × Unit, same := [7, 8], keep := [3, 9], inv := fun _ _ x => iSm l x.1.v x.2.1, meas := fun _ x => (l.length - x.2.1).toNat })] }
noncomputable def spSm : Specs := [(42, .fresh sNewH), (43, .memf sWriteO), (44, .fresh sHSumO)]
noncomputable def sSm : SpecF := fspec (α := List (List UInt8) × Unit) (fun a => some (a.1.length ≤ 1000000 ∧ ∀ p ∈ a.1, p.length ≤ 1000000)) (fun a => digV a.1.flatten)
/-! The blocks, as a function that tells them. -/
structure BlkC where
  b : List UInt8
  e : List UInt8
instance : RetL BlkC := ⟨fun d => [.fn 45 [.ro [.lst (.bytes d.b)] 0, .ro [.lst (.bytes d.e)] 0]]⟩
def sBlocks : SpecF := fspec (α := List UInt8 × List UInt8 × Unit) total fun a => (⟨a.1, a.2.1⟩ : BlkC)
/-- A value that is no data. -/
structure ValV where
  v : Value
instance : Enc ValV where
  enc a := .val a.v
  dec | .val v => some ⟨v⟩
      | _ => none
  ok := by
    intro s a h at_ w v r
    cases s <;> simp only at h <;> first | (cases h; done) | (simp only [Option.some.injEq] at h; subst h; exact r)
  nn _ := rfl
/-- A list that is read through a pointer. -/
structure RoL where
  v : List UInt8
instance : Enc RoL where
  enc a := .ro [.lst (.bytes a.v)] 0
  dec | .ro [.lst (.bytes l)] 0 => some ⟨l⟩
      | _ => none
  ok := by
    intro s a h at_ w v r
    split at h
    · simp only [Option.some.injEq] at h; subst h; exact r
    · cases h
  nn _ := rfl
/-- A number in a block. -/
structure BoxI where
  v : Int
instance : LEnc BoxI where
  kind := none
  enc nx a := (.ptr nx 0, [[.i64 a.v]])
  dec nx s M := match s, M with
    | .ptr b 0, some [.i64 n] :: M' => if b = nx then some (none, ⟨n⟩, M') else none
    | _, _ => none
  all P := ∀ v, P ⟨v⟩
  all_ok h a := h a.v
  ok := by
    intro nx s M p a M' h hp
    split at h
    · split at h
      · rename_i hb
        simp only [Option.some.injEq, Prod.mk.injEq] at h
        obtain ⟨_, rfl, rfl⟩ := h
        subst hb
        exact ⟨rfl, fun r => r⟩
      · cases h
    · cases h
/-- A block whose cell is no list yet. -/
structure PNil where
instance : LEnc PNil where
  kind := none
  enc nx _ := (.ptr nx 0, [[.val (.slice none 0 0)]])
  dec nx s M := match s, M with
    | .ptr b 0, some [.val (.slice none 0 0)] :: M' => if b = nx then some (none, ⟨⟩, M') else none
    | _, _ => none
  all P := P ⟨⟩
  all_ok h _ := h
  ok := by
    intro nx s M p a M' h hp
    split at h
    · split at h
      · rename_i hb
        simp only [Option.some.injEq, Prod.mk.injEq] at h
        obtain ⟨_, _, rfl⟩ := h
        subst hb
        exact ⟨rfl, fun r => r⟩
      · cases h
    · cases h
/-- The last block, and (in the caller's cell) what has come. -/
structure OutLast where
  out : List UInt8
  last : List UInt8
instance : LEnc OutLast where
  kind := none
  frz := true
  enc _ a := (.lst (.bytes a.last), [[.own (.bytes a.out)]])
  dec _ s M := match s, M with
    | .lst (.bytes l), some [.own (.bytes o)] :: M' => some (none, ⟨o, l⟩, M')
    | _, _ => none
  all P := ∀ o l, P ⟨o, l⟩
  all_ok h a := h a.out a.last
  ok := by
    intro nx s M p a M' h hp
    split at h
    · simp only [Option.some.injEq, Prod.mk.injEq] at h
      obtain ⟨_, rfl, rfl⟩ := h
      exact ⟨rfl, fun r => r⟩
    · cases h
/-- What has come, and a list that is written. -/
structure OutMix where
  out : List UInt8
  l : List UInt8
instance : LEnc OutMix where
  kind := none
  enc nx a := (.sl (nx + 1) 0 a.l.length, [[.own (.bytes a.out)], [.own (.bytes a.l)]])
  dec nx s M := match s, M with
    | .sl b lo len, some [.own (.bytes o)] :: some [.own (.bytes l)] :: M' => if b = nx + 1 then some (some (lo = 0 ∧ len = l.length), ⟨o, l⟩, M') else none
    | _, _ => none
  all P := ∀ o l, P ⟨o, l⟩
  all_ok h a := h a.out a.l
  ok := by
    intro nx s M p a M' h hp
    split at h
    · split at h
      · rename_i hb
        simp only [Option.some.injEq, Prod.mk.injEq] at h
        obtain ⟨rfl, rfl, rfl⟩ := h
        obtain ⟨rfl, rfl⟩ := hp
        subst hb
        exact ⟨rfl, fun r => r⟩
      · cases h
    · cases h
/-! The blocks, as such. -/
def xorL (a b : List UInt8) : List UInt8 := List.zipWith (· ^^^ ·) a b
noncomputable def ch0 (b e : List UInt8) : Nat → List UInt8
  | 0 => List.replicate 32 0
  | i + 1 => digV (xorL b (ch0 b e i) ++ [UInt8.ofNat (i + 1)] ++ e)
theorem ch_ex : ∃ f : List UInt8 → List UInt8 → Nat → List UInt8, f = ch0 := ⟨_, rfl⟩
noncomputable def chE : List UInt8 → List UInt8 → Nat → List UInt8 := Classical.choose ch_ex
theorem chE_eq : chE = ch0 := Classical.choose_spec ch_ex
noncomputable def outE (b e : List UInt8) : Nat → List UInt8
  | 0 => []
  | i + 1 => outE b e i ++ chE b e (i + 1)
end Go.Proofs.YtficbeeoafiiaaaGreatDoor.H39
/- Layer 39: copies, sums of parts, blocks: what the bodies come to. -/
set_option maxRecDepth 10000
namespace Go.Proofs.YtficbeeoafiiaaaGreatDoor.H39
open Go.Sym Go.Dig R1 H5
--STOP digV, iSm, hv, rOf, nOf, absT, absR, sumO, beg, List.flatten
theorem vcCloneP (b : List UInt8) (Q : SV → Prop) : LfRaw tt [] 9 [(1, 1, .b false)] {} Tryz.f16 Q (b, ()) =
 (((0 : Nat) < List.length b) ∧ ((false = false) ∧ ((((0 : Nat) + (0 : Nat) = (0 : Nat)) ∧ (List.length ([] ++ b) ≤ appLim)) ∧ (Q (SV.lst (LV.bytes (List.drop (0 : Nat) (List.take ((0 : Nat) + List.length ([] ++ b)) ([] ++ b))))))))) := by kernel_rfl
theorem vcCloneN (c : Nat) (Q : SV → Prop) : LfRaw tt [] 9 [] {} Tryz.f16 Q ((⟨none, c⟩ : VSl), ()) = Q (.val (.slice none 0 0)) := by kernel_rfl
theorem vcCloneS (a : Addr) (c : Nat) (Q : SV → Prop) : LfRaw tt [] 9 [] {} Tryz.f16 Q ((⟨some a, c⟩ : VSl), ()) =
 ((((0 : Nat) + (0 : Nat) = (0 : Nat)) ∧ ((0 : Nat) ≤ appLim)) ∧ (Q (SV.lst (LV.bytes [])))) := by kernel_rfl
theorem vcSm (l : List (List UInt8)) (Q : SV → Prop) : LfRaw tt spSm 9 [] (lSm l) Tryz.f17 Q (l, ()) =
 ((iSm l (HashV.mk beg [] (0 : Nat) (0 : Nat) (0 : UInt64)) (0 : Int)) ∧ (∀ v : HashV, (∀ a : Int, ((iSm l v a) → bcase (decide (a < (↑(List.length l) : Int))) (((((0 : Int) ≤ a) ∧ (a < (↑(List.length l) : Int))) ∧ (((HashV.lo v + HashV.len v = List.length (HashV.l v)) ∧ ((List.length (rOf v (List.getD l (Int.toNat a) [])) ≤ appLim) ∧ (True))) ∧ (((l, (↑(List.length l) : Int), ()) = (l, (↑(List.length l) : Int), ())) ∧ ((iSm l (HashV.mk (absT (HashV.s v) (rOf v (List.getD l (Int.toNat a) []))) (absR (rOf v (List.getD l (Int.toNat a) []))) (0 : Nat) (List.length (absR (rOf v (List.getD l (Int.toNat a) [])))) (nOf v (List.getD l (Int.toNat a) []))) (IntKind.wrap IntKind.i64 (a + (1 : Int)))) ∧ (Int.toNat ((↑(List.length l) : Int) - IntKind.wrap IntKind.i64 (a + (1 : Int))) < Int.toNat ((↑(List.length l) : Int) - a))))))) (((List.length (List.drop (HashV.lo v) (List.take (HashV.lo v + HashV.len v) (HashV.l v))) ≤ (65536 : Nat)) ∧ (Q (SV.lst (LV.bytes (List.drop (0 : Nat) (List.take
 ((0 : Nat) + List.length (sumO (OH.some (RoH.mk (HashV.s v) (List.drop (HashV.lo v) (List.take (HashV.lo v + HashV.len v) (HashV.l v))) (HashV.n v))))) (sumO (OH.some (RoH.mk (HashV.s v) (List.drop (HashV.lo v) (List.take (HashV.lo v + HashV.len v) (HashV.l v))) (HashV.n v))))))))))))))) := by kernel_rfl
theorem vcBlocks (b e : List UInt8) (Q : SV → Prop) : LnRaw tt [] 3 [] {} Tryz.f18 Q (b, e, ()) = Q (.fn 45 [.ro [.lst (.bytes b)] 0, .ro [.lst (.bytes e)] 0]) := by kernel_rfl
end Go.Proofs.YtficbeeoafiiaaaGreatDoor.H39
/- Layer 39: copies, sums of parts, blocks: the bodies hold. -/
set_option maxRecDepth 10000
namespace Go.Proofs.YtficbeeoafiiaaaGreatDoor.H39
open Go.Sym Go.Dig R1 H5
theorem fl {l : List UInt8} : List.drop 0 (List.take (0 + l.length) l) = l := fz l
theorem tf {l : List UInt8} : List.drop 0 (List.take l.length l) = l := by rw [List.take_length]; rfl
theorem ok_CloneP : FSpecOK Tryz.prog 16 sCloneP := by
  refine fn_okF (by kernel_rfl) tt_ok (.nil _) 9 Tryz.func16 (by decide +kernel) (by kernel_rfl) ?_
  rintro ⟨b, _⟩ ⟨h1, h2⟩
  replace h1 : 0 < b.length := h1
  replace h2 : b.length ≤ appLim := h2
  refine ⟨_, {}, fun x => x = .lst (.bytes b), LfVD.of (vcCloneP b _) ?_, fun x h at_ n w v r => by have h' : x = _ := h; subst h'; exact r⟩
  simp only [List.nil_append, fl]
  exact ⟨h1, trivial, ⟨trivial, h2⟩, trivial⟩
theorem ok_CloneV : FSpecOK Tryz.prog 16 sCloneV := by
  refine fn_okF (by kernel_rfl) tt_ok (.nil _) 9 Tryz.func16 (by decide +kernel) (by kernel_rfl) ?_
  rintro ⟨⟨ad, c⟩, _⟩ _
  cases ad with
  | none =>
    refine ⟨[], {}, fun x => x = .val (.slice none 0 0), LfVD.of (vcCloneN c _) rfl, fun x h at_ n w v r => ?_⟩
    have h' : x = _ := h
    subst h'
    have hv : v = .slice none 0 0 := r
    exact .inl ⟨rfl, hv⟩
  | some a => exact ⟨[], {}, fun x => x = .lst (.bytes []), LfVD.of (vcCloneS a c _) ⟨⟨rfl, by decide⟩, rfl⟩, fun x h at_ n w v r => by have h' : x = _ := h; subst h'; exact r⟩
theorem ok_Clone : FSpecOK Tryz.prog 16 sClone := by
  intro at_ w svs vs pr r hat hout hgl hs hp hr
  unfold sClone fspec at hs
  split at hs
  · rename_i a ha
    obtain ⟨b, _⟩ := a
    simp only [Option.some.injEq, Prod.mk.injEq] at hs
    obtain ⟨rfl, rfl⟩ := hs
    have hp' : b.length ≤ appLim := hp
    by_cases h0 : 0 < b.length
    · refine ok_CloneP at_ w svs vs (some (0 < b.length ∧ b.length ≤ appLim)) _ hat hout hgl ?_ ⟨h0, hp'⟩ hr
      unfold sCloneP fspec
      rw [ha]
    · have hb : b = [] := List.eq_nil_of_length_eq_zero (by omega)
      subst hb
      have hr' := Args.ok ha hr
      obtain ⟨v, hv⟩ : ∃ v, vs = [v] := by
        have := hr'.length
        match vs, this with
        | [v], _ => exact ⟨v, rfl⟩
      subst hv
      have hv1 : Rel at_ w (.lst (.bytes [])) v := by
        have hr' : RelL at_ w [.lst (.bytes [])] [v] := hr'
        simp only [RelL] at hr'
        obtain ⟨u, us, e, h1, _⟩ := hr'
        simp only [List.cons.injEq] at e
        rw [e.1]; exact h1
      simp only [Rel] at hv1
      obtain ⟨ad, c, rfl, _, _⟩ := hv1
      refine ok_CloneV at_ w [.val (.slice ad 0 c)] [.slice ad 0 c] none _ hat hout hgl rfl trivial ?_
      exact RelL.cons (by simp only [Rel]) RelL.nil
  · cases hs
theorem spSm_ok : SpecsOK Tryz.prog spSm := .consF ok_NewH <| .consN ok_WriteO <| .consF ok_HSumO (.nil _)
theorem flat_le : ∀ (l : List (List UInt8)) (n : Nat), (∀ p ∈ l, p.length ≤ n) → l.flatten.length ≤ n * l.length
  | [], n, _ => by simp
  | p :: l, n, h => by
    have h1 := flat_le l n fun q hq => h q (List.mem_cons_of_mem _ hq)
    have h2 := h p List.mem_cons_self
    rw [List.flatten_cons, List.length_append, List.length_cons, Nat.mul_succ]
    omega
theorem hvd (t : List UInt8) : List.drop (hv t).lo (List.take ((hv t).lo + (hv t).len) (hv t).l) = absR t := fz (absR t)
theorem hd' (t : List UInt8) : sumO (OH.some (RoH.mk (hv t).s (absR t) (hv t).n)) = digV t := hd t
theorem ok_Sm : FSpecOK Tryz.prog 17 sSm := by
  unfold sSm
  refine fn_okF (by kernel_rfl) tt_ok spSm_ok 9 Tryz.func17 (by decide +kernel) (by kernel_rfl) ?_
  rintro ⟨l, _⟩ ⟨hl, hp⟩
  replace hl : l.length ≤ 1000000 := hl
  replace hp : ∀ p ∈ l, p.length ≤ 1000000 := hp
  refine ⟨[], lSm l, fun x => x = .lst (.bytes (digV l.flatten)), LfVD.of (vcSm l _) ?_, fun x h at_ n w v r => by have h' : x = _ := h; subst h'; exact r⟩
  refine ⟨⟨by omega, by omega, hv0⟩, ?_⟩
  rintro v i ⟨h0, h1, rfl⟩
  have hfl : ∀ m : Nat, (l.take m).flatten.length ≤ 1000000 * l.length := by
    intro m
    refine Nat.le_trans (flat_le _ 1000000 fun q hq => hp q (List.mem_of_mem_take hq)) (Nat.mul_le_mul_left _ ?_)
    rw [List.length_take]; omega
  rw [bcase_dec]
  refine ⟨fun hi => ?_, fun hi => ?_⟩
  · have ef : (l.take (i.toNat + 1)).flatten = (l.take i.toNat).flatten ++ l.getD i.toNat [] := take_flat (by omega)
    have hm : (l.getD i.toNat []).length ≤ 1000000 := by
      rw [List.getD_eq_getElem?_getD, List.getElem?_eq_getElem (show i.toNat < l.length by omega)]
      exact hp _ (List.getElem_mem _)
    have l1 := absR_len (l.take i.toNat).flatten
    refine ⟨⟨h0, hi⟩, ⟨Nat.zero_add _, ?_, trivial⟩, rfl, ⟨?_, ?_, ?_⟩, ?_⟩
    · rw [rl]; simp only [appLim]; omega
    · rw [wr (by omega)]; omega
    · rw [wr (by omega)]; omega
    · simp only [hs, hr, hn, hk]
      rw [wr (by omega), show (i + 1).toNat = i.toNat + 1 by omega, ef]
    · rw [wr (by omega)]; omega
  · have et : l.take i.toNat = l := List.take_of_length_le (by omega)
    have l1 := absR_len l.flatten
    simp only [et, hvd, hd', fz]
    exact ⟨by omega, trivial⟩
theorem ok_Blocks : SpecOK Tryz.prog 18 sBlocks := by
  refine fn_okL (by kernel_rfl) tt_ok (.nil _) 3 Tryz.func18 (by decide +kernel) (by kernel_rfl) ?_
  rintro ⟨b, e, _⟩ _
  exact ⟨[], {}, fun x => x = .fn 45 [.ro [.lst (.bytes b)] 0, .ro [.lst (.bytes e)] 0], LnVD.of (vcBlocks b e _) rfl, svf⟩
end Go.Proofs.YtficbeeoafiiaaaGreatDoor.H39
/- Layer 39: the blocks as such; the reference: what is said of it. -/
set_option maxRecDepth 10000
namespace Go.Proofs.YtficbeeoafiiaaaGreatDoor.H39
open Go.Sym Go.Dig R1 H5
theorem chE_zero (b e : List UInt8) : chE b e 0 = List.replicate 32 0 := by rw [chE_eq]; rfl
theorem chE_succ (b e : List UInt8) (i : Nat) : chE b e (i + 1) = digV (xorL b (chE b e i) ++ [UInt8.ofNat (i + 1)] ++ e) := by rw [chE_eq]; rfl
theorem chE_len (b e : List UInt8) : ∀ i, (chE b e i).length = 32
  | 0 => by rw [chE_zero]; decide
  | i + 1 => by rw [chE_succ]; exact digV_len _
theorem outE_len (b e : List UInt8) : ∀ i, (outE b e i).length = 32 * i
  | 0 => rfl
  | i + 1 => by rw [outE, List.length_append, outE_len b e i, chE_len]; omega
theorem outE_pre (b e : List UInt8) (i : Nat) : ∀ m, ∃ r, outE b e (i + m) = outE b e i ++ r
  | 0 => ⟨[], by simp⟩
  | m + 1 => by
    obtain ⟨r, h⟩ := outE_pre b e i m
    exact ⟨r ++ chE b e (i + m + 1), by rw [← Nat.add_assoc, outE, h, List.append_assoc]⟩
theorem outE_take {b e : List UInt8} {i n : Nat} (hi : i ≤ 255) (hn : n ≤ 32 * i) : (outE b e i).take n = (outE b e 255).take n := by
  obtain ⟨r, h⟩ := outE_pre b e i (255 - i)
  rw [show i + (255 - i) = 255 by omega] at h
  rw [h, List.take_append_of_le_length (by rw [outE_len]; omega)]
theorem xorL_len (a b : List UInt8) : (xorL a b).length = min a.length b.length := by simp [xorL]
theorem xorL_step {a b : List UInt8} {k : Nat} (ha : k < a.length) (hb : k < b.length) : xorL (a.take (k + 1)) (b.take (k + 1)) = xorL (a.take k) (b.take k) ++ [a.getD k 0 ^^^ b.getD k 0] := by
  unfold xorL
  rw [List.take_succ_eq_append_getElem ha, List.take_succ_eq_append_getElem hb, List.zipWith_append (by simp; omega)]
  simp [List.getD_eq_getElem?_getD, ha, hb]
def endV (t : List UInt8) : List UInt8 := t ++ [UInt8.ofInt (t.length : Int)]
noncomputable def begV (msg tag : List UInt8) (n : Int) : List UInt8 := digV (List.replicate 64 0 ++ msg ++ [UInt8.ofInt (Int.fdiv n 256), UInt8.ofInt n, 0] ++ endV tag)
theorem ex_ex : ∃ f : List UInt8 → List UInt8 → Int → List UInt8, f = fun msg tag n => (outE (begV msg tag n) (endV tag) 255).take n.toNat := ⟨_, rfl⟩
/-- As many bytes as are asked for. -/
noncomputable def expV : List UInt8 → List UInt8 → Int → List UInt8 := Classical.choose ex_ex
theorem expV_eq : expV = fun msg tag n => (outE (begV msg tag n) (endV tag) 255).take n.toNat := Classical.choose_spec ex_ex
/-! The reference. -/
def iRE (b e : List UInt8) (x7 x10 last : List UInt8) (i : Int) : Prop := x7 = e ∧ 1 ≤ i ∧ i ≤ 256 ∧ last = chE b e (i - 1).toNat ∧ x10 = outE b e (i - 1).toNat
def iRX (b last x7 x10 y7 y10 mix : List UInt8) (k : Int) : Prop := y7 = x7 ∧ y10 = x10 ∧ 0 ≤ k ∧ k ≤ 32 ∧ mix = xorL (b.take k.toNat) (last.take k.toNat)
def cRE3 : CSpec := { β := List UInt8 × List UInt8 × Int × Unit, γ := OwnB × Unit, α := OwnB × Unit, same := [0, 1, 2], pre := [7], keep := [7], inv := fun c g a => a.1.l = g.1.l ++ [UInt8.ofInt (c.2.1.length : Int)] }
def cRE4 : CSpec := { β := List UInt8 × Int × Unit, γ := OwnB × Unit, α := OwnB × OwnB × Unit, same := [0, 2], pre := [7], keep := [7, 8], inv := fun _ g a => a.1.l = g.1.l ∧ a.2.1.l = List.replicate 64 0 }
def cRE5 : CSpec := { β := List UInt8 × Int × Unit, γ := OwnB × OwnB × Unit, α := OwnB × OwnB × Unit, same := [0, 2], pre := [7, 8], keep := [7, 8], inv := fun c g a => a.1.l = g.1.l ∧ a.2.1.l = g.2.1.l ++ c.1 }
def cRE6 : CSpec := { β := Int × Unit, γ := OwnB × OwnB × Unit, α := OwnB × OwnB × Unit, same := [2], pre := [7, 8], keep := [7, 8], inv := fun c g a => a.1.l = g.1.l ∧ a.2.1.l = g.2.1.l ++ (bytesN c.1.toNat 2).reverse }
def cRE7 : CSpec := { β := Int × Unit, γ := OwnB × OwnB × Unit, α := OwnB × OwnB × Unit, same := [2], pre := [7, 8], keep := [7, 8], inv := fun _ g a => a.1.l = g.1.l ∧ a.2.1.l = g.2.1.l ++ [0] }
noncomputable def cRE8 : CSpec := { β := Int × Unit, γ := OwnB × OwnB × Unit, α := OwnB × List UInt8 × Unit, same := [2], pre := [7, 8], keep := [7, 9], inv := fun _ g a => a.1.l = g.1.l ∧ a.2.1 = digV (g.2.1.l ++ g.1.l) }
def cRE19 : CSpec := { β := Int × List UInt8 × List UInt8 × Int × Unit, γ := OwnB × OwnB × OwnB × Unit, α := OwnB × OwnB × OwnB × Unit, same := [2, 9, 11, 12], pre := [7, 10, 13], keep := [7, 10, 13], inv := fun c g a => a.1.l = g.1.l ∧ a.2.1.l = g.2.1.l ∧ a.2.2.1.l = g.2.2.1.l ++ [UInt8.ofInt c.2.2.2.1] }
noncomputable def cRE20 : CSpec := { β := Int × List UInt8 × Int × Unit, γ := OwnB × OwnB × OwnB × Unit, α := OwnB × OwnB × List UInt8 × Unit, same := [2, 9, 12], pre := [7, 10, 13], keep := [7, 10, 11], inv := fun _ g a => a.1.l = g.1.l ∧ a.2.1.l = g.2.1.l ∧ a.2.2.1 = digV (g.2.2.1.l ++ g.1.l) }
noncomputable def lRE (b e : List UInt8) : Plan := { cuts := [(3, cRE3), (4, cRE4), (5, cRE5), (6, cRE6), (7, cRE7), (8, cRE8), (19, cRE19), (20, cRE20)], loops := [
  (0, { β := Int × List UInt8 × Unit, α := OwnB × OwnB × List UInt8 × Int × Unit, same := [2, 9], keep := [7, 10, 11, 12], inv := fun _ _ x => iRE b e x.1.l x.2.1.l x.2.2.1 x.2.2.2.1, meas := fun c x => (c.1 - (x.2.1.l.length : Int)).toNat }),
  (2, { β := Int × List UInt8 × List UInt8 × Int × Unit, α := OwnB × OwnB × OwnB × Int × Unit, same := [2, 9, 11, 12], keep := [7, 10, 13, 14], inv := fun c a0 x => iRX b c.2.2.1 a0.1.l a0.2.1.l x.1.l x.2.1.l x.2.2.1.l x.2.2.2.1, meas := fun _ x => (32 - x.2.2.2.1).toNat })] }
noncomputable def spRE : Specs := [(24, sInt), (23, nToBig), (25, sRSum)]
noncomputable def sRExp : SpecF := fspec (α := List UInt8 × List UInt8 × Int × Unit) (fun a => some (a.1.length ≤ 1000000 ∧ a.2.1.length ≤ 1000000 ∧ 0 ≤ a.2.2.1 ∧ a.2.2.1 ≤ 8160)) (fun a => expV a.1 a.2.1 a.2.2.1)
noncomputable def sExp : SpecF := fspec (α := List UInt8 × List UInt8 × Int × Unit) (β := List UInt8 × Int × Unit) (fun a => some (a.1.length ≤ 1000000)) (fun a => if 0 ≤ a.2.2.1 ∧ a.2.2.1 ≤ 8160 ∧ a.2.1.length ≤ 255 then (expV a.1 a.2.1 a.2.2.1, 0, ()) else ([], 2, ()))
end Go.Proofs.YtficbeeoafiiaaaGreatDoor.H39
/- Layer 39: the reference: what it comes to. -/
set_option maxRecDepth 10000
namespace Go.Proofs.YtficbeeoafiiaaaGreatDoor.H39
open Go.Sym Go.Dig R1 H5
--STOP digV, chE, outE, xorL, iRE, iRX, bytesN, Sm
theorem vcRExp (b e msg tag : List UInt8) (n : Int) (Q : SV → Prop) : LnRaw tt spRE 9 [] (lRE b e) Tryz.f9 Q (msg, tag, n, ()) =
 ((List.length ([] ++ tag) ≤ appLim) ∧ ((((0 : Nat) = (0 : Nat)) ∧ (List.length ([] ++ tag) = List.length ([] ++ tag))) ∧ (((((0 : Nat) + List.length ([] ++ tag) = List.length ([] ++ tag)) ∧ (List.length (List.drop (0 : Nat) (List.take (List.length ([] ++ tag)) ([] ++ tag)) ++ [UInt8.ofInt (↑(List.length tag) : Int)]) ≤ appLim)) ∧ ((((0 : Nat) = (0 : Nat)) ∧ (List.length (List.drop (0 : Nat) (List.take (List.length ([] ++ tag)) ([] ++ tag)) ++ [UInt8.ofInt (↑(List.length tag) : Int)]) = List.length (List.drop (0 : Nat) (List.take (List.length ([] ++ tag)) ([] ++ tag)) ++ [UInt8.ofInt (↑(List.length tag) : Int)]))) ∧ (((msg, tag, n, ()) = (msg, tag, n, ())) ∧ (List.drop (0 : Nat) (List.take (List.length ([] ++ tag)) ([] ++ tag)) ++ [UInt8.ofInt (↑(List.length tag) : Int)] = [] ++ tag ++ [UInt8.ofInt (↑(List.length tag) : Int)])))) ∧ (∀ l : List UInt8, ((l = [] ++ tag ++ [UInt8.ofInt (↑(List.length tag) : Int)]) → ((((0 : Nat) = (0 : Nat)) ∧ (List.length l = List.length l)) ∧
 (((((0 : Int) ≤ (64 : Int)) ∧ (((64 : Int) = (64 : Int)) ∧ ((64 : Int) ≤ (1099511627776 : Int)))) ∧ (((((0 : Nat) = (0 : Nat)) ∧ (List.length l = List.length l)) ∧ (((0 : Nat) = (0 : Nat)) ∧ (Int.toNat (64 : Int) = (64 : Nat)))) ∧ (((msg, n, ()) = (msg, n, ())) ∧ ((l = l) ∧ ([(0 : UInt8), (0 : UInt8), (0 : UInt8), (0 : UInt8), (0 : UInt8), (0 : UInt8), (0 : UInt8), (0 : UInt8), (0 : UInt8), (0 : UInt8), (0 : UInt8), (0 : UInt8), (0 : UInt8), (0 : UInt8), (0 : UInt8), (0 : UInt8), (0 : UInt8), (0 : UInt8), (0 : UInt8), (0 : UInt8), (0 : UInt8), (0 : UInt8), (0 : UInt8), (0 : UInt8), (0 : UInt8), (0 : UInt8), (0 : UInt8), (0 : UInt8), (0 : UInt8), (0 : UInt8), (0 : UInt8), (0 : UInt8), (0 : UInt8), (0 : UInt8), (0 : UInt8), (0 : UInt8), (0 : UInt8), (0 : UInt8), (0 : UInt8), (0 : UInt8), (0 : UInt8), (0 : UInt8), (0 : UInt8), (0 : UInt8), (0 : UInt8), (0 : UInt8), (0 : UInt8), (0 : UInt8), (0 : UInt8), (0 : UInt8), (0 : UInt8), (0 : UInt8), (0 : UInt8), (0 : UInt8),
 (0 : UInt8), (0 : UInt8), (0 : UInt8), (0 : UInt8), (0 : UInt8), (0 : UInt8), (0 : UInt8), (0 : UInt8), (0 : UInt8), (0 : UInt8)] = [(0 : UInt8), (0 : UInt8), (0 : UInt8), (0 : UInt8), (0 : UInt8), (0 : UInt8), (0 : UInt8), (0 : UInt8), (0 : UInt8), (0 : UInt8), (0 : UInt8), (0 : UInt8), (0 : UInt8), (0 : UInt8), (0 : UInt8), (0 : UInt8), (0 : UInt8), (0 : UInt8), (0 : UInt8), (0 : UInt8), (0 : UInt8), (0 : UInt8), (0 : UInt8), (0 : UInt8), (0 : UInt8), (0 : UInt8), (0 : UInt8), (0 : UInt8), (0 : UInt8), (0 : UInt8), (0 : UInt8), (0 : UInt8), (0 : UInt8), (0 : UInt8), (0 : UInt8), (0 : UInt8), (0 : UInt8), (0 : UInt8), (0 : UInt8), (0 : UInt8), (0 : UInt8), (0 : UInt8), (0 : UInt8), (0 : UInt8), (0 : UInt8), (0 : UInt8), (0 : UInt8), (0 : UInt8), (0 : UInt8), (0 : UInt8), (0 : UInt8), (0 : UInt8), (0 : UInt8), (0 : UInt8), (0 : UInt8), (0 : UInt8), (0 : UInt8), (0 : UInt8), (0 : UInt8), (0 : UInt8), (0 : UInt8), (0 : UInt8), (0 : UInt8), (0 : UInt8)]))))) ∧ (∀ l_1 : List UInt8,
 (∀ l_2 : List UInt8, (((l_1 = l) ∧ (l_2 = [(0 : UInt8), (0 : UInt8), (0 : UInt8), (0 : UInt8), (0 : UInt8), (0 : UInt8), (0 : UInt8), (0 : UInt8), (0 : UInt8), (0 : UInt8), (0 : UInt8), (0 : UInt8), (0 : UInt8), (0 : UInt8), (0 : UInt8), (0 : UInt8), (0 : UInt8), (0 : UInt8), (0 : UInt8), (0 : UInt8), (0 : UInt8), (0 : UInt8), (0 : UInt8), (0 : UInt8), (0 : UInt8), (0 : UInt8), (0 : UInt8), (0 : UInt8), (0 : UInt8), (0 : UInt8), (0 : UInt8), (0 : UInt8), (0 : UInt8), (0 : UInt8), (0 : UInt8), (0 : UInt8), (0 : UInt8), (0 : UInt8), (0 : UInt8), (0 : UInt8), (0 : UInt8), (0 : UInt8), (0 : UInt8), (0 : UInt8), (0 : UInt8), (0 : UInt8), (0 : UInt8), (0 : UInt8), (0 : UInt8), (0 : UInt8), (0 : UInt8), (0 : UInt8), (0 : UInt8), (0 : UInt8), (0 : UInt8), (0 : UInt8), (0 : UInt8), (0 : UInt8), (0 : UInt8), (0 : UInt8), (0 : UInt8), (0 : UInt8), (0 : UInt8), (0 : UInt8)])) → (((((0 : Nat) = (0 : Nat)) ∧ (List.length l_1 = List.length l_1)) ∧ (((0 : Nat) = (0 : Nat)) ∧
 (List.length l_2 = List.length l_2))) ∧ (((((0 : Nat) + List.length l_2 = List.length l_2) ∧ (List.length (List.drop (0 : Nat) (List.take (List.length l_2) l_2) ++ msg) ≤ appLim)) ∧ (((((0 : Nat) = (0 : Nat)) ∧ (List.length l_1 = List.length l_1)) ∧ (((0 : Nat) = (0 : Nat)) ∧ (List.length (List.drop (0 : Nat) (List.take (List.length l_2) l_2) ++ msg) = List.length (List.drop (0 : Nat) (List.take (List.length l_2) l_2) ++ msg)))) ∧ (((msg, n, ()) = (msg, n, ())) ∧ ((l_1 = l_1) ∧ (List.drop (0 : Nat) (List.take (List.length l_2) l_2) ++ msg = l_2 ++ msg))))) ∧ (∀ l_3 : List UInt8, (∀ l_4 : List UInt8, (((l_3 = l_1) ∧ (l_4 = l_2 ++ msg)) → (((((0 : Nat) = (0 : Nat)) ∧ (List.length l_3 = List.length l_3)) ∧ (((0 : Nat) = (0 : Nat)) ∧ (List.length l_4 = List.length l_4))) ∧ (((((0 : Int) ≤ n) ∧ (n < (9223372036854775808 : Int))) ∧ (((Sm (Int.toNat n)) ∧ (((0 : Int) ≤ (2 : Int)) ∧ ((2 : Int) ≤ (1048576 : Int)))) ∧ ((((0 : Nat) + List.length l_4 = List.length l_4) ∧ (List.length
 (List.drop (0 : Nat) (List.take (List.length l_4) l_4) ++ List.reverse (bytesN (Int.toNat n) (Int.toNat (2 : Int)))) ≤ appLim)) ∧ (((((0 : Nat) = (0 : Nat)) ∧ (List.length l_3 = List.length l_3)) ∧ (((0 : Nat) = (0 : Nat)) ∧ (List.length (List.drop (0 : Nat) (List.take (List.length l_4) l_4) ++ List.reverse (bytesN (Int.toNat n) (Int.toNat (2 : Int)))) = List.length (List.drop (0 : Nat) (List.take (List.length l_4) l_4) ++ List.reverse (bytesN (Int.toNat n) (Int.toNat (2 : Int))))))) ∧ (((n, ()) = (n, ())) ∧ ((l_3 = l_3) ∧ (List.drop (0 : Nat) (List.take (List.length l_4) l_4) ++ List.reverse (bytesN (Int.toNat n) (Int.toNat (2 : Int))) = l_4 ++ List.reverse (bytesN (Int.toNat n) (2 : Nat))))))))) ∧ (∀ l_5 : List UInt8, (∀ l_6 : List UInt8, (((l_5 = l_3) ∧ (l_6 = l_4 ++ List.reverse (bytesN (Int.toNat n) (2 : Nat)))) → (((((0 : Nat) = (0 : Nat)) ∧ (List.length l_5 = List.length l_5)) ∧ (((0 : Nat) = (0 : Nat)) ∧ (List.length l_6 = List.length l_6))) ∧
 (((((0 : Nat) + List.length l_6 = List.length l_6) ∧ (List.length (List.drop (0 : Nat) (List.take (List.length l_6) l_6) ++ [UInt8.ofNat (Int.toNat (0 : Int))]) ≤ appLim)) ∧ (((((0 : Nat) = (0 : Nat)) ∧ (List.length l_5 = List.length l_5)) ∧ (((0 : Nat) = (0 : Nat)) ∧ (List.length (List.drop (0 : Nat) (List.take (List.length l_6) l_6) ++ [UInt8.ofNat (Int.toNat (0 : Int))]) = List.length (List.drop (0 : Nat) (List.take (List.length l_6) l_6) ++ [UInt8.ofNat (Int.toNat (0 : Int))])))) ∧ (((n, ()) = (n, ())) ∧ ((l_5 = l_5) ∧ (List.drop (0 : Nat) (List.take (List.length l_6) l_6) ++ [UInt8.ofNat (Int.toNat (0 : Int))] = l_6 ++ [(0 : UInt8)]))))) ∧ (∀ l_7 : List UInt8, (∀ l_8 : List UInt8, (((l_7 = l_5) ∧ (l_8 = l_6 ++ [(0 : UInt8)])) → (((((0 : Nat) = (0 : Nat)) ∧ (List.length l_7 = List.length l_7)) ∧ (((0 : Nat) = (0 : Nat)) ∧ (List.length l_8 = List.length l_8))) ∧ (((((0 : Nat) + List.length l_8 = List.length l_8) ∧ (List.length (List.drop (0 : Nat) (List.take (List.length l_8) l_8) ++
 List.drop (0 : Nat) (List.take ((0 : Nat) + List.length l_7) l_7)) ≤ appLim)) ∧ ((List.length (List.drop (0 : Nat) (List.take ((0 : Nat) + List.length (List.drop (0 : Nat) (List.take (List.length l_8) l_8) ++ List.drop (0 : Nat) (List.take ((0 : Nat) + List.length l_7) l_7))) (List.drop (0 : Nat) (List.take (List.length l_8) l_8) ++ List.drop (0 : Nat) (List.take ((0 : Nat) + List.length l_7) l_7)))) ≤ (1073741824 : Nat)) ∧ ((((0 : Nat) = (0 : Nat)) ∧ (List.length l_7 = List.length l_7)) ∧ (((n, ()) = (n, ())) ∧ ((l_7 = l_7) ∧ (digV (List.drop (0 : Nat) (List.take ((0 : Nat) + List.length (List.drop (0 : Nat) (List.take (List.length l_8) l_8) ++ List.drop (0 : Nat) (List.take ((0 : Nat) + List.length l_7) l_7))) (List.drop (0 : Nat) (List.take (List.length l_8) l_8) ++ List.drop (0 : Nat) (List.take ((0 : Nat) + List.length l_7) l_7)))) = digV (l_8 ++ l_7))))))) ∧ (∀ l_9 : List UInt8, (∀ a : List UInt8, (((l_9 = l_7) ∧ (a = digV (l_8 ++ l_7))) → ((((0 : Int) ≤ (32 : Int)) ∧
 (((32 : Int) = (32 : Int)) ∧ ((32 : Int) ≤ (1099511627776 : Int)))) ∧ (((((0 : Nat) = (0 : Nat)) ∧ (List.length l_9 = List.length l_9)) ∧ (((0 : Nat) = (0 : Nat)) ∧ ((0 : Nat) = (0 : Nat)))) ∧ ((iRE b e l_9 [] [(0 : UInt8), (0 : UInt8), (0 : UInt8), (0 : UInt8), (0 : UInt8), (0 : UInt8), (0 : UInt8), (0 : UInt8), (0 : UInt8), (0 : UInt8), (0 : UInt8), (0 : UInt8), (0 : UInt8), (0 : UInt8), (0 : UInt8), (0 : UInt8), (0 : UInt8), (0 : UInt8), (0 : UInt8), (0 : UInt8), (0 : UInt8), (0 : UInt8), (0 : UInt8), (0 : UInt8), (0 : UInt8), (0 : UInt8), (0 : UInt8), (0 : UInt8), (0 : UInt8), (0 : UInt8), (0 : UInt8), (0 : UInt8)] (1 : Int)) ∧ (∀ l_10 : List UInt8, (∀ l_11 : List UInt8, (∀ a_1 : List UInt8, (∀ a_2 : Int, ((iRE b e l_10 l_11 a_1 a_2) → bcase (decide ((↑(List.length l_11) : Int) < n)) ((((((0 : Nat) = (0 : Nat)) ∧ (List.length l_10 = List.length l_10)) ∧ ((((0 : Nat) = (0 : Nat)) ∧ (List.length l_11 = List.length l_11)) ∧ (((0 : Nat) = (0 : Nat)) ∧ ((0 : Nat) = (0 : Nat))))) ∧
 ((iRX b a_1 l_10 l_11 l_10 l_11 [] (0 : Int)) ∧ (∀ l_12 : List UInt8, (∀ l_13 : List UInt8, (∀ l_14 : List UInt8, (∀ a_3 : Int, ((iRX b a_1 l_10 l_11 l_12 l_13 l_14 a_3) → bcase (decide (a_3 < (32 : Int))) (((((0 : Int) ≤ a_3) ∧ (a_3 < (↑(List.length a) : Int))) ∧ ((((0 : Int) ≤ a_3) ∧ (a_3 < (↑(List.length a_1) : Int))) ∧ ((((0 : Nat) + List.length l_14 = List.length l_14) ∧ (List.length (List.drop (0 : Nat) (List.take (List.length l_14) l_14) ++ [List.getD a (Int.toNat a_3) (0 : UInt8) ^^^ List.getD a_1 (Int.toNat a_3) (0 : UInt8)]) ≤ appLim)) ∧ (((((0 : Nat) = (0 : Nat)) ∧ (List.length l_12 = List.length l_12)) ∧ ((((0 : Nat) = (0 : Nat)) ∧ (List.length l_13 = List.length l_13)) ∧ (((0 : Nat) = (0 : Nat)) ∧ (List.length (List.drop (0 : Nat) (List.take (List.length l_14) l_14) ++ [List.getD a (Int.toNat a_3) (0 : UInt8) ^^^ List.getD a_1 (Int.toNat a_3) (0 : UInt8)]) = List.length (List.drop (0 : Nat) (List.take (List.length l_14) l_14) ++
 [List.getD a (Int.toNat a_3) (0 : UInt8) ^^^ List.getD a_1 (Int.toNat a_3) (0 : UInt8)]))))) ∧ (((n, a, a_1, a_2, ()) = (n, a, a_1, a_2, ())) ∧ ((iRX b a_1 l_10 l_11 l_12 l_13 (List.drop (0 : Nat) (List.take (List.length l_14) l_14) ++ [List.getD a (Int.toNat a_3) (0 : UInt8) ^^^ List.getD a_1 (Int.toNat a_3) (0 : UInt8)]) (IntKind.wrap IntKind.i64 (a_3 + (1 : Int)))) ∧ (Int.toNat ((32 : Int) - IntKind.wrap IntKind.i64 (a_3 + (1 : Int))) < Int.toNat ((32 : Int) - a_3))))))))) ((((((0 : Nat) = (0 : Nat)) ∧ (List.length l_12 = List.length l_12)) ∧ ((((0 : Nat) = (0 : Nat)) ∧ (List.length l_13 = List.length l_13)) ∧ (((0 : Nat) = (0 : Nat)) ∧ (List.length l_14 = List.length l_14)))) ∧ (((((0 : Nat) + List.length l_14 = List.length l_14) ∧ (List.length (List.drop (0 : Nat) (List.take (List.length l_14) l_14) ++ [UInt8.ofInt a_2]) ≤ appLim)) ∧ (((((0 : Nat) = (0 : Nat)) ∧ (List.length l_12 = List.length l_12)) ∧ ((((0 : Nat) = (0 : Nat)) ∧ (List.length l_13 = List.length l_13)) ∧
 (((0 : Nat) = (0 : Nat)) ∧ (List.length (List.drop (0 : Nat) (List.take (List.length l_14) l_14) ++ [UInt8.ofInt a_2]) = List.length (List.drop (0 : Nat) (List.take (List.length l_14) l_14) ++ [UInt8.ofInt a_2]))))) ∧ (((n, a, a_1, a_2, ()) = (n, a, a_1, a_2, ())) ∧ ((l_12 = l_12) ∧ ((l_13 = l_13) ∧ (List.drop (0 : Nat) (List.take (List.length l_14) l_14) ++ [UInt8.ofInt a_2] = l_14 ++ [UInt8.ofInt a_2])))))) ∧ (∀ l_15 : List UInt8, (∀ l_16 : List UInt8, (∀ l_17 : List UInt8, (((l_15 = l_12) ∧ ((l_16 = l_13) ∧ (l_17 = l_14 ++ [UInt8.ofInt a_2]))) → (((((0 : Nat) = (0 : Nat)) ∧ (List.length l_15 = List.length l_15)) ∧ ((((0 : Nat) = (0 : Nat)) ∧ (List.length l_16 = List.length l_16)) ∧ (((0 : Nat) = (0 : Nat)) ∧ (List.length l_17 = List.length l_17)))) ∧ (((((0 : Nat) + List.length l_17 = List.length l_17) ∧ (List.length (List.drop (0 : Nat) (List.take (List.length l_17) l_17) ++ List.drop (0 : Nat) (List.take ((0 : Nat) + List.length l_15) l_15)) ≤ appLim)) ∧ ((List.length
 (List.drop (0 : Nat) (List.take ((0 : Nat) + List.length (List.drop (0 : Nat) (List.take (List.length l_17) l_17) ++ List.drop (0 : Nat) (List.take ((0 : Nat) + List.length l_15) l_15))) (List.drop (0 : Nat) (List.take (List.length l_17) l_17) ++ List.drop (0 : Nat) (List.take ((0 : Nat) + List.length l_15) l_15)))) ≤ (1073741824 : Nat)) ∧ (((((0 : Nat) = (0 : Nat)) ∧ (List.length l_15 = List.length l_15)) ∧ (((0 : Nat) = (0 : Nat)) ∧ (List.length l_16 = List.length l_16))) ∧ (((n, a, a_2, ()) = (n, a, a_2, ())) ∧ ((l_15 = l_15) ∧ ((l_16 = l_16) ∧ (digV (List.drop (0 : Nat) (List.take ((0 : Nat) + List.length (List.drop (0 : Nat) (List.take (List.length l_17) l_17) ++ List.drop (0 : Nat) (List.take ((0 : Nat) + List.length l_15) l_15))) (List.drop (0 : Nat) (List.take (List.length l_17) l_17) ++ List.drop (0 : Nat) (List.take ((0 : Nat) + List.length l_15) l_15)))) = digV (l_17 ++ l_15)))))))) ∧ (∀ l_18 : List UInt8, (∀ l_19 : List UInt8, (∀ a_4 : List UInt8, (((l_18 = l_15) ∧
 ((l_19 = l_16) ∧ (a_4 = digV (l_17 ++ l_15)))) → ((((0 : Nat) + List.length l_19 = List.length l_19) ∧ (List.length (List.drop (0 : Nat) (List.take (List.length l_19) l_19) ++ a_4) ≤ appLim)) ∧ (((((0 : Nat) = (0 : Nat)) ∧ (List.length l_18 = List.length l_18)) ∧ (((0 : Nat) = (0 : Nat)) ∧ (List.length (List.drop (0 : Nat) (List.take (List.length l_19) l_19) ++ a_4) = List.length (List.drop (0 : Nat) (List.take (List.length l_19) l_19) ++ a_4)))) ∧ (((n, a, ()) = (n, a, ())) ∧ ((iRE b e l_18 (List.drop (0 : Nat) (List.take (List.length l_19) l_19) ++ a_4) a_4 (IntKind.wrap IntKind.i64 (a_2 + (1 : Int)))) ∧ (Int.toNat (n - (↑(List.length (List.drop (0 : Nat) (List.take (List.length l_19) l_19) ++ a_4)) : Int)) < Int.toNat (n - (↑(List.length l_11) : Int)))))))))))))))))))))))))))) (((((0 : Int) ≤ (0 : Int)) ∧ (((0 : Int) ≤ n) ∧ (n ≤ (↑(List.length l_11) : Int)))) ∧ (Q (SV.lst (LV.bytes (List.drop ((0 : Nat) + Int.toNat (0 : Int))
 (List.take ((0 : Nat) + Int.toNat (0 : Int) + (Int.toNat n - Int.toNat (0 : Int))) l_11))))))))))))))))))))))))))))))))))))))))))))) := by kernel_rfl
end Go.Proofs.YtficbeeoafiiaaaGreatDoor.H39
/- Layer 39: the reference holds. -/
set_option maxRecDepth 10000
namespace Go.Proofs.YtficbeeoafiiaaaGreatDoor.H39
open Go.Sym Go.Dig R1 H5
theorem spRE_ok : SpecsOK Tryz.prog spRE := .cons ok_Int <| .cons ok_nToBig <| .cons ok_RSum (.nil _)
theorem ofInt_nat (m : Nat) : UInt8.ofInt (m : Int) = UInt8.ofNat m := by
  rw [← UInt8.toNat_inj, ofInt8, UInt8.toNat_ofNat']
  omega
theorem two_bytes {n : Int} (h0 : 0 ≤ n) : (bytesN n.toNat 2).reverse = [UInt8.ofInt (Int.fdiv n 256), UInt8.ofInt n] := by
  obtain ⟨m, rfl⟩ : ∃ m : Nat, n = m := ⟨n.toNat, by omega⟩
  have e1 : Int.fdiv (m : Int) 256 = ((m / 256 : Nat) : Int) := by
    rw [Int.fdiv_eq_ediv_of_nonneg _ (by decide)]
    rfl
  rw [e1, Int.toNat_natCast]
  simp only [bytesN, List.range, List.range.loop, List.map, List.reverse, List.reverseAux]
  rw [ofInt_nat, ofInt_nat, Nat.pow_one, Nat.pow_zero, Nat.div_one]
theorem endV_len (t : List UInt8) : (endV t).length = t.length + 1 := by rw [endV, List.length_append]; rfl
theorem begV_len (msg tag : List UInt8) (n : Int) : (begV msg tag n).length = 32 := digV_len _
/-- The next block. -/
theorem ch_next {b e : List UInt8} {i : Int} (hb : b.length = 32) (hi : 1 ≤ i) {mix : List UInt8} (hm : mix = xorL b (chE b e (i - 1).toNat)) : digV (mix ++ [UInt8.ofInt i] ++ e) = chE b e i.toNat := by
  have e1 : i.toNat = (i - 1).toNat + 1 := by omega
  have e2 : UInt8.ofInt i = UInt8.ofNat i.toNat := by rw [← ofInt_nat, Int.toNat_of_nonneg (by omega)]
  rw [hm, e2, e1, chE_succ]
theorem out_next {b e : List UInt8} {i : Int} (hi : 1 ≤ i) : outE b e (i - 1).toNat ++ chE b e i.toNat = outE b e i.toNat := by
  have e1 : i.toNat = (i - 1).toNat + 1 := by omega
  rw [e1, outE]
theorem ok_RExp : SpecOK Tryz.prog 9 sRExp := by
  unfold sRExp
  rw [expV_eq]
  refine fn_okL (by kernel_rfl) tt_ok spRE_ok 9 Tryz.func9 (by decide +kernel) (by kernel_rfl) ?_
  rintro ⟨msg, tag, n, _⟩ hp
  obtain ⟨h1, h2, h3, h4⟩ : msg.length ≤ 1000000 ∧ tag.length ≤ 1000000 ∧ 0 ≤ n ∧ n ≤ 8160 := hp
  refine ⟨[], lRE (begV msg tag n) (endV tag), fun x => x = .lst (.bytes ((outE (begV msg tag n) (endV tag) 255).take n.toNat)), LnVD.of (vcRExp (begV msg tag n) (endV tag) msg tag n _) ?_, svf⟩
  have lb := begV_len msg tag n
  have le := endV_len tag
  have al : ∀ k : Nat, k ≤ 10000000 → k ≤ appLim := fun k hk => Nat.le_trans hk (by decide)
  simp only [tf, List.nil_append, true_and, and_true, Nat.zero_add]
  refine ⟨al _ (by omega), al _ (by show (endV tag).length ≤ _; omega), fun l hl => ⟨⟨⟨by decide, by decide⟩, by decide⟩, fun l1 l2 ⟨g1, g2⟩ => ?_⟩⟩
  have z2 : l2 = List.replicate 64 0 := g2
  have y2 : l2.length = 64 := by rw [z2, List.length_replicate]
  refine ⟨al _ (by rw [List.length_append]; omega), fun l3 l4 ⟨g3, g4⟩ => ⟨⟨⟨h3, by omega⟩, ⟨Nat.le_trans (dg_len_i64 (by omega)) (by decide), by decide, by decide⟩, al _ ?_, rfl⟩, fun l5 l6 ⟨g5, g6⟩ => ⟨⟨al _ ?_, rfl⟩, fun l7 l8 ⟨g7, g8⟩ => ⟨⟨al _ ?_, ?_⟩, fun l9 a ⟨g9, ga⟩ => ?_⟩⟩⟩⟩
  · rw [List.length_append, g4, List.length_append, List.length_reverse, bytesN_len]
    show l2.length + msg.length + 2 ≤ _
    omega
  · rw [List.length_append, g6, List.length_append, g4, List.length_append, List.length_reverse, bytesN_len]
    show l2.length + msg.length + 2 + 1 ≤ _
    omega
  · rw [List.length_append, g8, List.length_append, g6, List.length_append, g4, List.length_append, List.length_reverse, bytesN_len, g7, g5, g3, g1, hl]
    show l2.length + msg.length + 2 + 1 + (endV tag).length ≤ _
    omega
  · rw [List.length_append, g8, List.length_append, g6, List.length_append, g4, List.length_append, List.length_reverse, bytesN_len, g7, g5, g3, g1, hl]
    show l2.length + msg.length + 2 + 1 + (endV tag).length ≤ _
    omega
  have e9 : l9 = endV tag := by rw [g9, g7, g5, g3, g1, hl]; rfl
  have ea : a = begV msg tag n := by
    rw [ga, g8, g6, g4, g7, g5, g3, g1, hl, z2, two_bytes h3]
    unfold begV endV
    simp only [List.append_assoc, List.cons_append, List.nil_append]
  subst e9
  subst ea
  refine ⟨⟨by decide, by decide⟩, ⟨rfl, by omega, by omega, (chE_zero _ _).symm, rfl⟩, fun m7 m10 last i ⟨i7, i1, i2, i3, i4⟩ => ?_⟩
  have ll : last.length = 32 := by rw [i3, chE_len]
  have lm : m10.length = 32 * (i - 1).toNat := by rw [i4, outE_len]
  rw [bcase_dec]
  refine ⟨fun hc => ⟨⟨rfl, rfl, by omega, by omega, by simp [xorL]⟩, fun p7 p10 mix k ⟨j7, j10, j1, j2, j3⟩ => ?_⟩, fun hc => ?_⟩
  · have lmix : mix.length = k.toNat := by
      rw [j3, xorL_len, List.length_take, List.length_take]
      omega
    rw [bcase_dec]
    refine ⟨fun hk => ⟨⟨j1, by omega⟩, ⟨j1, by omega⟩, al _ (by rw [List.length_append, lmix]; show k.toNat + 1 ≤ _; omega), ⟨j7, j10, by rw [wr (by omega)]; omega, by rw [wr (by omega)]; omega, ?_⟩, by rw [wr (by omega)]; omega⟩, fun hk => ⟨al _ (by rw [List.length_append, lmix]; show k.toNat + 1 ≤ _; omega), fun q7 q10 q13 ⟨f1, f2, f3⟩ => ?_⟩⟩
    · rw [wr (by omega), show (k + 1).toNat = k.toNat + 1 by omega, xorL_step (by omega) (by omega), j3]
    · have k64 : k.toNat = 32 := by omega
      have em : mix = xorL (begV msg tag n) (chE (begV msg tag n) (endV tag) (i - 1).toNat) := by
        rw [j3, k64, List.take_of_length_le (by omega), List.take_of_length_le (by omega), i3]
      have lq : (q13 ++ q7).length = 32 + 1 + (tag.length + 1) := by
        rw [List.length_append, f3, List.length_append, lmix, k64, f1, j7, i7, le]
        rfl
      refine ⟨⟨al _ (by omega), by omega⟩, fun r7 r10 d ⟨c1, c2, c3⟩ => ?_⟩
      have ed : d = chE (begV msg tag n) (endV tag) i.toNat := by
        rw [c3, f3, f1, j7, i7]
        exact ch_next lb i1 em
      have e7 : r7 = endV tag := by rw [c1, f1, j7, i7]
      have e10 : r10 = outE (begV msg tag n) (endV tag) (i - 1).toNat := by rw [c2, f2, j10, i4]
      have eo : r10 ++ d = outE (begV msg tag n) (endV tag) i.toNat := by rw [e10, ed, out_next i1]
      have lo : (r10 ++ d).length = 32 * i.toNat := by rw [eo, outE_len]
      refine ⟨al _ (by omega), ⟨e7, by rw [wr (by omega)]; omega, by rw [wr (by omega)]; omega, by rw [wr (by omega), ed]; congr 1; omega, by rw [wr (by omega), eo]; congr 1; omega⟩, by omega⟩
  · refine ⟨⟨by omega, h3, by omega⟩, ?_⟩
    have e0 : Int.toNat 0 + (n.toNat - Int.toNat 0) = n.toNat := by
      show 0 + (n.toNat - 0) = _
      omega
    rw [e0, i4, outE_take (by omega) (by omega)]
    rfl
end Go.Proofs.YtficbeeoafiiaaaGreatDoor.H39
/- Layer 39: as many bytes as are asked for: what is said of it. -/
set_option maxRecDepth 10000
namespace Go.Proofs.YtficbeeoafiiaaaGreatDoor.H39
open Go.Sym Go.Dig R1 H5
noncomputable def spEx : Specs := [(16, .fresh sClone), (17, .memf (toN sSm)), (18, sBlocks)]
def lEx : Plan := { cuts := [(5, { β := Unit, γ := BoxI × OwnB × List UInt8 × Unit, α := BoxI × List UInt8 × List UInt8 × PNil × Unit, same := [], pre := [5, 8, 9], keep := [5, 8, 9, 10], inv := fun _ g a => a.1.v = g.1.v ∧ a.2.1 = g.2.1.l ∧ a.2.2.1 = g.2.2.1 })] }
/-- What Expand keeps while its blocks are told: how many bytes, how many have come. -/
structure ExS where
  n : Int
  len : Nat
def ExS.pk (s : ExS) : List (Option Blk) := [some [.i64 s.n], some [.sl 2 0 s.len]]
def ExS.pd : List (Option Blk) → Option ExS
  | [some [.i64 n], some [.sl 2 0 len]] => some ⟨n, len⟩
  | _ => none
theorem ExS.pok {M : List (Option Blk)} {s : ExS} (h : ExS.pd M = some s) : M = s.pk := by
  unfold ExS.pd at h
  split at h
  · simp only [Option.some.injEq] at h; subst h; rfl
  · cases h
def iEx (b e : List UInt8) (n : Int) (s : ExS) (x : OutLast) (i : Int) : Prop := s.n = n ∧ s.len = x.out.length ∧ 1 ≤ i ∧ i ≤ 256 ∧ x.last = chE b e (i - 1).toNat ∧ x.out = outE b e (i - 1).toNat
def iMx (b last : List UInt8) (s0 s : ExS) (o0 o : OutMix) (k : Int) : Prop := s = s0 ∧ o.out = o0.out ∧ 0 ≤ k ∧ k ≤ last.length ∧ o.l = xorL (b.take k.toNat) (last.take k.toNat) ++ b.drop k.toNat
noncomputable def rtEx (b e : List UInt8) (n : Int) : RTab := [(45, { fn := Tryz.f45, loops := [
  (0, { β := ValV × RoL × RoL × Unit, α := OutLast × Int × Unit, pk := ExS.pk, pd := ExS.pd, pok := ExS.pok, same := [0, 1, 2], keep := [4, 5], ins := [(1, [(0, .u8)])], inv := fun _ _ x => iEx b e n x.1 x.2.1 x.2.2.1, meas := fun _ x => (256 - x.2.1).toNat }),
  (2, { β := ValV × RoL × RoL × Int × List UInt8 × Int × Unit, α := OutMix × Int × Unit, pk := ExS.pk, pd := ExS.pd, pok := ExS.pok, same := [0, 1, 2, 5, 18, 19], keep := [6, 20], ins := [(1, [(0, .u8)])], inv := fun c a0 x => iMx b c.2.2.2.2.1 a0.1 x.1 a0.2.1 x.2.1 x.2.2.1, meas := fun c x => (c.2.2.2.2.2.1 - x.2.1).toNat })] })]
end Go.Proofs.YtficbeeoafiiaaaGreatDoor.H39
/- Layer 39: as many bytes as are asked for: what it comes to. -/
set_option maxRecDepth 10000
namespace Go.Proofs.YtficbeeoafiiaaaGreatDoor.H39
open Go.Sym Go.Dig R1 H5
--STOP digV, chE, outE, xorL, iEx, iMx, List.flatten
theorem vcExp1 (b e msg tag : List UInt8) (n : Int) (Q : SV → Prop) : RnRaw tt spEx 9 [(1, 1, .b true)] {} [] Tryz.f5 Q (msg, tag, n, ()) =
 ((decide (n < (0 : Int)) = true) ∧ (Q (SV.tup [SV.val (Value.slice none (0 : Nat) (0 : Nat)), SV.i64 (2 : Int)]))) := by kernel_rfl
theorem vcExp2 (b e msg tag : List UInt8) (n : Int) (Q : SV → Prop) : RnRaw tt spEx 9 [(1, 1, .b false), (1, 4, .b true)] {} [] Tryz.f5 Q (msg, tag, n, ()) =
 ((decide (n < (0 : Int)) = false) ∧ ((decide (n > (8160 : Int)) = true) ∧ (Q (SV.tup [SV.val (Value.slice none (0 : Nat) (0 : Nat)), SV.i64 (2 : Int)])))) := by kernel_rfl
theorem vcExp3 (b e msg tag : List UInt8) (n : Int) (Q : SV → Prop) : RnRaw tt spEx 9 [(1, 1, .b false), (1, 4, .b false), (1, 9, .b true)] {} [] Tryz.f5 Q (msg, tag, n, ()) =
 ((decide (n < (0 : Int)) = false) ∧ ((decide (n > (8160 : Int)) = false) ∧ ((decide ((↑(List.length tag) : Int) > (255 : Int)) = true) ∧ (Q (SV.tup [SV.val (Value.slice none (0 : Nat) (0 : Nat)), SV.i64 (2 : Int)]))))) := by kernel_rfl
theorem vcExp (b e msg tag : List UInt8) (n : Int) (Q : SV → Prop) : RnRaw tt spEx 9 [(1, 1, .b false), (1, 4, .b false), (1, 9, .b false)] lEx (rtEx b e n) Tryz.f5 Q (msg, tag, n, ()) =
 ((decide (n < (0 : Int)) = false) ∧ ((decide (n > (8160 : Int)) = false) ∧ ((decide ((↑(List.length tag) : Int) > (255 : Int)) = false) ∧ ((List.length tag ≤ appLim) ∧ ((((0 : Nat) + List.length tag = List.length tag) ∧ (List.length (List.drop (0 : Nat) (List.take (List.length tag) tag) ++ [UInt8.ofInt (↑(List.length tag) : Int)]) ≤ appLim)) ∧ ((((0 : Int) ≤ (64 : Int)) ∧ (((64 : Int) = (64 : Int)) ∧ ((64 : Int) ≤ (1099511627776 : Int)))) ∧ ((((4 : Nat) ≤ (1000000 : Nat)) ∧ (∀ p : List UInt8, ((List.Mem p [[(0 : UInt8), (0 : UInt8), (0 : UInt8), (0 : UInt8), (0 : UInt8), (0 : UInt8), (0 : UInt8), (0 : UInt8), (0 : UInt8), (0 : UInt8), (0 : UInt8), (0 : UInt8), (0 : UInt8), (0 : UInt8), (0 : UInt8), (0 : UInt8), (0 : UInt8), (0 : UInt8), (0 : UInt8), (0 : UInt8), (0 : UInt8), (0 : UInt8), (0 : UInt8), (0 : UInt8), (0 : UInt8), (0 : UInt8), (0 : UInt8), (0 : UInt8), (0 : UInt8), (0 : UInt8), (0 : UInt8), (0 : UInt8), (0 : UInt8),
 (0 : UInt8), (0 : UInt8), (0 : UInt8), (0 : UInt8), (0 : UInt8), (0 : UInt8), (0 : UInt8), (0 : UInt8), (0 : UInt8), (0 : UInt8), (0 : UInt8), (0 : UInt8), (0 : UInt8), (0 : UInt8), (0 : UInt8), (0 : UInt8), (0 : UInt8), (0 : UInt8), (0 : UInt8), (0 : UInt8), (0 : UInt8), (0 : UInt8), (0 : UInt8), (0 : UInt8), (0 : UInt8), (0 : UInt8), (0 : UInt8), (0 : UInt8), (0 : UInt8), (0 : UInt8), (0 : UInt8)], msg, [UInt8.ofInt (Int.fdiv n ((2 : Int) ^ min (UInt64.toNat (UInt64.ofNat (Int.toNat (8 : Int)))) (64 : Nat))), UInt8.ofInt n, UInt8.ofNat (Int.toNat (0 : Int))], List.drop (0 : Nat) (List.take ((0 : Nat) + List.length (List.drop (0 : Nat) (List.take (List.length tag) tag) ++ [UInt8.ofInt (↑(List.length tag) : Int)])) (List.drop (0 : Nat) (List.take (List.length tag) tag) ++ [UInt8.ofInt (↑(List.length tag) : Int)]))]) → (List.length p ≤ (1000000 : Nat))))) ∧ ((((0 : Nat) = (0 : Nat)) ∧
 (List.length (List.drop (0 : Nat) (List.take (List.length tag) tag) ++ [UInt8.ofInt (↑(List.length tag) : Int)]) = List.length (List.drop (0 : Nat) (List.take (List.length tag) tag) ++ [UInt8.ofInt (↑(List.length tag) : Int)]))) ∧ (((() = ()) ∧ ((n = n) ∧ ((List.drop (0 : Nat) (List.take ((0 : Nat) + List.length (List.drop (0 : Nat) (List.take (List.length tag) tag) ++ [UInt8.ofInt (↑(List.length tag) : Int)])) (List.drop (0 : Nat) (List.take (List.length tag) tag) ++ [UInt8.ofInt (↑(List.length tag) : Int)])) = List.drop (0 : Nat) (List.take (List.length tag) tag) ++ [UInt8.ofInt (↑(List.length tag) : Int)]) ∧ (digV (List.flatten [[(0 : UInt8), (0 : UInt8), (0 : UInt8), (0 : UInt8), (0 : UInt8), (0 : UInt8), (0 : UInt8), (0 : UInt8), (0 : UInt8), (0 : UInt8), (0 : UInt8), (0 : UInt8), (0 : UInt8), (0 : UInt8), (0 : UInt8), (0 : UInt8), (0 : UInt8), (0 : UInt8), (0 : UInt8), (0 : UInt8), (0 : UInt8), (0 : UInt8), (0 : UInt8), (0 : UInt8),
 (0 : UInt8), (0 : UInt8), (0 : UInt8), (0 : UInt8), (0 : UInt8), (0 : UInt8), (0 : UInt8), (0 : UInt8), (0 : UInt8), (0 : UInt8), (0 : UInt8), (0 : UInt8), (0 : UInt8), (0 : UInt8), (0 : UInt8), (0 : UInt8), (0 : UInt8), (0 : UInt8), (0 : UInt8), (0 : UInt8), (0 : UInt8), (0 : UInt8), (0 : UInt8), (0 : UInt8), (0 : UInt8), (0 : UInt8), (0 : UInt8), (0 : UInt8), (0 : UInt8), (0 : UInt8), (0 : UInt8), (0 : UInt8), (0 : UInt8), (0 : UInt8), (0 : UInt8), (0 : UInt8), (0 : UInt8), (0 : UInt8), (0 : UInt8), (0 : UInt8)], msg, [UInt8.ofInt (Int.fdiv n ((2 : Int) ^ min (UInt64.toNat (UInt64.ofNat (Int.toNat (8 : Int)))) (64 : Nat))), UInt8.ofInt n, UInt8.ofNat (Int.toNat (0 : Int))], List.drop (0 : Nat) (List.take ((0 : Nat) + List.length (List.drop (0 : Nat) (List.take (List.length tag) tag) ++ [UInt8.ofInt (↑(List.length tag) : Int)])) (List.drop (0 : Nat) (List.take (List.length tag) tag) ++ [UInt8.ofInt (↑(List.length tag) : Int)]))]) = digV (List.flatten
 [[(0 : UInt8), (0 : UInt8), (0 : UInt8), (0 : UInt8), (0 : UInt8), (0 : UInt8), (0 : UInt8), (0 : UInt8), (0 : UInt8), (0 : UInt8), (0 : UInt8), (0 : UInt8), (0 : UInt8), (0 : UInt8), (0 : UInt8), (0 : UInt8), (0 : UInt8), (0 : UInt8), (0 : UInt8), (0 : UInt8), (0 : UInt8), (0 : UInt8), (0 : UInt8), (0 : UInt8), (0 : UInt8), (0 : UInt8), (0 : UInt8), (0 : UInt8), (0 : UInt8), (0 : UInt8), (0 : UInt8), (0 : UInt8), (0 : UInt8), (0 : UInt8), (0 : UInt8), (0 : UInt8), (0 : UInt8), (0 : UInt8), (0 : UInt8), (0 : UInt8), (0 : UInt8), (0 : UInt8), (0 : UInt8), (0 : UInt8), (0 : UInt8), (0 : UInt8), (0 : UInt8), (0 : UInt8), (0 : UInt8), (0 : UInt8), (0 : UInt8), (0 : UInt8), (0 : UInt8), (0 : UInt8), (0 : UInt8), (0 : UInt8), (0 : UInt8), (0 : UInt8), (0 : UInt8), (0 : UInt8), (0 : UInt8), (0 : UInt8), (0 : UInt8), (0 : UInt8)], msg, [UInt8.ofInt (Int.fdiv n ((2 : Int) ^ min (UInt64.toNat (UInt64.ofNat (Int.toNat (8 : Int)))) (64 : Nat))), UInt8.ofInt n, UInt8.ofNat (Int.toNat (0 : Int))],
 List.drop (0 : Nat) (List.take ((0 : Nat) + List.length (List.drop (0 : Nat) (List.take (List.length tag) tag) ++ [UInt8.ofInt (↑(List.length tag) : Int)])) (List.drop (0 : Nat) (List.take (List.length tag) tag) ++ [UInt8.ofInt (↑(List.length tag) : Int)]))]))))) ∧ (∀ v : Int, (∀ a : List UInt8, (∀ a_1 : List UInt8, (((v = n) ∧ ((a = List.drop (0 : Nat) (List.take (List.length tag) tag) ++ [UInt8.ofInt (↑(List.length tag) : Int)]) ∧ (a_1 = digV (List.flatten [[(0 : UInt8), (0 : UInt8), (0 : UInt8), (0 : UInt8), (0 : UInt8), (0 : UInt8), (0 : UInt8), (0 : UInt8), (0 : UInt8), (0 : UInt8), (0 : UInt8), (0 : UInt8), (0 : UInt8), (0 : UInt8), (0 : UInt8), (0 : UInt8), (0 : UInt8), (0 : UInt8), (0 : UInt8), (0 : UInt8), (0 : UInt8), (0 : UInt8), (0 : UInt8), (0 : UInt8), (0 : UInt8), (0 : UInt8), (0 : UInt8), (0 : UInt8), (0 : UInt8), (0 : UInt8), (0 : UInt8), (0 : UInt8), (0 : UInt8), (0 : UInt8), (0 : UInt8), (0 : UInt8), (0 : UInt8), (0 : UInt8), (0 : UInt8), (0 : UInt8),
 (0 : UInt8), (0 : UInt8), (0 : UInt8), (0 : UInt8), (0 : UInt8), (0 : UInt8), (0 : UInt8), (0 : UInt8), (0 : UInt8), (0 : UInt8), (0 : UInt8), (0 : UInt8), (0 : UInt8), (0 : UInt8), (0 : UInt8), (0 : UInt8), (0 : UInt8), (0 : UInt8), (0 : UInt8), (0 : UInt8), (0 : UInt8), (0 : UInt8), (0 : UInt8), (0 : UInt8)], msg, [UInt8.ofInt (Int.fdiv n ((2 : Int) ^ min (UInt64.toNat (UInt64.ofNat (Int.toNat (8 : Int)))) (64 : Nat))), UInt8.ofInt n, UInt8.ofNat (Int.toNat (0 : Int))], List.drop (0 : Nat) (List.take ((0 : Nat) + List.length (List.drop (0 : Nat) (List.take (List.length tag) tag) ++ [UInt8.ofInt (↑(List.length tag) : Int)])) (List.drop (0 : Nat) (List.take (List.length tag) tag) ++ [UInt8.ofInt (↑(List.length tag) : Int)]))])))) → (∀ l : Nat, ((((0 : Int) ≤ (↑(List.length a_1) : Int)) ∧ (((↑(List.length a_1) : Int) = (↑(List.length a_1) : Int)) ∧ ((↑(List.length a_1) : Int) ≤ (1099511627776 : Int)))) ∧ ((iEx b e n (ExS.mk v (0 : Nat)) (OutLast.mk [] (List.drop (0 : Nat)
 (List.take ((0 : Nat) + Int.toNat (↑(List.length a_1) : Int)) (List.replicate (Int.toNat (↑(List.length a_1) : Int)) (0 : UInt8))))) (1 : Int)) ∧ (∀ s : ExS, (∀ o : List UInt8, (∀ l_1 : List UInt8, (∀ a_2 : Int, ((iEx b e n s (OutLast.mk o l_1) a_2) → bcase (decide (a_2 ≤ (255 : Int))) (((List.length a_1 ≤ appLim) ∧ ((((0 : Nat) = (0 : Nat)) ∧ (List.length a_1 = List.length a_1)) ∧ ((iMx b l_1 s s (OutMix.mk o a_1) (OutMix.mk o a_1) (0 : Int)) ∧ (∀ s_1 : ExS, (∀ o_1 : List UInt8, (∀ l_2 : List UInt8, (∀ a_3 : Int, ((iMx b l_1 s s_1 (OutMix.mk o a_1) (OutMix.mk o_1 l_2) a_3) → bcase (decide (a_3 < (↑(List.length l_1) : Int))) (((((0 : Int) ≤ a_3) ∧ (a_3 < (↑(List.length l_1) : Int))) ∧ ((((0 : Int) ≤ a_3) ∧ (a_3 < (↑(List.length l_2) : Int))) ∧ ((((0 : Int) ≤ a_3) ∧ (a_3 < (↑(List.length l_2) : Int))) ∧ ((((0 : Nat) = (0 : Nat)) ∧ (List.length l_2 = List.length (List.set l_2 ((0 : Nat) + Int.toNat a_3)
 (List.getD l_2 ((0 : Nat) + Int.toNat a_3) (0 : UInt8) ^^^ List.getD l_1 (Int.toNat a_3) (0 : UInt8))))) ∧ (((ValV.mk (Value.func (Fn.yield l) (Array.mk []) (Array.mk [])), RoL.mk a_1, RoL.mk a, a_2, l_1, (↑(List.length l_1) : Int), ()) = (ValV.mk (Value.func (Fn.yield l) (Array.mk []) (Array.mk [])), RoL.mk a_1, RoL.mk a, a_2, l_1, (↑(List.length l_1) : Int), ())) ∧ ((iMx b l_1 s s_1 (OutMix.mk o a_1) (OutMix.mk o_1 (List.set l_2 ((0 : Nat) + Int.toNat a_3) (List.getD l_2 ((0 : Nat) + Int.toNat a_3) (0 : UInt8) ^^^ List.getD l_1 (Int.toNat a_3) (0 : UInt8)))) (IntKind.wrap IntKind.i64 (a_3 + (1 : Int)))) ∧ (Int.toNat ((↑(List.length l_1) : Int) - IntKind.wrap IntKind.i64 (a_3 + (1 : Int))) < Int.toNat ((↑(List.length l_1) : Int) - a_3))))))))) (((((3 : Nat) ≤ (1000000 : Nat)) ∧ (∀ p : List UInt8, ((List.Mem p [List.drop (0 : Nat) (List.take ((0 : Nat) + List.length l_2) l_2), [UInt8.ofInt a_2], a]) → (List.length p ≤ (1000000 : Nat))))) ∧ ((l = l) ∧
 bcase (decide ((↑(ExS.len s_1) : Int) ≥ ExS.n s_1)) ((((0 : Nat) = (0 : Nat)) ∧ ((((0 : Int) ≤ (0 : Int)) ∧ (((0 : Int) ≤ ExS.n s_1) ∧ ((ExS.n s_1 ≤ ExS.n s_1) ∧ (ExS.n s_1 ≤ (↑(ExS.len s_1) : Int))))) ∧ (Q (SV.tup [SV.lst (LV.bytes (List.drop (Int.toNat (0 : Int)) (List.take (Int.toNat (ExS.n s_1)) (List.drop (0 : Nat) (List.take ((0 : Nat) + ExS.len s_1) o_1))))), SV.i64 (0 : Int)]))))) (((((0 : Nat) + ExS.len s_1 = List.length o_1) ∧ (List.length (List.drop (0 : Nat) (List.take (List.length o_1) o_1) ++ digV (List.flatten [List.drop (0 : Nat) (List.take ((0 : Nat) + List.length l_2) l_2), [UInt8.ofInt a_2], a])) ≤ appLim)) ∧ (((ValV.mk (Value.func (Fn.yield l) (Array.mk []) (Array.mk [])), RoL.mk a_1, RoL.mk a, ()) = (ValV.mk (Value.func (Fn.yield l) (Array.mk []) (Array.mk [])), RoL.mk a_1, RoL.mk a, ())) ∧ ((iEx b e n (ExS.mk (ExS.n s_1) (List.length (List.drop (0 : Nat) (List.take (List.length o_1) o_1) ++
 digV (List.flatten [List.drop (0 : Nat) (List.take ((0 : Nat) + List.length l_2) l_2), [UInt8.ofInt a_2], a])))) (OutLast.mk (List.drop (0 : Nat) (List.take (List.length o_1) o_1) ++ digV (List.flatten [List.drop (0 : Nat) (List.take ((0 : Nat) + List.length l_2) l_2), [UInt8.ofInt a_2], a])) (digV (List.flatten [List.drop (0 : Nat) (List.take ((0 : Nat) + List.length l_2) l_2), [UInt8.ofInt a_2], a]))) (IntKind.wrap IntKind.i64 (a_2 + (1 : Int)))) ∧ (Int.toNat ((256 : Int) - IntKind.wrap IntKind.i64 (a_2 + (1 : Int))) < Int.toNat ((256 : Int) - a_2)))))))))))))))))) (((((0 : Int) ≤ (0 : Int)) ∧ (((0 : Int) ≤ ExS.n s) ∧ ((ExS.n s ≤ ExS.n s) ∧ (ExS.n s ≤ (↑(ExS.len s) : Int))))) ∧ (Q (SV.tup [SV.lst (LV.bytes (List.drop (Int.toNat (0 : Int)) (List.take (Int.toNat (ExS.n s)) (List.drop (0 : Nat) (List.take ((0 : Nat) + ExS.len s) o))))), SV.i64 (0 : Int)]))))))))))))))))))))))))) := by kernel_rfl
end Go.Proofs.YtficbeeoafiiaaaGreatDoor.H39
/- Layer 39: Expand holds. -/
set_option maxRecDepth 10000
namespace Go.Proofs.YtficbeeoafiiaaaGreatDoor.H39
open Go.Sym Go.Dig R1 H5
theorem spEx_ok : SpecsOK Tryz.prog spEx := .consF ok_Clone <| .consN ok_Sm.toN <| .cons ok_Blocks (.nil _)
theorem drop_cons {l : List UInt8} {k : Nat} (h : k < l.length) : l.drop k = l.getD k 0 :: l.drop (k + 1) := by
  rw [List.drop_eq_getElem_cons h, List.getD_eq_getElem?_getD, List.getElem?_eq_getElem h]; rfl
theorem mix_step {b last : List UInt8} {k : Nat} (hb : k < b.length) (hl : k < last.length) :
    (xorL (b.take k) (last.take k) ++ b.drop k).set k ((xorL (b.take k) (last.take k) ++ b.drop k).getD k 0 ^^^ last.getD k 0) = xorL (b.take (k + 1)) (last.take (k + 1)) ++ b.drop (k + 1) := by
  have la : (xorL (b.take k) (last.take k)).length = k := by rw [xorL_len, List.length_take, List.length_take]; omega
  have e : (xorL (b.take k) (last.take k) ++ b.drop k).getD k 0 = b.getD k 0 := by
    rw [List.getD_eq_getElem?_getD, List.getElem?_append_right (by omega), la, Nat.sub_self, drop_cons hb]; rfl
  rw [e, List.set_append_right _ _ (by omega), la, Nat.sub_self, drop_cons hb, List.set_cons_zero, xorL_step hb hl, List.append_assoc]
  rfl
theorem mem3 {p a b c : List UInt8} {n : Nat} (ha : a.length ≤ n) (hb : b.length ≤ n) (hc : c.length ≤ n) (h : List.Mem p [a, b, c]) : p.length ≤ n := by
  have h' : p ∈ [a, b, c] := h
  simp only [List.mem_cons, List.not_mem_nil, or_false] at h'
  rcases h' with rfl | rfl | rfl <;> assumption
theorem mem4 {p a b c d : List UInt8} {n : Nat} (ha : a.length ≤ n) (hb : b.length ≤ n) (hc : c.length ≤ n) (hd : d.length ≤ n) (h : List.Mem p [a, b, c, d]) : p.length ≤ n := by
  have h' : p ∈ [a, b, c, d] := h
  simp only [List.mem_cons, List.not_mem_nil, or_false] at h'
  rcases h' with rfl | rfl | rfl | rfl <;> assumption
theorem flat3 (a b c : List UInt8) : List.flatten [a, b, c] = a ++ b ++ c := by simp
theorem flat4 (a b c d : List UInt8) : List.flatten [a, b, c, d] = a ++ b ++ c ++ d := by simp
def QE (l : List UInt8) (e : Int) (x : SV) : Prop := x = .tup [.lst (.bytes l), .i64 e] ∨ (l = [] ∧ x = .tup [.val (.slice none 0 0), .i64 e])
theorem QE_fin {l : List UInt8} {e : Int} (x : SV) (h : QE l e x) (at_ : At) (w : World) (v : Value) (r : Rel at_ w x v) : Rel at_ w (retSV (RetL.retL (l, e, ()))) v := by
  rcases h with rfl | ⟨rfl, rfl⟩
  · exact r
  · show Rel at_ w (.tup [.lst (.bytes []), .i64 e]) v
    simp only [Rel, RelL] at r ⊢
    obtain ⟨vs, h1, u, us, h2, h3, h4⟩ := r
    subst h3
    exact ⟨vs, h1, _, us, h2, ⟨none, 0, rfl, by decide, fun j u hj => by simp [LV.vals] at hj⟩, h4⟩
theorem ok_Exp : SpecOK Tryz.prog 5 sExp := by
  refine fn_okR (by kernel_rfl) tt_ok spEx_ok 9 Tryz.func5 (by decide +kernel) (by kernel_rfl) ?_
  rintro ⟨msg, tag, n, _⟩ hp
  replace hp : msg.length ≤ 1000000 := hp
  show ∃ D L RT, ∃ Q : SV → Prop, RTOK _ RT ∧ RnVD tt spEx 9 D L RT _ Q (msg, tag, n, ()) ∧ ∀ x, Q x → ∀ (at_ : At) (w : World) (v : Value), Rel at_ w x v → Rel at_ w (retSV (RetL.retL (if 0 ≤ n ∧ n ≤ 8160 ∧ tag.length ≤ 255 then (expV msg tag n, (0 : Int), ()) else ([], 2, ())))) v
  by_cases c1 : n < 0
  · rw [if_neg (by omega)]
    exact ⟨_, _, _, QE [] 2, .nil _, RnVD.of (vcExp1 [] [] msg tag n _) ⟨decide_eq_true c1, .inr ⟨rfl, rfl⟩⟩, QE_fin⟩
  by_cases c2 : n > 8160
  · rw [if_neg (by omega)]
    exact ⟨_, _, _, QE [] 2, .nil _, RnVD.of (vcExp2 [] [] msg tag n _) ⟨decide_eq_false c1, decide_eq_true c2, .inr ⟨rfl, rfl⟩⟩, QE_fin⟩
  by_cases c3 : (tag.length : Int) > 255
  · rw [if_neg (by omega)]
    exact ⟨_, _, _, QE [] 2, .nil _, RnVD.of (vcExp3 [] [] msg tag n _) ⟨decide_eq_false c1, decide_eq_false c2, decide_eq_true c3, .inr ⟨rfl, rfl⟩⟩, QE_fin⟩
  rw [if_pos (by omega), expV_eq]
  refine ⟨_, _, _, QE ((outE (begV msg tag n) (endV tag) 255).take n.toNat) 0, .one Tryz.func45 (by kernel_rfl) (by kernel_rfl) (show (Tryz.f45.name == "runtime.NumGoroutine") = false by decide +kernel), RnVD.of (vcExp (begV msg tag n) (endV tag) msg tag n _) ⟨decide_eq_false c1, decide_eq_false c2, decide_eq_false c3, ?_⟩, QE_fin⟩
  have lb := begV_len msg tag n
  have le := endV_len tag
  have al : ∀ k : Nat, k ≤ 10000000 → k ≤ appLim := fun k hk => Nat.le_trans hk (by decide)
  simp only [tf, true_and, and_true, Nat.zero_add]
  refine ⟨al _ (by omega), al _ (by show (endV tag).length ≤ _; omega), ⟨by decide, by decide⟩, ⟨by decide, fun p h => mem4 (by decide) hp (by simp) (show (endV tag).length ≤ _ by omega) h⟩, ?_⟩
  rintro v a beg ⟨rfl, ga, gb⟩
  have ea : a = endV tag := ga
  have eb : beg = begV msg tag v := by
    rw [gb, flat4]
    rfl
  subst ea
  subst eb
  intro l
  refine ⟨⟨by omega, by rw [lb]; decide⟩, ⟨rfl, rfl, by omega, by omega, ?_, rfl⟩, ?_⟩
  · show List.drop 0 _ = _
    rw [lb]
    exact (chE_zero _ _).symm
  rintro s o last i ⟨i1, i2, i3, i4, i5, i6⟩
  obtain ⟨sn, slen⟩ := s
  replace i1 : sn = v := i1
  replace i2 : slen = o.length := i2
  replace i5 : last = chE (begV msg tag v) (endV tag) (i - 1).toNat := i5
  replace i6 : o = outE (begV msg tag v) (endV tag) (i - 1).toNat := i6
  have ll : last.length = 32 := by rw [i5, chE_len]
  have lo : o.length = 32 * (i - 1).toNat := by rw [i6, outE_len]
  subst i1
  subst i2
  have fin : ∀ {x : List UInt8}, x = o → sn.toNat ≤ x.length → List.drop (Int.toNat 0) (List.take sn.toNat (List.drop 0 (List.take x.length x))) = (outE (begV msg tag sn) (endV tag) 255).take sn.toNat := by
    intro x hx hn
    rw [tf, hx, i6, outE_take (by omega) (by rw [hx] at hn; omega)]
    rfl
  rw [bcase_dec]
  refine ⟨fun hi => ⟨al _ (by omega), ⟨rfl, rfl, by omega, by omega, by simp [xorL]⟩, ?_⟩, fun hi => ?_⟩
  · rintro s1 o1 mix k ⟨j1, j2, j3, j4, j5⟩
    replace j2 : o1 = o := j2
    replace j5 : mix = xorL ((begV msg tag sn).take k.toNat) (last.take k.toNat) ++ (begV msg tag sn).drop k.toNat := j5
    have lmix : mix.length = 32 := by
      rw [j5, List.length_append, xorL_len, List.length_take, List.length_take, List.length_drop]
      omega
    rw [bcase_dec]
    refine ⟨fun hk => ⟨⟨j3, hk⟩, ⟨j3, by omega⟩, ⟨j3, by omega⟩, by rw [List.length_set], ⟨j1, j2, by rw [wr (by omega)]; omega, by rw [wr (by omega)]; omega, ?_⟩, by rw [wr (by omega)]; omega⟩, fun hk => ?_⟩
    · show mix.set k.toNat (mix.getD k.toNat 0 ^^^ last.getD k.toNat 0) = _
      rw [wr (by omega), show (k + 1).toNat = k.toNat + 1 by omega, ← mix_step (by omega) (by omega), j5]
    · have k32 : k.toNat = 32 := by omega
      have em : mix = xorL (begV msg tag sn) (chE (begV msg tag sn) (endV tag) (i - 1).toNat) := by
        rw [j5, k32, List.take_of_length_le (by omega), List.take_of_length_le (by omega), List.drop_of_length_le (by omega), List.append_nil, i5]
      have ed : digV (List.flatten [mix, [UInt8.ofInt i], endV tag]) = chE (begV msg tag sn) (endV tag) i.toNat := by
        rw [flat3]
        exact ch_next lb i3 em
      have eo : o1 ++ digV (List.flatten [mix, [UInt8.ofInt i], endV tag]) = outE (begV msg tag sn) (endV tag) i.toNat := by rw [ed, j2, i6, out_next i3]
      subst j1
      rw [eo, ed]
      have lout := outE_len (begV msg tag sn) (endV tag) i.toNat
      refine ⟨⟨by decide, fun p h => mem3 (by omega) (by simp) (by omega) h⟩, ?_⟩
      show bcase (decide ((o.length : Int) ≥ sn)) _ _
      rw [bcase_dec]
      refine ⟨fun hc => ⟨⟨by decide, by show 0 ≤ sn; omega, Int.le_refl _, by show sn ≤ (o.length : Int); omega⟩, .inl ?_⟩, fun hc => ⟨⟨by rw [j2], al _ (by omega)⟩, ⟨rfl, rfl, by rw [wr (by omega)]; omega, by rw [wr (by omega)]; omega, by rw [wr (by omega)]; show chE _ _ _ = chE _ _ _; congr 1; omega, by rw [wr (by omega)]; show outE _ _ _ = outE _ _ _; congr 1; omega⟩, by rw [wr (by omega)]; omega⟩⟩
      show SV.tup [.lst (.bytes (List.drop (Int.toNat 0) (List.take sn.toNat (List.drop 0 (List.take o.length o1))))), .i64 0] = _
      have := fin j2 (by rw [j2]; omega)
      rw [j2] at this ⊢
      rw [this]
  · refine ⟨⟨by decide, by show 0 ≤ sn; omega, Int.le_refl _, by show sn ≤ (o.length : Int); omega⟩, .inl ?_⟩
    show SV.tup [.lst (.bytes (List.drop (Int.toNat 0) (List.take sn.toNat (List.drop 0 (List.take o.length o))))), .i64 0] = _
    rw [fin rfl (by omega)]
end Go.Proofs.YtficbeeoafiiaaaGreatDoor.H39
