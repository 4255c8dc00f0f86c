/- A symbolic machine for Go functions, and what the functions that the law reaches come to: PrB, PrU, PrV. -/
import Derived.Test.YtficbeeoafiiaaaGreatDoorQ15
import Derived.Test.YtficbeeoafiiaaaGreatDoorQ14
/- Package prime: its functions come to what is said. -/
set_option maxRecDepth 10000
namespace Go.Proofs.YtficbeeoafiiaaaGreatDoor.P12
open Go.Sym Go.Dig R1

theorem svf {y : SV} (x : SV) (h : (fun x => x = y) x) (at_ : At) (w : World) (v : Value) (r : Rel at_ w x v) : Rel at_ w y v := by have h' : x = y := h; subst h'; exact r
theorem good_mP : goodM mP = true := by rw [mP_eq]; decide +kernel
theorem rP_m : rP.m = mP := by rw [rP_eq]; rfl
theorem gP : RGood rP := by rw [rP_eq]; exact ringOf_good good_mP

theorem ok_Mod0 : SpecOK Tryz.prog 47 (fspec (α := Unit) total (fun _ => (⟨18446744073709551615, 4294967295, 0, 18446744069414584321⟩ : Four))) :=
  fn_ok mixed tt_ok (.nil _) 9 Tryz.func47 (by decide +kernel) (by kernel_rfl)
    (fun _ => Same (retSV (RetL.retL (⟨18446744073709551615, 4294967295, 0, 18446744069414584321⟩ : Four)))) (fun a => by kernel_rfl) (fun _ _ => rfl)
theorem ok_Mod : SpecOK Tryz.prog 47 sMod := by unfold sMod; rw [mP_eq]; exact ok_Mod0
theorem ok_Ord0 : SpecOK Tryz.prog 1000005 Sym.sNo := Sym.sNo_ok _ _
theorem ok_Ord : SpecOK Tryz.prog 1000005 Sym.sNo := Sym.sNo_ok _ _
theorem ok_NewP : SpecOK Tryz.prog 46 sNewP := by
  refine fspec_weaken ok_NewG (fun a => a) (fun _ _ _ _ r => r) (fun a => rfl) (fun a h => ?_) (fun a h at_ w v r => ?_)
  · have h' : a.1 = mP := h
    show goodM a.1 = true
    rw [h']; exact good_mP
  · obtain ⟨m, u⟩ := a
    have h' : m = mP := h
    subst h'
    show Rel at_ w (retSV (RetL.retL ((some rP, 0, ()) : Option RingV × Int × Unit))) v
    rw [rP_eq]; exact r
theorem spA0_ok : SpecsOK Tryz.prog spA0 := .cons ok_Mod <| .cons ok_NewP <| .cons ok_In <| .cons ok_Out <| .cons ok_PlusR <| .cons ok_MinusR <| .cons ok_MulR <| .cons ok_ExpR <| .cons ok_InvR spL0_ok
theorem ok_Made : SpecOK Tryz.prog 90 sMade := by
  refine fn_okL (by kernel_rfl) tt_ok spA0_ok 9 Tryz.func90 (by decide +kernel) (by kernel_rfl) ?_
  rintro ⟨⟩ _
  exact ⟨_, {}, fun x => x = .agg [.ro rP.cells 0], LnVD.of (vcMade _) ⟨rfl, rfl⟩, svf⟩
theorem ok_POne : SpecOK Tryz.prog 92 sPOne := by
  refine fn_okL (by kernel_rfl) tt_ok spA0_ok 9 Tryz.func92 (by decide +kernel) (by kernel_rfl) ?_
  rintro ⟨⟨c⟩, _⟩ h
  have h' : c = some rP := h
  subst h'
  exact ⟨_, {}, fun x => x = pOne.sv, LnVD.of (vcOne _) rfl, svf⟩
theorem ok_PSide : SpecOK Tryz.prog 91 sSide := by
  refine fn_okL (by kernel_rfl) tt_ok spA0_ok 9 Tryz.func91 (by decide +kernel) (by kernel_rfl) ?_
  rintro ⟨⟨c⟩, x, _⟩ h
  have h' : c = some rP := h
  subst h'
  exact ⟨_, {}, fun y => y = (pSide x).sv, LnVD.of (vcSide x _) rfl, svf⟩
theorem ok_Below : SpecOK Tryz.prog 89 sBelow := by
  refine fn_okL (by kernel_rfl) tt_ok spA0_ok 9 Tryz.func89 (by decide +kernel) (by kernel_rfl) ?_
  rintro ⟨x, _⟩ _
  exact ⟨_, {}, fun y => y = .bool (pBelow x), LnVD.of (vcBelow x _) rfl, svf⟩
theorem spA1_ok : SpecsOK Tryz.prog spA1 := .cons ok_Made <| .cons ok_POne <| .cons ok_PSide <| .cons ok_Below spA0_ok
theorem ok_PZero : SpecOK Tryz.prog 1000006 Sym.sNo := Sym.sNo_ok _ _
theorem not_eq4 {b : Bool} (h : b = false) : (!b) = true := by rw [h]; rfl
theorem not_eq4' {b : Bool} (h : b = true) : (!b) = false := by rw [h]; rfl
theorem ok_FromT : SpecOK Tryz.prog 60 sFromT := by
  refine fn_okL (by kernel_rfl) tt_ok spA1_ok 9 Tryz.func60 (by decide +kernel) (by kernel_rfl) ?_
  rintro ⟨x, y, _⟩ h
  have h' : okFrom x y = true := h
  rw [okFrom_eq] at h'
  unfold okFrom0 at h'
  simp only [Bool.and_eq_true] at h'
  obtain ⟨h1, h2, h3⟩ := h'
  exact ⟨_, {}, fun z => z = ofT (ptFrom x y), LnVD.of (vcFromD x y _) ⟨h1, h2, rfl, not_eq4' h3, rfl, rfl⟩, svf⟩
theorem ok_FromF : SpecOK Tryz.prog 60 sFromF := by
  refine fn_okL (by kernel_rfl) tt_ok spA1_ok 9 Tryz.func60 (by decide +kernel) (by kernel_rfl) ?_
  rintro ⟨x, y, _⟩ h
  have h' : okFrom x y = false := h
  rw [okFrom_eq] at h'
  unfold okFrom0 at h'
  by_cases h1 : pBelow x = true
  · by_cases h2 : pBelow y = true
    · rw [h1, h2, Bool.true_and, Bool.true_and] at h'
      exact ⟨_, {}, fun z => z = ofN, LnVD.of (vcFromC x y _) ⟨h1, h2, rfl, not_eq4 h', rfl⟩, svf⟩
    · exact ⟨_, {}, fun z => z = ofN, LnVD.of (vcFromB x y _) ⟨h1, by simpa using h2, rfl⟩, svf⟩
  · exact ⟨_, {}, fun z => z = ofN, LnVD.of (vcFromA x y _) ⟨by simpa using h1, rfl⟩, svf⟩
theorem idx0_of {b : List UInt8} (h : b.length = 33) : idx0 b := by unfold idx0; omega
theorem ofP_of {b : List UInt8} (h : b.length = 33) (h2 : b.getD 0 0 = 2 ∨ b.getD 0 0 = 3) : ∃ two, ∀ {P : Prop}, P → ofP two b P := by
  rcases h2 with h2 | h2
  · exact ⟨true, fun hP => ⟨by simp [h], idx0_of h, by rw [show Int.toNat 0 = 0 from rfl, h2]; rfl, ⟨by omega, by omega, by omega⟩, hP⟩⟩
  · exact ⟨false, fun hP => ⟨by simp [h], idx0_of h, by rw [show Int.toNat 0 = 0 from rfl, h2]; rfl, idx0_of h, by rw [show Int.toNat 0 = 0 from rfl, h2]; rfl, ⟨by omega, by omega, by omega⟩, hP⟩⟩
theorem bcase_t {b : Bool} {P Q : Prop} (h : b = true) (p : P) : bcase b P Q := by rw [h]; exact p
theorem bcase_f {b : Bool} {P Q : Prop} (h : b = false) (q : Q) : bcase b P Q := by rw [h]; exact q
theorem ok_OfT : SpecOK Tryz.prog 1000004 Sym.sNo := Sym.sNo_ok _ _
theorem ok_OfF : SpecOK Tryz.prog 1000004 Sym.sNo := Sym.sNo_ok _ _
theorem ok_PPair : SpecOK Tryz.prog 30 sPPair := by
  refine fn_okL (by kernel_rfl) tt_ok spA1_ok 9 Tryz.func30 (by decide +kernel) (by kernel_rfl) ?_
  rintro ⟨⟨c, x, y, z⟩, _⟩ h
  have h' : c = some rP := h
  subst h'
  show ∃ D L, ∃ Q : SV → Prop, LnVD tt spA1 9 D L _ Q _ ∧ ∀ x', Q x' → ∀ (at_ : At) (w : World) (v : Value), Rel at_ w x' v → Rel at_ w (prT (pPair ⟨x, y, z⟩)) v
  rw [pPair_eq]
  unfold pPair0
  by_cases hz : eq4 z zero4 = true
  · rw [if_pos hz]
    exact ⟨_, {}, fun t => t = prT (zero4, zero4, false), LnVD.of (vcPairA x y z _) ⟨hz, rfl⟩, svf⟩
  · rw [if_neg hz]
    exact ⟨_, {}, fun t => t = _, LnVD.of (vcPairB x y z _) ⟨by simpa using hz, rfl⟩, svf⟩
theorem ok_PDouble : SpecOK Tryz.prog 1000001 Sym.sNo := Sym.sNo_ok _ _
theorem ok_PNeg : SpecOK Tryz.prog 1000002 Sym.sNo := Sym.sNo_ok _ _
theorem spA2_ok : SpecsOK Tryz.prog spA2 := .cons ok_PDouble <| .cons ok_PNeg <| .cons ok_PPair <| .cons ok_PZero spA1_ok
theorem ok_PAdd : SpecOK Tryz.prog 1000000 Sym.sNo := Sym.sNo_ok _ _
theorem ok_PSame : SpecOK Tryz.prog 1000003 Sym.sNo := Sym.sNo_ok _ _
theorem pbytes_len (a : Four) : (limb_Bytes a true).length = 32 := by rw [bytes_N]; simp [R1.bytesN]
theorem ok_PBytes : SpecOK Tryz.prog 12 sPBytes := by
  refine fn_okL (by kernel_rfl) tt_ok spA2_ok 9 Tryz.func12 (by decide +kernel) (by kernel_rfl) ?_
  rintro ⟨⟨c, x, y, z⟩, _⟩ h
  have h' : c = some rP := h
  subst h'
  show ∃ D L, ∃ Q : SV → Prop, LnVD tt spA2 9 D L _ Q _ ∧ ∀ t, Q t → ∀ (at_ : At) (w : World) (v : Value), Rel at_ w t v → Rel at_ w (.lst (.bytes (pBytes ⟨x, y, z⟩))) v
  rw [pBytes_eq]
  unfold pBytes0
  by_cases h1 : (pPair ⟨x, y, z⟩).2.2 = false
  · rw [if_pos h1]
    exact ⟨_, {}, fun t => t = .lst (.bytes [0]), LnVD.of (vcBytesA x y z _) ⟨rfl, not_eq4 h1, rfl⟩, svf⟩
  · rw [if_neg h1]
    refine ⟨_, {}, fun t => t = .lst (.bytes ((2 + ((pPair ⟨x, y, z⟩).2.1.w0 &&& 1)).toUInt8 :: limb_Bytes (pPair ⟨x, y, z⟩).1 true)), LnVD.of (vcBytesB x y z _) ⟨rfl, not_eq4' (show (pPair ⟨x, y, z⟩).2.2 = true by simpa using h1), ⟨rfl, ?_⟩, ?_⟩, svf⟩
    · rw [List.length_append]
      have := pbytes_len (pPair ⟨x, y, z⟩).1
      simp only [PPt.p, List.length_cons, List.length_nil]
      rw [this]
      decide
    · show SV.lst (LV.bytes (List.drop 0 (List.take (0 + List.length _) _))) = _
      rw [R1.whole]
      rfl
end Go.Proofs.YtficbeeoafiiaaaGreatDoor.P12
/- The reference of layer 12: its points of bytes and multiples: what these functions come to. -/
set_option maxRecDepth 10000
namespace Go.Proofs.YtficbeeoafiiaaaGreatDoor.P12
open Go.Sym Go.Dig R1
--STOP R1.Sm, Fw
noncomputable def rBytes0 (p : RP) : List UInt8 := if (rPair p).2.2 = false then [0] else UInt8.ofNat (2 + (rPair p).2.1 % 2) :: (bytesN (rPair p).1 32).reverse
theorem ry_ex : ∃ f : RP → List UInt8, f = rBytes0 := ⟨_, rfl⟩
noncomputable def rBytes : RP → List UInt8 := Classical.choose ry_ex
theorem rBytes_eq : rBytes = rBytes0 := Classical.choose_spec ry_ex
noncomputable def nRBytes : SpecF := fspec (α := FP1) (β := List UInt8) (fun a => some (a.1 = fV ∧ a.2.1.Ok)) (fun a => rBytes a.2.1)
noncomputable def spR4 : Specs := (1000000, Sym.sNo) :: (13, nRBytes) :: spR3
/-- x, as the bytes have it. -/
def rX (b : List UInt8) : Nat := bev (List.drop (Int.toNat 1) (List.take (Int.toNat (b.length : Int)) b))
noncomputable def rRoot (b : List UInt8) : Nat := qE (rSide (rX b)) ((pN + Int.toNat 1) / 2 ^ Int.toNat 2)
def esg (b : List UInt8) (y : Nat) : Bool := ((y / 2 ^ Int.toNat 0 % 2 : Nat) : Int) == Int.tmod ((b.getD (Int.toNat 0) 0).toNat : Int) 2
def nsg (b : List UInt8) (y : Nat) : Bool := ((y / 2 ^ Int.toNat 0 % 2 : Nat) : Int) != Int.tmod ((b.getD (Int.toNat 0) 0).toNat : Int) 2
noncomputable def rY (b : List UInt8) : Nat := if esg b (rRoot b) = true then rRoot b else qS 0 (rRoot b)
def rNil : RP := ⟨0, 0, 0⟩
noncomputable def rOf0 (b : List UInt8) : RP × Bool :=
  if b.length ≠ 33 then (rNil, false) else if b.getD 0 0 ≠ 2 ∧ b.getD 0 0 ≠ 3 then (rNil, false)
  else if ¬ rX b < pN then (rNil, false) else if qM (rRoot b) (rRoot b) ≠ rSide (rX b) then (rNil, false)
  else (⟨rX b, rY b, 1⟩, esg b (rY b))
theorem ro_ex : ∃ f : List UInt8 → RP × Bool, f = rOf0 := ⟨_, rfl⟩
noncomputable def rOf : List UInt8 → RP × Bool := Classical.choose ro_ex
theorem rOf_eq : rOf = rOf0 := Classical.choose_spec ro_ex
noncomputable def nROf : SpecF := fspec (α := List UInt8 × Unit) total (fun a => rOf a.1)
def rofN : SV := .tup [.agg [.val (.slice none 0 0), .val (.slice none 0 0), .val (.slice none 0 0)], .bool false]
def rofT (x y : Nat) (s : Bool) : SV := .tup [.agg [.lst (.num x), .lst (.num y), .lst (.ints [1])], .bool s]
noncomputable def rofB (b : List UInt8) (P : Prop) : Prop := (List.drop (Int.toNat 1) (List.take (Int.toNat (b.length : Int)) b)).length ≤ 1048576 ∧ (Sm (rX b) ∧ Sm pN) ∧ P
noncomputable def rofR (b : List UInt8) (P : Prop) : Prop := decide (cmpN (rX b) pN ≥ 0) = false ∧ (fV = fV ∧ rX b < pN) ∧ (Sm pN ∧ Sm (Int.toNat 1)) ∧ (Sm (pN + Int.toNat 1) ∧ (0 : Int) ≤ 2 ∧ (2 : Int) ≤ 1073741824) ∧
  (fV = fV ∧ rSide (rX b) < pN ∧ (pN + Int.toNat 1) / 2 ^ Int.toNat 2 ≤ pN) ∧ (fV = fV ∧ rRoot b < pN ∧ rRoot b < pN) ∧ (Sm (qM (rRoot b) (rRoot b)) ∧ Sm (rSide (rX b))) ∧ P
noncomputable def rofE (b : List UInt8) (sgn : Bool) (Q : SV → Prop) : Prop := (Sm (rRoot b) ∧ (0 : Int) ≤ 0 ∧ (0 : Int) ≤ 1073741824) ∧ idx0 b ∧ nsg b (rRoot b) = sgn ∧ match sgn with
  | true => (fV = fV ∧ 0 < pN ∧ rRoot b < pN) ∧ (Sm (qS 0 (rRoot b)) ∧ (0 : Int) ≤ 0 ∧ (0 : Int) ≤ 1073741824) ∧ idx0 b ∧ Q (rofT (rX b) (qS 0 (rRoot b)) (esg b (qS 0 (rRoot b))))
  | false => (Sm (rRoot b) ∧ (0 : Int) ≤ 0 ∧ (0 : Int) ≤ 1073741824) ∧ idx0 b ∧ Q (rofT (rX b) (rRoot b) (esg b (rRoot b)))
theorem dRPC_ok {cs : List SV} {f : RP} (h : dRPC cs = some f) : cs = [.lst (.num f.x), .lst (.num f.y), .lst (.num f.z)] := by
  unfold dRPC at h
  split at h
  · simp only [Option.some.injEq] at h; subst h; rfl
  · cases h
instance : LEnc PRP where
  kind := none
  enc nx a := (.ptr nx 0, [[.lst (.num a.v.x), .lst (.num a.v.y), .lst (.num a.v.z)]])
  dec nx s M := match s, M with
    | .ptr b 0, some cs :: M' => if b = nx then (dRPC cs).map fun r => (none, ⟨r⟩, M') else none
    | _, _ => none
  all P := ∀ v, P ⟨v⟩
  all_ok h a := h a.v
  ok := by
    intro nx s M p a M' h hp
    split at h
    · split at h
      · rename_i hb
        obtain ⟨r, h1, h2⟩ := Option.map_eq_some_iff.1 h
        simp only [Prod.mk.injEq] at h2
        obtain ⟨_, rfl, rfl⟩ := h2
        subst hb
        rw [dRPC_ok h1]
        exact ⟨rfl, fun r => r⟩
      · cases h
    · cases h
/-- A loop's own block of three lists that are none. -/
structure PNil3 where
instance : LEnc PNil3 where
  kind := none
  enc nx _ := (.ptr nx 0, [[.val (.slice none 0 0), .val (.slice none 0 0), .val (.slice none 0 0)]])
  dec nx s M := match s, M with
    | .ptr b 0, some [.val (.slice none 0 0), .val (.slice none 0 0), .val (.slice none 0 0)] :: M' => if b = nx then some (none, ⟨⟩, M') else none
    | _, _ => none
  all P := P ⟨⟩
  all_ok h _ := h
  ok := by
    intro nx s M p a M' h hp
    split at h
    · split at h
      · rename_i hb
        simp only [Option.some.injEq, Prod.mk.injEq] at h
        obtain ⟨_, _, rfl⟩ := h
        subst hb
        exact ⟨rfl, fun r => r⟩
      · cases h
    · cases h
/-- A multiple, bit by bit: of the bits from k on. -/
noncomputable def rStep (p : RP) (n : Nat) (out : RP) (k : Nat) : RP := if n / 2 ^ k % 2 = 1 then rAdd (rDbl out) p else rDbl out
noncomputable def rAcc (p : RP) (n N : Nat) : Nat → RP
  | 0 => rZero
  | j + 1 => rStep p n (rAcc p n N j) (N - 1 - j)
noncomputable def rMul0 (n : Nat) (p : RP) : RP := rAcc p n (bitsN n) (bitsN n)
theorem rm_ex : ∃ f : Nat → RP → RP, f = rMul0 := ⟨_, rfl⟩
noncomputable def rMul : Nat → RP → RP := Classical.choose rm_ex
theorem rMul_eq : rMul = rMul0 := Classical.choose_spec rm_ex
noncomputable def nRMul : SpecF := fspec (α := FastV × Num × RP × Unit) (fun a => some (a.1 = fV ∧ Sm a.2.1.n ∧ a.2.1.n < 2 ^ Int.toNat 256 ∧ a.2.2.1.Ok)) (fun a => rMul a.2.1.n a.2.2.1)
noncomputable def iMul (n : Nat) (p : RP) (f : FastV) (q : RP) (out : RP) (i : Int) : Prop := f = fV ∧ q = p ∧ -1 ≤ i ∧ i < (bitsN n : Nat) ∧ out = rAcc p n (bitsN n) ((bitsN n : Int) - 1 - i).toNat
noncomputable def lMul (n : Nat) (p : RP) : Plan := { loops := [(0, { β := Num × Unit, α := PFast × PRP × PNil3 × PRP × Int × Unit, same := [1], keep := [3, 5, 6, 7, 8], inv := fun _ _ x => iMul n p x.1.v x.2.1.v x.2.2.2.1.v x.2.2.2.2.1, meas := fun _ x => (x.2.2.2.2.1 + 1).toNat })] }
end Go.Proofs.YtficbeeoafiiaaaGreatDoor.P12
/- The reference of layer 12: its points of bytes and multiples come to what is said. -/
set_option maxRecDepth 10000
namespace Go.Proofs.YtficbeeoafiiaaaGreatDoor.P12
open Go.Sym Go.Dig R1

theorem svr {p : RP} {cs : List SV} (hd : dRP (.agg cs) = some p) (x : SV) (h : (fun x => x = .agg cs) x) (at_ : At) (w : World) (v : Value) (r : Rel at_ w x v) : Rel at_ w p.sv v := by
  have h' : x = .agg cs := h
  subst h'
  exact Enc.ok (α := RP) hd r
theorem ok_RZero : SpecOK Tryz.prog 1000006 Sym.sNo := Sym.sNo_ok _ _
theorem ok_RBase : SpecOK Tryz.prog 1000001 Sym.sNo := Sym.sNo_ok _ _
theorem len0 {n : Nat} : (((dg n).length : Int) == 0) = decide (n = 0) := by
  by_cases h : n = 0
  · rw [decide_eq_true h, dg_nil_iff.2 h]; rfl
  · rw [decide_eq_false h]
    have : dg n ≠ [] := fun e => h (dg_nil_iff.1 e)
    have : (dg n).length ≠ 0 := fun e => this (List.length_eq_zero_iff.1 e)
    rw [beq_eq_false_iff_ne]; omega
theorem ok_RPair : SpecOK Tryz.prog 32 nRPair := by
  refine fn_okL (by kernel_rfl) tt_ok spR1_ok 9 Tryz.func32 (by decide +kernel) (by kernel_rfl) ?_
  rintro ⟨f, p, _⟩ ⟨h1, hx, hy, hz⟩
  have h1' : f = fV := h1
  subst h1'
  replace hx : p.x < pN := hx
  replace hy : p.y < pN := hy
  replace hz : p.z < pN := hz
  show ∃ D L, ∃ Q : SV → Prop, LnVD tt spR1 9 D L _ Q _ ∧ ∀ t, Q t → ∀ (at_ : At) (w : World) (v : Value), Rel at_ w t v → Rel at_ w (.tup [.lst (.num (rPair p).1), .lst (.num (rPair p).2.1), .bool (rPair p).2.2]) v
  unfold rPair
  by_cases h0 : p.z = 0
  · rw [if_pos h0]
    refine ⟨_, {}, fun x => x = .tup [.val (.slice none 0 0), .val (.slice none 0 0), .bool false], LnVD.of (vcRPairA p _) ⟨by rw [len0]; exact decide_eq_true h0, rfl⟩, ?_⟩
    intro x hx at_ w v r
    have hx' : x = _ := hx
    subst hx'
    simp only [Rel, RelL] at r ⊢
    obtain ⟨vs, rfl, u1, l1, rfl, r1, u2, l2, rfl, r2, r3⟩ := r
    refine ⟨_, rfl, u1, _, rfl, ?_, u2, _, rfl, ?_, r3⟩
    · exact Enc.ok (α := Num) (s := .val (.slice none 0 0)) (a := ⟨0⟩) rfl (by simp only [Rel]; exact r1)
    · exact Enc.ok (α := Num) (s := .val (.slice none 0 0)) (a := ⟨0⟩) rfl (by simp only [Rel]; exact r2)
  · rw [if_neg h0]
    refine ⟨_, {}, fun x => x = _, LnVD.of (vcRPairB p _) ⟨by rw [len0]; exact decide_eq_false h0, ?_⟩, svg⟩
    simp only [qM_lt, qI_lt, hx, hy, hz, and_self, true_and]
theorem ok_RNeg : SpecOK Tryz.prog 1000004 Sym.sNo := Sym.sNo_ok _ _
theorem spR2_ok : SpecsOK Tryz.prog spR2 := .cons ok_ROn <| .cons ok_RZero <| .cons ok_RPair <| .cons ok_RNeg spR1_ok
theorem rZero_Ok : rZero.Ok := ⟨small_lt (by decide), small_lt (by decide), small_lt (by decide)⟩
theorem rDbl_Ok {p : RP} : (rDbl p).Ok := by
  rw [rDbl_eq]
  unfold rDbl0
  split
  · exact rZero_Ok
  · split
    · exact rZero_Ok
    · exact ⟨qS_lt _ _, qS_lt _ _, qM_lt _ _⟩
theorem rAdd_Ok {p q : RP} (hp : p.Ok) (hq : q.Ok) : (rAdd p q).Ok := by
  rw [rAdd_eq]
  unfold rAdd0
  split
  · exact hq
  · split
    · exact hp
    · split
      · split
        · exact rDbl_Ok
        · exact rZero_Ok
      · exact ⟨qS_lt _ _, qS_lt _ _, qM_lt _ _⟩
theorem ok_RDbl : SpecOK Tryz.prog 1000002 Sym.sNo := Sym.sNo_ok _ _
theorem spR3_ok : SpecsOK Tryz.prog spR3 := .cons ok_RDbl spR2_ok
theorem sq (a b : Nat) : Sm (qM a b) := smp (by have := qM_lt a b; omega)
theorem ok_RAdd : SpecOK Tryz.prog 1000000 Sym.sNo := Sym.sNo_ok _ _
theorem ofInt_sgn (n : Nat) : UInt8.ofInt (IntKind.wrap .i64 ((2 : Int) + ((n / 2 ^ Int.toNat 0 % 2 : Nat) : Int))) = UInt8.ofNat (2 + n % 2) := by
  rw [show Int.toNat 0 = 0 from rfl, Nat.pow_zero, Nat.div_one]
  rcases (show n % 2 = 0 ∨ n % 2 = 1 by omega) with h | h <;> rw [h] <;> decide +kernel
theorem ok_RBytes : SpecOK Tryz.prog 13 nRBytes := by
  refine fn_okL (by kernel_rfl) tt_ok spR3_ok 9 Tryz.func13 (by decide +kernel) (by kernel_rfl) ?_
  rintro ⟨f, p, _⟩ ⟨h1, hx, hy, hz⟩
  have h1' : f = fV := h1
  subst h1'
  show ∃ D L, ∃ Q : SV → Prop, LnVD tt spR3 9 D L _ Q _ ∧ ∀ t, Q t → ∀ (at_ : At) (w : World) (v : Value), Rel at_ w t v → Rel at_ w (.lst (.bytes (rBytes p))) v
  rw [rBytes_eq]
  unfold rBytes0
  by_cases h : (rPair p).2.2 = false
  · rw [if_pos h]
    exact ⟨_, {}, fun t => t = .lst (.bytes [0]), LnVD.of (vcRBytesA p _) ⟨⟨rfl, hx, hy, hz⟩, by rw [h]; rfl, rfl⟩, svg⟩
  · rw [if_neg h]
    have h' : (rPair p).2.2 = true := by simpa using h
    have s1 : Sm (rPair p).1 ∧ Sm (rPair p).2.1 := by
      unfold rPair
      split
      · exact ⟨smp (Nat.zero_le _), smp (Nat.zero_le _)⟩
      · exact ⟨sq _ _, sq _ _⟩
    refine ⟨_, {}, fun t => t = .lst (.bytes (UInt8.ofNat (2 + (rPair p).2.1 % 2) :: (bytesN (rPair p).1 32).reverse)), LnVD.of (vcRBytesB p _) ⟨⟨rfl, hx, hy, hz⟩, by rw [h']; rfl, ⟨s1.2, by decide, by decide⟩, ⟨s1.1, by decide, by decide⟩, ⟨rfl, ?_⟩, ?_⟩, svg⟩
    · rw [List.length_append, List.length_reverse, show Int.toNat 32 = 32 from rfl]
      have : (bytesN (rPair p).1 32).length = 32 := by simp [R1.bytesN]
      rw [this, List.length_singleton]
      decide
    · show SV.lst (LV.bytes (List.drop 0 (List.take (0 + List.length _) _))) = _
      rw [R1.whole, ofInt_sgn]
      rfl
theorem spR4_ok : SpecsOK Tryz.prog spR4 := .cons ok_RAdd <| .cons ok_RBytes spR3_ok

theorem bev33 {b : List UInt8} (h : b.length = 33) : rX b < 115792089237316195423570985008687907853269984665640564039457584007913129639936 := by
  unfold rX
  have e : List.drop (Int.toNat 1) (List.take (Int.toNat (b.length : Int)) b) = b.drop 1 := by simp
  rw [e]
  have := bev_lt (b.drop 1)
  rw [List.length_drop, h] at this
  exact Nat.lt_of_lt_of_le this (by decide +kernel)
theorem rofB_of {b : List UInt8} (h : b.length = 33) {P : Prop} (hP : P) : rofB b P := by
  have := bev33 h
  refine ⟨?_, ⟨SmB (by omega), smp (by omega)⟩, hP⟩
  rw [List.length_drop, List.length_take]; omega
theorem cmp_ge (x y : Nat) : decide (cmpN x y ≥ 0) = decide (¬ x < y) := by
  unfold cmpN
  by_cases h : x < y
  · rw [if_pos h, decide_eq_false (by omega : ¬ ¬ x < y)]; rfl
  · rw [if_neg h, decide_eq_true h]
    split <;> rfl
theorem e4_le : (pN + Int.toNat 1) / 2 ^ Int.toNat 2 ≤ pN := by
  have := pN_pos
  rw [show Int.toNat 1 = 1 from rfl, show (2 : Nat) ^ Int.toNat 2 = 4 from rfl]
  omega
theorem rRoot_lt (b : List UInt8) : rRoot b < pN := qE_lt _ _
theorem rSide_lt (x : Nat) : rSide x < pN := qA_lt _ _
theorem rofR_of {b : List UInt8} (h : rX b < pN) {P : Prop} (hP : P) : rofR b P :=
  ⟨by rw [cmp_ge]; exact decide_eq_false (fun e => e h), ⟨rfl, h⟩, ⟨smp (by omega), smp (by have := small_lt (n := Int.toNat 1) (by decide); omega)⟩, ⟨smp (by have := small_lt (n := Int.toNat 1) (by decide); omega), by decide, by decide⟩,
    ⟨rfl, rSide_lt _, e4_le⟩, ⟨rfl, rRoot_lt b, rRoot_lt b⟩, ⟨sq _ _, smp (by have := rSide_lt (rX b); omega)⟩, hP⟩
theorem ne_eq' (x y : Nat) : (cmpN x y != 0) = decide (x ≠ y) := by
  unfold bne
  rw [cmp_eq]
  by_cases h : x = y
  · rw [decide_eq_true h, decide_eq_false (by simpa using h)]; rfl
  · rw [decide_eq_false h, decide_eq_true h]; rfl
theorem nsg_not (b : List UInt8) (y : Nat) : nsg b y = !esg b y := rfl
theorem svN : ∀ x : SV, x = rofN → ∀ (at_ : At) (w : World) (v : Value), Rel at_ w x v → Rel at_ w (.tup [rNil.sv, .bool false]) v := by
  intro x hx at_ w v r
  subst hx
  simp only [rofN, Rel, RelL] at r
  obtain ⟨vs, rfl, u1, l1, rfl, r1, r2⟩ := r
  have k : Rel at_ w rNil.sv u1 := Enc.ok (α := RP) (s := .agg [.val (.slice none 0 0), .val (.slice none 0 0), .val (.slice none 0 0)]) rfl (by simp only [Rel, RelL]; exact r1)
  simp only [Rel]
  exact ⟨_, rfl, RelL.cons k (by simp only [RelL, Rel]; exact r2)⟩
theorem svT (x y : Nat) (s : Bool) : ∀ z : SV, z = rofT x y s → ∀ (at_ : At) (w : World) (v : Value), Rel at_ w z v → Rel at_ w (.tup [(⟨x, y, 1⟩ : RP).sv, .bool s]) v := by
  intro z hz at_ w v r
  subst hz
  simp only [rofT, Rel] at r
  obtain ⟨vs, rfl, r⟩ := r
  have r0 := r
  simp only [RelL] at r
  obtain ⟨u1, l1, rfl, r1, r2⟩ := r
  have k : Rel at_ w (⟨x, y, 1⟩ : RP).sv u1 := Enc.ok (α := RP) (s := .agg [.lst (.num x), .lst (.num y), .lst (.ints [1])]) rfl r1
  simp only [Rel]
  exact ⟨_, rfl, RelL.cons k (by simp only [RelL]; exact r2)⟩
theorem ok_ROf : SpecOK Tryz.prog 1000005 Sym.sNo := Sym.sNo_ok _ _
theorem rAcc_Ok {p : RP} (hp : p.Ok) (n N : Nat) : ∀ j, (rAcc p n N j).Ok
  | 0 => rZero_Ok
  | j + 1 => by
    show (rStep p n (rAcc p n N j) (N - 1 - j)).Ok
    unfold rStep
    split
    · exact rAdd_Ok rDbl_Ok hp
    · exact rDbl_Ok
theorem ok_RMul : SpecOK Tryz.prog 1000003 Sym.sNo := Sym.sNo_ok _ _
end Go.Proofs.YtficbeeoafiiaaaGreatDoor.P12
