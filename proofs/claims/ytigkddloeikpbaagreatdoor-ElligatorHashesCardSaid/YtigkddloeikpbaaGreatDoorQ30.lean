/- A symbolic machine for Go functions, and what the functions that the law reaches come to: ComB, ComC, ComD, RefY, RefZ, ComE, HaA, HaB, HaC, HaF, HaG, HaD, HaE. -/
import Derived.Test.YtigkddloeikpbaaGreatDoorQ25
import Derived.Test.YtigkddloeikpbaaGreatDoorQ20
import Derived.Test.YtigkddloeikpbaaGreatDoorQ29
import Derived.Test.YtigkddloeikpbaaGreatDoorQ24
import Derived.Test.YtigkddloeikpbaaGreatDoorQ16
/- Package combo: multiples of points: what the functions come to is so. -/
set_option maxRecDepth 100000
namespace Go.Proofs.YtigkddloeikpbaaGreatDoor.C11
open Go.Sym Go.Dig R1 F4 E10

theorem tab_ret (p : Pt) : retSV (RetL.retL (⟨p⟩ : TabV)) = .agg (tabCells p) := by kernel_rfl
attribute [local irreducible] tabCells tabW
theorem ok_Table : SpecOK Tryz.prog 1000004 Sym.sNo := Sym.sNo_ok _ _
theorem ok_Sixteen : SpecOK Tryz.prog 1000003 Sym.sNo := Sym.sNo_ok _ _
theorem ok_Nibbles : SpecOK Tryz.prog 1000001 Sym.sNo := Sym.sNo_ok _ _
theorem spC1_ok : SpecsOK Tryz.prog spC1 := .cons ok_Table <| .cons ok_Sixteen <| .cons ok_Nibbles spC0_ok

/-! Nibbles. -/
theorem and_15 (x : UInt64) : (x &&& UInt64.ofNat (Int.toNat 15)).toNat = x.toNat % 16 := by
  have : (x &&& UInt64.ofNat (Int.toNat 15)).toNat = x.toNat &&& 15 := by rw [UInt64.toNat_and]; rfl
  rw [this]
  exact Nat.and_two_pow_sub_one_eq_mod x.toNat 4
theorem ofInt_small {n : Int} (h : 0 ≤ n) (h' : n < 64) : (UInt64.ofInt n).toNat = n.toNat := by
  obtain ⟨m, rfl⟩ := Int.eq_ofNat_of_zero_le h
  have hm : m < 64 := by omega
  rw [Int.toNat_natCast]
  simp only [UInt64.ofInt, UInt64.toNat_ofNat']
  omega
theorem nibI_nat (w : UInt64) {n : Int} (h : 0 ≤ n) (h' : n < 64) : nibI w n = ((w.toNat / 2 ^ n.toNat % 16 : Nat) : Int) := by
  have hl : w.toNat / 2 ^ n.toNat % 16 < 16 := Nat.mod_lt _ (by omega)
  unfold nibI
  rw [and_15, Sym.shr64_nat, ofInt_small h h', R1.wr (by omega)]
theorem div_word (w r n : Nat) (h : n ≤ 60) : (w + 18446744073709551616 * r) / 2 ^ n % 16 = w / 2 ^ n % 16 := by
  have e : (18446744073709551616 : Nat) = 2 ^ n * (16 * 2 ^ (60 - n)) := by
    rw [show (16 : Nat) = 2 ^ 4 from rfl, ← Nat.pow_add, ← Nat.pow_add, show n + (4 + (60 - n)) = 64 by omega]
  rw [e, Nat.mul_assoc, Nat.add_mul_div_left _ _ (Nat.two_pow_pos n), Nat.mul_assoc, Nat.add_mul_mod_self_left]
theorem nat4_word (k : Four) {i : Nat} (hi : i ≤ 3) : ∃ r, nat4 k / 2 ^ (64 * i) = (wordK k i).toNat + 18446744073709551616 * r := by
  have h0 := u64_lt k.w0; have h1 := u64_lt k.w1; have h2 := u64_lt k.w2; have h3 := u64_lt k.w3
  have hi' : i = 0 ∨ i = 1 ∨ i = 2 ∨ i = 3 := by omega
  rcases hi' with rfl | rfl | rfl | rfl
  · refine ⟨(nat4 k - k.w0.toNat) / 18446744073709551616, ?_⟩
    simp only [wordK, nat4, Nat.mul_zero, Nat.pow_zero, Nat.div_one]; omega
  · refine ⟨k.w2.toNat + 18446744073709551616 * k.w3.toNat, ?_⟩
    simp only [wordK, nat4]
    rw [show (2 : Nat) ^ (64 * 1) = 18446744073709551616 from rfl]; omega
  · refine ⟨k.w3.toNat, ?_⟩
    simp only [wordK, nat4]
    rw [show (2 : Nat) ^ (64 * 2) = 340282366920938463463374607431768211456 from rfl]; omega
  · refine ⟨0, ?_⟩
    simp only [wordK, nat4]
    rw [show (2 : Nat) ^ (64 * 3) = 6277101735386680763835789423207666416102355444464034512896 from rfl]; omega
theorem nib_eq (k : Four) {i : Nat} (hi : i ≤ 3) {n : Nat} (hn : n ≤ 60) (hm : n % 4 = 0) : (wordK k i).toNat / 2 ^ n % 16 = nibV k ((3 - i) * 16 + (60 - n) / 4) := by
  obtain ⟨r, hr⟩ := nat4_word k hi
  unfold nibV
  rw [show 252 - 4 * ((3 - i) * 16 + (60 - n) / 4) = 64 * i + n by omega, Nat.pow_add, ← Nat.div_div_eq_div_mul, hr, div_word _ _ _ hn]
theorem tabW_len (p : Pt) : (tabW p).length = 320 := by kernel_rfl
theorem rows_tab (p : Pt) : (List.range 16).map (rowP (tabW p)) = (List.range 16).map (tabF p) := by kernel_rfl
theorem row_tab (p : Pt) {j : Nat} (h : j < 16) : rowP (tabW p) j = tabF p j := by
  have := congrArg (fun l => l[j]?) (rows_tab p)
  simpa only [List.getElem?_map, List.getElem?_range h, Option.map_some, Option.some.injEq] using this
theorem nibV_lt (k : Four) (c : Nat) : nibV k c < 16 := Nat.mod_lt _ (by omega)
theorem chain_step {k : Four} {p : Pt} {i : Int} (i0 : 0 ≤ i) (i3 : i ≤ 3) {w : UInt64} (hw : w = wordK k i.toNat) {v : Four} {l1 : Nat} {Q : SV → Prop} {r : List (Int × UInt64)} {s0 : MulS} (h0 : iMul k p zPt (tabW p) (mulAcc k p) i s0 60)
    (next : ∀ s : MulS, s.k = k → s.p = p → s.z = zPt → s.l = tabW p → s.out = mulAcc k p ((3 - i).toNat * 16 + 16) → chainM (iMul k p zPt (tabW p) (mulAcc k p)) v l1 Q r s) :
    chainM (iMul k p zPt (tabW p) (mulAcc k p)) v l1 Q ((i, w) :: r) s0 := by
  refine ⟨h0, fun s n ⟨e1, e2, e3, e4, n0, n1, nm, e5⟩ => ?_⟩
  rw [R1.bcase_dec]
  refine ⟨fun hn => ?_, fun hn => ?_⟩
  · have hni : nibI w n = (nibV k ((3 - i).toNat * 16 + ((60 - n) / 4).toNat) : Int) := by
      rw [nibI_nat w (by omega) (by omega), hw, nib_eq k (by omega) (by omega) (by omega)]
      congr 2; omega
    have hlt := nibV_lt k ((3 - i).toNat * 16 + ((60 - n) / 4).toNat)
    rw [hni, R1.wr (x := n - 4) (by omega), Int.toNat_natCast]
    refine ⟨rfl, ⟨by omega, by omega⟩, by rw [e4, tabW_len]; omega, rfl, ⟨e1, e2, e3, e4, by omega, by omega, by omega, ?_⟩, by omega⟩
    show oAdd (oDbl (oEight s.out)) (rowP s.l _) = _
    rw [e4, row_tab p hlt, e5, show ((60 - (n - 4)) / 4).toNat = ((60 - n) / 4).toNat + 1 by omega]
    rfl
  · refine next s e1 e2 e3 e4 ?_
    rw [e5, show ((60 - n) / 4).toNat = 16 by omega]
noncomputable def sMul : SpecF := fspec (α := Four × Pt × Unit) total (fun a => mulAcc a.1 a.2.1 64)
theorem ok_Mul : SpecOK Tryz.prog 1000000 Sym.sNo := Sym.sNo_ok _ _
end Go.Proofs.YtigkddloeikpbaaGreatDoor.C11
/- Package combo: sums of two multiples, nibbles by place: what the functions come to. -/
set_option maxRecDepth 100000
namespace Go.Proofs.YtigkddloeikpbaaGreatDoor.C11
open Go.Sym Go.Dig R1 F4 E10

noncomputable def cNib : CSpec := { β := Unit, γ := Four × Int × Unit, α := Int × ArrW 4 × Unit, same := [], pre := [0, 1], keep := [1, 2], inv := fun _ g a => a.1 = g.2.1 ∧ a.2.1.l = [g.1.w0, g.1.w1, g.1.w2, g.1.w3] }
noncomputable def sNibble : SpecF := fspec (α := Four × Int × Unit) (β := Int) (fun a => some (0 ≤ a.2.1 ∧ a.2.1 ≤ 255 ∧ a.2.1 % 4 = 3)) (fun a => (nibV a.1 ((255 - a.2.1) / 4).toNat : Int))
noncomputable def spC2 : Specs := (1000005, Sym.sNo) :: (1000002, Sym.sNo) :: spC1
noncomputable def bothAcc (a : Four) (p : Pt) (b : Four) (q : Pt) : Nat → Pt
  | 0 => eZero
  | c + 1 => oAdd (oAdd (oDbl (oEight (bothAcc a p b q c))) (tabF p (nibV a c))) (tabF q (nibV b c))
def iBoth (a b : Four) (t u : List UInt64) (acc : Nat → Pt) (x : PFour × PFour × PPt × ArrW 320 × ArrW 320 × PPt × Int × Unit) : Prop :=
  x.1.v = a ∧ x.2.1.v = b ∧ x.2.2.1.v = zPt ∧ x.2.2.2.1.l = t ∧ x.2.2.2.2.1.l = u ∧ -1 ≤ x.2.2.2.2.2.2.1 ∧ x.2.2.2.2.2.2.1 ≤ 255 ∧ x.2.2.2.2.2.2.1 % 4 = 3 ∧ x.2.2.2.2.2.1.v = acc ((255 - x.2.2.2.2.2.2.1) / 4).toNat
noncomputable def lBoth (a b : Four) (t u : List UInt64) (acc : Nat → Pt) : Plan := { loops := [(0, { β := Unit, α := PFour × PFour × PPt × ArrW 320 × ArrW 320 × PPt × Int × Unit, same := [], keep := [4, 6, 8, 9, 10, 11, 12], inv := fun _ _ x => iBoth a b t u acc x, meas := fun _ x => (x.2.2.2.2.2.2.1 + 4).toNat })] }
/-! Multiples, sums of two: as functions that nothing opens. -/
theorem om_ex : ∃ f : Four → Pt → Pt, f = fun k p => mulAcc k p 64 := ⟨_, rfl⟩
noncomputable def oMul : Four → Pt → Pt := Classical.choose om_ex
theorem oMul_eq (k : Four) (p : Pt) : oMul k p = mulAcc k p 64 := congrFun (congrFun (Classical.choose_spec om_ex) k) p
theorem ob_ex : ∃ f : Four → Pt → Four → Pt → Pt, f = fun a p b q => bothAcc a p b q 64 := ⟨_, rfl⟩
noncomputable def oBoth : Four → Pt → Four → Pt → Pt := Classical.choose ob_ex
theorem oBoth_eq (a : Four) (p : Pt) (b : Four) (q : Pt) : oBoth a p b q = bothAcc a p b q 64 := congrFun (congrFun (congrFun (congrFun (Classical.choose_spec ob_ex) a) p) b) q
theorem or_ex : ∃ f : Four, f = ⟨6346243789798364141, 1503914060200516822, 0, 1152921504606846976⟩ := ⟨_, rfl⟩
noncomputable def ordV : Four := Classical.choose or_ex
theorem ordV_eq : ordV = ⟨6346243789798364141, 1503914060200516822, 0, 1152921504606846976⟩ := Classical.choose_spec or_ex
noncomputable def sOMul : SpecF := fspec (α := Four × Pt × Unit) total (fun a => oMul a.1 a.2.1)
noncomputable def sOBoth : SpecF := fspec (α := Four × Pt × Four × Pt × Unit) total (fun a => oBoth a.1 a.2.1 a.2.2.1 a.2.2.2.1)
noncomputable def sOrder : SpecF := fspec (α := Unit) total (fun _ => ordV)
noncomputable def spC3 : Specs := (1000002, Sym.sNo) :: (1000001, Sym.sNo) :: (1000003, Sym.sNo) :: spC0
noncomputable def sCBase : SpecF := fspec (α := Four × Unit) total (fun a => oMul a.1 eBase)
noncomputable def oPure (p : Pt) : Bool := eSame (oMul ordV p) eZero
noncomputable def sPure : SpecF := fspec (α := Pt × Unit) total (fun a => oPure a.1)
noncomputable def spC4 : Specs := (1000000, Sym.sNo) :: (1000004, Sym.sNo) :: spC3
end Go.Proofs.YtigkddloeikpbaaGreatDoor.C11
/- Package combo: nibbles by place, sums of two multiples, the base's, what is pure: what the functions come to is so. -/
set_option maxRecDepth 100000
namespace Go.Proofs.YtigkddloeikpbaaGreatDoor.C11
open Go.Sym Go.Dig R1 F4 E10

theorem ok_nibble : SpecOK Tryz.prog 1000005 Sym.sNo := Sym.sNo_ok _ _
theorem ok_Mul' : SpecOK Tryz.prog 1000002 Sym.sNo := Sym.sNo_ok _ _
theorem spC2_ok : SpecsOK Tryz.prog spC2 := .cons ok_nibble <| .cons ok_Mul spC1_ok
theorem ok_Both0 : SpecOK Tryz.prog 1000001 Sym.sNo := Sym.sNo_ok _ _
theorem ok_Both : SpecOK Tryz.prog 1000001 Sym.sNo := Sym.sNo_ok _ _
theorem ok_Order : SpecOK Tryz.prog 1000003 Sym.sNo := Sym.sNo_ok _ _
theorem spC3_ok : SpecsOK Tryz.prog spC3 := .cons ok_Mul' <| .cons ok_Both <| .cons ok_Order spC0_ok
theorem ok_CBase : SpecOK Tryz.prog 1000000 Sym.sNo := Sym.sNo_ok _ _
theorem ok_Pure : SpecOK Tryz.prog 1000004 Sym.sNo := Sym.sNo_ok _ _
theorem spC4_ok : SpecsOK Tryz.prog spC4 := .cons ok_CBase <| .cons ok_Pure spC3_ok
end Go.Proofs.YtigkddloeikpbaaGreatDoor.C11
/- The reference of layer 10: multiples of points: what the function comes to. -/
set_option maxRecDepth 10000
namespace Go.Proofs.YtigkddloeikpbaaGreatDoor.E10
open Go.Sym Go.Dig R1 F4
--STOP R1.Sm, Lm, Lh

/-- A loop's own point; one of noughts. -/
structure PRP where
  v : RP
def dRPC : List SV → Option RP
  | [.lst (.num x), .lst (.num y), .lst (.num z), .bool i] => some ⟨x, y, z, i⟩
  | _ => none
def RP.cells (p : RP) : List SV := [.lst (.num p.x), .lst (.num p.y), .lst (.num p.z), .bool p.is]
theorem dRPC_ok {cs : List SV} {p : RP} (h : dRPC cs = some p) : cs = p.cells := by
  unfold dRPC at h
  split at h
  · simp only [Option.some.injEq] at h; subst h; rfl
  · cases h
instance : LEnc PRP where
  kind := none
  enc nx a := (.ptr nx 0, [a.v.cells])
  dec nx s M := match s, M with
    | .ptr b 0, some cs :: M' => if b = nx then (dRPC cs).map fun r => (none, ⟨r⟩, M') else none
    | _, _ => none
  all P := ∀ v, P ⟨v⟩
  all_ok h a := h a.v
  ok := by
    intro nx s M p a M' h hp
    split at h
    · split at h
      · rename_i hb
        obtain ⟨r, h1, h2⟩ := Option.map_eq_some_iff.1 h
        simp only [Prod.mk.injEq] at h2
        obtain ⟨_, rfl, rfl⟩ := h2
        subst hb
        rw [dRPC_ok h1]
        exact ⟨rfl, fun r => r⟩
      · cases h
    · cases h
structure PNil where
  u : Unit
instance : LEnc PNil where
  kind := none
  enc nx _ := (.ptr nx 0, [[.val (.slice none 0 0), .val (.slice none 0 0), .val (.slice none 0 0), .bool false]])
  dec nx s M := match s, M with
    | .ptr b 0, some [.val (.slice none 0 0), .val (.slice none 0 0), .val (.slice none 0 0), .bool false] :: M' => if b = nx then some (none, ⟨()⟩, M') else none
    | _, _ => none
  all P := P ⟨()⟩
  all_ok h _ := h
  ok := by
    intro nx s M p a M' h hp
    split at h
    · split at h
      · rename_i hb
        simp only [Option.some.injEq, Prod.mk.injEq] at h
        obtain ⟨_, _, rfl⟩ := h
        subst hb
        exact ⟨rfl, fun r => r⟩
      · cases h
    · cases h
/-- A multiple, bit by bit from above. -/
noncomputable def rMulAcc (n : Nat) (p : RP) : Nat → RP
  | 0 => rZero
  | c + 1 => if n / 2 ^ (bitsN n - 1 - c) % 2 = 1 then rAdd (rAdd (rMulAcc n p c) (rMulAcc n p c) rD) p rD else rAdd (rMulAcc n p c) (rMulAcc n p c) rD
def iRMul (n : Nat) (p : RP) (acc : Nat → RP) (p' out : RP) (i : Int) : Prop := p' = p ∧ -1 ≤ i ∧ i < (bitsN n : Nat) ∧ out = acc ((bitsN n : Int) - 1 - i).toNat
def lRMul (n : Nat) (p : RP) (acc : Nat → RP) : Plan := { loops := [(0, { β := Num × Num × Unit, α := PRP × PNil × PRP × Int × Unit, same := [0, 5], keep := [3, 4, 6, 7], inv := fun _ _ x => iRMul n p acc x.1.v x.2.2.1.v x.2.2.2.1, meas := fun _ x => (x.2.2.2.1 + 1).toNat })] }
theorem vcRMul (n : Nat) (p : RP) (acc : Nat → RP) (Q : SV → Prop) : LnRaw tt spK3 3 [] (lRMul n p acc) Tryz.f8 Q ((⟨n⟩ : Num), p, ()) =
 ((Sm n) ∧
 ((iRMul n p acc p rZero (IntKind.wrap IntKind.i64 ((↑(bitsN n) : Int) - (1 : Int)))) ∧
 (∀ v : RP,
 (∀ v_1 : RP,
 (∀ a : Int,
 ((iRMul n p acc v v_1 a) →
 bcase (decide (a ≥ (0 : Int)))
 (((((Lh (RP.x v_1)) ∧
 ((Lh (RP.y v_1)) ∧
 (Lh (RP.z v_1)))) ∧
 (((Lh (RP.x v_1)) ∧
 ((Lh (RP.y v_1)) ∧
 (Lh (RP.z v_1)))) ∧
 (Lh rD))) ∧
 (((Sm n) ∧
 (((0 : Int) ≤ a) ∧
 (a ≤ (1073741824 : Int)))) ∧
 bcase ((↑(n / (2 : Nat) ^ Int.toNat a % (2 : Nat)) : Int) == (1 : Int))
 (((((Lh (RP.x (rAdd v_1 v_1 rD))) ∧
 ((Lh (RP.y (rAdd v_1 v_1 rD))) ∧
 (Lh (RP.z (rAdd v_1 v_1 rD))))) ∧
 (((Lh (RP.x v)) ∧
 ((Lh (RP.y v)) ∧
 (Lh (RP.z v)))) ∧
 (Lh rD))) ∧
 (((Num.mk n, Num.mk rD, ()) = (Num.mk n, Num.mk rD, ())) ∧
 ((iRMul n p acc v (rAdd (rAdd v_1 v_1 rD) v rD) (IntKind.wrap IntKind.i64 (a - (1 : Int)))) ∧
 (Int.toNat (IntKind.wrap IntKind.i64 (a - (1 : Int)) + (1 : Int)) < Int.toNat (a + (1 : Int)))))))
 ((((Num.mk n, Num.mk rD, ()) = (Num.mk n, Num.mk rD, ())) ∧
 ((iRMul n p acc v (rAdd v_1 v_1 rD) (IntKind.wrap IntKind.i64 (a - (1 : Int)))) ∧
 (Int.toNat (IntKind.wrap IntKind.i64 (a - (1 : Int)) + (1 : Int)) < Int.toNat (a + (1 : Int)))))))))
 ((Q (SV.agg [SV.lst (LV.num (RP.x v_1)), SV.lst (LV.num (RP.y v_1)), SV.lst (LV.num (RP.z v_1)), SV.bool (RP.is v_1)]))))))))) := by kernel_rfl
noncomputable def nRMul : SpecF := fspec (α := Num × RP × Unit) (fun a => some (Lh a.1.n ∧ Lh a.2.1.x ∧ Lh a.2.1.y ∧ Lh a.2.1.z)) (fun a => rMulAcc a.1.n a.2.1 (bitsN a.1.n))
end Go.Proofs.YtigkddloeikpbaaGreatDoor.E10
/- The reference of layer 10: multiples of points: what the function comes to is so. -/
set_option maxRecDepth 10000
namespace Go.Proofs.YtigkddloeikpbaaGreatDoor.E10
open Go.Sym Go.Dig R1 F4

structure LhP (p : RP) : Prop where
  x : Lh p.x
  y : Lh p.y
  z : Lh p.z
theorem lhM (a b : Nat) : Lh (mM a b) := lhMod _
theorem rAdd_lh (p q : RP) (d : Nat) : LhP (rAdd p q d) := ⟨lhM _ _, lhM _ _, lhM _ _⟩
theorem rMulAcc_lh (n : Nat) (p : RP) : ∀ c, LhP (rMulAcc n p c)
  | 0 => ⟨lhS (show (0 : Nat) < 16777216 by decide), lhS (show (1 : Nat) < 16777216 by decide), lhS (show (1 : Nat) < 16777216 by decide)⟩
  | c + 1 => by
    rw [rMulAcc]
    split
    · exact rAdd_lh _ _ _
    · exact rAdd_lh _ _ _
theorem rD_lh : Lh rD := by rw [rD_eq]; exact lhMod _
theorem ok_RMul : SpecOK Tryz.prog 8 nRMul := by
  refine fn_okL (by kernel_rfl) tt_ok spK3_ok 3 Tryz.func8 (by decide +kernel) (by kernel_rfl) ?_
  rintro ⟨⟨n⟩, p, _⟩ ⟨hn, hx, hy, hz⟩
  simp only at hn hx hy hz
  refine ⟨[], _, fun x => x = (rMulAcc n p (bitsN n)).sv, LnVD.of (vcRMul n p (rMulAcc n p) _) ?_, svf⟩
  have key : ∀ k, (dg n).length ≤ k → bitsN n ≤ 24 * k := fun k hk => by
    apply Nat.le_of_not_lt
    intro h
    have h1 := bitsN_gt.1 h
    have h2 := Nat.lt_of_lt_of_le (lt_of_dg_length n) (Nat.pow_le_pow_right (show 0 < 16777216 by omega) hk)
    rw [show (16777216 : Nat) = 2 ^ 24 from rfl, ← Nat.pow_mul] at h2
    omega
  have hbits : bitsN n ≤ 24 * 524287 := key _ hn
  rw [wr (x := (bitsN n : Int) - 1) (by omega)]
  refine ⟨hn.sm, ⟨rfl, by omega, by omega, ?_⟩, fun v out i ⟨e1, i0, i1, e2⟩ => ?_⟩
  · rw [show ((bitsN n : Int) - 1 - ((bitsN n : Int) - 1)).toNat = 0 by omega]; rfl
  · subst e1
    have ho : LhP out := by rw [e2]; exact rMulAcc_lh _ _ _
    rw [bcase_dec]
    refine ⟨fun hi => ?_, fun hi => ?_⟩
    · rw [wr (x := i - 1) (by omega)]
      have hc : ((bitsN n : Int) - 1 - (i - 1)).toNat = ((bitsN n : Int) - 1 - i).toNat + 1 := by omega
      have hk : bitsN n - 1 - ((bitsN n : Int) - 1 - i).toNat = i.toNat := by omega
      have step : rMulAcc n v ((bitsN n : Int) - 1 - (i - 1)).toNat = if n / 2 ^ i.toNat % 2 = 1 then rAdd (rAdd out out rD) v rD else rAdd out out rD := by
        rw [hc, rMulAcc, hk, e2]
      have hs := rAdd_lh out out rD
      refine ⟨⟨⟨ho.x, ho.y, ho.z⟩, ⟨ho.x, ho.y, ho.z⟩, rD_lh⟩, ⟨hn.sm, hi, by omega⟩, ?_⟩
      rw [bcase_iff]
      refine ⟨fun hb => ⟨⟨⟨hs.x, hs.y, hs.z⟩, ⟨hx, hy, hz⟩, rD_lh⟩, rfl, ⟨rfl, by omega, by omega, ?_⟩, by omega⟩, fun hb => ⟨rfl, ⟨rfl, by omega, by omega, ?_⟩, by omega⟩⟩
      · have hb' := eq_of_beq hb
        rw [step, if_pos (by omega)]
      · have hb' : ¬ n / 2 ^ i.toNat % 2 = 1 := fun h => by
          rw [h] at hb
          simp at hb
        rw [step, if_neg hb']
    · show out.sv = _
      rw [e2, show ((bitsN n : Int) - 1 - i).toNat = bitsN n by omega]
end Go.Proofs.YtigkddloeikpbaaGreatDoor.E10
/- Multiples of points: what combo's functions and the reference's come to is the group's. -/
set_option maxRecDepth 100000
namespace Go.Proofs.YtigkddloeikpbaaGreatDoor.C11
open Go.Sym Go.Dig R1 F4 E10 Go.Alg

noncomputable abbrev G := EE.grp
theorem Rp_add {p q : Pt} {P Q : EPt} (h : Rp p P) (k : Rp q Q) : Rp (oAdd p q) (G.add P Q) := by rw [oAdd_eq]; exact h.add k
theorem Rp_dbl {p : Pt} {P : EPt} (h : Rp p P) : Rp (oDbl p) (G.mul 2 P) := by rw [oDbl_eq, Grp.mul_two]; exact h.double
theorem Rp_eight {p : Pt} {P : EPt} (h : Rp p P) : Rp (oEight p) (G.mul 8 P) := by rw [oEight_eq]; exact h.eight
theorem Rp_sixteen {p : Pt} {P : EPt} (h : Rp p P) : Rp (oDbl (oEight p)) (G.mul 16 P) := by
  have := Rp_dbl (Rp_eight h)
  rw [← Grp.mul_mul] at this
  exact this
theorem Rp_tab {p : Pt} {P : EPt} (h : Rp p P) : ∀ n, Rp (tabF p n) (G.mul n P)
  | 0 => Rp.zero
  | n + 1 => Rp_add (Rp_tab h n) h
/-- One nibble on. -/
theorem nib_step (n c : Nat) (hc : c < 64) : n / 2 ^ (256 - 4 * (c + 1)) = n / 2 ^ (256 - 4 * c) * 16 + n / 2 ^ (252 - 4 * c) % 16 := by
  rw [show 256 - 4 * (c + 1) = 252 - 4 * c by omega, show 256 - 4 * c = 252 - 4 * c + 4 by omega, Nat.pow_add, ← Nat.div_div_eq_div_mul]
  generalize n / 2 ^ (252 - 4 * c) = x
  rw [show (2 : Nat) ^ 4 = 16 from rfl]
  omega
theorem lt256 (k : Four) : nat4 k < 2 ^ 256 := by
  have := nat4_lt k
  rw [show (2 : Nat) ^ 256 = 115792089237316195423570985008687907853269984665640564039457584007913129639936 by decide +kernel]
  exact this
theorem Rp_acc {k : Four} {p : Pt} {P : EPt} (h : Rp p P) : ∀ c, c ≤ 64 → Rp (mulAcc k p c) (G.mul (nat4 k / 2 ^ (256 - 4 * c)) P)
  | 0, _ => by
    rw [Nat.mul_zero, Nat.sub_zero, Nat.div_eq_of_lt (lt256 k)]
    exact Rp.zero
  | c + 1, hc => by
    have ih := Rp_acc (k := k) h c (by omega)
    rw [nib_step _ c (by omega), Grp.mul_add, Grp.mul_mul]
    exact Rp_add (Rp_sixteen ih) (Rp_tab h _)
theorem Rp_mul (k : Four) {p : Pt} {P : EPt} (h : Rp p P) : Rp (oMul k p) (G.mul (nat4 k) P) := by
  have := Rp_acc (k := k) h 64 (by omega)
  rw [oMul_eq]
  rw [show 256 - 4 * 64 = 0 from rfl, Nat.pow_zero, Nat.div_one] at this
  exact this
theorem Rp_bacc {a b : Four} {p q : Pt} {P Q : EPt} (h : Rp p P) (h' : Rp q Q) : ∀ c, c ≤ 64 → Rp (bothAcc a p b q c) (G.add (G.mul (nat4 a / 2 ^ (256 - 4 * c)) P) (G.mul (nat4 b / 2 ^ (256 - 4 * c)) Q))
  | 0, _ => by
    rw [Nat.mul_zero, Nat.sub_zero, Nat.div_eq_of_lt (lt256 a), Nat.div_eq_of_lt (lt256 b), Grp.mul_zero, Grp.mul_zero, Grp.zadd]
    exact Rp.zero
  | c + 1, hc => by
    have ih := Rp_bacc (a := a) (b := b) h h' c (by omega)
    rw [nib_step _ c (by omega), nib_step _ c (by omega), Grp.mul_add, Grp.mul_mul, Grp.mul_add, Grp.mul_mul, Grp.swap, ← Grp.mul_sum, ← Grp.assoc]
    exact Rp_add (Rp_add (Rp_sixteen ih) (Rp_tab h _)) (Rp_tab h' _)
theorem Rp_both (a b : Four) {p q : Pt} {P Q : EPt} (h : Rp p P) (h' : Rp q Q) : Rp (oBoth a p b q) (G.add (G.mul (nat4 a) P) (G.mul (nat4 b) Q)) := by
  have := Rp_bacc (a := a) (b := b) h h' 64 (by omega)
  rw [oBoth_eq]
  rw [show 256 - 4 * 64 = 0 from rfl, Nat.pow_zero, Nat.div_one, Nat.div_one] at this
  exact this
theorem bit_step (n N c : Nat) (hc : c < N) : n / 2 ^ (N - (c + 1)) = n / 2 ^ (N - c) * 2 + n / 2 ^ (N - 1 - c) % 2 := by
  rw [show N - (c + 1) = N - 1 - c by omega, show N - c = N - 1 - c + 1 by omega, Nat.pow_succ, ← Nat.div_div_eq_div_mul]
  generalize n / 2 ^ (N - 1 - c) = x
  omega
theorem RRp_acc {n : Nat} {r : RP} {P : EPt} (h : RRp r P) (hn : n < 2 ^ bitsN n) : ∀ c, c ≤ bitsN n → RRp (rMulAcc n r c) (G.mul (n / 2 ^ (bitsN n - c)) P)
  | 0, _ => by
    rw [Nat.sub_zero, Nat.div_eq_of_lt hn]
    exact RRp.zero
  | c + 1, hc => by
    have ih := RRp_acc h hn c (by omega)
    have two := ih.add ih
    have e2 : EE.add (G.mul (n / 2 ^ (bitsN n - c)) P) (G.mul (n / 2 ^ (bitsN n - c)) P) = G.mul (n / 2 ^ (bitsN n - c) * 2) P := by
      rw [Grp.mul_mul, Grp.mul_two]; rfl
    rw [e2] at two
    rw [bit_step _ _ c (by omega), rMulAcc]
    have hm := Nat.mod_lt (n / 2 ^ (bitsN n - 1 - c)) (show 0 < 2 by omega)
    split
    · rename_i hb
      rw [hb, Grp.mul_succ]
      exact two.add h
    · rename_i hb
      rw [show n / 2 ^ (bitsN n - 1 - c) % 2 = 0 by omega]
      exact two
theorem RRp_mul (n : Nat) {r : RP} {P : EPt} (h : RRp r P) : RRp (rMulAcc n r (bitsN n)) (G.mul n P) := by
  have hn : n < 2 ^ bitsN n := by
    apply Nat.lt_of_not_le
    intro h
    have := bitsN_gt.2 h
    omega
  have := RRp_acc h hn (bitsN n) (Nat.le_refl _)
  rw [Nat.sub_self, Nat.pow_zero, Nat.div_one] at this
  exact this
end Go.Proofs.YtigkddloeikpbaaGreatDoor.C11
/- Layer 13: messages as numbers and points: what is said of the functions. -/
set_option maxRecDepth 10000
namespace Go.Proofs.YtigkddloeikpbaaGreatDoor.E10
open Go.Sym Go.Dig R1 F4 H6 H9 C11
theorem wl_ex : ∃ f : List UInt8 → Five, f = fWideL := ⟨_, rfl⟩
noncomputable def wideO : List UInt8 → Five := Classical.choose wl_ex
theorem wideO_eq : wideO = fWideL := Classical.choose_spec wl_ex
noncomputable def sWideO : SpecF := fspec (α := List UInt8 × Unit) (β := Five × Bool × Unit) (fun a => some (a.1.length ≤ 64)) (fun a => (wideO a.1, true, ()))
theorem ok_WideO : SpecOK Tryz.prog 23 sWideO := by
  refine fspec_weaken ok_fWide id (fun _ _ _ _ h => h) (fun _ => rfl) (fun _ _ => trivial) (fun a h at_ w v r => ?_)
  have h' : a.1.length ≤ 64 := h
  have e : fWideF (id a).1 = (wideO a.1, true) := by unfold fWideF; rw [wideO_eq]; exact if_pos h'
  rw [e] at r
  exact r
noncomputable def sExpO (b : Bool) : SpecF := cond b sExpG sExpB
noncomputable def spHa (b : Bool) : Specs := [(22, cond b sExpG sExpB), (23, sWideO)]
noncomputable def hashE (msg tag : List UInt8) : Five := wideO (expV msg tag 48)
noncomputable def hash0 (msg tag : List UInt8) : Five × Int := if tag.length ≤ 255 then (hashE msg tag, 0) else (zeroF, 2)
theorem hash_ex : ∃ f : List UInt8 → List UInt8 → Five × Int, f = hash0 := ⟨_, rfl⟩
noncomputable def hashV : List UInt8 → List UInt8 → Five × Int := Classical.choose hash_ex
theorem hashV_eq : hashV = hash0 := Classical.choose_spec hash_ex
noncomputable def sHashE : SpecF := fspec (α := List UInt8 × List UInt8 × Unit) (β := Five × Int × Unit) (fun a => some (a.1.length ≤ 1000000)) (fun a => ((hashV a.1 a.2.1).1, (hashV a.1 a.2.1).2, ()))
/-! By cases. -/
noncomputable def sHashG : SpecF := fspec (α := List UInt8 × List UInt8 × Unit) (β := Five × Int × Unit) (fun a => some (a.1.length ≤ 1000000 ∧ a.2.1.length ≤ 255)) (fun a => ((hashV a.1 a.2.1).1, 0, ()))
noncomputable def sHashB : SpecF := fspec (α := List UInt8 × List UInt8 × Unit) (β := Five × Int × Unit) (fun a => some (a.1.length ≤ 1000000 ∧ ¬ a.2.1.length ≤ 255)) (fun _ => (zeroF, 2, ()))
theorem mp_ex : ∃ f : Five → Pt, f = fun u => oEight (mapV u) := ⟨_, rfl⟩
noncomputable def encE : Five → Pt := Classical.choose mp_ex
theorem encE_eq : encE = fun u => oEight (mapV u) := Classical.choose_spec mp_ex
noncomputable def spEn (b : Bool) : Specs := [(5, cond b sHashG sHashB), (18, sMapE), (24, sOEight)]
noncomputable def sEncG : SpecF := fspec (α := List UInt8 × List UInt8 × Unit) (β := Pt × Int × Unit) (fun a => some (a.1.length ≤ 1000000 ∧ a.2.1.length ≤ 255)) (fun a => (encE (hashV a.1 a.2.1).1, 0, ()))
abbrev zeroP : Pt := ⟨zeroF, zeroF, zeroF, zeroF⟩
noncomputable def sEncB : SpecF := fspec (α := List UInt8 × List UInt8 × Unit) (β := Pt × Int × Unit) (fun a => some (a.1.length ≤ 1000000 ∧ ¬ a.2.1.length ≤ 255)) (fun _ => (zeroP, 2, ()))
/-! The reference. -/
noncomputable def hashN (msg tag : List UInt8) : Nat := bev (expV msg tag 48) % pV
noncomputable def spHR : Specs := [(27, sRExp), (26, R1.sBig), (25, nFMod)]
noncomputable def sHashR : SpecF := fspec (α := List UInt8 × List UInt8 × Unit) (β := Num) (fun a => some (a.1.length ≤ 1000000 ∧ a.2.1.length ≤ 255)) (fun a => ⟨hashN a.1 a.2.1⟩)
/-! The law. -/
theorem rmo_ex : ∃ f : Nat → RP → RP, f = fun n r => rMulAcc n r (bitsN n) := ⟨_, rfl⟩
noncomputable def rMulO : Nat → RP → RP := Classical.choose rmo_ex
theorem rMulO_eq : rMulO = fun n r => rMulAcc n r (bitsN n) := Classical.choose_spec rmo_ex
noncomputable def nRMulO : SpecF := fspec (α := Num × RP × Unit) (fun a => some (Lh a.1.n ∧ Lh a.2.1.x ∧ Lh a.2.1.y ∧ Lh a.2.1.z)) (fun a => rMulO a.1.n a.2.1)
theorem ok_RMulO : SpecOK Tryz.prog 8 nRMulO := by
  unfold nRMulO
  rw [rMulO_eq]
  exact ok_RMul
theorem hn_ex : ∃ f : List UInt8 → List UInt8 → Nat, f = hashN := ⟨_, rfl⟩
noncomputable def hashNO : List UInt8 → List UInt8 → Nat := Classical.choose hn_ex
theorem hashNO_eq : hashNO = hashN := Classical.choose_spec hn_ex
noncomputable def sHashRO : SpecF := fspec (α := List UInt8 × List UInt8 × Unit) (β := Num) (fun a => some (a.1.length ≤ 1000000 ∧ a.2.1.length ≤ 255)) (fun a => ⟨hashNO a.1 a.2.1⟩)
noncomputable def spHL (b : Bool) : Specs := (4, sAw13) :: (5, cond b sHashG sHashB) :: (6, cond b sEncG sEncB) :: (7, sHashRO) :: (8, nRMulO) :: (9, nMapR) :: (spE4 ++ spK4)
end Go.Proofs.YtigkddloeikpbaaGreatDoor.E10
/- Layer 13: messages as numbers and points: what the bodies come to. -/
set_option maxRecDepth 10000
namespace Go.Proofs.YtigkddloeikpbaaGreatDoor.E10
open Go.Sym Go.Dig R1 F4 H6 H9 C11
--STOP expV, exOk, wideO, hashV, mapV, encE, zeroF, oEight, bev, pV, Tame, hashNO, rMulO, mapN, R1.Sm, Lm, Lh, eBytes, rBytes, V
theorem vcHashG (msg tag : List UInt8) (Q : SV → Prop) : LnRaw tt (spHa true) 9 [] {} Tryz.f5 Q (msg, tag, ()) =
 (((List.length msg ≤ (1000000 : Nat)) ∧
 (exOk tag (48 : Int))) ∧
 ((List.length (expV msg tag (48 : Int)) ≤ (64 : Nat)) ∧
 (Q
 (SV.tup
 [SV.agg
 [SV.u64 (Five.x0 (wideO (expV msg tag (48 : Int)))), SV.u64 (Five.x1 (wideO (expV msg tag (48 : Int)))),
 SV.u64 (Five.x2 (wideO (expV msg tag (48 : Int)))), SV.u64 (Five.x3 (wideO (expV msg tag (48 : Int)))),
 SV.u64 (Five.x4 (wideO (expV msg tag (48 : Int))))],
 SV.i64 (0 : Int)])))) := by kernel_rfl
theorem vcHashB (msg tag : List UInt8) (Q : SV → Prop) : LnRaw tt (spHa false) 9 [] {} Tryz.f5 Q (msg, tag, ()) =
 (((List.length msg ≤ (1000000 : Nat)) ∧
 (¬exOk tag (48 : Int))) ∧
 (Q
 (SV.tup
 [SV.agg
 [SV.u64 (UInt64.ofNat (Int.toNat (0 : Int))), SV.u64 (UInt64.ofNat (Int.toNat (0 : Int))),
 SV.u64 (UInt64.ofNat (Int.toNat (0 : Int))), SV.u64 (UInt64.ofNat (Int.toNat (0 : Int))),
 SV.u64 (UInt64.ofNat (Int.toNat (0 : Int)))],
 SV.i64 (2 : Int)]))) := by kernel_rfl
theorem vcEncG (msg tag : List UInt8) (Q : SV → Prop) : LnRaw tt (spEn true) 9 [] {} Tryz.f6 Q (msg, tag, ()) =
 (((List.length msg ≤ (1000000 : Nat)) ∧
 (List.length tag ≤ (255 : Nat))) ∧
 ((Tame (Prod.fst (hashV msg tag))) ∧
 (Q
 (SV.tup
 [SV.agg
 [SV.u64 (Five.x0 (Pt.x (oEight (mapV (Prod.fst (hashV msg tag)))))),
 SV.u64 (Five.x1 (Pt.x (oEight (mapV (Prod.fst (hashV msg tag)))))),
 SV.u64 (Five.x2 (Pt.x (oEight (mapV (Prod.fst (hashV msg tag)))))),
 SV.u64 (Five.x3 (Pt.x (oEight (mapV (Prod.fst (hashV msg tag)))))),
 SV.u64 (Five.x4 (Pt.x (oEight (mapV (Prod.fst (hashV msg tag)))))),
 SV.u64 (Five.x0 (Pt.y (oEight (mapV (Prod.fst (hashV msg tag)))))),
 SV.u64 (Five.x1 (Pt.y (oEight (mapV (Prod.fst (hashV msg tag)))))),
 SV.u64 (Five.x2 (Pt.y (oEight (mapV (Prod.fst (hashV msg tag)))))),
 SV.u64 (Five.x3 (Pt.y (oEight (mapV (Prod.fst (hashV msg tag)))))),
 SV.u64 (Five.x4 (Pt.y (oEight (mapV (Prod.fst (hashV msg tag)))))),
 SV.u64 (Five.x0 (Pt.z (oEight (mapV (Prod.fst (hashV msg tag)))))),
 SV.u64 (Five.x1 (Pt.z (oEight (mapV (Prod.fst (hashV msg tag)))))),
 SV.u64 (Five.x2 (Pt.z (oEight (mapV (Prod.fst (hashV msg tag)))))),
 SV.u64 (Five.x3 (Pt.z (oEight (mapV (Prod.fst (hashV msg tag)))))),
 SV.u64 (Five.x4 (Pt.z (oEight (mapV (Prod.fst (hashV msg tag)))))),
 SV.u64 (Five.x0 (Pt.t (oEight (mapV (Prod.fst (hashV msg tag)))))),
 SV.u64 (Five.x1 (Pt.t (oEight (mapV (Prod.fst (hashV msg tag)))))),
 SV.u64 (Five.x2 (Pt.t (oEight (mapV (Prod.fst (hashV msg tag)))))),
 SV.u64 (Five.x3 (Pt.t (oEight (mapV (Prod.fst (hashV msg tag)))))),
 SV.u64 (Five.x4 (Pt.t (oEight (mapV (Prod.fst (hashV msg tag))))))],
 SV.i64 (0 : Int)])))) := by kernel_rfl
theorem vcEncB (msg tag : List UInt8) (Q : SV → Prop) : LnRaw tt (spEn false) 9 [] {} Tryz.f6 Q (msg, tag, ()) =
 (((List.length msg ≤ (1000000 : Nat)) ∧
 (¬List.length tag ≤ (255 : Nat))) ∧
 (Q
 (SV.tup
 [SV.agg
 [SV.u64 (UInt64.ofNat (Int.toNat (0 : Int))), SV.u64 (UInt64.ofNat (Int.toNat (0 : Int))),
 SV.u64 (UInt64.ofNat (Int.toNat (0 : Int))), SV.u64 (UInt64.ofNat (Int.toNat (0 : Int))),
 SV.u64 (UInt64.ofNat (Int.toNat (0 : Int))), SV.u64 (UInt64.ofNat (Int.toNat (0 : Int))),
 SV.u64 (UInt64.ofNat (Int.toNat (0 : Int))), SV.u64 (UInt64.ofNat (Int.toNat (0 : Int))),
 SV.u64 (UInt64.ofNat (Int.toNat (0 : Int))), SV.u64 (UInt64.ofNat (Int.toNat (0 : Int))),
 SV.u64 (UInt64.ofNat (Int.toNat (0 : Int))), SV.u64 (UInt64.ofNat (Int.toNat (0 : Int))),
 SV.u64 (UInt64.ofNat (Int.toNat (0 : Int))), SV.u64 (UInt64.ofNat (Int.toNat (0 : Int))),
 SV.u64 (UInt64.ofNat (Int.toNat (0 : Int))), SV.u64 (UInt64.ofNat (Int.toNat (0 : Int))),
 SV.u64 (UInt64.ofNat (Int.toNat (0 : Int))), SV.u64 (UInt64.ofNat (Int.toNat (0 : Int))),
 SV.u64 (UInt64.ofNat (Int.toNat (0 : Int))), SV.u64 (UInt64.ofNat (Int.toNat (0 : Int)))],
 SV.i64 (2 : Int)]))) := by kernel_rfl
end Go.Proofs.YtigkddloeikpbaaGreatDoor.E10
/- Layer 13: messages as numbers and points: the bodies hold. -/
set_option maxRecDepth 10000
namespace Go.Proofs.YtigkddloeikpbaaGreatDoor.E10
open Go.Sym Go.Dig R1 F4 H6 H9 C11 Go.Alg
theorem spHa_ok (b : Bool) : SpecsOK Tryz.prog (spHa b) := by
  cases b
  · exact .cons ok_ExpB <| .cons ok_WideO (.nil _)
  · exact .cons ok_ExpG <| .cons ok_WideO (.nil _)
theorem exp48 {msg tag : List UInt8} : (expV msg tag 48).length = 48 := expV_len (by decide)
theorem ok_HashE : SpecOK Tryz.prog 5 sHashE := by
  unfold sHashE
  rw [hashV_eq]
  refine fn_okS (by kernel_rfl) tt_ok 9 Tryz.func5 (by decide +kernel) (by kernel_rfl) ?_
  rintro ⟨msg, tag, _⟩ hm
  replace hm : msg.length ≤ 1000000 := hm
  show ∃ sp, SpecsOK Tryz.prog sp ∧ ∃ D L, ∃ Q : SV → Prop, LnVD tt sp 9 D L _ Q (msg, tag, ()) ∧ ∀ z, Q z → ∀ (at_ : At) (w : World) (v : Value), Rel at_ w z v → Rel at_ w (retSV (RetL.retL ((hash0 msg tag).1, (hash0 msg tag).2, ()))) v
  by_cases ht : tag.length ≤ 255
  · have e : hash0 msg tag = (hashE msg tag, 0) := by unfold hash0; rw [if_pos ht]
    rw [e]
    refine ⟨spHa true, spHa_ok true, [], {}, fun x => x = _, LnVD.of (vcHashG msg tag _) ?_, F4.svf⟩
    exact ⟨⟨hm, by decide, by decide, ht⟩, by rw [exp48]; decide, rfl⟩
  · have e : hash0 msg tag = (zeroF, 2) := by unfold hash0; rw [if_neg ht]
    rw [e]
    refine ⟨spHa false, spHa_ok false, [], {}, fun x => x = _, LnVD.of (vcHashB msg tag _) ?_, F4.svf⟩
    exact ⟨⟨hm, fun h => ht h.2.2⟩, rfl⟩
theorem ok_HashG : SpecOK Tryz.prog 5 sHashG := fspec_weaken ok_HashE id (fun _ _ _ _ h => h) (fun ⟨_, _, _⟩ => rfl) (fun a h => by have h' : _ ∧ _ := h; exact h'.1) (fun a h at_ w v r => by
  have h' : _ ∧ a.2.1.length ≤ 255 := h
  have e : (hashV a.1 a.2.1).2 = 0 := by rw [hashV_eq]; unfold hash0; rw [if_pos h'.2]
  simp only [id, e] at r
  exact r)
theorem ok_HashB : SpecOK Tryz.prog 5 sHashB := fspec_weaken ok_HashE id (fun _ _ _ _ h => h) (fun ⟨_, _, _⟩ => rfl) (fun a h => by have h' : _ ∧ _ := h; exact h'.1) (fun a h at_ w v r => by
  have h' : _ ∧ ¬ a.2.1.length ≤ 255 := h
  have e : hashV a.1 a.2.1 = (zeroF, 2) := by rw [hashV_eq]; unfold hash0; rw [if_neg h'.2]
  simp only [id, e] at r
  exact r)
theorem hash_val {msg tag : List UInt8} (ht : tag.length ≤ 255) : Tame (hashV msg tag).1 ∧ V (hashV msg tag).1 % pV = hashNO msg tag := by
  have e : (hashV msg tag).1 = fWideL (expV msg tag 48) := by rw [hashV_eq]; unfold hash0; rw [if_pos ht]; show wideO _ = _; rw [wideO_eq]
  rw [e]
  obtain ⟨t1, t2⟩ := wide_ok (expV msg tag 48)
  refine ⟨t1, ?_⟩
  rw [Nof, t2, hashNO_eq]
  unfold hashN
  rw [pV_eq]
theorem spEn_ok (b : Bool) : SpecsOK Tryz.prog (spEn b) := by
  cases b
  · exact .cons ok_HashB <| .cons ok_MapE <| .cons ok_oEight (.nil _)
  · exact .cons ok_HashG <| .cons ok_MapE <| .cons ok_oEight (.nil _)
theorem ok_EncG : SpecOK Tryz.prog 6 sEncG := by
  unfold sEncG
  rw [encE_eq]
  refine fn_okL (by kernel_rfl) tt_ok (spEn_ok true) 9 Tryz.func6 (by decide +kernel) (by kernel_rfl) ?_
  rintro ⟨msg, tag, _⟩ ⟨hm, ht⟩
  refine ⟨[], {}, fun x => x = _, LnVD.of (vcEncG msg tag _) ⟨⟨hm, ht⟩, (hash_val ht).1, rfl⟩, F4.svf⟩
theorem ok_EncB : SpecOK Tryz.prog 6 sEncB := by
  refine fn_okL (by kernel_rfl) tt_ok (spEn_ok false) 9 Tryz.func6 (by decide +kernel) (by kernel_rfl) ?_
  rintro ⟨msg, tag, _⟩ ⟨hm, ht⟩
  refine ⟨[], {}, fun x => x = _, LnVD.of (vcEncB msg tag _) ⟨⟨hm, ht⟩, rfl⟩, F4.svf⟩
end Go.Proofs.YtigkddloeikpbaaGreatDoor.E10
/- Layer 13: messages as numbers and points: what the bodies come to. -/
set_option maxRecDepth 10000
namespace Go.Proofs.YtigkddloeikpbaaGreatDoor.E10
open Go.Sym Go.Dig R1 F4 H6 H9 C11
--STOP expV, exOk, wideO, hashV, mapV, encE, zeroF, oEight, bev, pV, Tame, hashNO, rMulO, mapN, R1.Sm, Lm, Lh, eBytes, rBytes, V
theorem vcHashR (msg tag : List UInt8) (Q : SV → Prop) : LnRaw tt spHR 9 [] {} Tryz.f7 Q (msg, tag, ()) =
 (((List.length msg ≤ (1000000 : Nat)) ∧
 ((List.length tag ≤ (1000000 : Nat)) ∧
 (((0 : Int) ≤ (48 : Int)) ∧
 ((48 : Int) ≤ (16320 : Int))))) ∧
 ((List.length (expV msg tag (48 : Int)) ≤ (1048576 : Nat)) ∧
 ((Lh (bev (expV msg tag (48 : Int)))) ∧
 (Q (SV.lst (LV.num (bev (expV msg tag (48 : Int)) % pV))))))) := by kernel_rfl
end Go.Proofs.YtigkddloeikpbaaGreatDoor.E10
/- Layer 13: the reference's numbers of messages hold. -/
set_option maxRecDepth 10000
namespace Go.Proofs.YtigkddloeikpbaaGreatDoor.E10
open Go.Sym Go.Dig R1 F4 H6 H9 C11 Go.Alg
theorem lh_bytes {b : List UInt8} (k : Nat) (h : 8 * b.length ≤ 24 * k) (hk : k ≤ 524287) : Lh (bev b) := Nat.le_trans (dlen k (Nat.lt_of_lt_of_le (bev_lt b) (Nat.pow_le_pow_right (by decide) h))) hk
theorem spHR_ok : SpecsOK Tryz.prog spHR := .cons ok_RExp <| .cons R1.ok_Big <| .cons ok_ModF (.nil _)
theorem ok_HashRO : SpecOK Tryz.prog 7 sHashRO := by
  unfold sHashRO
  rw [hashNO_eq]
  refine fn_okL (by kernel_rfl) tt_ok spHR_ok 9 Tryz.func7 (by decide +kernel) (by kernel_rfl) ?_
  rintro ⟨msg, tag, _⟩ ⟨hm, ht⟩
  replace hm : msg.length ≤ 1000000 := hm
  replace ht : tag.length ≤ 255 := ht
  refine ⟨[], {}, fun x => x = _, LnVD.of (vcHashR msg tag _) ?_, F4.svf⟩
  have hb : Lh (bev (expV msg tag 48)) := lh_bytes 16 (by rw [exp48]; decide) (by decide)
  exact ⟨⟨hm, by omega, by decide, by decide⟩, by rw [exp48]; decide, hb, rfl⟩
end Go.Proofs.YtigkddloeikpbaaGreatDoor.E10
/- Layer 13: the law of messages: what the body comes to. -/
set_option maxRecDepth 10000
namespace Go.Proofs.YtigkddloeikpbaaGreatDoor.E10
open Go.Sym Go.Dig R1 F4 H6 H9 C11
--STOP smallV, hashV, mapV, encE, zeroF, oEight, pV, Tame, hashNO, rMulO, mapN, R1.Sm, Lm, Lh, eBytes, rBytes, V
theorem vcHLB (msg tag : List UInt8) (Q : SV → Prop) : LnRaw tt (spHL false) 9 [(7, 2, .b true)] {} Tryz.f3 Q (msg, tag, ()) =
 bcase (decide ((↑(List.length msg) : Int) > (500 : Int)))
 ((Q (SV.bool true)))
 (bcase (decide ((↑(List.length tag) : Int) > (600 : Int)))
 ((Q (SV.bool true)))
 ((((List.length msg ≤ (1000000 : Nat)) ∧
 (¬List.length tag ≤ (255 : Nat))) ∧
 (((List.length msg ≤ (1000000 : Nat)) ∧
 (¬List.length tag ≤ (255 : Nat))) ∧
 ((decide ((↑(List.length tag) : Int) > (255 : Int)) = true) ∧
 (Q
 (SV.bool
 (Five.x0 zeroF == UInt64.ofNat (Int.toNat (0 : Int)) &&
 (Five.x1 zeroF == UInt64.ofNat (Int.toNat (0 : Int)) &&
 (Five.x2 zeroF == UInt64.ofNat (Int.toNat (0 : Int)) &&
 (Five.x3 zeroF == UInt64.ofNat (Int.toNat (0 : Int)) &&
 (Five.x4 zeroF == UInt64.ofNat (Int.toNat (0 : Int)) && true)))))))))))) := by kernel_rfl
theorem vcHLG (msg tag : List UInt8) (Q : SV → Prop) : LnRaw tt (spHL true) 9 [(7, 2, .b false), (11, 11, .b true), (11, 18, .b true)] {} Tryz.f3 Q (msg, tag, ()) =
 bcase (decide ((↑(List.length msg) : Int) > (500 : Int)))
 ((Q (SV.bool true)))
 (bcase (decide ((↑(List.length tag) : Int) > (600 : Int)))
 ((Q (SV.bool true)))
 ((((List.length msg ≤ (1000000 : Nat)) ∧
 (List.length tag ≤ (255 : Nat))) ∧
 (((List.length msg ≤ (1000000 : Nat)) ∧
 (List.length tag ≤ (255 : Nat))) ∧
 ((decide ((↑(List.length tag) : Int) > (255 : Int)) = false) ∧
 (((List.length msg ≤ (1000000 : Nat)) ∧
 (List.length tag ≤ (255 : Nat))) ∧
 ((hashNO msg tag < pV) ∧
 (((Lh (Int.toNat (8 : Int))) ∧
 ((Lh (RP.x (mapN (hashNO msg tag)))) ∧
 ((Lh (RP.y (mapN (hashNO msg tag)))) ∧
 (Lh (RP.z (mapN (hashNO msg tag))))))) ∧
 (((Sm (V (Prod.fst (hashV msg tag)) % pV)) ∧
 (Sm (hashNO msg tag))) ∧
 (((cmpN (V (Prod.fst (hashV msg tag)) % pV) (hashNO msg tag) == (0 : Int)) = true) ∧
 (((Lh (RP.x (rMulO (Int.toNat (8 : Int)) (mapN (hashNO msg tag))))) ∧
 ((Lh (RP.y (rMulO (Int.toNat (8 : Int)) (mapN (hashNO msg tag))))) ∧
 (Lh (RP.z (rMulO (Int.toNat (8 : Int)) (mapN (hashNO msg tag))))))) ∧
 ((List.length
 (List.drop (0 : Nat)
 (List.take ((0 : Nat) + List.length (eBytes (encE (Prod.fst (hashV msg tag)))))
 (eBytes (encE (Prod.fst (hashV msg tag)))))) ≤
 (4294967296 : Nat)) ∧
 ((decide
 (List.drop (0 : Nat)
 (List.take ((0 : Nat) + List.length (eBytes (encE (Prod.fst (hashV msg tag)))))
 (eBytes (encE (Prod.fst (hashV msg tag))))) =
 rBytes (rMulO (Int.toNat (8 : Int)) (mapN (hashNO msg tag)))) =
 true) ∧
 (Q (SV.bool true))))))))))))))) := by kernel_rfl
end Go.Proofs.YtigkddloeikpbaaGreatDoor.E10
/- Layer 13: the law of messages holds. -/
set_option maxRecDepth 10000
namespace Go.Proofs.YtigkddloeikpbaaGreatDoor.E10
open Go.Sym Go.Dig R1 F4 H6 H9 C11 Go.Alg
theorem spHL_ok (b : Bool) : SpecsOK Tryz.prog (spHL b) := by
  cases b
  · exact .cons ok_Aw13 <| .cons ok_HashB <| .cons ok_EncB <| .cons ok_HashRO <| .cons ok_RMulO <| .cons ok_MapR <| SpecsOK.append spE4_ok spK4_ok
  · exact .cons ok_Aw13 <| .cons ok_HashG <| .cons ok_EncG <| .cons ok_HashRO <| .cons ok_RMulO <| .cons ok_MapR <| SpecsOK.append spE4_ok spK4_ok
abbrev sHLw : SpecF := fspec (α := List UInt8 × List UInt8 × Unit) total fun _ => true
theorem ok_HLw : SpecOK Tryz.prog 3 sHLw := by
  refine fn_okS (by kernel_rfl) tt_ok 9 Tryz.func3 (by decide +kernel) (by kernel_rfl) ?_
  rintro ⟨msg, tag, _⟩ _
  by_cases ht : tag.length ≤ 255
  · refine ⟨spHL true, spHL_ok true, _, {}, fun t => t = _, LnVD.of (vcHLG msg tag _) ?_, F4.svf⟩
    rw [bcase_dec]
    refine ⟨fun _ => rfl, fun hm => ?_⟩
    rw [bcase_dec]
    refine ⟨fun _ => rfl, fun _ => ?_⟩
    obtain ⟨ht1, ht2⟩ := hash_val (msg := msg) ht
    have hw : hashNO msg tag < pV := by rw [hashNO_eq]; exact Nat.mod_lt _ pV_pos
    have hfe : fE (hashV msg tag).1 = fe (hashNO msg tag) := by
      show fe (N5 _) = _
      rw [← Nof, ht2]
    have hr := mapN_ok (hashNO msg tag)
    have hm8 : RRp (rMulO (Int.toNat (8 : Int)) (mapN (hashNO msg tag))) (EE.grp.mul 8 (mMap (fe (hashNO msg tag)))) := by
      rw [rMulO_eq]
      exact RRp_mul 8 hr
    have hq : Rp (encE (hashV msg tag).1) (EE.grp.mul 8 (mMap (fe (hashNO msg tag)))) := by
      rw [encE_eq, ← hfe]
      exact Rp_eight (map_ok ht1)
    rw [fz, hq.bytes, hm8.bytes, ht2]
    exact ⟨⟨by omega, ht⟩, ⟨by omega, ht⟩, decide_eq_false (by omega), ⟨by omega, ht⟩, hw, ⟨lhS (by decide), hr.lh⟩, ⟨sm_lt hw, sm_lt hw⟩, by rw [R1.cmpN_eq]; rfl, hm8.lh, by rw [encP_len]; decide, decide_eq_true rfl, rfl⟩
  · refine ⟨spHL false, spHL_ok false, _, {}, fun t => t = _, LnVD.of (vcHLB msg tag _) ?_, F4.svf⟩
    rw [bcase_dec]
    refine ⟨fun _ => rfl, fun hm => ?_⟩
    rw [bcase_dec]
    refine ⟨fun _ => rfl, fun _ => ?_⟩
    exact ⟨⟨by omega, ht⟩, ⟨by omega, ht⟩, decide_eq_true (by omega), rfl⟩
end Go.Proofs.YtigkddloeikpbaaGreatDoor.E10
