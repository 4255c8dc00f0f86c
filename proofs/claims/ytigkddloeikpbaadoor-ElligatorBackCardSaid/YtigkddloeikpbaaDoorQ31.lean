/- A symbolic machine for Go functions, and what the functions that the law reaches come to: RefY, RefZ, ComE, HaA, HaB, HaC, HbA, HbB, HbC. -/
import Derived.Test.YtigkddloeikpbaaDoorQ20
import Derived.Test.YtigkddloeikpbaaDoorQ25
import Derived.Test.YtigkddloeikpbaaDoorQ30
import Derived.Test.YtigkddloeikpbaaDoorQ24
import Derived.Test.YtigkddloeikpbaaDoorQ16
import Derived.Test.YtigkddloeikpbaaDoorQ26
/- The reference of layer 10: multiples of points: what the function comes to. -/
set_option maxRecDepth 10000
namespace Go.Proofs.YtigkddloeikpbaaDoor.E10
open Go.Sym Go.Dig R1 F4
--STOP R1.Sm, Lm, Lh

/-- A loop's own point; one of noughts. -/
structure PRP where
  v : RP
def dRPC : List SV → Option RP
  | [.lst (.num x), .lst (.num y), .lst (.num z), .bool i] => some ⟨x, y, z, i⟩
  | _ => none
def RP.cells (p : RP) : List SV := [.lst (.num p.x), .lst (.num p.y), .lst (.num p.z), .bool p.is]
theorem dRPC_ok {cs : List SV} {p : RP} (h : dRPC cs = some p) : cs = p.cells := by
  unfold dRPC at h
  split at h
  · simp only [Option.some.injEq] at h; subst h; rfl
  · cases h
instance : LEnc PRP where
  kind := none
  enc nx a := (.ptr nx 0, [a.v.cells])
  dec nx s M := match s, M with
    | .ptr b 0, some cs :: M' => if b = nx then (dRPC cs).map fun r => (none, ⟨r⟩, M') else none
    | _, _ => none
  all P := ∀ v, P ⟨v⟩
  all_ok h a := h a.v
  ok := by
    intro nx s M p a M' h hp
    split at h
    · split at h
      · rename_i hb
        obtain ⟨r, h1, h2⟩ := Option.map_eq_some_iff.1 h
        simp only [Prod.mk.injEq] at h2
        obtain ⟨_, rfl, rfl⟩ := h2
        subst hb
        rw [dRPC_ok h1]
        exact ⟨rfl, fun r => r⟩
      · cases h
    · cases h
structure PNil where
  u : Unit
instance : LEnc PNil where
  kind := none
  enc nx _ := (.ptr nx 0, [[.val (.slice none 0 0), .val (.slice none 0 0), .val (.slice none 0 0), .bool false]])
  dec nx s M := match s, M with
    | .ptr b 0, some [.val (.slice none 0 0), .val (.slice none 0 0), .val (.slice none 0 0), .bool false] :: M' => if b = nx then some (none, ⟨()⟩, M') else none
    | _, _ => none
  all P := P ⟨()⟩
  all_ok h _ := h
  ok := by
    intro nx s M p a M' h hp
    split at h
    · split at h
      · rename_i hb
        simp only [Option.some.injEq, Prod.mk.injEq] at h
        obtain ⟨_, _, rfl⟩ := h
        subst hb
        exact ⟨rfl, fun r => r⟩
      · cases h
    · cases h
/-- A multiple, bit by bit from above. -/
noncomputable def rMulAcc (n : Nat) (p : RP) : Nat → RP
  | 0 => rZero
  | c + 1 => if n / 2 ^ (bitsN n - 1 - c) % 2 = 1 then rAdd (rAdd (rMulAcc n p c) (rMulAcc n p c) rD) p rD else rAdd (rMulAcc n p c) (rMulAcc n p c) rD
def iRMul (n : Nat) (p : RP) (acc : Nat → RP) (p' out : RP) (i : Int) : Prop := p' = p ∧ -1 ≤ i ∧ i < (bitsN n : Nat) ∧ out = acc ((bitsN n : Int) - 1 - i).toNat
def lRMul (n : Nat) (p : RP) (acc : Nat → RP) : Plan := { loops := [(0, { β := Num × Num × Unit, α := PRP × PNil × PRP × Int × Unit, same := [0, 5], keep := [3, 4, 6, 7], inv := fun _ _ x => iRMul n p acc x.1.v x.2.2.1.v x.2.2.2.1, meas := fun _ x => (x.2.2.2.1 + 1).toNat })] }
noncomputable def nRMul : SpecF := fspec (α := Num × RP × Unit) (fun a => some (Lh a.1.n ∧ Lh a.2.1.x ∧ Lh a.2.1.y ∧ Lh a.2.1.z)) (fun a => rMulAcc a.1.n a.2.1 (bitsN a.1.n))
end Go.Proofs.YtigkddloeikpbaaDoor.E10
/- The reference of layer 10: multiples of points: what the function comes to is so. -/
set_option maxRecDepth 10000
namespace Go.Proofs.YtigkddloeikpbaaDoor.E10
open Go.Sym Go.Dig R1 F4

structure LhP (p : RP) : Prop where
  x : Lh p.x
  y : Lh p.y
  z : Lh p.z
theorem lhM (a b : Nat) : Lh (mM a b) := lhMod _
theorem rAdd_lh (p q : RP) (d : Nat) : LhP (rAdd p q d) := ⟨lhM _ _, lhM _ _, lhM _ _⟩
theorem rMulAcc_lh (n : Nat) (p : RP) : ∀ c, LhP (rMulAcc n p c)
  | 0 => ⟨lhS (show (0 : Nat) < 16777216 by decide), lhS (show (1 : Nat) < 16777216 by decide), lhS (show (1 : Nat) < 16777216 by decide)⟩
  | c + 1 => by
    rw [rMulAcc]
    split
    · exact rAdd_lh _ _ _
    · exact rAdd_lh _ _ _
theorem rD_lh : Lh rD := by rw [rD_eq]; exact lhMod _
theorem ok_RMul : SpecOK Tryd.prog 1000000 Sym.sNo := Sym.sNo_ok _ _
end Go.Proofs.YtigkddloeikpbaaDoor.E10
/- Multiples of points: what combo's functions and the reference's come to is the group's. -/
set_option maxRecDepth 100000
namespace Go.Proofs.YtigkddloeikpbaaDoor.C11
open Go.Sym Go.Dig R1 F4 E10 Go.Alg

noncomputable abbrev G := EE.grp
theorem Rp_add {p q : Pt} {P Q : EPt} (h : Rp p P) (k : Rp q Q) : Rp (oAdd p q) (G.add P Q) := by rw [oAdd_eq]; exact h.add k
theorem Rp_dbl {p : Pt} {P : EPt} (h : Rp p P) : Rp (oDbl p) (G.mul 2 P) := by rw [oDbl_eq, Grp.mul_two]; exact h.double
theorem Rp_eight {p : Pt} {P : EPt} (h : Rp p P) : Rp (oEight p) (G.mul 8 P) := by rw [oEight_eq]; exact h.eight
theorem Rp_sixteen {p : Pt} {P : EPt} (h : Rp p P) : Rp (oDbl (oEight p)) (G.mul 16 P) := by
  have := Rp_dbl (Rp_eight h)
  rw [← Grp.mul_mul] at this
  exact this
theorem Rp_tab {p : Pt} {P : EPt} (h : Rp p P) : ∀ n, Rp (tabF p n) (G.mul n P)
  | 0 => Rp.zero
  | n + 1 => Rp_add (Rp_tab h n) h
/-- One nibble on. -/
theorem nib_step (n c : Nat) (hc : c < 64) : n / 2 ^ (256 - 4 * (c + 1)) = n / 2 ^ (256 - 4 * c) * 16 + n / 2 ^ (252 - 4 * c) % 16 := by
  rw [show 256 - 4 * (c + 1) = 252 - 4 * c by omega, show 256 - 4 * c = 252 - 4 * c + 4 by omega, Nat.pow_add, ← Nat.div_div_eq_div_mul]
  generalize n / 2 ^ (252 - 4 * c) = x
  rw [show (2 : Nat) ^ 4 = 16 from rfl]
  omega
theorem lt256 (k : Four) : nat4 k < 2 ^ 256 := by
  have := nat4_lt k
  rw [show (2 : Nat) ^ 256 = 115792089237316195423570985008687907853269984665640564039457584007913129639936 by decide +kernel]
  exact this
theorem Rp_acc {k : Four} {p : Pt} {P : EPt} (h : Rp p P) : ∀ c, c ≤ 64 → Rp (mulAcc k p c) (G.mul (nat4 k / 2 ^ (256 - 4 * c)) P)
  | 0, _ => by
    rw [Nat.mul_zero, Nat.sub_zero, Nat.div_eq_of_lt (lt256 k)]
    exact Rp.zero
  | c + 1, hc => by
    have ih := Rp_acc (k := k) h c (by omega)
    rw [nib_step _ c (by omega), Grp.mul_add, Grp.mul_mul]
    exact Rp_add (Rp_sixteen ih) (Rp_tab h _)
theorem Rp_mul (k : Four) {p : Pt} {P : EPt} (h : Rp p P) : Rp (oMul k p) (G.mul (nat4 k) P) := by
  have := Rp_acc (k := k) h 64 (by omega)
  rw [oMul_eq]
  rw [show 256 - 4 * 64 = 0 from rfl, Nat.pow_zero, Nat.div_one] at this
  exact this
theorem Rp_bacc {a b : Four} {p q : Pt} {P Q : EPt} (h : Rp p P) (h' : Rp q Q) : ∀ c, c ≤ 64 → Rp (bothAcc a p b q c) (G.add (G.mul (nat4 a / 2 ^ (256 - 4 * c)) P) (G.mul (nat4 b / 2 ^ (256 - 4 * c)) Q))
  | 0, _ => by
    rw [Nat.mul_zero, Nat.sub_zero, Nat.div_eq_of_lt (lt256 a), Nat.div_eq_of_lt (lt256 b), Grp.mul_zero, Grp.mul_zero, Grp.zadd]
    exact Rp.zero
  | c + 1, hc => by
    have ih := Rp_bacc (a := a) (b := b) h h' c (by omega)
    rw [nib_step _ c (by omega), nib_step _ c (by omega), Grp.mul_add, Grp.mul_mul, Grp.mul_add, Grp.mul_mul, Grp.swap, ← Grp.mul_sum, ← Grp.assoc]
    exact Rp_add (Rp_add (Rp_sixteen ih) (Rp_tab h _)) (Rp_tab h' _)
theorem Rp_both (a b : Four) {p q : Pt} {P Q : EPt} (h : Rp p P) (h' : Rp q Q) : Rp (oBoth a p b q) (G.add (G.mul (nat4 a) P) (G.mul (nat4 b) Q)) := by
  have := Rp_bacc (a := a) (b := b) h h' 64 (by omega)
  rw [oBoth_eq]
  rw [show 256 - 4 * 64 = 0 from rfl, Nat.pow_zero, Nat.div_one, Nat.div_one] at this
  exact this
theorem bit_step (n N c : Nat) (hc : c < N) : n / 2 ^ (N - (c + 1)) = n / 2 ^ (N - c) * 2 + n / 2 ^ (N - 1 - c) % 2 := by
  rw [show N - (c + 1) = N - 1 - c by omega, show N - c = N - 1 - c + 1 by omega, Nat.pow_succ, ← Nat.div_div_eq_div_mul]
  generalize n / 2 ^ (N - 1 - c) = x
  omega
theorem RRp_acc {n : Nat} {r : RP} {P : EPt} (h : RRp r P) (hn : n < 2 ^ bitsN n) : ∀ c, c ≤ bitsN n → RRp (rMulAcc n r c) (G.mul (n / 2 ^ (bitsN n - c)) P)
  | 0, _ => by
    rw [Nat.sub_zero, Nat.div_eq_of_lt hn]
    exact RRp.zero
  | c + 1, hc => by
    have ih := RRp_acc h hn c (by omega)
    have two := ih.add ih
    have e2 : EE.add (G.mul (n / 2 ^ (bitsN n - c)) P) (G.mul (n / 2 ^ (bitsN n - c)) P) = G.mul (n / 2 ^ (bitsN n - c) * 2) P := by
      rw [Grp.mul_mul, Grp.mul_two]; rfl
    rw [e2] at two
    rw [bit_step _ _ c (by omega), rMulAcc]
    have hm := Nat.mod_lt (n / 2 ^ (bitsN n - 1 - c)) (show 0 < 2 by omega)
    split
    · rename_i hb
      rw [hb, Grp.mul_succ]
      exact two.add h
    · rename_i hb
      rw [show n / 2 ^ (bitsN n - 1 - c) % 2 = 0 by omega]
      exact two
theorem RRp_mul (n : Nat) {r : RP} {P : EPt} (h : RRp r P) : RRp (rMulAcc n r (bitsN n)) (G.mul n P) := by
  have hn : n < 2 ^ bitsN n := by
    apply Nat.lt_of_not_le
    intro h
    have := bitsN_gt.2 h
    omega
  have := RRp_acc h hn (bitsN n) (Nat.le_refl _)
  rw [Nat.sub_self, Nat.pow_zero, Nat.div_one] at this
  exact this
end Go.Proofs.YtigkddloeikpbaaDoor.C11
/- Layer 13: messages as numbers and points: what is said of the functions. -/
set_option maxRecDepth 10000
namespace Go.Proofs.YtigkddloeikpbaaDoor.E10
open Go.Sym Go.Dig R1 F4 H6 H9 C11
theorem wl_ex : ∃ f : List UInt8 → Five, f = fWideL := ⟨_, rfl⟩
noncomputable def wideO : List UInt8 → Five := Classical.choose wl_ex
theorem wideO_eq : wideO = fWideL := Classical.choose_spec wl_ex
noncomputable def sWideO : SpecF := fspec (α := List UInt8 × Unit) (β := Five × Bool × Unit) (fun a => some (a.1.length ≤ 64)) (fun a => (wideO a.1, true, ()))
theorem ok_WideO : SpecOK Tryd.prog 43 sWideO := by
  refine fspec_weaken ok_fWide id (fun _ _ _ _ h => h) (fun _ => rfl) (fun _ _ => trivial) (fun a h at_ w v r => ?_)
  have h' : a.1.length ≤ 64 := h
  have e : fWideF (id a).1 = (wideO a.1, true) := by unfold fWideF; rw [wideO_eq]; exact if_pos h'
  rw [e] at r
  exact r
noncomputable def sExpO (b : Bool) : SpecF := cond b sExpG sExpB
noncomputable def spHa (b : Bool) : Specs := [(42, cond b sExpG sExpB), (43, sWideO)]
noncomputable def hashE (msg tag : List UInt8) : Five := wideO (expV msg tag 48)
noncomputable def hash0 (msg tag : List UInt8) : Five × Int := if tag.length ≤ 255 then (hashE msg tag, 0) else (zeroF, 2)
theorem hash_ex : ∃ f : List UInt8 → List UInt8 → Five × Int, f = hash0 := ⟨_, rfl⟩
noncomputable def hashV : List UInt8 → List UInt8 → Five × Int := Classical.choose hash_ex
theorem hashV_eq : hashV = hash0 := Classical.choose_spec hash_ex
noncomputable def sHashE : SpecF := fspec (α := List UInt8 × List UInt8 × Unit) (β := Five × Int × Unit) (fun a => some (a.1.length ≤ 1000000)) (fun a => ((hashV a.1 a.2.1).1, (hashV a.1 a.2.1).2, ()))
/-! By cases. -/
noncomputable def sHashG : SpecF := fspec (α := List UInt8 × List UInt8 × Unit) (β := Five × Int × Unit) (fun a => some (a.1.length ≤ 1000000 ∧ a.2.1.length ≤ 255)) (fun a => ((hashV a.1 a.2.1).1, 0, ()))
noncomputable def sHashB : SpecF := fspec (α := List UInt8 × List UInt8 × Unit) (β := Five × Int × Unit) (fun a => some (a.1.length ≤ 1000000 ∧ ¬ a.2.1.length ≤ 255)) (fun _ => (zeroF, 2, ()))
theorem mp_ex : ∃ f : Five → Pt, f = fun u => oEight (mapV u) := ⟨_, rfl⟩
noncomputable def encE : Five → Pt := Classical.choose mp_ex
theorem encE_eq : encE = fun u => oEight (mapV u) := Classical.choose_spec mp_ex
noncomputable def spEn (b : Bool) : Specs := [(31, cond b sHashG sHashB), (11, sMapE), (18, sOEight)]
noncomputable def sEncG : SpecF := fspec (α := List UInt8 × List UInt8 × Unit) (β := Pt × Int × Unit) (fun a => some (a.1.length ≤ 1000000 ∧ a.2.1.length ≤ 255)) (fun a => (encE (hashV a.1 a.2.1).1, 0, ()))
abbrev zeroP : Pt := ⟨zeroF, zeroF, zeroF, zeroF⟩
noncomputable def sEncB : SpecF := fspec (α := List UInt8 × List UInt8 × Unit) (β := Pt × Int × Unit) (fun a => some (a.1.length ≤ 1000000 ∧ ¬ a.2.1.length ≤ 255)) (fun _ => (zeroP, 2, ()))
/-! The reference. -/
noncomputable def hashN (msg tag : List UInt8) : Nat := bev (expV msg tag 48) % pV
noncomputable def spHR : Specs := [(1000002, Sym.sNo), (1000000, Sym.sNo), (1000001, Sym.sNo)]
noncomputable def sHashR : SpecF := fspec (α := List UInt8 × List UInt8 × Unit) (β := Num) (fun a => some (a.1.length ≤ 1000000 ∧ a.2.1.length ≤ 255)) (fun a => ⟨hashN a.1 a.2.1⟩)
/-! The law. -/
theorem rmo_ex : ∃ f : Nat → RP → RP, f = fun n r => rMulAcc n r (bitsN n) := ⟨_, rfl⟩
noncomputable def rMulO : Nat → RP → RP := Classical.choose rmo_ex
theorem rMulO_eq : rMulO = fun n r => rMulAcc n r (bitsN n) := Classical.choose_spec rmo_ex
noncomputable def nRMulO : SpecF := fspec (α := Num × RP × Unit) (fun a => some (Lh a.1.n ∧ Lh a.2.1.x ∧ Lh a.2.1.y ∧ Lh a.2.1.z)) (fun a => rMulO a.1.n a.2.1)
theorem ok_RMulO : SpecOK Tryd.prog 1000003 Sym.sNo := Sym.sNo_ok _ _
theorem hn_ex : ∃ f : List UInt8 → List UInt8 → Nat, f = hashN := ⟨_, rfl⟩
noncomputable def hashNO : List UInt8 → List UInt8 → Nat := Classical.choose hn_ex
theorem hashNO_eq : hashNO = hashN := Classical.choose_spec hn_ex
noncomputable def sHashRO : SpecF := fspec (α := List UInt8 × List UInt8 × Unit) (β := Num) (fun a => some (a.1.length ≤ 1000000 ∧ a.2.1.length ≤ 255)) (fun a => ⟨hashNO a.1 a.2.1⟩)
noncomputable def spHL (b : Bool) : Specs := (4, sAw13) :: (31, cond b sHashG sHashB) :: (15, cond b sEncG sEncB) :: (1000004, Sym.sNo) :: (1000003, Sym.sNo) :: (1000005, Sym.sNo) :: (spE4 ++ spK4)
end Go.Proofs.YtigkddloeikpbaaDoor.E10
/- Layer 13: messages as numbers and points: what the bodies come to. -/
set_option maxRecDepth 10000
namespace Go.Proofs.YtigkddloeikpbaaDoor.E10
open Go.Sym Go.Dig R1 F4 H6 H9 C11
--STOP expV, exOk, wideO, hashV, mapV, encE, zeroF, oEight, bev, pV, Tame, hashNO, rMulO, mapN, R1.Sm, Lm, Lh, eBytes, rBytes, V
theorem vcHashG (msg tag : List UInt8) (Q : SV → Prop) : LnRaw tt (spHa true) 9 [] {} Tryd.f31 Q (msg, tag, ()) =
  (((List.length msg ≤ (1000000 : Nat)) ∧
   (exOk tag (48 : Int))) ∧
  ((List.length (expV msg tag (48 : Int)) ≤ (64 : Nat)) ∧
  (Q
  (SV.tup
    [SV.agg
        [SV.u64 (Five.x0 (wideO (expV msg tag (48 : Int)))), SV.u64 (Five.x1 (wideO (expV msg tag (48 : Int)))),
          SV.u64 (Five.x2 (wideO (expV msg tag (48 : Int)))), SV.u64 (Five.x3 (wideO (expV msg tag (48 : Int)))),
          SV.u64 (Five.x4 (wideO (expV msg tag (48 : Int))))],
      SV.i64 (0 : Int)])))) := by kernel_rfl
theorem vcHashB (msg tag : List UInt8) (Q : SV → Prop) : LnRaw tt (spHa false) 9 [] {} Tryd.f31 Q (msg, tag, ()) =
  (((List.length msg ≤ (1000000 : Nat)) ∧
   (¬exOk tag (48 : Int))) ∧
  (Q
  (SV.tup
    [SV.agg
        [SV.u64 (UInt64.ofNat (Int.toNat (0 : Int))), SV.u64 (UInt64.ofNat (Int.toNat (0 : Int))),
          SV.u64 (UInt64.ofNat (Int.toNat (0 : Int))), SV.u64 (UInt64.ofNat (Int.toNat (0 : Int))),
          SV.u64 (UInt64.ofNat (Int.toNat (0 : Int)))],
      SV.i64 (2 : Int)]))) := by kernel_rfl
theorem vcEncG (msg tag : List UInt8) (Q : SV → Prop) : LnRaw tt (spEn true) 9 [] {} Tryd.f15 Q (msg, tag, ()) =
  (((List.length msg ≤ (1000000 : Nat)) ∧
   (List.length tag ≤ (255 : Nat))) ∧
  ((Tame (Prod.fst (hashV msg tag))) ∧
  (Q
  (SV.tup
    [SV.agg
        [SV.u64 (Five.x0 (Pt.x (oEight (mapV (Prod.fst (hashV msg tag)))))),
          SV.u64 (Five.x1 (Pt.x (oEight (mapV (Prod.fst (hashV msg tag)))))),
          SV.u64 (Five.x2 (Pt.x (oEight (mapV (Prod.fst (hashV msg tag)))))),
          SV.u64 (Five.x3 (Pt.x (oEight (mapV (Prod.fst (hashV msg tag)))))),
          SV.u64 (Five.x4 (Pt.x (oEight (mapV (Prod.fst (hashV msg tag)))))),
          SV.u64 (Five.x0 (Pt.y (oEight (mapV (Prod.fst (hashV msg tag)))))),
          SV.u64 (Five.x1 (Pt.y (oEight (mapV (Prod.fst (hashV msg tag)))))),
          SV.u64 (Five.x2 (Pt.y (oEight (mapV (Prod.fst (hashV msg tag)))))),
          SV.u64 (Five.x3 (Pt.y (oEight (mapV (Prod.fst (hashV msg tag)))))),
          SV.u64 (Five.x4 (Pt.y (oEight (mapV (Prod.fst (hashV msg tag)))))),
          SV.u64 (Five.x0 (Pt.z (oEight (mapV (Prod.fst (hashV msg tag)))))),
          SV.u64 (Five.x1 (Pt.z (oEight (mapV (Prod.fst (hashV msg tag)))))),
          SV.u64 (Five.x2 (Pt.z (oEight (mapV (Prod.fst (hashV msg tag)))))),
          SV.u64 (Five.x3 (Pt.z (oEight (mapV (Prod.fst (hashV msg tag)))))),
          SV.u64 (Five.x4 (Pt.z (oEight (mapV (Prod.fst (hashV msg tag)))))),
          SV.u64 (Five.x0 (Pt.t (oEight (mapV (Prod.fst (hashV msg tag)))))),
          SV.u64 (Five.x1 (Pt.t (oEight (mapV (Prod.fst (hashV msg tag)))))),
          SV.u64 (Five.x2 (Pt.t (oEight (mapV (Prod.fst (hashV msg tag)))))),
          SV.u64 (Five.x3 (Pt.t (oEight (mapV (Prod.fst (hashV msg tag)))))),
          SV.u64 (Five.x4 (Pt.t (oEight (mapV (Prod.fst (hashV msg tag))))))],
      SV.i64 (0 : Int)])))) := by kernel_rfl
theorem vcEncB (msg tag : List UInt8) (Q : SV → Prop) : LnRaw tt (spEn false) 9 [] {} Tryd.f15 Q (msg, tag, ()) =
  (((List.length msg ≤ (1000000 : Nat)) ∧
   (¬List.length tag ≤ (255 : Nat))) ∧
  (Q
  (SV.tup
    [SV.agg
        [SV.u64 (UInt64.ofNat (Int.toNat (0 : Int))), SV.u64 (UInt64.ofNat (Int.toNat (0 : Int))),
          SV.u64 (UInt64.ofNat (Int.toNat (0 : Int))), SV.u64 (UInt64.ofNat (Int.toNat (0 : Int))),
          SV.u64 (UInt64.ofNat (Int.toNat (0 : Int))), SV.u64 (UInt64.ofNat (Int.toNat (0 : Int))),
          SV.u64 (UInt64.ofNat (Int.toNat (0 : Int))), SV.u64 (UInt64.ofNat (Int.toNat (0 : Int))),
          SV.u64 (UInt64.ofNat (Int.toNat (0 : Int))), SV.u64 (UInt64.ofNat (Int.toNat (0 : Int))),
          SV.u64 (UInt64.ofNat (Int.toNat (0 : Int))), SV.u64 (UInt64.ofNat (Int.toNat (0 : Int))),
          SV.u64 (UInt64.ofNat (Int.toNat (0 : Int))), SV.u64 (UInt64.ofNat (Int.toNat (0 : Int))),
          SV.u64 (UInt64.ofNat (Int.toNat (0 : Int))), SV.u64 (UInt64.ofNat (Int.toNat (0 : Int))),
          SV.u64 (UInt64.ofNat (Int.toNat (0 : Int))), SV.u64 (UInt64.ofNat (Int.toNat (0 : Int))),
          SV.u64 (UInt64.ofNat (Int.toNat (0 : Int))), SV.u64 (UInt64.ofNat (Int.toNat (0 : Int)))],
      SV.i64 (2 : Int)]))) := by kernel_rfl
end Go.Proofs.YtigkddloeikpbaaDoor.E10
/- Layer 13: messages as numbers and points: the bodies hold. -/
set_option maxRecDepth 10000
namespace Go.Proofs.YtigkddloeikpbaaDoor.E10
open Go.Sym Go.Dig R1 F4 H6 H9 C11 Go.Alg
theorem spHa_ok (b : Bool) : SpecsOK Tryd.prog (spHa b) := by
  cases b
  · exact .cons ok_ExpB <| .cons ok_WideO (.nil _)
  · exact .cons ok_ExpG <| .cons ok_WideO (.nil _)
theorem exp48 {msg tag : List UInt8} : (expV msg tag 48).length = 48 := expV_len (by decide)
theorem ok_HashE : SpecOK Tryd.prog 31 sHashE := by
  unfold sHashE
  rw [hashV_eq]
  refine fn_okS (by kernel_rfl) tt_ok 9 Tryd.func31 (by decide +kernel) (by kernel_rfl) ?_
  rintro ⟨msg, tag, _⟩ hm
  replace hm : msg.length ≤ 1000000 := hm
  show ∃ sp, SpecsOK Tryd.prog sp ∧ ∃ D L, ∃ Q : SV → Prop, LnVD tt sp 9 D L _ Q (msg, tag, ()) ∧ ∀ z, Q z → ∀ (at_ : At) (w : World) (v : Value), Rel at_ w z v → Rel at_ w (retSV (RetL.retL ((hash0 msg tag).1, (hash0 msg tag).2, ()))) v
  by_cases ht : tag.length ≤ 255
  · have e : hash0 msg tag = (hashE msg tag, 0) := by unfold hash0; rw [if_pos ht]
    rw [e]
    refine ⟨spHa true, spHa_ok true, [], {}, fun x => x = _, LnVD.of (vcHashG msg tag _) ?_, F4.svf⟩
    exact ⟨⟨hm, by decide, by decide, ht⟩, by rw [exp48]; decide, rfl⟩
  · have e : hash0 msg tag = (zeroF, 2) := by unfold hash0; rw [if_neg ht]
    rw [e]
    refine ⟨spHa false, spHa_ok false, [], {}, fun x => x = _, LnVD.of (vcHashB msg tag _) ?_, F4.svf⟩
    exact ⟨⟨hm, fun h => ht h.2.2⟩, rfl⟩
theorem ok_HashG : SpecOK Tryd.prog 31 sHashG := fspec_weaken ok_HashE id (fun _ _ _ _ h => h) (fun ⟨_, _, _⟩ => rfl) (fun a h => by have h' : _ ∧ _ := h; exact h'.1) (fun a h at_ w v r => by
  have h' : _ ∧ a.2.1.length ≤ 255 := h
  have e : (hashV a.1 a.2.1).2 = 0 := by rw [hashV_eq]; unfold hash0; rw [if_pos h'.2]
  simp only [id, e] at r
  exact r)
theorem ok_HashB : SpecOK Tryd.prog 31 sHashB := fspec_weaken ok_HashE id (fun _ _ _ _ h => h) (fun ⟨_, _, _⟩ => rfl) (fun a h => by have h' : _ ∧ _ := h; exact h'.1) (fun a h at_ w v r => by
  have h' : _ ∧ ¬ a.2.1.length ≤ 255 := h
  have e : hashV a.1 a.2.1 = (zeroF, 2) := by rw [hashV_eq]; unfold hash0; rw [if_neg h'.2]
  simp only [id, e] at r
  exact r)
theorem hash_val {msg tag : List UInt8} (ht : tag.length ≤ 255) : Tame (hashV msg tag).1 ∧ V (hashV msg tag).1 % pV = hashNO msg tag := by
  have e : (hashV msg tag).1 = fWideL (expV msg tag 48) := by rw [hashV_eq]; unfold hash0; rw [if_pos ht]; show wideO _ = _; rw [wideO_eq]
  rw [e]
  obtain ⟨t1, t2⟩ := wide_ok (expV msg tag 48)
  refine ⟨t1, ?_⟩
  rw [Nof, t2, hashNO_eq]
  unfold hashN
  rw [pV_eq]
theorem spEn_ok (b : Bool) : SpecsOK Tryd.prog (spEn b) := by
  cases b
  · exact .cons ok_HashB <| .cons ok_MapE <| .cons ok_oEight (.nil _)
  · exact .cons ok_HashG <| .cons ok_MapE <| .cons ok_oEight (.nil _)
theorem ok_EncG : SpecOK Tryd.prog 15 sEncG := by
  unfold sEncG
  rw [encE_eq]
  refine fn_okL (by kernel_rfl) tt_ok (spEn_ok true) 9 Tryd.func15 (by decide +kernel) (by kernel_rfl) ?_
  rintro ⟨msg, tag, _⟩ ⟨hm, ht⟩
  refine ⟨[], {}, fun x => x = _, LnVD.of (vcEncG msg tag _) ⟨⟨hm, ht⟩, (hash_val ht).1, rfl⟩, F4.svf⟩
theorem ok_EncB : SpecOK Tryd.prog 15 sEncB := by
  refine fn_okL (by kernel_rfl) tt_ok (spEn_ok false) 9 Tryd.func15 (by decide +kernel) (by kernel_rfl) ?_
  rintro ⟨msg, tag, _⟩ ⟨hm, ht⟩
  refine ⟨[], {}, fun x => x = _, LnVD.of (vcEncB msg tag _) ⟨⟨hm, ht⟩, rfl⟩, F4.svf⟩
end Go.Proofs.YtigkddloeikpbaaDoor.E10
/- Layer 13: the law that goes back: what is said of it. -/
set_option maxRecDepth 10000
namespace Go.Proofs.YtigkddloeikpbaaDoor.E10
open Go.Sym Go.Dig R1 F4 H6 H9 C11
noncomputable def spHB (b : Bool) : Specs := (4, sAw13) :: (5, sTm b) :: (6, sPairE) :: (11, sMapE) :: (15, sEncG) :: (17, sPure) :: (18, sOEight) :: spE4
end Go.Proofs.YtigkddloeikpbaaDoor.E10
/- Layer 13: the law that goes back: what the body comes to. -/
set_option maxRecDepth 10000
namespace Go.Proofs.YtigkddloeikpbaaDoor.E10
open Go.Sym Go.Dig R1 F4 H6 H9 C11
--STOP smallV, hashV, mapV, pairV, encE, zeroF, oEight, oPure, pV, Tame, tm, eSame, eFrom, ePair
theorem vcHBN (u : Five) (msg : List UInt8) (Q : SV → Prop) : LnRaw tt (spHB false) 9 [] {} Tryd.f3 Q (u, msg, ()) =
  ((tm u = false) ∧
  (Q (SV.bool true))) := by kernel_rfl
theorem vcHBY (u : Five) (msg : List UInt8) (Q : SV → Prop) : LnRaw tt (spHB true) 9 [(8, 4, .b true), (15, 0, .b true), (15, 4, .b true), (15, 9, .b true), (15, 17, .b true), (15, 22, .b true)] {} Tryd.f3 Q (u, msg, ()) =
  ((tm u = true) ∧
  bcase (decide ((↑(List.length msg) : Int) > (500 : Int)))
    ((Q (SV.bool true)))
    (((Tame u) ∧
    ((fSame (fMul (Prod.snd (pairV u)) (Prod.snd (pairV u)))
    (fAdd
      (fAdd (fMul (fMul (Prod.fst (pairV u)) (Prod.fst (pairV u))) (Prod.fst (pairV u)))
        (fMul (smallV (UInt32.ofNat (Int.toNat (486662 : Int)))) (fMul (Prod.fst (pairV u)) (Prod.fst (pairV u)))))
      (Prod.fst (pairV u))) =
  true) ∧
    ((Tame u) ∧
    ((Tame (fNeg u)) ∧
    (((List.length msg ≤ (1000000 : Nat)) ∧
     ((0 : Nat) ≤ (255 : Nat))) ∧
    ((Prod.snd (eFrom (Prod.fst (ePair (mapV u))) (Prod.snd (ePair (mapV u)))) = true) ∧
    ((eSame (Prod.fst (eFrom (Prod.fst (ePair (mapV u))) (Prod.snd (ePair (mapV u))))) (mapV u) = true) ∧
    ((eSame (mapV (fNeg u)) (mapV u) = true) ∧
    ((oPure (encE (Prod.fst (hashV msg []))) = true) ∧
    ((oPure (oEight (mapV u)) = true) ∧
    (Q (SV.bool true)))))))))))))) := by kernel_rfl
end Go.Proofs.YtigkddloeikpbaaDoor.E10
/- Layer 13: the law that goes back holds. -/
set_option maxRecDepth 10000
namespace Go.Proofs.YtigkddloeikpbaaDoor.E10
open Go.Sym Go.Dig R1 F4 H6 H9 C11 Go.Alg
theorem mX_neg (u : K) : mX (0 - u) = mX u := by
  unfold mX
  have e : (1 + 2 * ((0 - u) * (0 - u)) : K) = 1 + 2 * (u * u) := by grind -lia -linarith -order (splits := 0)
  rw [e]
theorem mPair_neg (u : K) : mPair (0 - u) = mPair u := by
  unfold mPair
  rw [mX_neg]
theorem mMap_neg (u : K) : mMap (0 - u) = mMap u := by
  unfold mMap
  simp only [mPair_neg]
theorem spHB_ok (b : Bool) : SpecsOK Tryd.prog (spHB b) := .cons ok_Aw13 <| .cons (ok_Tm b) <| .cons ok_PairE <| .cons ok_MapE <| .cons ok_EncG <| .cons ok_Pure <| .cons ok_oEight spE4_ok
theorem ordL_nat : nat4 ordV = ordL := by rw [ordV_eq]; decide +kernel
theorem eight_pure {p : Pt} {P : EPt} (h : Rp p P) : oPure (oEight p) = true := by
  unfold oPure
  refine sameOK (Rp_mul _ (Rp_eight h)) Rp.zero ?_
  rw [ordL_nat, ← Grp.mul_mul]
  exact all_8L P
abbrev sHBk : SpecF := fspec (α := Five × List UInt8 × Unit) total fun _ => true
theorem ok_HBk : SpecOK Tryd.prog 3 sHBk := by
  refine fn_okS (by kernel_rfl) tt_ok 9 Tryd.func3 (by decide +kernel) (by kernel_rfl) ?_
  rintro ⟨u, msg, _⟩ _
  cases hu : tm u with
  | false =>
    exact ⟨spHB false, spHB_ok false, [], {}, fun t => t = _, LnVD.of (vcHBN u msg _) ⟨hu, rfl⟩, F4.svf⟩
  | true =>
    refine ⟨spHB true, spHB_ok true, _, {}, fun t => t = _, LnVD.of (vcHBY u msg _) ⟨hu, ?_⟩, F4.svf⟩
    rw [bcase_dec]
    refine ⟨fun _ => rfl, fun hm => ?_⟩
    have ht : Tame u := (tame_iff u).1 hu
    obtain ⟨t1, t2, e1, e2⟩ := pair_ok ht
    have hj := jF_ok
    have hs2 := tame_mul t1 t1
    have hl : Tame (smallV (UInt32.ofNat (Int.toNat (486662 : Int)))) := hj.1
    have he : fE (smallV (UInt32.ofNat (Int.toNat (486662 : Int)))) = jE := hj.2
    have hp := map_ok ht
    obtain ⟨p1, p2, p3, p4⟩ := hp.pair
    have hon := (mMap (fE u)).on
    have hf := eFrom_ok p1 p2
    rw [p3, p4] at hf
    have hq : Rp (eFrom (ePair (mapV u)).1 (ePair (mapV u)).2).1 (mMap (fE u)) := by
      have h2 := (eFrom_ok p1 p2).2 (by rw [p3, p4]; exact hon)
      have e : (⟨_, _, (by rw [p3, p4]; exact hon : On dE (fE (ePair (mapV u)).1) (fE (ePair (mapV u)).2))⟩ : EPt) = mMap (fE u) := EP.ext p3 p4
      rw [e] at h2
      exact h2
    have hn := map_ok (tame_neg ht)
    rw [fE_neg ht, mMap_neg] at hn
    have hhv := (hash_val (msg := msg) (tag := []) (by decide)).1
    refine ⟨ht, ?_, ht, tame_neg ht, ⟨by omega, by decide⟩, ?_, sameOK hq hp rfl, sameOK hn hp rfl, ?_, eight_pure hp, rfl⟩
    · rw [fE_same (tame_mul t2 t2) (tame_add (tame_add (tame_mul hs2 t1) (tame_mul hl hs2)) t1)]
      apply decide_eq_true
      rw [fE_mul t2 t2, fE_add (tame_add (tame_mul hs2 t1) (tame_mul hl hs2)) t1, fE_add (tame_mul hs2 t1) (tame_mul hl hs2), fE_mul hs2 t1, fE_mul hl hs2, fE_mul t1 t1, he, e1, e2]
      exact mPair_on (fE u)
    · rw [hf.1]; exact decide_eq_true hon
    · rw [encE_eq]; exact eight_pure (map_ok hhv)
end Go.Proofs.YtigkddloeikpbaaDoor.E10
