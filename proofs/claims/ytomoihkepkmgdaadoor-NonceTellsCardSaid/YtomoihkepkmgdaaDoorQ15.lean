/- A symbolic machine for Go functions, and what the functions that the law reaches come to: Law01, LawBack, LawBack2, LawsA, Lev, LawsB, NoT, NoU, NoV, NoW, NoX, NoY, NpA, NpB, NpC. -/
import Derived.Test.YtomoihkepkmgdaaDoorQ12
import Derived.Test.YtomoihkepkmgdaaDoorQ14
import Derived.Test.YtomoihkepkmgdaaDoorQ6
/- Layer 1's laws: what they begin with. -/
set_option maxRecDepth 10000
namespace Go.Proofs.YtomoihkepkmgdaaDoor
open Go.Sym

def spL0 : Specs := [(1000001, Sym.sNo), (70, sSub), (28, sCmp), (46, sBits), (1000004, Sym.sNo), (1000005, Sym.sNo),
  (1000003, Sym.sNo), (1000006, Sym.sNo), (1000002, Sym.sNo), (45, sOf), (71, sBytes), (1000007, Sym.sNo)]
theorem spL0_ok : SpecsOK Tryd.prog spL0 := .cons ok_Add <| .cons ok_Sub <| .cons ok_Cmp <| .cons ok_Bits <| .cons ok_Mul <| .cons ok_MulWord <| .cons ok_Left <| .cons ok_Right <| .cons ok_Bit <| .cons ok_Of <| .cons ok_Bytes <| .cons ok_Select <| .nil _
abbrev sAwake1 : SpecF := fspec (α := Unit) total fun _ => true
theorem ok_awake1 : SpecOK Tryd.prog 1000000 Sym.sNo := Sym.sNo_ok _ _
def spL1 : Specs := (1000000, Sym.sNo) :: spL0
theorem spL1_ok : SpecsOK Tryd.prog spL1 := .cons ok_awake1 spL0_ok
end Go.Proofs.YtomoihkepkmgdaaDoor
/- Layer 1, what is added and taken away: the law's body. -/
set_option maxRecDepth 10000
namespace Go.Proofs.YtomoihkepkmgdaaDoor
open Go.Sym

def eq4 (x y : Four) : Bool := (x.w0 == y.w0) && ((x.w1 == y.w1) && ((x.w2 == y.w2) && ((x.w3 == y.w3) && true)))
def eq8 (x y : Eight) : Bool := (x.e0 == y.e0) && ((x.e1 == y.e1) && ((x.e2 == y.e2) && ((x.e3 == y.e3) && ((x.e4 == y.e4) && ((x.e5 == y.e5) && ((x.e6 == y.e6) && ((x.e7 == y.e7) && true)))))))
def shOf (w : UInt64) : Int := wr ((w % 256).toNat : Int)
def lessBits (x n : Int) : Int := if 0 > wr (x - n) then 0 else wr (x - n)
abbrev ABk := Four × Four × UInt64 × Unit
def backE (a b : Four) (w : UInt64) : Prop :=
  (!true) = false ∧ (!eq4 (limb_Sub (limb_Add a b).1 b).1 a) = false ∧ ((limb_Sub (limb_Add a b).1 b).2 != (limb_Add a b).2) = false ∧ ((limb_Of (limb_Bytes a true) true).2 != 0) = false ∧
  (!eq4 (limb_Of (limb_Bytes a true) true).1 a) = false ∧ (limb_Cmp a b != wr (0 - limb_Cmp b a)) = false ∧ (!eq8 (limb_Mul a b) (limb_Mul b a)) = false ∧
  (!eq4 (limb_Right (limb_Left a (shOf w)) (shOf w)) (limb_Right (limb_Left (limb_Right (limb_Left a (shOf w)) (shOf w)) (shOf w)) (shOf w))) = false ∧
  (limb_Bits (limb_Right a (shOf w)) != lessBits (limb_Bits a) (shOf w)) = false ∧
  eq4 (limb_Add (limb_MulWord a w).1 (limb_MulWord b w).1).1 (limb_MulWord (limb_Add a b).1 w).1 = true ∧ Same (.bool true)
end Go.Proofs.YtomoihkepkmgdaaDoor
/- Layer 1, what is added and taken away: the law holds. -/
set_option maxRecDepth 10000
namespace Go.Proofs.YtomoihkepkmgdaaDoor
open Go.Sym

theorem eq4_self (x : Four) : eq4 x x = true := by simp [eq4]
theorem eq8_self (x : Eight) : eq8 x x = true := by simp [eq8]
theorem back_sub (a b : Four) : limb_Sub (limb_Add a b).1 b = (a, (limb_Add a b).2) := by
  have h1 := add_nat a b; have h2 := sub_nat (limb_Add a b).1 b
  have l1 := add_carry a b; have l2 := sub_borrow (limb_Add a b).1 b
  have m1 := nat4_lt a; have m2 := nat4_lt (limb_Sub (limb_Add a b).1 b).1
  have e1 : (limb_Sub (limb_Add a b).1 b).1 = a := nat4_inj (by omega)
  have e2 : (limb_Sub (limb_Add a b).1 b).2 = (limb_Add a b).2 := UInt64.toNat_inj.1 (by omega)
  exact Prod.ext e1 e2
theorem back_cmp (a b : Four) : limb_Cmp a b = wr (0 - limb_Cmp b a) := by
  rw [cmp_nat, cmp_nat]
  by_cases h1 : nat4 a < nat4 b
  · rw [if_pos h1, if_neg (by omega), if_neg (by omega)]; rfl
  · by_cases h2 : nat4 a = nat4 b
    · rw [if_neg h1, if_pos h2, if_neg (by omega), if_pos h2.symm]; rfl
    · rw [if_neg h1, if_neg h2, if_pos (by omega)]; rfl
theorem shOf_nat (w : UInt64) : shOf w = ((w.toNat % 256 : Nat) : Int) := by
  have : (w % 256).toNat = w.toNat % 256 := by rw [UInt64.toNat_mod]; rfl
  rw [shOf, this, wr_small (by omega) (by omega)]
theorem there_back (a : Four) (n : Nat) (h : n < 256) : nat4 (limb_Right (limb_Left a n) n) = nat4 a % 2 ^ (256 - n) := by
  rw [right_nat _ _ h, left_nat _ _ h]
  have e : 115792089237316195423570985008687907853269984665640564039457584007913129639936 = 2 ^ (256 - n) * 2 ^ n := by rw [← Nat.pow_add, Nat.sub_add_cancel (by omega)]
  rw [e, Nat.mul_mod_mul_right, Nat.mul_div_cancel _ (Nat.two_pow_pos n)]
theorem back_shift (a : Four) (n : Nat) (h : n < 256) : limb_Right (limb_Left (limb_Right (limb_Left a n) n) n) n = limb_Right (limb_Left a n) n := by
  apply nat4_inj
  rw [there_back _ _ h, there_back _ _ h, Nat.mod_mod]
theorem back_bits (a : Four) (n : Nat) (h : n < 256) : limb_Bits (limb_Right a n) = lessBits (limb_Bits a) n := by
  obtain ⟨m, e1, l1, h1⟩ := bits_nat a
  obtain ⟨k, e2, l2, h2⟩ := bits_nat (limb_Right a n)
  rw [right_nat _ _ h] at h2
  have := h2.unique (h1.down n)
  rw [e1, e2, lessBits, wr_small (by omega) (by omega)]
  split <;> omega
theorem back_mulword (a b : Four) (w : UInt64) : (limb_Add (limb_MulWord a w).1 (limb_MulWord b w).1).1 = (limb_MulWord (limb_Add a b).1 w).1 := by
  apply nat4_inj
  have h1 := mulword_nat a w; have h2 := mulword_nat b w; have h3 := mulword_nat (limb_Add a b).1 w
  have h4 := add_nat a b; have h5 := add_nat (limb_MulWord a w).1 (limb_MulWord b w).1
  have m1 := nat4_lt (limb_Add (limb_MulWord a w).1 (limb_MulWord b w).1).1
  have m2 := nat4_lt (limb_MulWord (limb_Add a b).1 w).1
  have e : nat4 (limb_Add a b).1 * w.toNat + 115792089237316195423570985008687907853269984665640564039457584007913129639936 * ((limb_Add a b).2.toNat * w.toNat) = nat4 a * w.toNat + nat4 b * w.toNat := by
    rw [← Nat.add_mul, ← h4]; grind
  generalize nat4 a * w.toNat = p at *
  generalize nat4 b * w.toNat = q at *
  generalize nat4 (limb_Add a b).1 * w.toNat = r at *
  generalize (limb_Add a b).2.toNat * w.toNat = s at *
  omega
theorem backE_ok (a b : Four) (w : UInt64) : backE a b w := by
  have hn : w.toNat % 256 < 256 := Nat.mod_lt _ (by decide)
  refine ⟨rfl, ?_, ?_, ?_, ?_, ?_, ?_, ?_, ?_, ?_, rfl⟩
  · rw [back_sub]; simp only [eq4_self, Bool.not_true]
  · rw [back_sub]; simp only [bne_self_eq_false]
  · rw [of_bytes]; rfl
  · rw [of_bytes]; simp only [eq4_self, Bool.not_true]
  · rw [← back_cmp, bne_self_eq_false]
  · rw [nat8_inj (a := limb_Mul a b) (b := limb_Mul b a) (by rw [mul_nat, mul_nat, Nat.mul_comm]), eq8_self]; rfl
  · rw [shOf_nat, back_shift a _ hn, eq4_self]; rfl
  · rw [shOf_nat, back_bits a _ hn, bne_self_eq_false]
  · rw [back_mulword, eq4_self]
abbrev sBack : SpecF := fspec (α := ABk) total fun _ => true
theorem ok_Back : SpecOK Tryd.prog 1000000 Sym.sNo := Sym.sNo_ok _ _
end Go.Proofs.YtomoihkepkmgdaaDoor
/- Layer 1's laws: sums, products, bits, bytes: what their bodies come to. -/
set_option maxRecDepth 10000
namespace Go.Proofs.YtomoihkepkmgdaaDoor
open Go.Sym Go.Dig

--STOP Go.Dig.Dig, R1.Dg, R1.Can, R1.Sm

def nOf : SpecF := fspec (α := Four × Unit) (β := Num) total (fun a => ⟨nat4 a.1⟩)
def spR01 : Specs := (51, nOf) :: (R1.spN ++ spL1)
def dT (l : List (Nat × Nat)) : Dec := l.map fun p => (p.1, p.2, .b true)
def dSums (c : Bool) : Dec := (9, 3, .b c) :: dT [(11, 3), (11, 9), (11, 15), (11, 20), (11, 29)]
def dProducts : Dec := (9, 7, .b false) :: dT [(14, 14), (14, 20)]
def dBits (p q r : Bool) : Dec := (5, 1, .b p) :: (7, 1, .b p) :: (7, 4, .b q) :: (10, 1, .b r) :: (10, 4, .b q) :: dT [(12, 4), (12, 10), (12, 17), (12, 24), (12, 31), (12, 41)]
def dBytes (l : Bool) : Dec := (7, 4, .b true) :: (9, 2, .b l) :: dT [(10, 1), (10, 5), (14, 1), (14, 6)]
end Go.Proofs.YtomoihkepkmgdaaDoor
/- Bytes as numbers. -/
set_option maxRecDepth 10000
namespace Go.Proofs.YtomoihkepkmgdaaDoor
open Go.Sym Go.Dig
def lev : List UInt8 → Nat
  | [] => 0
  | x :: l => x.toNat + 256 * lev l
theorem bev_reverse (l : List UInt8) : R1.bev l.reverse = lev l := by
  induction l with
  | nil => rfl
  | cons x l ih => rw [List.reverse_cons, R1.bev_snoc, ih]; simp only [lev]; omega
theorem bev_lev (l : List UInt8) : R1.bev l = lev l.reverse := by rw [← bev_reverse, List.reverse_reverse]
theorem bytesN_lev : ∀ l : List UInt8, R1.bytesN (lev l) l.length = l
  | [] => rfl
  | x :: l => by
    have ih := bytesN_lev l
    have hx := u8_lt x
    unfold R1.bytesN at ih ⊢
    rw [List.length_cons, List.range_succ_eq_map, List.map_cons, List.map_map]
    congr 1
    · apply UInt8.toNat_inj.1
      simp only [UInt8.toNat_ofNat', lev, Nat.pow_zero, Nat.div_one]
      omega
    · conv => rhs; rw [← ih]
      apply List.map_congr_left
      intro i _
      simp only [Function.comp, Nat.succ_eq_add_one]
      rw [Nat.pow_succ', ← Nat.div_div_eq_div_mul]
      congr 2
      simp only [lev]
      omega
theorem lev_lt : ∀ l : List UInt8, lev l < 2 ^ (8 * l.length)
  | [] => by simp [lev]
  | x :: l => by
    have := lev_lt l
    have := u8_lt x
    rw [List.length_cons, show 8 * (l.length + 1) = 8 * l.length + 8 by omega, Nat.pow_add]
    simp only [lev]; omega
end Go.Proofs.YtomoihkepkmgdaaDoor
/- Layer 1's laws: plain facts on words, bytes and bits of numbers. -/
set_option maxRecDepth 10000
namespace Go.Proofs.YtomoihkepkmgdaaDoor
open Go.Sym Go.Dig

theorem wv_nat4 (a : Four) : R1.wv [a.w0, a.w1, a.w2, a.w3] = nat4 a := by simp only [R1.wv, nat4]; omega
theorem ok_nOf : SpecOK Tryd.prog 51 nOf := fspec_weaken R1.ok_Of id (fun _ _ _ _ h => h) (fun _ => rfl) (fun _ h => h) (fun a _ _ _ _ r => by
  have : R1.wv [a.1.w0, a.1.w1, a.1.w2, a.1.w3] = nat4 a.1 := wv_nat4 _
  simpa only [id, this] using r)
theorem spR01_ok : SpecsOK Tryd.prog spR01 := .cons ok_nOf (SpecsOK.append R1.spN_ok spL1_ok)

theorem p256 : (2 : Nat) ^ Int.toNat 256 = 115792089237316195423570985008687907853269984665640564039457584007913129639936 := by decide +kernel
theorem n128 (m : Nat) : m / 2 ^ 128 = m / 18446744073709551616 / 18446744073709551616 := by rw [Nat.div_div_eq_div_mul]
theorem n192 (m : Nat) : m / 2 ^ 192 = m / 18446744073709551616 / 18446744073709551616 / 18446744073709551616 := by rw [Nat.div_div_eq_div_mul, Nat.div_div_eq_div_mul]
theorem nat4_fourN (m : Nat) : nat4 (R1.fourN m) = m % 115792089237316195423570985008687907853269984665640564039457584007913129639936 := by
  simp only [nat4, R1.fourN, UInt64.toNat_ofNat', n128, n192]
  omega
theorem four_eq {x : Four} {m : Nat} (h : nat4 x = m % 115792089237316195423570985008687907853269984665640564039457584007913129639936) : x = R1.fourN m := nat4_inj (by rw [nat4_fourN, h])
theorem eq4_of {x y : Four} (h : x = y) : eq4 x y = true := by rw [h, eq4_self]
theorem Sm4 (a : Four) : R1.Sm (nat4 a) := R1.Sm.of 11 (Nat.lt_of_lt_of_le (nat4_lt a) (by decide +kernel)) (by omega)
theorem SmB {m : Nat} (h : m < 115792089237316195423570985008687907853269984665640564039457584007913129639936 * 115792089237316195423570985008687907853269984665640564039457584007913129639936 * 115792089237316195423570985008687907853269984665640564039457584007913129639936) : R1.Sm m := R1.Sm.of 32 (Nat.lt_of_lt_of_le h (by decide +kernel)) (by omega)

/-! Words. -/
theorem nat4_word (a : Four) (i : Nat) (hi : i < 4) : nat4 a / 2 ^ (64 * i) % 18446744073709551616 = (w4 a i).toNat := by
  have := u64_lt a.w0; have := u64_lt a.w1; have := u64_lt a.w2; have := u64_lt a.w3
  have : i = 0 ∨ i = 1 ∨ i = 2 ∨ i = 3 := by omega
  rcases this with rfl | rfl | rfl | rfl
  · simp only [nat4, w4, Nat.mul_zero, Nat.pow_zero, Nat.div_one]; omega
  · have e : (2 : Nat) ^ (64 * 1) = 18446744073709551616 := rfl
    rw [e]; simp only [nat4, w4]; omega
  · rw [show 64 * 2 = 128 from rfl, n128]; simp only [nat4, w4]; omega
  · rw [show 64 * 3 = 192 from rfl, n192]; simp only [nat4, w4]; omega
theorem mod_bit (m r k : Nat) (h : k + r ≤ 64) : m % 18446744073709551616 / 2 ^ r % 2 ^ k = m / 2 ^ r % 2 ^ k := by
  have e : (18446744073709551616 : Nat) = 2 ^ r * 2 ^ (64 - r) := by rw [← Nat.pow_add, show r + (64 - r) = 64 by omega]
  rw [e, Nat.mod_mul_right_div_self, Nat.mod_mod_of_dvd]
  exact ⟨2 ^ (64 - r - k), by rw [← Nat.pow_add]; congr 1; omega⟩
theorem word_bits (a : Four) (n k : Nat) (hn : n < 256) (h : k + n % 64 ≤ 64) : nat4 a / 2 ^ n % 2 ^ k = (w4 a (n / 64)).toNat / 2 ^ (n % 64) % 2 ^ k := by
  rw [← nat4_word a (n / 64) (by omega), mod_bit _ _ _ h, Nat.div_div_eq_div_mul, ← Nat.pow_add, show 64 * (n / 64) + n % 64 = n by omega]
theorem and_one (x : UInt64) : (x &&& 1).toNat = x.toNat % 2 := by
  rw [UInt64.toNat_and]; exact Nat.and_one_is_mod _
theorem bit_nat (a : Four) (n : Nat) (h : n < 256) : (bitN a n).toNat = nat4 a / 2 ^ n % 2 := by
  have := word_bits a n 1 h (by omega)
  rw [Nat.pow_one] at this
  rw [this]
  have : n / 64 = 0 ∨ n / 64 = 1 ∨ n / 64 = 2 ∨ n / 64 = 3 := by omega
  unfold bitN
  rcases this with e | e | e | e <;> rw [e] <;> simp only [and_one, shr64_nat, w4]

/-! Bytes. -/
theorem bytesL_N (a : Four) : bytesL a = R1.bytesN (nat4 a) 32 := by
  have hl : (bytesL a).length = 32 := by simp [bytesL]
  apply List.ext_getElem (by rw [hl, R1.bytesN_len])
  intro k h1 h2
  have hk : k < 32 := by omega
  have e := bytesL_get a k hk
  rw [List.getD_eq_getElem?_getD, List.getElem?_eq_getElem h1] at e
  apply UInt8.toNat_inj.1
  have e2 : ((R1.bytesN (nat4 a) 32)[k]).toNat = nat4 a / 256 ^ k % 256 := by simp [R1.bytesN]
  refine e.trans (Eq.trans ?_ e2.symm)
  have := word_bits a (8 * k) 8 (by omega) (by omega)
  rw [R1.pow256, this, show 8 * k / 64 = k / 8 by omega, show 8 * k % 64 = 8 * (k % 8) by omega]
theorem bytes_N (a : Four) (big : Bool) : limb_Bytes a big = cond big (R1.bytesN (nat4 a) 32).reverse (R1.bytesN (nat4 a) 32) := by
  unfold limb_Bytes; rw [bytesL_N]
/-- 32 bytes are a number's. -/
theorem of_nat (b : List UInt8) (big : Bool) (h : b.length = 32) : limb_Of b big = (R1.fourN (cond big (R1.bev b) (R1.bev b.reverse)), 0) := by
  have key : ∀ l : List UInt8, l.length = 32 → R1.bytesN (nat4 (R1.fourN (lev l))) 32 = l := by
    intro l hl
    have h1 := bytesN_lev l
    have h2 := lev_lt l
    rw [hl] at h1 h2
    rw [nat4_fourN, Nat.mod_eq_of_lt (Nat.lt_of_lt_of_le h2 (by decide +kernel)), h1]
  have hb : b = limb_Bytes (R1.fourN (cond big (R1.bev b) (R1.bev b.reverse))) big := by
    rw [bytes_N]
    cases big with
    | false => simp only [cond_false]; rw [bev_reverse, key b h]
    | true => simp only [cond_true]; rw [bev_lev, key b.reverse (by simpa using h), List.reverse_reverse]
  conv => lhs; rw [hb]
  rw [of_bytes]

/-! What is selected. -/
theorem select_one (c : UInt64) (a b : Four) (h : c.toNat % 2 = 1) : limb_Select c a b = a := by
  have : c &&& 1 = 1 := UInt64.toNat_inj.1 (by rw [and_one, h]; rfl)
  have e : ∀ x y : UInt64, x &&& (0 - 1) ||| y &&& ~~~(0 - 1) = x := fun x y => by
    have h1 : (0 - 1 : UInt64) = ~~~0 := by decide
    rw [h1, UInt64.not_not]; simp
  simp only [limb_Select, this, e]
theorem select_zero (c : UInt64) (a b : Four) (h : c.toNat % 2 = 0) : limb_Select c a b = b := by
  have : c &&& 1 = 0 := UInt64.toNat_inj.1 (by rw [and_one, h]; rfl)
  have e : ∀ x y : UInt64, x &&& (0 - 0) ||| y &&& ~~~(0 - 0) = y := fun x y => by simp
  simp only [limb_Select, this, e]
end Go.Proofs.YtomoihkepkmgdaaDoor
/- Bytes of numbers, as lists of their own. -/
set_option maxRecDepth 10000
namespace Go.Proofs.YtomoihkepkmgdaaDoor.R1
open Go.Sym Go.Dig
theorem vcTurnedF (b : List UInt8) (Q : SV → Prop) : LfRaw tt [] 3 [] lTurned Tryd.f63 Q (b, ()) =
  ((((0 : Nat) = (0 : Nat)) ∧
   ((0 : Nat) = List.length (List.replicate (0 : Nat) (0 : UInt8)))) ∧
  ((iTurned b (List.replicate (0 : Nat) (0 : UInt8)) (IntKind.wrap IntKind.i64 ((↑(List.length b) : Int) - (1 : Int)))) ∧
  (∀ l : List UInt8,
  (∀ a : Int,
  ((iTurned b l a) →
  bcase (decide (a ≥ (0 : Int)))
    (((((0 : Int) ≤ a) ∧
     (a < (↑(List.length b) : Int))) ∧
    ((((0 : Nat) + List.length l = List.length l) ∧
     (List.length
    (List.drop (0 : Nat) (List.take (List.length l) l) ++
      List.drop (0 : Nat) (List.take ((0 : Nat) + (1 : Nat)) [List.getD b (Int.toNat a) (0 : UInt8)])) ≤
  appLim)) ∧
    ((((0 : Nat) = (0 : Nat)) ∧
     (List.length
    (List.drop (0 : Nat) (List.take (List.length l) l) ++
      List.drop (0 : Nat) (List.take ((0 : Nat) + (1 : Nat)) [List.getD b (Int.toNat a) (0 : UInt8)])) =
  List.length
    (List.drop (0 : Nat) (List.take (List.length l) l) ++
      List.drop (0 : Nat) (List.take ((0 : Nat) + (1 : Nat)) [List.getD b (Int.toNat a) (0 : UInt8)])))) ∧
    (((b, ()) = (b, ())) ∧
    ((iTurned b
  (List.drop (0 : Nat) (List.take (List.length l) l) ++
    List.drop (0 : Nat) (List.take ((0 : Nat) + (1 : Nat)) [List.getD b (Int.toNat a) (0 : UInt8)]))
  (IntKind.wrap IntKind.i64 (a - (1 : Int)))) ∧
    (Int.toNat (IntKind.wrap IntKind.i64 (a - (1 : Int)) + (1 : Int)) < Int.toNat (a + (1 : Int)))))))))
    ((Q (SV.lst (LV.bytes (List.drop (0 : Nat) (List.take ((0 : Nat) + List.length l) l))))))))))) := by kernel_rfl
theorem ok_TurnedF : FSpecOK Tryd.prog 63 sTurned := by
  refine fn_okF (by kernel_rfl) tt_ok (.nil _) 3 Tryd.func63 (by decide +kernel) (by kernel_rfl) ?_
  rintro ⟨b, _⟩ hl
  replace hl : b.length ≤ 4294967296 := hl
  refine ⟨[], lTurned, fun x => x = .lst (.bytes b.reverse), LfVD.of (vcTurnedF b _) ?_, fun x h at_ n w v r => by have h' : x = _ := h; subst h'; exact r⟩
  rw [wr (x := (b.length : Int) - 1) (by omega)]
  refine ⟨⟨by trivial, by trivial⟩, ⟨by omega, by omega, ?_⟩, fun l i ⟨i0, i1, hv⟩ => ?_⟩
  · rw [show ((b.length : Int) - 1 + 1).toNat = b.length by omega, List.drop_length]; rfl
  · simp only [app_one, whole]
    rw [bcase_dec]
    refine ⟨fun hi => ?_, fun hi => ?_⟩
    · rw [wr (x := i - 1) (by omega)]
      have hl2 : l.length = b.length - (i + 1).toNat := by rw [hv]; simp
      refine ⟨⟨by omega, by omega⟩, ⟨by omega, by simp [appLim]; omega⟩, ⟨by trivial, by trivial⟩, by trivial, ⟨by omega, by omega, ?_⟩, by omega⟩
      rw [show (i - 1 + 1).toNat = i.toNat by omega, List.drop_eq_getElem_cons (show i.toNat < b.length by omega), List.reverse_cons, hv, show (i + 1).toNat = i.toNat + 1 by omega]
      rw [List.getD_eq_getElem?_getD, List.getElem?_eq_getElem (show i.toNat < b.length by omega)]; rfl
    · rw [hv, show (i + 1).toNat = 0 by omega, List.drop_zero]
end Go.Proofs.YtomoihkepkmgdaaDoor.R1
namespace Go.Proofs.YtomoihkepkmgdaaDoor.H8
open Go.Sym Go.Dig R1 H5 H7
def spTB : Specs := [(64, nToLittle), (63, .fresh sTurned)]
theorem spTB_ok : SpecsOK Tryd.prog spTB := .cons ok_nToLittle <| .consF ok_TurnedF (.nil _)
theorem tb_ex : ∃ f : Nat → List UInt8, f = fun n => (bytesN n 32).reverse := ⟨_, rfl⟩
/-- A number's 32 bytes. -/
noncomputable def tbO : Nat → List UInt8 := Classical.choose tb_ex
theorem tbO_eq : tbO = fun n => (bytesN n 32).reverse := Classical.choose_spec tb_ex
noncomputable def sTbO : SpecF := fspec (α := Num × Int × Unit) (β := List UInt8) (fun a => some (Sm a.1.n ∧ a.2.1 = 32)) (fun a => tbO a.1.n)
/-! The reference's source. -/
structure RSrc where
  k : List UInt8
  v : List UInt8
  n : Nat
  told : Bool
def RSrc.cells (s : RSrc) : List SV := [.lst (.bytes s.k), .lst (.bytes s.v), .lst (.num s.n), .bool s.told]
def dRS : List SV → Option RSrc
  | [.lst (.bytes k), .lst (.bytes v), .lst (.num n), .bool t] => some ⟨k, v, n, t⟩
  | _ => none
theorem dRS_ok {cs : List SV} {s : RSrc} (h : dRS cs = some s) : cs = s.cells := by
  unfold dRS at h
  split at h
  · simp only [Option.some.injEq] at h; subst h; rfl
  · cases h
def dRS2 : List SV → Option (Nat × Nat × Nat × Nat × Nat × Nat × Nat × Bool)
  | [.sl a l1 c1, .sl b l2 c2, .lst (.num n), .bool t] => some (a, l1, c1, b, l2, c2, n, t)
  | _ => none
def rcells2 (x : Nat × Nat × Nat × Nat × Nat × Nat × Nat × Bool) : List SV := [.sl x.1 x.2.1 x.2.2.1, .sl x.2.2.2.1 x.2.2.2.2.1 x.2.2.2.2.2.1, .lst (.num x.2.2.2.2.2.2.1), .bool x.2.2.2.2.2.2.2]
theorem dRS2_ok {cs : List SV} {x : Nat × Nat × Nat × Nat × Nat × Nat × Nat × Bool} (h : dRS2 cs = some x) : cs = rcells2 x := by
  unfold dRS2 at h
  split at h
  · simp only [Option.some.injEq] at h; subst h; rfl
  · cases h
noncomputable def rstV (s : RSrc) (m : List UInt8) : RSrc := ⟨macV s.k (s.v ++ m), macV (macV s.k (s.v ++ m)) s.v, s.n, s.told⟩
def okR (s : RSrc) (m : List UInt8) : Prop := s.k.length ≤ 1000 ∧ s.v.length ≤ 1000 ∧ m.length ≤ 1000
noncomputable def spRSt : Specs := [(12, .memf (toN sRMac))]
def QR1 (Q : RSrc → List UInt8 → Prop) (r : SV) (M : List (Option Blk)) : Prop :=
  match M[0]?, M[1]?, M[5000]? with
  | some (some cs), some (some [SV.own (.bytes m)]), none => (match dRS cs with | some s => r = retSV [] ∧ Q s m | none => False)
  | _, _, _ => False
def QR3 (Q : RSrc → List UInt8 → List UInt8 → List UInt8 → Prop) (r : SV) (M : List (Option Blk)) : Prop :=
  match M[0]?, M[1]?, M[2]?, M[3]?, M[5000]? with
  | some (some cs), some (some [SV.own (.bytes k)]), some (some [SV.own (.bytes v)]), some (some [SV.own (.bytes m)]), none => (match dRS cs with | some s => r = retSV [] ∧ Q s k v m | none => False)
  | _, _, _, _, _ => False
noncomputable def sRStir : NSpecF := fun look _ svs =>
  match svs with
  | [.ptr b 0, .sl kp lo len] => match look b, look kp with
    | some cs, some [.own (.bytes m)] => match dRS cs with
      | some s => if b ≠ kp then some ⟨some (lo + len ≤ m.length ∧ okR s ((m.take (lo + len)).drop lo)), retSV [], [(b, (rstV s ((m.take (lo + len)).drop lo)).cells), (kp, [SV.own (.bytes m)])]⟩ else none
      | none => match dRS2 cs with
        | some (a, l1, c1, d, l2, c2, n, t) => match look a, look d with
          | some [.own (.bytes k)], some [.own (.bytes v)] => if b ≠ kp ∧ b ≠ a ∧ b ≠ d ∧ a ≠ d ∧ a ≠ kp ∧ d ≠ kp then some ⟨some (lo + len ≤ m.length ∧ l2 + c2 ≤ v.length ∧ okR ⟨(k.take (l1 + c1)).drop l1, (v.take (l2 + c2)).drop l2, n, t⟩ ((m.take (lo + len)).drop lo)), retSV [], [(b, (rstV ⟨(k.take (l1 + c1)).drop l1, (v.take (l2 + c2)).drop l2, n, t⟩ ((m.take (lo + len)).drop lo)).cells), (a, [SV.own (.bytes k)]), (d, [SV.own (.bytes v)]), (kp, [SV.own (.bytes m)])]⟩ else none
          | _, _ => none
        | none => none
    | _, _ => none
  | _ => none
end Go.Proofs.YtomoihkepkmgdaaDoor.H8
/- Layer 8: what the reference's stir comes to. -/
set_option maxRecDepth 10000
namespace Go.Proofs.YtomoihkepkmgdaaDoor.H8
open Go.Sym Go.Dig R1 H5 H7
--STOP macV, tbO, rstV, bytesN, Sm, okR
theorem vcTbO (m : Nat) (Q : SV → Prop) : LfRaw tt spTB 9 [] {} Tryd.f40 Q ((⟨m⟩ : Num), (32 : Int), ()) =
  (((Sm m) ∧
   (((0 : Int) ≤ (32 : Int)) ∧
   ((32 : Int) ≤ (1048576 : Int)))) ∧
  ((List.length (bytesN m (Int.toNat (32 : Int))) ≤ (4294967296 : Nat)) ∧
  (Q
  (SV.lst
    (LV.bytes
      (List.drop (0 : Nat)
        (List.take ((0 : Nat) + List.length (List.reverse (bytesN m (Int.toNat (32 : Int)))))
          (List.reverse (bytesN m (Int.toNat (32 : Int))))))))))) := by kernel_rfl
theorem vcRSt1 (s : RSrc) (m : List UInt8) (lo len : Nat) (Q : RSrc → List UInt8 → Prop) : NnRaw tt spRSt 9 [] {} Tryd.f54 [.ptr 0 0, .sl 1 lo len] [s.cells, [.own (.bytes m)]] (QR1 Q) =
  ((List.length ([] ++ RSrc.v s) ≤ appLim) ∧
  ((((0 : Nat) + List.length ([] ++ RSrc.v s) = List.length ([] ++ RSrc.v s)) ∧
   (List.length
    (List.drop (0 : Nat) (List.take (List.length ([] ++ RSrc.v s)) ([] ++ RSrc.v s)) ++
      List.drop lo (List.take (lo + len) m)) ≤
  appLim)) ∧
  (((List.length (RSrc.k s) ≤ (1073741824 : Nat)) ∧
   (List.length
    (List.drop (0 : Nat)
      (List.take
        ((0 : Nat) +
          List.length
            (List.drop (0 : Nat) (List.take (List.length ([] ++ RSrc.v s)) ([] ++ RSrc.v s)) ++
              List.drop lo (List.take (lo + len) m)))
        (List.drop (0 : Nat) (List.take (List.length ([] ++ RSrc.v s)) ([] ++ RSrc.v s)) ++
          List.drop lo (List.take (lo + len) m)))) ≤
  (1000000000 : Nat))) ∧
  (((List.length
    (macV (RSrc.k s)
      (List.drop (0 : Nat)
        (List.take
          ((0 : Nat) +
            List.length
              (List.drop (0 : Nat) (List.take (List.length ([] ++ RSrc.v s)) ([] ++ RSrc.v s)) ++
                List.drop lo (List.take (lo + len) m)))
          (List.drop (0 : Nat) (List.take (List.length ([] ++ RSrc.v s)) ([] ++ RSrc.v s)) ++
            List.drop lo (List.take (lo + len) m))))) ≤
  (1073741824 : Nat)) ∧
   (List.length (RSrc.v s) ≤ (1000000000 : Nat))) ∧
  ((retSV [] = retSV []) ∧
  (Q
  (RSrc.mk
    (macV (RSrc.k s)
      (List.drop (0 : Nat)
        (List.take
          ((0 : Nat) +
            List.length
              (List.drop (0 : Nat) (List.take (List.length ([] ++ RSrc.v s)) ([] ++ RSrc.v s)) ++
                List.drop lo (List.take (lo + len) m)))
          (List.drop (0 : Nat) (List.take (List.length ([] ++ RSrc.v s)) ([] ++ RSrc.v s)) ++
            List.drop lo (List.take (lo + len) m)))))
    (macV
      (macV (RSrc.k s)
        (List.drop (0 : Nat)
          (List.take
            ((0 : Nat) +
              List.length
                (List.drop (0 : Nat) (List.take (List.length ([] ++ RSrc.v s)) ([] ++ RSrc.v s)) ++
                  List.drop lo (List.take (lo + len) m)))
            (List.drop (0 : Nat) (List.take (List.length ([] ++ RSrc.v s)) ([] ++ RSrc.v s)) ++
              List.drop lo (List.take (lo + len) m)))))
      (RSrc.v s))
    (RSrc.n s) (RSrc.told s))
  m)))))) := by kernel_rfl
theorem vcRSt3 (k v m : List UInt8) (l1 c1 l2 c2 lo len n : Nat) (t : Bool) (Q : RSrc → List UInt8 → List UInt8 → List UInt8 → Prop) : NnRaw tt spRSt 9 [] {} Tryd.f54 [.ptr 0 0, .sl 3 lo len] [[.sl 1 l1 c1, .sl 2 l2 c2, .lst (.num n), .bool t], [.own (.bytes k)], [.own (.bytes v)], [.own (.bytes m)]] (QR3 Q) =
  ((List.length ([] ++ List.drop l2 (List.take (l2 + c2) v)) ≤ appLim) ∧
  ((((0 : Nat) + List.length ([] ++ List.drop l2 (List.take (l2 + c2) v)) =
  List.length ([] ++ List.drop l2 (List.take (l2 + c2) v))) ∧
   (List.length
    (List.drop (0 : Nat)
        (List.take (List.length ([] ++ List.drop l2 (List.take (l2 + c2) v)))
          ([] ++ List.drop l2 (List.take (l2 + c2) v))) ++
      List.drop lo (List.take (lo + len) m)) ≤
  appLim)) ∧
  (((List.length (List.drop l1 (List.take (l1 + c1) k)) ≤ (1073741824 : Nat)) ∧
   (List.length
    (List.drop (0 : Nat)
      (List.take
        ((0 : Nat) +
          List.length
            (List.drop (0 : Nat)
                (List.take (List.length ([] ++ List.drop l2 (List.take (l2 + c2) v)))
                  ([] ++ List.drop l2 (List.take (l2 + c2) v))) ++
              List.drop lo (List.take (lo + len) m)))
        (List.drop (0 : Nat)
            (List.take (List.length ([] ++ List.drop l2 (List.take (l2 + c2) v)))
              ([] ++ List.drop l2 (List.take (l2 + c2) v))) ++
          List.drop lo (List.take (lo + len) m)))) ≤
  (1000000000 : Nat))) ∧
  (((List.length
    (macV (List.drop l1 (List.take (l1 + c1) k))
      (List.drop (0 : Nat)
        (List.take
          ((0 : Nat) +
            List.length
              (List.drop (0 : Nat)
                  (List.take (List.length ([] ++ List.drop l2 (List.take (l2 + c2) v)))
                    ([] ++ List.drop l2 (List.take (l2 + c2) v))) ++
                List.drop lo (List.take (lo + len) m)))
          (List.drop (0 : Nat)
              (List.take (List.length ([] ++ List.drop l2 (List.take (l2 + c2) v)))
                ([] ++ List.drop l2 (List.take (l2 + c2) v))) ++
            List.drop lo (List.take (lo + len) m))))) ≤
  (1073741824 : Nat)) ∧
   (List.length (List.drop l2 (List.take (l2 + c2) v)) ≤ (1000000000 : Nat))) ∧
  ((retSV [] = retSV []) ∧
  (Q
  (RSrc.mk
    (macV (List.drop l1 (List.take (l1 + c1) k))
      (List.drop (0 : Nat)
        (List.take
          ((0 : Nat) +
            List.length
              (List.drop (0 : Nat)
                  (List.take (List.length ([] ++ List.drop l2 (List.take (l2 + c2) v)))
                    ([] ++ List.drop l2 (List.take (l2 + c2) v))) ++
                List.drop lo (List.take (lo + len) m)))
          (List.drop (0 : Nat)
              (List.take (List.length ([] ++ List.drop l2 (List.take (l2 + c2) v)))
                ([] ++ List.drop l2 (List.take (l2 + c2) v))) ++
            List.drop lo (List.take (lo + len) m)))))
    (macV
      (macV (List.drop l1 (List.take (l1 + c1) k))
        (List.drop (0 : Nat)
          (List.take
            ((0 : Nat) +
              List.length
                (List.drop (0 : Nat)
                    (List.take (List.length ([] ++ List.drop l2 (List.take (l2 + c2) v)))
                      ([] ++ List.drop l2 (List.take (l2 + c2) v))) ++
                  List.drop lo (List.take (lo + len) m)))
            (List.drop (0 : Nat)
                (List.take (List.length ([] ++ List.drop l2 (List.take (l2 + c2) v)))
                  ([] ++ List.drop l2 (List.take (l2 + c2) v))) ++
              List.drop lo (List.take (lo + len) m)))))
      (List.drop l2 (List.take (l2 + c2) v)))
    n t)
  k v m)))))) := by kernel_rfl
end Go.Proofs.YtomoihkepkmgdaaDoor.H8
/- Layer 8: the reference's stir holds. -/
set_option maxRecDepth 10000
namespace Go.Proofs.YtomoihkepkmgdaaDoor.H8
open Go.Sym Go.Dig R1 H5 H7
theorem ok_TbO : FSpecOK Tryd.prog 40 sTbO := by
  unfold sTbO
  rw [tbO_eq]
  refine fn_okF (by kernel_rfl) tt_ok spTB_ok 9 Tryd.func40 (by decide +kernel) (by kernel_rfl) ?_
  rintro ⟨⟨m⟩, n, _⟩ ⟨hm, hn⟩
  replace hn : n = 32 := hn
  replace hm : Sm m := hm
  subst hn
  refine ⟨[], {}, fun x => x = .lst (.bytes (bytesN m 32).reverse), LfVD.of (vcTbO m _) ?_, fun x h at_ n w v r => by have h' : x = _ := h; subst h'; exact r⟩
  simp only [fl]
  exact ⟨⟨hm, by decide, by decide⟩, by rw [bytesN_len]; decide, rfl⟩
theorem spRSt_ok : SpecsOK Tryd.prog spRSt := .consN ok_RMacF.toN (.nil _)
theorem backR1 {s : RSrc} {m : List UInt8} {b kp fresh : Nat} {r : SV} {M : List (Option Blk)} (h : QR1 (fun s' m' => s' = s ∧ m' = m) r M) : ∃ jf lo0, backAll [some b, some kp] fresh jf lo0 M r = some (retSV [], [(b, s.cells), (kp, [.own (.bytes m)])]) := by
  unfold QR1 at h
  split at h
  · rename_i h0 h1 h2
    split at h
    · rename_i s' hs
      obtain ⟨rfl, rfl, rfl⟩ := h
      have hs := dRS_ok hs
      subst hs
      refine ⟨5000, 0, ?_⟩
      simp [backAll, back1, backM, backL, newL, h0, h1, h2, RSrc.cells, retSV, SV.noName, noNameL]
    · exact h.elim
  · exact h.elim
theorem backR3 {s : RSrc} {k v m : List UInt8} {b a d kp fresh : Nat} {r : SV} {M : List (Option Blk)} (h : QR3 (fun s' k' v' m' => s' = s ∧ k' = k ∧ v' = v ∧ m' = m) r M) : ∃ jf lo0, backAll [some b, some a, some d, some kp] fresh jf lo0 M r = some (retSV [], [(b, s.cells), (a, [.own (.bytes k)]), (d, [.own (.bytes v)]), (kp, [.own (.bytes m)])]) := by
  unfold QR3 at h
  split at h
  · rename_i h0 h1 h2 h3 h4
    split at h
    · rename_i s' hs
      obtain ⟨rfl, rfl, rfl, rfl, rfl⟩ := h
      have hs := dRS_ok hs
      subst hs
      refine ⟨5000, 0, ?_⟩
      simp [backAll, back1, backM, backL, newL, h0, h1, h2, h3, h4, RSrc.cells, retSV, SV.noName, noNameL]
    · exact h.elim
  · exact h.elim
theorem ok_RStir : NSpecOK Tryd.prog 54 sRStir := by
  refine fn_okN (by kernel_rfl) tt_ok spRSt_ok 9 (fn := Tryd.f54) Tryd.func54 (by decide +kernel) (by kernel_rfl) (fun look fresh svs out h hp => ?_)
  unfold sRStir at h
  split at h
  · rename_i b kp lo len
    split at h
    · rename_i cs m hb hk
      split at h
      · rename_i s hs
        have ec := dRS_ok hs
        subst ec
        split at h
        · rename_i hne
          obtain rfl := Option.some.inj h
          obtain ⟨p1, p2, p3, p4⟩ := hp
          generalize hm : (m.take (lo + len)).drop lo = m' at *
          refine ⟨[some b, some kp], [s.cells, [.own (.bytes m)]], [.ptr 0 0, .sl 1 lo len], _, _, by simp [hne], rfl, nmC (fun n e => by cases e; exact ⟨_, hb, rfl⟩) (nmC (fun n e => by cases e; exact ⟨_, hk, rfl⟩) nmN), nnC (fun e => by cases e) (nnC (fun e => by cases e) nnN), fun _ _ _ r => r, rfl, NnVD.of (vcRSt1 s m lo len (fun s' m' => s' = rstV s ((m.take (lo + len)).drop lo) ∧ m' = m)) ?_, fun r M' hl => by rw [← hm]; exact backR1 hl⟩
          simp only [List.nil_append, fl, tf, hm]
          exact ⟨Nat.le_trans p3 (by decide), ⟨by simp, by simp [appLim]; omega⟩, ⟨by omega, by simp; omega⟩, ⟨by rw [macV_len]; decide, by omega⟩, trivial, rfl, trivial⟩
        · cases h
      · split at h
        · rename_i a l1 c1 d l2 c2 n t hs
          have ec := dRS2_ok hs
          subst ec
          split at h
          · rename_i k v ha hd
            split at h
            · rename_i hne
              obtain ⟨n1, n2, n3, n4, n5, n6⟩ := hne
              obtain rfl := Option.some.inj h
              obtain ⟨p1, p0, p2, p3, p4⟩ := hp
              generalize hm : (m.take (lo + len)).drop lo = m' at *
              generalize hv : (v.take (l2 + c2)).drop l2 = v' at *
              generalize hkk : (k.take (l1 + c1)).drop l1 = k' at *
              replace p2 : k'.length ≤ 1000 := p2
              replace p3 : v'.length ≤ 1000 := p3
              refine ⟨[some b, some a, some d, some kp], [[.sl 1 l1 c1, .sl 2 l2 c2, .lst (.num n), .bool t], [.own (.bytes k)], [.own (.bytes v)], [.own (.bytes m)]], [.ptr 0 0, .sl 3 lo len], _, _, by simp [n1, n2, n3, n4, n5, n6], rfl, nmC (fun n e => by cases e; exact ⟨_, hb, rfl⟩) (nmC (fun n e => by cases e; exact ⟨_, ha, rfl⟩) (nmC (fun n e => by cases e; exact ⟨_, hd, rfl⟩) (nmC (fun n e => by cases e; exact ⟨_, hk, rfl⟩) nmN))), nnC (fun e => by cases e) (nnC (fun e => by cases e) (nnC (fun e => by cases e) (nnC (fun e => by cases e) nnN))), fun _ _ _ r => r, rfl, NnVD.of (vcRSt3 k v m l1 c1 l2 c2 lo len n t (fun s' k2 v2 m2 => s' = rstV ⟨k', v', n, t⟩ m' ∧ k2 = k ∧ v2 = v ∧ m2 = m)) ?_, fun r M' hl => backR3 hl⟩
              simp only [List.nil_append, fl, tf, hm, hv, hkk]
              exact ⟨Nat.le_trans p3 (by decide), ⟨by simp, by simp [appLim]; omega⟩, ⟨by omega, by simp; omega⟩, ⟨by rw [macV_len]; decide, by omega⟩, trivial, rfl, trivial, trivial, trivial⟩
            · cases h
          · cases h
        · cases h
    · cases h
  · cases h
end Go.Proofs.YtomoihkepkmgdaaDoor.H8
/- Layer 8: the reference's source is made, and asked: what is said of it. -/
set_option maxRecDepth 10000
namespace Go.Proofs.YtomoihkepkmgdaaDoor.H8
open Go.Sym Go.Dig R1 H5 H7
instance : Enc RSrc where
  enc s := .ro s.cells 0
  dec | .ro cs 0 => dRS cs
      | _ => none
  ok := by
    intro s a h at_ w v r
    split at h
    · rw [dRS_ok h] at r; exact r
    · cases h
  nn _ := rfl
noncomputable def bothR (q x : Four) (h : List UInt8) : List UInt8 := tbO (nat4 x % nat4 q) ++ tbO (bev h % nat4 q)
abbrev ones8 : List UInt8 := List.replicate 32 (UInt8.ofNat (Int.toNat (1 : Int)))
noncomputable def rnew0 (q x : Four) (h : List UInt8) : RSrc := rstV (rstV ⟨zeros32, ones8, nat4 q, false⟩ (b0 ++ bothR q x h)) (b1 ++ bothR q x h)
theorem rn_ex : ∃ f : Four → Four → List UInt8 → RSrc, f = rnew0 := ⟨_, rfl⟩
noncomputable def rnewO : Four → Four → List UInt8 → RSrc := Classical.choose rn_ex
theorem rnewO_eq : rnewO = rnew0 := Classical.choose_spec rn_ex
noncomputable def sRNew : SpecF := fspec (α := Four × Four × List UInt8 × Unit) (β := RSrc) (fun a => some (0 < nat4 a.1 ∧ a.2.2.1.length ≤ 1000)) fun a => rnewO a.1 a.2.1 a.2.2.1
noncomputable def spRNew : Specs := [(51, nOf4), (52, nMod), (40, .fresh sTbO), (53, sBig), (54, .memf sRStir)]
def QRF (Q : RSrc → Prop) (r : SV) : Prop :=
  match r with
  | .ro cs 0 => (match dRS cs with | some s => Q s | none => False)
  | _ => False
def QRN (Q : Four → Bool → RSrc → Prop) (r : SV) (M : List (Option Blk)) : Prop :=
  match M[0]? with
  | some (some cs) => (match dRS cs with | some s => (match M[5000]? with | none => QA (fun a t => Q a t s) r | _ => False) | none => False)
  | _ => False
structure PRS where
  v : RSrc
instance : LEnc PRS where
  kind := none
  enc nx a := (.ptr nx 0, [a.v.cells])
  dec nx s M := match s, M with
    | .ptr b 0, some cs :: M' => if b = nx then (dRS cs).map fun r => (none, ⟨r⟩, M') else none
    | _, _ => none
  all P := ∀ v, P ⟨v⟩
  all_ok h a := h a.v
  ok := by
    intro nx s M p a M' h hp
    split at h
    · split at h
      · rename_i hb
        obtain ⟨r, h1, h2⟩ := Option.map_eq_some_iff.1 h
        simp only [Prod.mk.injEq] at h2
        obtain ⟨_, rfl, rfl⟩ := h2
        subst hb
        rw [dRS_ok h1]
        exact ⟨rfl, fun r => r⟩
      · cases h
    · cases h
/-- The same source, as the program has it. -/
def toS (b : Bool) (s : RSrc) : SrcV := ⟨s.k, s.v, fourN s.n, b⟩
def iRN (n0 : Nat) (b : Bool) (R : SrcV × Four) (s : RSrc) (a : Four) (i : Int) : Prop := a = z4 ∧ 0 ≤ i ∧ i ≤ 1000 ∧ s.n = n0 ∧ lenS (toS b s) ∧ (0 < i → s.told = false) ∧ trV (1000 - i).toNat (s.told || decide (0 < i)) (toS b s) = R
def lRNx (n0 : Nat) (b : Bool) (R : SrcV × Four) : Plan := { loops := [(0, { β := Unit, α := PRS × PF4 × Int × Unit, same := [], keep := [0, 2, 4], inv := fun _ _ x => iRN n0 b R x.1.v x.2.1.v x.2.2.1, meas := fun _ x => (1000 - x.2.2.1).toNat })] }
noncomputable def spRNx : Specs := [(12, .memf (toN sRMac)), (54, .memf sRStir), (53, sBig), (55, nCmp), (56, nFour)]
noncomputable def rnextS (s : RSrc) : RSrc := ⟨(nextS (toS s.told s)).k, (nextS (toS s.told s)).v, s.n, nzB (nextR (toS s.told s)).2⟩
noncomputable def sRNext : NSpecF := fun look _ svs =>
  match svs with
  | [.ptr b 0] => match look b with
    | some cs => match dRS cs with
      | some s => some ⟨some (lenS (toS s.told s) ∧ nat4 (fourN s.n) = s.n), .tup [.agg [.u64 (nextR (toS s.told s)).2.w0, .u64 (nextR (toS s.told s)).2.w1, .u64 (nextR (toS s.told s)).2.w2, .u64 (nextR (toS s.told s)).2.w3], .bool (nzB (nextR (toS s.told s)).2)], [(b, (rnextS s).cells)]⟩
      | none => none
    | none => none
  | _ => none
end Go.Proofs.YtomoihkepkmgdaaDoor.H8
/- Layer 8: the reference's source is made, and asked: what the bodies come to. -/
set_option maxRecDepth 10000
namespace Go.Proofs.YtomoihkepkmgdaaDoor.H8
open Go.Sym Go.Dig R1 H5 H7
--STOP macV, tbO, rstV, bytesN, Sm, okR, nat4, bev, fourN, cmpN, iRN, dg, trV
theorem vcRNew (q x : Four) (h : List UInt8) (Q : RSrc → Prop) : LfRaw tt spRNew 45 [] {} Tryd.f25 (QRF Q) (q, x, h, ()) =
  ((((0 : Int) ≤ (32 : Int)) ∧
   (((32 : Int) = (32 : Int)) ∧
   ((32 : Int) ≤ (1099511627776 : Int)))) ∧
  (((1 : Nat) ≤ appLim) ∧
  ((((0 : Nat) + (1 : Nat) = (1 : Nat)) ∧
   ((2 : Nat) ≤ appLim)) ∧
  ((((0 : Nat) + (2 : Nat) = (2 : Nat)) ∧
   ((3 : Nat) ≤ appLim)) ∧
  ((((0 : Nat) + (3 : Nat) = (3 : Nat)) ∧
   ((4 : Nat) ≤ appLim)) ∧
  ((((0 : Nat) + (4 : Nat) = (4 : Nat)) ∧
   ((5 : Nat) ≤ appLim)) ∧
  ((((0 : Nat) + (5 : Nat) = (5 : Nat)) ∧
   ((6 : Nat) ≤ appLim)) ∧
  ((((0 : Nat) + (6 : Nat) = (6 : Nat)) ∧
   ((7 : Nat) ≤ appLim)) ∧
  ((((0 : Nat) + (7 : Nat) = (7 : Nat)) ∧
   ((8 : Nat) ≤ appLim)) ∧
  ((((0 : Nat) + (8 : Nat) = (8 : Nat)) ∧
   ((9 : Nat) ≤ appLim)) ∧
  ((((0 : Nat) + (9 : Nat) = (9 : Nat)) ∧
   ((10 : Nat) ≤ appLim)) ∧
  ((((0 : Nat) + (10 : Nat) = (10 : Nat)) ∧
   ((11 : Nat) ≤ appLim)) ∧
  ((((0 : Nat) + (11 : Nat) = (11 : Nat)) ∧
   ((12 : Nat) ≤ appLim)) ∧
  ((((0 : Nat) + (12 : Nat) = (12 : Nat)) ∧
   ((13 : Nat) ≤ appLim)) ∧
  ((((0 : Nat) + (13 : Nat) = (13 : Nat)) ∧
   ((14 : Nat) ≤ appLim)) ∧
  ((((0 : Nat) + (14 : Nat) = (14 : Nat)) ∧
   ((15 : Nat) ≤ appLim)) ∧
  ((((0 : Nat) + (15 : Nat) = (15 : Nat)) ∧
   ((16 : Nat) ≤ appLim)) ∧
  ((((0 : Nat) + (16 : Nat) = (16 : Nat)) ∧
   ((17 : Nat) ≤ appLim)) ∧
  ((((0 : Nat) + (17 : Nat) = (17 : Nat)) ∧
   ((18 : Nat) ≤ appLim)) ∧
  ((((0 : Nat) + (18 : Nat) = (18 : Nat)) ∧
   ((19 : Nat) ≤ appLim)) ∧
  ((((0 : Nat) + (19 : Nat) = (19 : Nat)) ∧
   ((20 : Nat) ≤ appLim)) ∧
  ((((0 : Nat) + (20 : Nat) = (20 : Nat)) ∧
   ((21 : Nat) ≤ appLim)) ∧
  ((((0 : Nat) + (21 : Nat) = (21 : Nat)) ∧
   ((22 : Nat) ≤ appLim)) ∧
  ((((0 : Nat) + (22 : Nat) = (22 : Nat)) ∧
   ((23 : Nat) ≤ appLim)) ∧
  ((((0 : Nat) + (23 : Nat) = (23 : Nat)) ∧
   ((24 : Nat) ≤ appLim)) ∧
  ((((0 : Nat) + (24 : Nat) = (24 : Nat)) ∧
   ((25 : Nat) ≤ appLim)) ∧
  ((((0 : Nat) + (25 : Nat) = (25 : Nat)) ∧
   ((26 : Nat) ≤ appLim)) ∧
  ((((0 : Nat) + (26 : Nat) = (26 : Nat)) ∧
   ((27 : Nat) ≤ appLim)) ∧
  ((((0 : Nat) + (27 : Nat) = (27 : Nat)) ∧
   ((28 : Nat) ≤ appLim)) ∧
  ((((0 : Nat) + (28 : Nat) = (28 : Nat)) ∧
   ((29 : Nat) ≤ appLim)) ∧
  ((((0 : Nat) + (29 : Nat) = (29 : Nat)) ∧
   ((30 : Nat) ≤ appLim)) ∧
  ((((0 : Nat) + (30 : Nat) = (30 : Nat)) ∧
   ((31 : Nat) ≤ appLim)) ∧
  ((((0 : Nat) + (31 : Nat) = (31 : Nat)) ∧
   ((32 : Nat) ≤ appLim)) ∧
  (((List.length (dg (nat4 x)) ≤ (536870912 : Nat)) ∧
   ((List.length (dg (nat4 q)) ≤ (536870912 : Nat)) ∧
   ((0 : Nat) < nat4 q))) ∧
  (((Sm (nat4 x % nat4 q)) ∧
   ((32 : Int) = (32 : Int))) ∧
  ((List.length h ≤ (1048576 : Nat)) ∧
  (((List.length (dg (bev h)) ≤ (536870912 : Nat)) ∧
   ((List.length (dg (nat4 q)) ≤ (536870912 : Nat)) ∧
   ((0 : Nat) < nat4 q))) ∧
  (((Sm (bev h % nat4 q)) ∧
   ((32 : Int) = (32 : Int))) ∧
  ((((0 : Nat) + List.length (tbO (nat4 x % nat4 q)) = List.length (tbO (nat4 x % nat4 q))) ∧
   (List.length
    (List.drop (0 : Nat) (List.take (List.length (tbO (nat4 x % nat4 q))) (tbO (nat4 x % nat4 q))) ++
      List.drop (0 : Nat) (List.take ((0 : Nat) + List.length (tbO (bev h % nat4 q))) (tbO (bev h % nat4 q)))) ≤
  appLim)) ∧
  ((((0 : Nat) + (1 : Nat) = (1 : Nat)) ∧
   (List.length
    ([UInt8.ofNat (Int.toNat (0 : Int))] ++
      List.drop (0 : Nat)
        (List.take
          ((0 : Nat) +
            List.length
              (List.drop (0 : Nat) (List.take (List.length (tbO (nat4 x % nat4 q))) (tbO (nat4 x % nat4 q))) ++
                List.drop (0 : Nat)
                  (List.take ((0 : Nat) + List.length (tbO (bev h % nat4 q))) (tbO (bev h % nat4 q)))))
          (List.drop (0 : Nat) (List.take (List.length (tbO (nat4 x % nat4 q))) (tbO (nat4 x % nat4 q))) ++
            List.drop (0 : Nat) (List.take ((0 : Nat) + List.length (tbO (bev h % nat4 q))) (tbO (bev h % nat4 q)))))) ≤
  appLim)) ∧
  ((((0 : Nat) +
    List.length
      ([UInt8.ofNat (Int.toNat (0 : Int))] ++
        List.drop (0 : Nat)
          (List.take
            ((0 : Nat) +
              List.length
                (List.drop (0 : Nat) (List.take (List.length (tbO (nat4 x % nat4 q))) (tbO (nat4 x % nat4 q))) ++
                  List.drop (0 : Nat)
                    (List.take ((0 : Nat) + List.length (tbO (bev h % nat4 q))) (tbO (bev h % nat4 q)))))
            (List.drop (0 : Nat) (List.take (List.length (tbO (nat4 x % nat4 q))) (tbO (nat4 x % nat4 q))) ++
              List.drop (0 : Nat)
                (List.take ((0 : Nat) + List.length (tbO (bev h % nat4 q))) (tbO (bev h % nat4 q)))))) ≤
  List.length
    ([UInt8.ofNat (Int.toNat (0 : Int))] ++
      List.drop (0 : Nat)
        (List.take
          ((0 : Nat) +
            List.length
              (List.drop (0 : Nat) (List.take (List.length (tbO (nat4 x % nat4 q))) (tbO (nat4 x % nat4 q))) ++
                List.drop (0 : Nat)
                  (List.take ((0 : Nat) + List.length (tbO (bev h % nat4 q))) (tbO (bev h % nat4 q)))))
          (List.drop (0 : Nat) (List.take (List.length (tbO (nat4 x % nat4 q))) (tbO (nat4 x % nat4 q))) ++
            List.drop (0 : Nat) (List.take ((0 : Nat) + List.length (tbO (bev h % nat4 q))) (tbO (bev h % nat4 q))))))) ∧
   (((0 : Nat) + (32 : Nat) ≤ (32 : Nat)) ∧
   (okR
  (RSrc.mk
    [(0 : UInt8), (0 : UInt8), (0 : UInt8), (0 : UInt8), (0 : UInt8), (0 : UInt8), (0 : UInt8), (0 : UInt8),
      (0 : UInt8), (0 : UInt8), (0 : UInt8), (0 : UInt8), (0 : UInt8), (0 : UInt8), (0 : UInt8), (0 : UInt8),
      (0 : UInt8), (0 : UInt8), (0 : UInt8), (0 : UInt8), (0 : UInt8), (0 : UInt8), (0 : UInt8), (0 : UInt8),
      (0 : UInt8), (0 : UInt8), (0 : UInt8), (0 : UInt8), (0 : UInt8), (0 : UInt8), (0 : UInt8), (0 : UInt8)]
    [UInt8.ofNat (Int.toNat (1 : Int)), UInt8.ofNat (Int.toNat (1 : Int)), UInt8.ofNat (Int.toNat (1 : Int)),
      UInt8.ofNat (Int.toNat (1 : Int)), UInt8.ofNat (Int.toNat (1 : Int)), UInt8.ofNat (Int.toNat (1 : Int)),
      UInt8.ofNat (Int.toNat (1 : Int)), UInt8.ofNat (Int.toNat (1 : Int)), UInt8.ofNat (Int.toNat (1 : Int)),
      UInt8.ofNat (Int.toNat (1 : Int)), UInt8.ofNat (Int.toNat (1 : Int)), UInt8.ofNat (Int.toNat (1 : Int)),
      UInt8.ofNat (Int.toNat (1 : Int)), UInt8.ofNat (Int.toNat (1 : Int)), UInt8.ofNat (Int.toNat (1 : Int)),
      UInt8.ofNat (Int.toNat (1 : Int)), UInt8.ofNat (Int.toNat (1 : Int)), UInt8.ofNat (Int.toNat (1 : Int)),
      UInt8.ofNat (Int.toNat (1 : Int)), UInt8.ofNat (Int.toNat (1 : Int)), UInt8.ofNat (Int.toNat (1 : Int)),
      UInt8.ofNat (Int.toNat (1 : Int)), UInt8.ofNat (Int.toNat (1 : Int)), UInt8.ofNat (Int.toNat (1 : Int)),
      UInt8.ofNat (Int.toNat (1 : Int)), UInt8.ofNat (Int.toNat (1 : Int)), UInt8.ofNat (Int.toNat (1 : Int)),
      UInt8.ofNat (Int.toNat (1 : Int)), UInt8.ofNat (Int.toNat (1 : Int)), UInt8.ofNat (Int.toNat (1 : Int)),
      UInt8.ofNat (Int.toNat (1 : Int)), UInt8.ofNat (Int.toNat (1 : Int))]
    (nat4 q) false)
  (List.drop (0 : Nat)
    (List.take
      ((0 : Nat) +
        List.length
          ([UInt8.ofNat (Int.toNat (0 : Int))] ++
            List.drop (0 : Nat)
              (List.take
                ((0 : Nat) +
                  List.length
                    (List.drop (0 : Nat) (List.take (List.length (tbO (nat4 x % nat4 q))) (tbO (nat4 x % nat4 q))) ++
                      List.drop (0 : Nat)
                        (List.take ((0 : Nat) + List.length (tbO (bev h % nat4 q))) (tbO (bev h % nat4 q)))))
                (List.drop (0 : Nat) (List.take (List.length (tbO (nat4 x % nat4 q))) (tbO (nat4 x % nat4 q))) ++
                  List.drop (0 : Nat)
                    (List.take ((0 : Nat) + List.length (tbO (bev h % nat4 q))) (tbO (bev h % nat4 q)))))))
      ([UInt8.ofNat (Int.toNat (0 : Int))] ++
        List.drop (0 : Nat)
          (List.take
            ((0 : Nat) +
              List.length
                (List.drop (0 : Nat) (List.take (List.length (tbO (nat4 x % nat4 q))) (tbO (nat4 x % nat4 q))) ++
                  List.drop (0 : Nat)
                    (List.take ((0 : Nat) + List.length (tbO (bev h % nat4 q))) (tbO (bev h % nat4 q)))))
            (List.drop (0 : Nat) (List.take (List.length (tbO (nat4 x % nat4 q))) (tbO (nat4 x % nat4 q))) ++
              List.drop (0 : Nat)
                (List.take ((0 : Nat) + List.length (tbO (bev h % nat4 q))) (tbO (bev h % nat4 q))))))))))) ∧
  ((((0 : Nat) + (1 : Nat) = (1 : Nat)) ∧
   (List.length
    ([UInt8.ofNat (Int.toNat (1 : Int))] ++
      List.drop (0 : Nat)
        (List.take
          ((0 : Nat) +
            List.length
              (List.drop (0 : Nat) (List.take (List.length (tbO (nat4 x % nat4 q))) (tbO (nat4 x % nat4 q))) ++
                List.drop (0 : Nat)
                  (List.take ((0 : Nat) + List.length (tbO (bev h % nat4 q))) (tbO (bev h % nat4 q)))))
          (List.drop (0 : Nat) (List.take (List.length (tbO (nat4 x % nat4 q))) (tbO (nat4 x % nat4 q))) ++
            List.drop (0 : Nat) (List.take ((0 : Nat) + List.length (tbO (bev h % nat4 q))) (tbO (bev h % nat4 q)))))) ≤
  appLim)) ∧
  ((((0 : Nat) +
    List.length
      ([UInt8.ofNat (Int.toNat (1 : Int))] ++
        List.drop (0 : Nat)
          (List.take
            ((0 : Nat) +
              List.length
                (List.drop (0 : Nat) (List.take (List.length (tbO (nat4 x % nat4 q))) (tbO (nat4 x % nat4 q))) ++
                  List.drop (0 : Nat)
                    (List.take ((0 : Nat) + List.length (tbO (bev h % nat4 q))) (tbO (bev h % nat4 q)))))
            (List.drop (0 : Nat) (List.take (List.length (tbO (nat4 x % nat4 q))) (tbO (nat4 x % nat4 q))) ++
              List.drop (0 : Nat)
                (List.take ((0 : Nat) + List.length (tbO (bev h % nat4 q))) (tbO (bev h % nat4 q)))))) ≤
  List.length
    ([UInt8.ofNat (Int.toNat (1 : Int))] ++
      List.drop (0 : Nat)
        (List.take
          ((0 : Nat) +
            List.length
              (List.drop (0 : Nat) (List.take (List.length (tbO (nat4 x % nat4 q))) (tbO (nat4 x % nat4 q))) ++
                List.drop (0 : Nat)
                  (List.take ((0 : Nat) + List.length (tbO (bev h % nat4 q))) (tbO (bev h % nat4 q)))))
          (List.drop (0 : Nat) (List.take (List.length (tbO (nat4 x % nat4 q))) (tbO (nat4 x % nat4 q))) ++
            List.drop (0 : Nat) (List.take ((0 : Nat) + List.length (tbO (bev h % nat4 q))) (tbO (bev h % nat4 q))))))) ∧
   (okR
  (rstV
    (RSrc.mk
      [(0 : UInt8), (0 : UInt8), (0 : UInt8), (0 : UInt8), (0 : UInt8), (0 : UInt8), (0 : UInt8), (0 : UInt8),
        (0 : UInt8), (0 : UInt8), (0 : UInt8), (0 : UInt8), (0 : UInt8), (0 : UInt8), (0 : UInt8), (0 : UInt8),
        (0 : UInt8), (0 : UInt8), (0 : UInt8), (0 : UInt8), (0 : UInt8), (0 : UInt8), (0 : UInt8), (0 : UInt8),
        (0 : UInt8), (0 : UInt8), (0 : UInt8), (0 : UInt8), (0 : UInt8), (0 : UInt8), (0 : UInt8), (0 : UInt8)]
      [UInt8.ofNat (Int.toNat (1 : Int)), UInt8.ofNat (Int.toNat (1 : Int)), UInt8.ofNat (Int.toNat (1 : Int)),
        UInt8.ofNat (Int.toNat (1 : Int)), UInt8.ofNat (Int.toNat (1 : Int)), UInt8.ofNat (Int.toNat (1 : Int)),
        UInt8.ofNat (Int.toNat (1 : Int)), UInt8.ofNat (Int.toNat (1 : Int)), UInt8.ofNat (Int.toNat (1 : Int)),
        UInt8.ofNat (Int.toNat (1 : Int)), UInt8.ofNat (Int.toNat (1 : Int)), UInt8.ofNat (Int.toNat (1 : Int)),
        UInt8.ofNat (Int.toNat (1 : Int)), UInt8.ofNat (Int.toNat (1 : Int)), UInt8.ofNat (Int.toNat (1 : Int)),
        UInt8.ofNat (Int.toNat (1 : Int)), UInt8.ofNat (Int.toNat (1 : Int)), UInt8.ofNat (Int.toNat (1 : Int)),
        UInt8.ofNat (Int.toNat (1 : Int)), UInt8.ofNat (Int.toNat (1 : Int)), UInt8.ofNat (Int.toNat (1 : Int)),
        UInt8.ofNat (Int.toNat (1 : Int)), UInt8.ofNat (Int.toNat (1 : Int)), UInt8.ofNat (Int.toNat (1 : Int)),
        UInt8.ofNat (Int.toNat (1 : Int)), UInt8.ofNat (Int.toNat (1 : Int)), UInt8.ofNat (Int.toNat (1 : Int)),
        UInt8.ofNat (Int.toNat (1 : Int)), UInt8.ofNat (Int.toNat (1 : Int)), UInt8.ofNat (Int.toNat (1 : Int)),
        UInt8.ofNat (Int.toNat (1 : Int)), UInt8.ofNat (Int.toNat (1 : Int))]
      (nat4 q) false)
    (List.drop (0 : Nat)
      (List.take
        ((0 : Nat) +
          List.length
            ([UInt8.ofNat (Int.toNat (0 : Int))] ++
              List.drop (0 : Nat)
                (List.take
                  ((0 : Nat) +
                    List.length
                      (List.drop (0 : Nat) (List.take (List.length (tbO (nat4 x % nat4 q))) (tbO (nat4 x % nat4 q))) ++
                        List.drop (0 : Nat)
                          (List.take ((0 : Nat) + List.length (tbO (bev h % nat4 q))) (tbO (bev h % nat4 q)))))
                  (List.drop (0 : Nat) (List.take (List.length (tbO (nat4 x % nat4 q))) (tbO (nat4 x % nat4 q))) ++
                    List.drop (0 : Nat)
                      (List.take ((0 : Nat) + List.length (tbO (bev h % nat4 q))) (tbO (bev h % nat4 q)))))))
        ([UInt8.ofNat (Int.toNat (0 : Int))] ++
          List.drop (0 : Nat)
            (List.take
              ((0 : Nat) +
                List.length
                  (List.drop (0 : Nat) (List.take (List.length (tbO (nat4 x % nat4 q))) (tbO (nat4 x % nat4 q))) ++
                    List.drop (0 : Nat)
                      (List.take ((0 : Nat) + List.length (tbO (bev h % nat4 q))) (tbO (bev h % nat4 q)))))
              (List.drop (0 : Nat) (List.take (List.length (tbO (nat4 x % nat4 q))) (tbO (nat4 x % nat4 q))) ++
                List.drop (0 : Nat)
                  (List.take ((0 : Nat) + List.length (tbO (bev h % nat4 q))) (tbO (bev h % nat4 q)))))))))
  (List.drop (0 : Nat)
    (List.take
      ((0 : Nat) +
        List.length
          ([UInt8.ofNat (Int.toNat (1 : Int))] ++
            List.drop (0 : Nat)
              (List.take
                ((0 : Nat) +
                  List.length
                    (List.drop (0 : Nat) (List.take (List.length (tbO (nat4 x % nat4 q))) (tbO (nat4 x % nat4 q))) ++
                      List.drop (0 : Nat)
                        (List.take ((0 : Nat) + List.length (tbO (bev h % nat4 q))) (tbO (bev h % nat4 q)))))
                (List.drop (0 : Nat) (List.take (List.length (tbO (nat4 x % nat4 q))) (tbO (nat4 x % nat4 q))) ++
                  List.drop (0 : Nat)
                    (List.take ((0 : Nat) + List.length (tbO (bev h % nat4 q))) (tbO (bev h % nat4 q)))))))
      ([UInt8.ofNat (Int.toNat (1 : Int))] ++
        List.drop (0 : Nat)
          (List.take
            ((0 : Nat) +
              List.length
                (List.drop (0 : Nat) (List.take (List.length (tbO (nat4 x % nat4 q))) (tbO (nat4 x % nat4 q))) ++
                  List.drop (0 : Nat)
                    (List.take ((0 : Nat) + List.length (tbO (bev h % nat4 q))) (tbO (bev h % nat4 q)))))
            (List.drop (0 : Nat) (List.take (List.length (tbO (nat4 x % nat4 q))) (tbO (nat4 x % nat4 q))) ++
              List.drop (0 : Nat)
                (List.take ((0 : Nat) + List.length (tbO (bev h % nat4 q))) (tbO (bev h % nat4 q)))))))))) ∧
  (Q
  (rstV
    (rstV
      (RSrc.mk
        [(0 : UInt8), (0 : UInt8), (0 : UInt8), (0 : UInt8), (0 : UInt8), (0 : UInt8), (0 : UInt8), (0 : UInt8),
          (0 : UInt8), (0 : UInt8), (0 : UInt8), (0 : UInt8), (0 : UInt8), (0 : UInt8), (0 : UInt8), (0 : UInt8),
          (0 : UInt8), (0 : UInt8), (0 : UInt8), (0 : UInt8), (0 : UInt8), (0 : UInt8), (0 : UInt8), (0 : UInt8),
          (0 : UInt8), (0 : UInt8), (0 : UInt8), (0 : UInt8), (0 : UInt8), (0 : UInt8), (0 : UInt8), (0 : UInt8)]
        [UInt8.ofNat (Int.toNat (1 : Int)), UInt8.ofNat (Int.toNat (1 : Int)), UInt8.ofNat (Int.toNat (1 : Int)),
          UInt8.ofNat (Int.toNat (1 : Int)), UInt8.ofNat (Int.toNat (1 : Int)), UInt8.ofNat (Int.toNat (1 : Int)),
          UInt8.ofNat (Int.toNat (1 : Int)), UInt8.ofNat (Int.toNat (1 : Int)), UInt8.ofNat (Int.toNat (1 : Int)),
          UInt8.ofNat (Int.toNat (1 : Int)), UInt8.ofNat (Int.toNat (1 : Int)), UInt8.ofNat (Int.toNat (1 : Int)),
          UInt8.ofNat (Int.toNat (1 : Int)), UInt8.ofNat (Int.toNat (1 : Int)), UInt8.ofNat (Int.toNat (1 : Int)),
          UInt8.ofNat (Int.toNat (1 : Int)), UInt8.ofNat (Int.toNat (1 : Int)), UInt8.ofNat (Int.toNat (1 : Int)),
          UInt8.ofNat (Int.toNat (1 : Int)), UInt8.ofNat (Int.toNat (1 : Int)), UInt8.ofNat (Int.toNat (1 : Int)),
          UInt8.ofNat (Int.toNat (1 : Int)), UInt8.ofNat (Int.toNat (1 : Int)), UInt8.ofNat (Int.toNat (1 : Int)),
          UInt8.ofNat (Int.toNat (1 : Int)), UInt8.ofNat (Int.toNat (1 : Int)), UInt8.ofNat (Int.toNat (1 : Int)),
          UInt8.ofNat (Int.toNat (1 : Int)), UInt8.ofNat (Int.toNat (1 : Int)), UInt8.ofNat (Int.toNat (1 : Int)),
          UInt8.ofNat (Int.toNat (1 : Int)), UInt8.ofNat (Int.toNat (1 : Int))]
        (nat4 q) false)
      (List.drop (0 : Nat)
        (List.take
          ((0 : Nat) +
            List.length
              ([UInt8.ofNat (Int.toNat (0 : Int))] ++
                List.drop (0 : Nat)
                  (List.take
                    ((0 : Nat) +
                      List.length
                        (List.drop (0 : Nat)
                            (List.take (List.length (tbO (nat4 x % nat4 q))) (tbO (nat4 x % nat4 q))) ++
                          List.drop (0 : Nat)
                            (List.take ((0 : Nat) + List.length (tbO (bev h % nat4 q))) (tbO (bev h % nat4 q)))))
                    (List.drop (0 : Nat) (List.take (List.length (tbO (nat4 x % nat4 q))) (tbO (nat4 x % nat4 q))) ++
                      List.drop (0 : Nat)
                        (List.take ((0 : Nat) + List.length (tbO (bev h % nat4 q))) (tbO (bev h % nat4 q)))))))
          ([UInt8.ofNat (Int.toNat (0 : Int))] ++
            List.drop (0 : Nat)
              (List.take
                ((0 : Nat) +
                  List.length
                    (List.drop (0 : Nat) (List.take (List.length (tbO (nat4 x % nat4 q))) (tbO (nat4 x % nat4 q))) ++
                      List.drop (0 : Nat)
                        (List.take ((0 : Nat) + List.length (tbO (bev h % nat4 q))) (tbO (bev h % nat4 q)))))
                (List.drop (0 : Nat) (List.take (List.length (tbO (nat4 x % nat4 q))) (tbO (nat4 x % nat4 q))) ++
                  List.drop (0 : Nat)
                    (List.take ((0 : Nat) + List.length (tbO (bev h % nat4 q))) (tbO (bev h % nat4 q)))))))))
    (List.drop (0 : Nat)
      (List.take
        ((0 : Nat) +
          List.length
            ([UInt8.ofNat (Int.toNat (1 : Int))] ++
              List.drop (0 : Nat)
                (List.take
                  ((0 : Nat) +
                    List.length
                      (List.drop (0 : Nat) (List.take (List.length (tbO (nat4 x % nat4 q))) (tbO (nat4 x % nat4 q))) ++
                        List.drop (0 : Nat)
                          (List.take ((0 : Nat) + List.length (tbO (bev h % nat4 q))) (tbO (bev h % nat4 q)))))
                  (List.drop (0 : Nat) (List.take (List.length (tbO (nat4 x % nat4 q))) (tbO (nat4 x % nat4 q))) ++
                    List.drop (0 : Nat)
                      (List.take ((0 : Nat) + List.length (tbO (bev h % nat4 q))) (tbO (bev h % nat4 q)))))))
        ([UInt8.ofNat (Int.toNat (1 : Int))] ++
          List.drop (0 : Nat)
            (List.take
              ((0 : Nat) +
                List.length
                  (List.drop (0 : Nat) (List.take (List.length (tbO (nat4 x % nat4 q))) (tbO (nat4 x % nat4 q))) ++
                    List.drop (0 : Nat)
                      (List.take ((0 : Nat) + List.length (tbO (bev h % nat4 q))) (tbO (bev h % nat4 q)))))
              (List.drop (0 : Nat) (List.take (List.length (tbO (nat4 x % nat4 q))) (tbO (nat4 x % nat4 q))) ++
                List.drop (0 : Nat)
                  (List.take ((0 : Nat) + List.length (tbO (bev h % nat4 q))) (tbO (bev h % nat4 q))))))))))))))))))))))))))))))))))))))))))))))))))))) := by kernel_rfl
theorem vcRNx (n0 : Nat) (b : Bool) (R : SrcV × Four) (s : RSrc) (Q : Four → Bool → RSrc → Prop) : NnRaw tt spRNx 9 [] (lRNx n0 b R) Tryd.f27 [.ptr 0 0] [s.cells] (QRN Q) =
  ((iRN n0 b R s
  (Four.mk (UInt64.ofNat (Int.toNat (0 : Int))) (UInt64.ofNat (Int.toNat (0 : Int)))
    (UInt64.ofNat (Int.toNat (0 : Int))) (UInt64.ofNat (Int.toNat (0 : Int))))
  (0 : Int)) ∧
  (∀ v : RSrc,
  (∀ v_1 : Four,
  (∀ a : Int,
  ((iRN n0 b R v v_1 a) →
  bcase (decide (a < (1000 : Int)))
    (bcase (RSrc.told v)
      (((((0 : Nat) + (1 : Nat) ≤ (1 : Nat)) ∧
       (okR v [UInt8.ofNat (Int.toNat (0 : Int))])) ∧
      (((List.length (RSrc.k (rstV v [UInt8.ofNat (Int.toNat (0 : Int))])) ≤ (1073741824 : Nat)) ∧
       (List.length (RSrc.v (rstV v [UInt8.ofNat (Int.toNat (0 : Int))])) ≤ (1000000000 : Nat))) ∧
      ((List.length
    (macV (RSrc.k (rstV v [UInt8.ofNat (Int.toNat (0 : Int))])) (RSrc.v (rstV v [UInt8.ofNat (Int.toNat (0 : Int))]))) ≤
  (1048576 : Nat)) ∧
      bcase (decide
  ((↑(List.length
          (dg
            (bev
              (macV (RSrc.k (rstV v [UInt8.ofNat (Int.toNat (0 : Int))]))
                (RSrc.v (rstV v [UInt8.ofNat (Int.toNat (0 : Int))])))))) :
      Int) >
    (0 : Int)))
        ((((Sm
  (bev
    (macV (RSrc.k (rstV v [UInt8.ofNat (Int.toNat (0 : Int))])) (RSrc.v (rstV v [UInt8.ofNat (Int.toNat (0 : Int))]))))) ∧
         (Sm (RSrc.n (rstV v [UInt8.ofNat (Int.toNat (0 : Int))])))) ∧
        bcase (decide
  (cmpN
      (bev
        (macV (RSrc.k (rstV v [UInt8.ofNat (Int.toNat (0 : Int))]))
          (RSrc.v (rstV v [UInt8.ofNat (Int.toNat (0 : Int))]))))
      (RSrc.n (rstV v [UInt8.ofNat (Int.toNat (0 : Int))])) <
    (0 : Int)))
          (((Sm
  (bev
    (macV (RSrc.k (rstV v [UInt8.ofNat (Int.toNat (0 : Int))])) (RSrc.v (rstV v [UInt8.ofNat (Int.toNat (0 : Int))]))))) ∧
          (Q
  (fourN
    (bev
      (macV (RSrc.k (rstV v [UInt8.ofNat (Int.toNat (0 : Int))]))
        (RSrc.v (rstV v [UInt8.ofNat (Int.toNat (0 : Int))])))))
  true
  (RSrc.mk (RSrc.k (rstV v [UInt8.ofNat (Int.toNat (0 : Int))]))
    (macV (RSrc.k (rstV v [UInt8.ofNat (Int.toNat (0 : Int))])) (RSrc.v (rstV v [UInt8.ofNat (Int.toNat (0 : Int))])))
    (RSrc.n (rstV v [UInt8.ofNat (Int.toNat (0 : Int))])) true))))
          (((() = ()) ∧
          ((iRN n0 b R
  (RSrc.mk (RSrc.k (rstV v [UInt8.ofNat (Int.toNat (0 : Int))]))
    (macV (RSrc.k (rstV v [UInt8.ofNat (Int.toNat (0 : Int))])) (RSrc.v (rstV v [UInt8.ofNat (Int.toNat (0 : Int))])))
    (RSrc.n (rstV v [UInt8.ofNat (Int.toNat (0 : Int))])) false)
  v_1 (IntKind.wrap IntKind.i64 (a + (1 : Int)))) ∧
          (Int.toNat ((1000 : Int) - IntKind.wrap IntKind.i64 (a + (1 : Int))) < Int.toNat ((1000 : Int) - a)))))))
        (((() = ()) ∧
        ((iRN n0 b R
  (RSrc.mk (RSrc.k (rstV v [UInt8.ofNat (Int.toNat (0 : Int))]))
    (macV (RSrc.k (rstV v [UInt8.ofNat (Int.toNat (0 : Int))])) (RSrc.v (rstV v [UInt8.ofNat (Int.toNat (0 : Int))])))
    (RSrc.n (rstV v [UInt8.ofNat (Int.toNat (0 : Int))])) false)
  v_1 (IntKind.wrap IntKind.i64 (a + (1 : Int)))) ∧
        (Int.toNat ((1000 : Int) - IntKind.wrap IntKind.i64 (a + (1 : Int))) < Int.toNat ((1000 : Int) - a)))))))))
      (bcase (decide (a > (0 : Int)))
        (((((0 : Nat) + (1 : Nat) ≤ (1 : Nat)) ∧
         (okR v [UInt8.ofNat (Int.toNat (0 : Int))])) ∧
        (((List.length (RSrc.k (rstV v [UInt8.ofNat (Int.toNat (0 : Int))])) ≤ (1073741824 : Nat)) ∧
         (List.length (RSrc.v (rstV v [UInt8.ofNat (Int.toNat (0 : Int))])) ≤ (1000000000 : Nat))) ∧
        ((List.length
    (macV (RSrc.k (rstV v [UInt8.ofNat (Int.toNat (0 : Int))])) (RSrc.v (rstV v [UInt8.ofNat (Int.toNat (0 : Int))]))) ≤
  (1048576 : Nat)) ∧
        bcase (decide
  ((↑(List.length
          (dg
            (bev
              (macV (RSrc.k (rstV v [UInt8.ofNat (Int.toNat (0 : Int))]))
                (RSrc.v (rstV v [UInt8.ofNat (Int.toNat (0 : Int))])))))) :
      Int) >
    (0 : Int)))
          ((((Sm
  (bev
    (macV (RSrc.k (rstV v [UInt8.ofNat (Int.toNat (0 : Int))])) (RSrc.v (rstV v [UInt8.ofNat (Int.toNat (0 : Int))]))))) ∧
           (Sm (RSrc.n (rstV v [UInt8.ofNat (Int.toNat (0 : Int))])))) ∧
          bcase (decide
  (cmpN
      (bev
        (macV (RSrc.k (rstV v [UInt8.ofNat (Int.toNat (0 : Int))]))
          (RSrc.v (rstV v [UInt8.ofNat (Int.toNat (0 : Int))]))))
      (RSrc.n (rstV v [UInt8.ofNat (Int.toNat (0 : Int))])) <
    (0 : Int)))
            (((Sm
  (bev
    (macV (RSrc.k (rstV v [UInt8.ofNat (Int.toNat (0 : Int))])) (RSrc.v (rstV v [UInt8.ofNat (Int.toNat (0 : Int))]))))) ∧
            (Q
  (fourN
    (bev
      (macV (RSrc.k (rstV v [UInt8.ofNat (Int.toNat (0 : Int))]))
        (RSrc.v (rstV v [UInt8.ofNat (Int.toNat (0 : Int))])))))
  true
  (RSrc.mk (RSrc.k (rstV v [UInt8.ofNat (Int.toNat (0 : Int))]))
    (macV (RSrc.k (rstV v [UInt8.ofNat (Int.toNat (0 : Int))])) (RSrc.v (rstV v [UInt8.ofNat (Int.toNat (0 : Int))])))
    (RSrc.n (rstV v [UInt8.ofNat (Int.toNat (0 : Int))])) true))))
            (((() = ()) ∧
            ((iRN n0 b R
  (RSrc.mk (RSrc.k (rstV v [UInt8.ofNat (Int.toNat (0 : Int))]))
    (macV (RSrc.k (rstV v [UInt8.ofNat (Int.toNat (0 : Int))])) (RSrc.v (rstV v [UInt8.ofNat (Int.toNat (0 : Int))])))
    (RSrc.n (rstV v [UInt8.ofNat (Int.toNat (0 : Int))])) false)
  v_1 (IntKind.wrap IntKind.i64 (a + (1 : Int)))) ∧
            (Int.toNat ((1000 : Int) - IntKind.wrap IntKind.i64 (a + (1 : Int))) < Int.toNat ((1000 : Int) - a)))))))
          (((() = ()) ∧
          ((iRN n0 b R
  (RSrc.mk (RSrc.k (rstV v [UInt8.ofNat (Int.toNat (0 : Int))]))
    (macV (RSrc.k (rstV v [UInt8.ofNat (Int.toNat (0 : Int))])) (RSrc.v (rstV v [UInt8.ofNat (Int.toNat (0 : Int))])))
    (RSrc.n (rstV v [UInt8.ofNat (Int.toNat (0 : Int))])) false)
  v_1 (IntKind.wrap IntKind.i64 (a + (1 : Int)))) ∧
          (Int.toNat ((1000 : Int) - IntKind.wrap IntKind.i64 (a + (1 : Int))) < Int.toNat ((1000 : Int) - a)))))))))
        ((((List.length (RSrc.k v) ≤ (1073741824 : Nat)) ∧
         (List.length (RSrc.v v) ≤ (1000000000 : Nat))) ∧
        ((List.length (macV (RSrc.k v) (RSrc.v v)) ≤ (1048576 : Nat)) ∧
        bcase (decide ((↑(List.length (dg (bev (macV (RSrc.k v) (RSrc.v v))))) : Int) > (0 : Int)))
          ((((Sm (bev (macV (RSrc.k v) (RSrc.v v)))) ∧
           (Sm (RSrc.n v))) ∧
          bcase (decide (cmpN (bev (macV (RSrc.k v) (RSrc.v v))) (RSrc.n v) < (0 : Int)))
            (((Sm (bev (macV (RSrc.k v) (RSrc.v v)))) ∧
            (Q (fourN (bev (macV (RSrc.k v) (RSrc.v v)))) true (RSrc.mk (RSrc.k v) (macV (RSrc.k v) (RSrc.v v)) (RSrc.n v) true))))
            (((() = ()) ∧
            ((iRN n0 b R (RSrc.mk (RSrc.k v) (macV (RSrc.k v) (RSrc.v v)) (RSrc.n v) (RSrc.told v)) v_1
  (IntKind.wrap IntKind.i64 (a + (1 : Int)))) ∧
            (Int.toNat ((1000 : Int) - IntKind.wrap IntKind.i64 (a + (1 : Int))) < Int.toNat ((1000 : Int) - a)))))))
          (((() = ()) ∧
          ((iRN n0 b R (RSrc.mk (RSrc.k v) (macV (RSrc.k v) (RSrc.v v)) (RSrc.n v) (RSrc.told v)) v_1
  (IntKind.wrap IntKind.i64 (a + (1 : Int)))) ∧
          (Int.toNat ((1000 : Int) - IntKind.wrap IntKind.i64 (a + (1 : Int))) < Int.toNat ((1000 : Int) - a))))))))))
    ((Q
  (Four.mk (UInt64.ofNat (Int.toNat (0 : Int))) (UInt64.ofNat (Int.toNat (0 : Int)))
    (UInt64.ofNat (Int.toNat (0 : Int))) (UInt64.ofNat (Int.toNat (0 : Int))))
  false v))))))) := by kernel_rfl
end Go.Proofs.YtomoihkepkmgdaaDoor.H8
/- Layer 8: the reference's source: the bodies hold. -/
set_option maxRecDepth 10000
namespace Go.Proofs.YtomoihkepkmgdaaDoor.H8
open Go.Sym Go.Dig R1 H5 H7
theorem tbO_len (n : Nat) : (tbO n).length = 32 := by rw [tbO_eq]; simp [bytesN_len]
theorem spRNew_ok : SpecsOK Tryd.prog spRNew := .cons ok_nOf4 <| .cons ok_nMod <| .consF ok_TbO <| .cons ok_Big <| .consN ok_RStir (.nil _)
theorem bev24 {b : List UInt8} {k : Nat} (h : b.length ≤ k) : bev b < 16777216 ^ k := by
  refine Nat.lt_of_lt_of_le (bev_lt b) ?_
  rw [show (16777216 : Nat) = 2 ^ 24 by decide, ← Nat.pow_mul]
  exact Nat.pow_le_pow_right (by decide) (by omega)
theorem dgB {b : List UInt8} {k : Nat} (h : b.length ≤ k) : (dg (bev b)).length ≤ k := dg_length_lt (bev24 h)
theorem dg4 (a : Four) : (dg (nat4 a)).length ≤ 11 := dlen 11 (Nat.lt_of_lt_of_le (nat4_lt a) (by decide +kernel))
theorem dgM (m : Nat) {q : Four} (h : 0 < nat4 q) : (dg (m % nat4 q)).length ≤ 11 := Nat.le_trans (dg_len_le (Nat.le_of_lt (Nat.mod_lt m h))) (dg4 q)
theorem bothR_len (q x : Four) (h : List UInt8) : (bothR q x h).length = 64 := by unfold bothR; rw [List.length_append, tbO_len, tbO_len]
theorem rst_len (s : RSrc) (m : List UInt8) : (rstV s m).k.length = 32 ∧ (rstV s m).v.length = 32 := ⟨macV_len _ _, macV_len _ _⟩
theorem QRF_eq {s : RSrc} (z : SV) (h : QRF (fun s' => s' = s) z) (at_ : At) (n : Nat) (w : World) (v : Value) (r : FRel at_ n w z v) : FRel at_ n w (retSV (RetL.retL s)) v := by
  unfold QRF at h
  split at h
  · split at h
    · rename_i s' hs
      subst h
      have e := dRS_ok hs
      subst e
      exact r
    · exact h.elim
  · exact h.elim
theorem ok_RNew : FSpecOK Tryd.prog 25 sRNew := by
  unfold sRNew
  rw [rnewO_eq]
  refine fn_okF (by kernel_rfl) tt_ok spRNew_ok 45 Tryd.func25 (by decide +kernel) (by kernel_rfl) ?_
  rintro ⟨q, x, h, _⟩ hp
  obtain ⟨h1, h2⟩ : 0 < nat4 q ∧ h.length ≤ 1000 := hp
  refine ⟨_, {}, _, LfVD.of (vcRNew q x h (fun s' => s' = rnew0 q x h)) ?_, QRF_eq⟩
  have hb := bothR_len q x h
  have e : tbO (nat4 x % nat4 q) ++ tbO (bev h % nat4 q) = bothR q x h := rfl
  simp only [fl, tf, e]
  have t0 := tbO_len (nat4 x % nat4 q)
  have l0 : ([UInt8.ofNat (Int.toNat (0 : Int))] ++ bothR q x h).length = 65 := by rw [List.length_append, hb]; rfl
  have l1 : ([UInt8.ofNat (Int.toNat (1 : Int))] ++ bothR q x h).length = 65 := by rw [List.length_append, hb]; rfl
  have d1 := dg4 x
  have d2 := dg4 q
  have d3 := dgB h2
  have s1 : Sm (nat4 x % nat4 q) := Nat.le_trans (dgM _ h1) (by decide)
  have s2 : Sm (bev h % nat4 q) := Nat.le_trans (dgM _ h1) (by decide)
  have al : ∀ n : Nat, n ≤ 100 → n ≤ appLim := fun n hn => Nat.le_trans hn (by decide)
  have st : ∀ n : Nat, n ≤ 40 → (True ∧ n + 1 ≤ appLim) := fun n hn => ⟨trivial, al _ (by omega)⟩
  refine ⟨⟨by decide, trivial, by decide⟩, al 1 (by decide), st 1 (by decide), st 2 (by decide), st 3 (by decide), st 4 (by decide), st 5 (by decide), st 6 (by decide), st 7 (by decide), st 8 (by decide), st 9 (by decide), st 10 (by decide), st 11 (by decide), st 12 (by decide), st 13 (by decide), st 14 (by decide), st 15 (by decide), st 16 (by decide), st 17 (by decide), st 18 (by decide), st 19 (by decide), st 20 (by decide), st 21 (by decide), st 22 (by decide), st 23 (by decide), st 24 (by decide), st 25 (by decide), st 26 (by decide), st 27 (by decide), st 28 (by decide), st 29 (by decide), st 30 (by decide), st 31 (by decide),
    ⟨by omega, by omega, h1⟩, ⟨s1, trivial⟩, by omega, ⟨by omega, by omega, h1⟩, ⟨s2, trivial⟩, ⟨by omega, by rw [hb]; decide⟩, ⟨by decide, by rw [l0]; decide⟩, ⟨by omega, by decide, ⟨by show List.length zeros32 ≤ 1000; decide, by show List.length ones8 ≤ 1000; decide, by rw [l0]; decide⟩⟩, ⟨by decide, by rw [l1]; decide⟩, ⟨by omega, ⟨by rw [(rst_len _ _).1]; decide, by rw [(rst_len _ _).2]; decide, by rw [l1]; decide⟩⟩, rfl⟩
/-! Next. -/
theorem toS_stir (b : Bool) (s : RSrc) (m : List UInt8) : stirV (toS b s) m = toS b (rstV s m) := by
  simp [stirV, toS, rstV]
theorem try_T (b : Bool) (s : RSrc) (t : Bool) : tryS true (toS b s) = toS b (RSrc.mk (rstV s b0).k (macV (rstV s b0).k (rstV s b0).v) (rstV s b0).n t) := by
  show SrcV.mk (stirV (toS b s) b0).k (macV (stirV (toS b s) b0).k (List.flatten [(stirV (toS b s) b0).v])) (stirV (toS b s) b0).q (stirV (toS b s) b0).told = _
  rw [toS_stir]
  simp [toS]
theorem try_F (b : Bool) (s : RSrc) (t : Bool) : tryS false (toS b s) = toS b (RSrc.mk s.k (macV s.k s.v) s.n t) := by
  simp [tryS, toS]
theorem nat4_bev {v : List UInt8} (h : v.length = 32) : nat4 (fourN (bev v)) = bev v := by
  rw [nat4_fourN]
  refine Nat.mod_eq_of_lt ?_
  have := bev_lt v
  rw [h] at this
  exact Nat.lt_of_lt_of_le this (by decide +kernel)
theorem ofO_bev {v : List UInt8} (h : v.length = 32) : (ofO v).1 = fourN (bev v) := by
  rw [ofO_eq]
  show (limb_Of v true).1 = _
  rw [of_nat v true h]
  rfl
theorem nzB_nat (a : Four) : nzB a = decide (nat4 a ≠ 0) := by
  have key : nzB a = true ↔ nat4 a ≠ 0 := by
    unfold nzB
    constructor
    · intro hh e
      have : a = z4 := nat4_inj (e.trans (by decide))
      rw [this] at hh
      exact absurd hh (by decide)
    · intro hh
      cases hc : (a.w0 == UInt64.ofNat (Int.toNat (0 : Int)) && (a.w1 == UInt64.ofNat (Int.toNat (0 : Int)) && (a.w2 == UInt64.ofNat (Int.toNat (0 : Int)) && (a.w3 == UInt64.ofNat (Int.toNat (0 : Int)) && true)))) with
      | false => rfl
      | true =>
        simp only [Bool.and_true, Bool.and_eq_true, beq_iff_eq] at hc
        obtain ⟨c0, c1, c2, c3⟩ := hc
        exact absurd (by unfold nat4; rw [c0, c1, c2, c3]; decide) hh
  cases hz : nzB a with
  | true => exact (decide_eq_true (key.1 hz)).symm
  | false =>
    refine (decide_eq_false fun hh => ?_).symm
    rw [key.2 hh] at hz
    cases hz
theorem good_iff {b t : Bool} {k v : List UInt8} {n : Nat} (h : v.length = 32) (hn : nat4 (fourN n) = n) : good (toS b ⟨k, v, n, t⟩) ↔ bev v ≠ 0 ∧ cmpN (bev v) n < 0 := by
  show nzB (ofO v).1 = true ∧ cm4 (ofO v).1 (fourN n) < 0 ↔ _
  rw [ofO_bev h, nzB_nat, nat4_bev h, cm4_eq, cmp_nat, nat4_bev h, hn]
  unfold cmpN
  simp only [decide_eq_true_eq]
  have e1 : (if bev v < n then (-1 : Int) else if bev v = n then 0 else 1) < 0 ↔ bev v < n := by
    split
    · rename_i hh; exact ⟨fun _ => hh, fun _ => by decide⟩
    · split <;> rename_i g1 g2 <;> exact ⟨fun hh => absurd hh (by decide), fun hh => absurd hh g1⟩
  have e2 : (if bev v < n then (-1 : Int) else if n < bev v then 1 else 0) < 0 ↔ bev v < n := by
    split
    · rename_i hh; exact ⟨fun _ => hh, fun _ => by decide⟩
    · split <;> rename_i g1 g2 <;> exact ⟨fun hh => absurd hh (by decide), fun hh => absurd hh g1⟩
  rw [e1, e2]
theorem dg_gt (n : Nat) : (((dg n).length : Int) > 0) ↔ n ≠ 0 := by
  constructor
  · intro hh e
    rw [e, dg_zero] at hh
    exact absurd hh (by decide)
  · intro h
    by_cases hz : (dg n).length = 0
    · exact absurd (dg_nil_iff.1 (List.eq_nil_of_length_eq_zero hz)) h
    · omega
theorem smv {v : List UInt8} (h : v.length = 32) : Sm (bev v) := by rw [← nat4_bev h]; exact Sm4 _
theorem smn {n : Nat} (h : nat4 (fourN n) = n) : Sm n := by rw [← h]; exact Sm4 _
def QX8 (R : SrcV × Four) (n0 : Nat) (a : Four) (t : Bool) (s' : RSrc) : Prop := a = R.2 ∧ t = nzB R.2 ∧ s' = ⟨R.1.k, R.1.v, n0, nzB R.2⟩
/-- A try, in the reference: found, or on. -/
theorem step_R {n0 : Nat} {b : Bool} {R : SrcV × Four} {s s' : RSrc} {a : Four} {i : Int} (h : iRN n0 b R s a i) (hi : i < 1000) (hn : nat4 (fourN n0) = n0) (hs' : ∀ st, (s.told || decide (0 < i)) = st → tryS st (toS b s) = toS b s') (hq : s'.n = n0) (hv : s'.v.length = 32) (ht : s'.told = false) :
    (bev s'.v ≠ 0 → cmpN (bev s'.v) n0 < 0 → QX8 R n0 (fourN (bev s'.v)) true ⟨s'.k, s'.v, n0, true⟩) ∧ (¬ (bev s'.v ≠ 0 ∧ cmpN (bev s'.v) n0 < 0) → iRN n0 b R s' a (IntKind.wrap .i64 (i + 1)) ∧ Int.toNat (1000 - IntKind.wrap .i64 (i + 1)) < Int.toNat (1000 - i)) := by
  obtain ⟨h1, h2, h3, h4, h5, h6, h7⟩ := h
  have e : (1000 - i).toNat = (1000 - (i + 1)).toNat + 1 := by omega
  have ht' := hs' _ rfl
  obtain ⟨k', v', n', t'⟩ := s'
  replace hq : n' = n0 := hq
  subst hq
  have hg := good_iff (b := b) (t := t') (k := k') hv hn
  rw [e] at h7
  constructor
  · intro g1 g2
    rw [tr_good _ (by rw [ht']; exact hg.2 ⟨g1, g2⟩), ht'] at h7
    rw [← h7]
    have eo : (ofO (toS b ⟨k', v', n', t'⟩).v).1 = fourN (bev v') := ofO_bev hv
    have en : nzB (fourN (bev v')) = true := by rw [nzB_nat, nat4_bev hv]; exact decide_eq_true g1
    unfold QX8
    rw [eo, en]
    exact ⟨rfl, rfl, rfl⟩
  · intro g
    rw [tr_bad _ (by rw [ht']; exact fun hh => g (hg.1 hh)), ht'] at h7
    rw [R1.wr (by omega)]
    refine ⟨⟨h1, by omega, by omega, rfl, ?_, fun _ => ht, ?_⟩, by omega⟩
    · have := try_len h5 (s.told || decide (0 < i))
      rwa [ht'] at this
    · rw [decide_eq_true (show 0 < i + 1 by omega), Bool.or_true]
      exact h7
theorem spRNx_ok : SpecsOK Tryd.prog spRNx := .consN ok_RMacF.toN <| .consN ok_RStir <| .cons ok_Big <| .cons ok_nCmp <| .cons ok_nFour (.nil _)
theorem walk_RNext (s : RSrc) (hs : lenS (toS s.told s)) (hn : nat4 (fourN s.n) = s.n) : NnVD tt spRNx 9 Tryd.f27 [.ptr 0 0] [s.cells] (QRN (QX8 (nextR (toS s.told s)) s.n)) := by
  refine NnVD.of (vcRNx s.n s.told (nextR (toS s.told s)) s (QX8 (nextR (toS s.told s)) s.n)) ?_
  have hR : nextR (toS s.told s) = trV 1000 s.told (toS s.told s) := by rw [nextR_eq]; rfl
  refine ⟨⟨rfl, by omega, by omega, rfl, hs, fun h => absurd h (by decide), ?_⟩, fun v z i hI => ?_⟩
  · rw [hR]
    show trV 1000 (s.told || false) _ = _
    rw [Bool.or_false]
  · obtain ⟨h1, h2, h3, h4, h5, h6, h7⟩ := id hI
    have sn : Sm v.n := by rw [h4]; exact smn hn
    rw [bcase_dec]
    refine ⟨fun hi => ?_, fun hi => ?_⟩
    · have two : (v.told || decide (0 < i)) = true → _ := fun hst => step_R (s' := RSrc.mk (rstV v b0).k (macV (rstV v b0).k (rstV v b0).v) (rstV v b0).n false) hI hi hn (fun st e => by rw [hst] at e; subst e; exact try_T _ _ _) h4 (macV_len _ _) rfl
      have l1 := (rst_len v b0).1
      have l2 := (rst_len v b0).2
      have hv' : (macV (rstV v b0).k (rstV v b0).v).length = 32 := macV_len _ _
      have both : (v.told || decide (0 < i)) = true → _ := fun hst => And.intro (⟨by decide, ⟨h5.2.1, h5.2.2, by decide⟩⟩ : ((0 : Nat) + 1 ≤ 1 ∧ okR v [UInt8.ofNat (Int.toNat (0 : Int))])) (two hst)
      rw [bcase_iff]
      refine ⟨fun ht => ?_, fun ht => ?_⟩
      · obtain ⟨c1, c2, c3⟩ := both (by rw [ht, Bool.true_or])
        refine ⟨c1, ⟨by show (rstV v b0).k.length ≤ _; rw [l1]; decide, by show (rstV v b0).v.length ≤ _; rw [l2]; decide⟩, by rw [macV_len]; decide, ?_⟩
        rw [bcase_dec]
        refine ⟨fun g => ⟨⟨smv hv', sn⟩, ?_⟩, fun g => ?_⟩
        · rw [bcase_dec]
          refine ⟨fun g2 => ⟨smv hv', ?_⟩, fun g2 => ?_⟩
          · have := c2 ((dg_gt _).1 g) (by rw [← h4]; exact g2)
            rw [← h4] at this ⊢
            exact this
          · have := c3 (fun gg => g2 (by have := gg.2; rw [← h4] at this; exact this))
            exact ⟨rfl, this.1, this.2⟩
        · have := c3 (fun gg => g ((dg_gt _).2 gg.1))
          exact ⟨rfl, this.1, this.2⟩
      · rw [bcase_dec]
        refine ⟨fun hp => ?_, fun hp => ?_⟩
        · obtain ⟨c1, c2, c3⟩ := both (by rw [decide_eq_true (show 0 < i from hp), Bool.or_true])
          refine ⟨c1, ⟨by show (rstV v b0).k.length ≤ _; rw [l1]; decide, by show (rstV v b0).v.length ≤ _; rw [l2]; decide⟩, by rw [macV_len]; decide, ?_⟩
          rw [bcase_dec]
          refine ⟨fun g => ⟨⟨smv hv', sn⟩, ?_⟩, fun g => ?_⟩
          · rw [bcase_dec]
            refine ⟨fun g2 => ⟨smv hv', ?_⟩, fun g2 => ?_⟩
            · have := c2 ((dg_gt _).1 g) (by rw [← h4]; exact g2)
              rw [← h4] at this ⊢
              exact this
            · have := c3 (fun gg => g2 (by have := gg.2; rw [← h4] at this; exact this))
              exact ⟨rfl, this.1, this.2⟩
          · have := c3 (fun gg => g ((dg_gt _).2 gg.1))
            exact ⟨rfl, this.1, this.2⟩
        · have hv2 : (macV v.k v.v).length = 32 := macV_len _ _
          have c := step_R (s' := RSrc.mk v.k (macV v.k v.v) v.n v.told) hI hi hn (fun st e => by rw [ht, decide_eq_false (show ¬ 0 < i from hp), Bool.or_false] at e; subst e; exact try_F _ _ _) h4 hv2 ht
          obtain ⟨c2, c3⟩ := c
          refine ⟨⟨Nat.le_trans h5.2.1 (by decide), Nat.le_trans h5.2.2 (by decide)⟩, by rw [hv2]; decide, ?_⟩
          rw [bcase_dec]
          refine ⟨fun g => ⟨⟨smv hv2, sn⟩, ?_⟩, fun g => ?_⟩
          · rw [bcase_dec]
            refine ⟨fun g2 => ⟨smv hv2, ?_⟩, fun g2 => ?_⟩
            · have := c2 ((dg_gt _).1 g) (by rw [← h4]; exact g2)
              rw [← h4] at this ⊢
              exact this
            · have := c3 (fun gg => g2 (by have := gg.2; rw [← h4] at this; exact this))
              exact ⟨rfl, this.1, this.2⟩
          · have := c3 (fun gg => g ((dg_gt _).2 gg.1))
            exact ⟨rfl, this.1, this.2⟩
    · have e0 : (1000 - i).toNat = 0 := by omega
      rw [e0, trV] at h7
      rw [← h7]
      have ht := h6 (by omega)
      obtain ⟨k, vv, n, t⟩ := v
      replace ht : t = false := ht
      replace h4 : n = s.n := h4
      subst ht
      subst h4
      exact ⟨rfl, rfl, rfl⟩
theorem QRN_eq {R : SrcV × Four} {n0 : Nat} {r : SV} {M : List (Option Blk)} (h : QRN (QX8 R n0) r M) : r = .tup [.agg [.u64 R.2.w0, .u64 R.2.w1, .u64 R.2.w2, .u64 R.2.w3], .bool (nzB R.2)] ∧ M[0]? = some (some (RSrc.mk R.1.k R.1.v n0 (nzB R.2)).cells) ∧ M[5000]? = none := by
  unfold QRN at h
  split at h
  · rename_i cs hM
    split at h
    · rename_i s2 hs
      split at h
      · rename_i h5
        unfold QA at h
        split at h
        · obtain ⟨e1, e2, e3⟩ := h
          subst e3
          refine ⟨?_, by rw [hM, dRS_ok hs], h5⟩
          rw [e2, ← e1]
        · exact h.elim
      · exact h.elim
    · exact h.elim
  · exact h.elim
theorem ok_RNext : NSpecOK Tryd.prog 27 sRNext := by
  refine fn_okN (by kernel_rfl) tt_ok spRNx_ok 9 (fn := Tryd.f27) Tryd.func27 (by decide +kernel) (by kernel_rfl) (fun look fresh svs out h hp => ?_)
  unfold sRNext at h
  split at h
  · rename_i b
    split at h
    · rename_i cs hb
      split at h
      · rename_i s hs
        have ec := dRS_ok hs
        subst ec
        obtain rfl := Option.some.inj h
        refine ⟨[some b], [s.cells], [.ptr 0 0], [.ptr b 0], _, by simp, rfl, nmC (fun n e => by cases e; exact ⟨_, hb, rfl⟩) nmN, nnC (fun e => by cases e) nnN, fun _ _ _ r => r, rfl, walk_RNext s hp.1 hp.2, ?_⟩
        intro r M' hr
        obtain ⟨rfl, h0, h5⟩ := QRN_eq hr
        refine ⟨5000, 0, ?_⟩
        simp [backAll, back1, backM, backL, newL, h0, h5, RSrc.cells, rnextS, nextS, SV.noName, noNameL]
      · cases h
    · cases h
  · cases h
end Go.Proofs.YtomoihkepkmgdaaDoor.H8
/- Layer 8: the law that the numbers are the document's: what is said of it. -/
set_option maxRecDepth 10000
namespace Go.Proofs.YtomoihkepkmgdaaDoor.H8
open Go.Sym Go.Dig R1 H5 H7
noncomputable def spTl (b : Bool) : Specs := [(22, sAw8), (23, .fresh (cond b sNewG sNewB)), (26, .memf sNext), (24, sMay), (25, .fresh sRNew), (27, .memf sRNext)]
def iTl (s : SrcV) (t : RSrc) (i : Int) : Prop := s = toS t.told t ∧ lenS s ∧ nat4 (fourN t.n) = t.n ∧ 0 ≤ i ∧ i ≤ 3
def lTl : Plan := { loops := [(0, { β := Unit, α := PSrc × PRS × Int × Unit, same := [], keep := [7, 9, 43], inv := fun _ _ x => iTl x.1.v x.2.1.v x.2.2.1, meas := fun _ x => (3 - x.2.2.1).toNat })] }
end Go.Proofs.YtomoihkepkmgdaaDoor.H8
/- Layer 8: the law that the numbers are the document's: what its body comes to. -/
set_option maxRecDepth 10000
namespace Go.Proofs.YtomoihkepkmgdaaDoor.H8
open Go.Sym Go.Dig R1 H5 H7
--STOP macV, newV, srcO, nextR, mayB, nat4, iTl, lenS, nzB, Sm, rnewO, fourN
theorem vcTlB (q x : Four) (h : List UInt8) (Q : SV → Prop) : LnRaw tt (spTl false) 9 [] {} Tryd.f7 Q (q, x, h, ()) =
  ((newV q x h = (none, (2 : Int))) ∧
  bcase (!mayB q h)
    ((Q (SV.bool ((2 : Int) == (2 : Int)))))
    ((Q (SV.bool false)))) := by kernel_rfl
theorem vcTlG (q x : Four) (h : List UInt8) (Q : SV → Prop) : LnRaw tt (spTl true) 9 [] lTl Tryd.f7 Q (q, x, h, ()) =
  ((newV q x h = (some (srcO q x h), (0 : Int))) ∧
  bcase (!mayB q h)
    ((Q (SV.bool false)))
    (((((0 : Nat) < nat4 q) ∧
     (List.length h ≤ (1000 : Nat))) ∧
    ((iTl (srcO q x h) (rnewO q x h) (0 : Int)) ∧
    (∀ v : SrcV,
    (∀ v_1 : RSrc,
    (∀ a : Int,
    ((iTl v v_1 a) →
    bcase (decide (a < (3 : Int)))
      (((lenS v) ∧
      (((lenS (toS (RSrc.told v_1) v_1)) ∧
       (nat4 (fourN (RSrc.n v_1)) = RSrc.n v_1)) ∧
      bcase (!(Four.w0 (Prod.snd (nextR v)) == Four.w0 (Prod.snd (nextR (toS (RSrc.told v_1) v_1))) &&
    (Four.w1 (Prod.snd (nextR v)) == Four.w1 (Prod.snd (nextR (toS (RSrc.told v_1) v_1))) &&
      (Four.w2 (Prod.snd (nextR v)) == Four.w2 (Prod.snd (nextR (toS (RSrc.told v_1) v_1))) &&
        (Four.w3 (Prod.snd (nextR v)) == Four.w3 (Prod.snd (nextR (toS (RSrc.told v_1) v_1))) && true)))))
        ((Q (SV.bool false)))
        (bcase (!nzB (Prod.snd (nextR v)) == nzB (Prod.snd (nextR (toS (RSrc.told v_1) v_1))))
          ((Q (SV.bool false)))
          (((() = ()) ∧
          ((iTl (nextS v) (rnextS v_1) (IntKind.wrap IntKind.i64 (a + (1 : Int)))) ∧
          (Int.toNat ((3 : Int) - IntKind.wrap IntKind.i64 (a + (1 : Int))) < Int.toNat ((3 : Int) - a)))))))))
      ((Q (SV.bool true))))))))))) := by kernel_rfl
end Go.Proofs.YtomoihkepkmgdaaDoor.H8
/- Layer 8: the law that the numbers are the document's holds. -/
set_option maxRecDepth 10000
namespace Go.Proofs.YtomoihkepkmgdaaDoor.H8
open Go.Sym Go.Dig R1 H5 H7
theorem fourN_nat8 (a : Four) : fourN (nat4 a) = a := nat4_inj (by rw [nat4_fourN]; exact Nat.mod_eq_of_lt (nat4_lt a))
theorem big_of {q : Four} (h : bitsN (nat4 q) = 256) : 57896044618658097711785492504343953926634992332820282019728792003956564819968 ≤ nat4 q := by
  obtain ⟨n, _, _, h2, h3, h4⟩ := bits_nat q
  have e := bitsN_of h2 h3 h4
  rw [h] at e
  subst e
  by_cases hz : nat4 q = 0
  · exact absurd (h4 hz) (by decide)
  · exact Nat.le_trans (by decide +kernel) (h3 hz).2
theorem byO_tb (a : Four) : byO a = tbO (nat4 a) := by rw [byO_eq, tbO_eq]; exact bytes_N a true
theorem red_tb {q : Four} (hq : 57896044618658097711785492504343953926634992332820282019728792003956564819968 ≤ nat4 q) (a : Four) : redV a q = tbO (nat4 a % nat4 q) := by
  rw [redV_eq]
  unfold red0
  rw [cm4_eq, cmp_nat, byO_tb, byO_tb, sb4_eq]
  have ha := nat4_lt a
  have hs := sub_nat a q
  have hr := nat4_lt (limb_Sub a q).1
  generalize (limb_Sub a q).2.toNat = c at hs
  by_cases hl : nat4 a < nat4 q
  · rw [if_pos hl, if_neg (by decide), Nat.mod_eq_of_lt hl]
  · have hge : (if nat4 a < nat4 q then (-1 : Int) else if nat4 a = nat4 q then 0 else 1) ≥ 0 := by
      rw [if_neg hl]
      split <;> decide
    rw [if_pos hge]
    congr 1
    have e : nat4 (limb_Sub a q).1 = nat4 a - nat4 q := by
      have : c = 0 := by
        cases c with
        | zero => rfl
        | succ c => omega
      subst this
      omega
    rw [e, Nat.mod_eq_sub_mod (by omega), Nat.mod_eq_of_lt (by omega)]
theorem both_eq {q : Four} {h : List UInt8} (x : Four) (hq : 57896044618658097711785492504343953926634992332820282019728792003956564819968 ≤ nat4 q) (hh : h.length = 32) : both8 q x h = bothR q x h := by
  unfold both8 bothR
  rw [red_tb hq, red_tb hq, ofO_bev hh, nat4_bev hh]
theorem may_iff {q : Four} {h : List UInt8} (hm : mayB q h = true) : bitsN (nat4 q) = 256 ∧ h.length = 32 := by
  rw [mayB_eq] at hm
  unfold may0 at hm
  rw [Bool.and_eq_true, beq_iff_eq, beq_iff_eq] at hm
  exact ⟨by have := hm.1; omega, by have := hm.2; omega⟩
theorem src_new {q x : Four} {h : List UInt8} (hm : mayB q h = true) : srcO q x h = toS (rnewO q x h).told (rnewO q x h) := by
  obtain ⟨m1, m2⟩ := may_iff hm
  rw [srcO_eq, rnewO_eq]
  unfold srcN rnew0
  rw [both_eq x (big_of m1) m2]
  show _ = toS false _
  have e : (SrcV.mk zeros32 ones32 q false) = toS false (RSrc.mk zeros32 ones8 (nat4 q) false) := by
    show _ = SrcV.mk zeros32 ones8 (fourN (nat4 q)) false
    rw [fourN_nat8]
    rfl
  rw [e, toS_stir, toS_stir]
theorem rnew_n (q x : Four) (h : List UInt8) : (rnewO q x h).n = nat4 q := by rw [rnewO_eq]; rfl
theorem iTl_next {s : SrcV} {t : RSrc} {i : Int} (h : iTl s t i) (hi : i < 3) : iTl (nextS s) (rnextS t) (IntKind.wrap .i64 (i + 1)) ∧ Int.toNat (3 - IntKind.wrap .i64 (i + 1)) < Int.toNat (3 - i) := by
  obtain ⟨h1, h2, h3, h4, h5⟩ := h
  obtain ⟨k1, k2, _⟩ := next_facts h2
  rw [R1.wr (by omega)]
  refine ⟨⟨?_, k1, h3, by omega, by omega⟩, by omega⟩
  have hq : s.q = fourN t.n := by rw [h1]; rfl
  have e : nextS s = ⟨(nextS s).k, (nextS s).v, (nextS s).q, (nextS s).told⟩ := rfl
  rw [e, k2, hq, h1]
  rfl
theorem spTl_ok : ∀ b, SpecsOK Tryd.prog (spTl b)
  | true => .cons ok_Aw8 <| .consF ok_NewG <| .consN ok_Next <| .cons ok_May <| .consF ok_RNew <| .consN ok_RNext (.nil _)
  | false => .cons ok_Aw8 <| .consF ok_NewB <| .consN ok_Next <| .cons ok_May <| .consF ok_RNew <| .consN ok_RNext (.nil _)
abbrev sNonceTells : SpecF := fspec (α := Four × Four × List UInt8 × Unit) total fun _ => true
theorem ok_NonceTells : SpecOK Tryd.prog 7 sNonceTells := by
  refine fn_okS (by kernel_rfl) tt_ok 9 Tryd.func7 (by decide +kernel) (by kernel_rfl) ?_
  rintro ⟨q, x, h, _⟩ _
  cases hm : mayB q h with
  | false =>
    have e : newV q x h = (none, 2) := by rw [new_may, hm, if_neg Bool.false_ne_true]
    refine ⟨_, spTl_ok false, _, {}, fun t => t = .bool true, LnVD.of (vcTlB q x h _) ⟨e, ?_⟩, svf⟩
    rw [hm]
    exact (rfl : SV.bool ((2 : Int) == 2) = .bool true)
  | true =>
    have e : newV q x h = (some (srcO q x h), 0) := by rw [new_may, hm, if_pos rfl]
    have hl : lenS (srcO q x h) := by rw [srcO_eq]; exact srcN_len _ _ _
    obtain ⟨m1, m2⟩ := may_iff hm
    have hb := big_of m1
    refine ⟨_, spTl_ok true, _, lTl, fun t => t = .bool true, LnVD.of (vcTlG q x h _) ⟨e, ?_⟩, svf⟩
    rw [hm]
    refine ⟨⟨by omega, by omega⟩, ⟨src_new hm, hl, by rw [rnew_n, fourN_nat8], by omega, by omega⟩, ?_⟩
    intro s t i hI
    obtain ⟨h1, h2, h3, h4, h5⟩ := id hI
    rw [bcase_dec]
    refine ⟨fun hi => ?_, fun _ => rfl⟩
    have hn := iTl_next hI hi
    refine ⟨h2, ⟨by rw [← h1]; exact h2, h3⟩, ?_⟩
    rw [← h1]
    rw [bcase_iff]
    refine ⟨fun c => (by rw [same4] at c; cases c), fun _ => ?_⟩
    rw [bcase_iff]
    exact ⟨fun c => (by rw [sameB] at c; cases c), fun _ => ⟨rfl, hn.1, hn.2⟩⟩
end Go.Proofs.YtomoihkepkmgdaaDoor.H8
