/- A symbolic machine for Go functions, and what the functions that the law reaches come to: Lev, FieldN, FieldR, Law4d. -/
import Derived.Test.YtigkddloeikpbaaGreatDoorQ7
import Derived.Test.YtigkddloeikpbaaGreatDoorQ16
/- Bytes as numbers. -/
set_option maxRecDepth 10000
namespace Go.Proofs.YtigkddloeikpbaaGreatDoor
open Go.Sym Go.Dig
def lev : List UInt8 → Nat
  | [] => 0
  | x :: l => x.toNat + 256 * lev l
theorem bev_reverse (l : List UInt8) : R1.bev l.reverse = lev l := by
  induction l with
  | nil => rfl
  | cons x l ih => rw [List.reverse_cons, R1.bev_snoc, ih]; simp only [lev]; omega
theorem bev_lev (l : List UInt8) : R1.bev l = lev l.reverse := by rw [← bev_reverse, List.reverse_reverse]
theorem bytesN_lev : ∀ l : List UInt8, R1.bytesN (lev l) l.length = l
  | [] => rfl
  | x :: l => by
    have ih := bytesN_lev l
    have hx := u8_lt x
    unfold R1.bytesN at ih ⊢
    rw [List.length_cons, List.range_succ_eq_map, List.map_cons, List.map_map]
    congr 1
    · apply UInt8.toNat_inj.1
      simp only [UInt8.toNat_ofNat', lev, Nat.pow_zero, Nat.div_one]
      omega
    · conv => rhs; rw [← ih]
      apply List.map_congr_left
      intro i _
      simp only [Function.comp, Nat.succ_eq_add_one]
      rw [Nat.pow_succ', ← Nat.div_div_eq_div_mul]
      congr 2
      simp only [lev]
      omega
theorem lev_lt : ∀ l : List UInt8, lev l < 2 ^ (8 * l.length)
  | [] => by simp [lev]
  | x :: l => by
    have := lev_lt l
    have := u8_lt x
    rw [List.length_cons, show 8 * (l.length + 1) = 8 * l.length + 8 by omega, Nat.pow_add]
    simp only [lev]; omega
end Go.Proofs.YtigkddloeikpbaaGreatDoor
/- Package field: bytes as numbers. -/
set_option maxRecDepth 10000
namespace Go.Proofs.YtigkddloeikpbaaGreatDoor.F4
open Go.Sym Go.Dig R1

/-! Numbers of words of k bits. -/
def nb (k : Nat) : List Nat → Nat
  | [] => 0
  | x :: l => x + 2 ^ k * nb k l
theorem nb_bit {k : Nat} (hk : 0 < k) : ∀ (l : List Nat) (_ : ∀ x ∈ l, x < 2 ^ k) (i : Nat), (nb k l).testBit i = (l.getD (i / k) 0).testBit (i % k)
  | [], _, i => by simp [nb]
  | x :: l, h, i => by
    have ih := nb_bit hk l (fun y hy => h y (List.mem_cons_of_mem _ hy))
    have hx := h x List.mem_cons_self
    unfold nb
    rw [Nat.add_comm, Nat.testBit_two_pow_mul_add _ hx]
    split
    · rename_i hi
      rw [Nat.div_eq_of_lt hi, Nat.mod_eq_of_lt hi]; rfl
    · rename_i hi
      have e1 : i / k = (i - k) / k + 1 := by
        rw [← Nat.add_div_right _ hk, Nat.sub_add_cancel (by omega)]
      have e2 : i % k = (i - k) % k := by
        conv => lhs; rw [show i = (i - k) + k by omega, Nat.add_mod_right]
      rw [ih, e1, e2]; rfl
theorem lev_nb : ∀ l : List UInt8, lev l = nb 8 (l.map UInt8.toNat)
  | [] => rfl
  | x :: l => by
    rw [List.map_cons]
    unfold lev nb
    rw [lev_nb l]
theorem getD_map {α : Type} (f : α → Nat) (l : List α) (d : α) (hd : f d = 0) (i : Nat) : (l.map f).getD i 0 = f (l.getD i d) := by
  rw [List.getD_eq_getElem?_getD, List.getD_eq_getElem?_getD, List.getElem?_map]
  cases l[i]? with
  | none => exact hd.symm
  | some x => rfl
def bit8 (l : List UInt8) (i : Nat) : Bool := (l.getD (i / 8) 0).toNat.testBit (i % 8)
def bit51 (l : List UInt64) (i : Nat) : Bool := (l.getD (i / 51) 0).toNat.testBit (i % 51)
theorem lev_bit (l : List UInt8) (i : Nat) : (lev l).testBit i = bit8 l i := by
  rw [lev_nb, nb_bit (by decide)]
  · unfold bit8; rw [getD_map _ _ 0 rfl]
  · intro x hx
    obtain ⟨y, _, rfl⟩ := List.mem_map.1 hx
    exact u8_lt y
theorem V_nb (l : List UInt64) (h : l.length = 5) : V (fiveL l) = nb 51 (l.map UInt64.toNat) := by
  match l, h with
  | [a, b, c, d, e], _ =>
    simp only [fiveL, V, List.map_cons, List.map_nil, nb]
    simp only [List.getD_cons_zero, List.getD_cons_succ]
    omega
theorem V_bit (l : List UInt64) (h : l.length = 5) (hl : ∀ x ∈ l, x.toNat < 2251799813685248) (i : Nat) : (V (fiveL l)).testBit i = bit51 l i := by
  rw [V_nb l h, nb_bit (by decide)]
  · unfold bit51; rw [getD_map _ _ 0 rfl]
  · intro x hx
    obtain ⟨y, hy, rfl⟩ := List.mem_map.1 hx
    exact Nat.lt_of_lt_of_eq (hl y hy) (by decide)
/-- One bit more. -/
theorem or_bit (x c s j : Nat) : (x ||| (c % 2) * 2 ^ s).testBit j = (x.testBit j || (decide (j = s) && decide (c % 2 = 1))) := by
  rw [Nat.testBit_or]
  congr 1
  rcases Nat.mod_two_eq_zero_or_one c with h | h
  · rw [h, Nat.zero_mul, Nat.zero_testBit]; simp
  · rw [h, Nat.one_mul, Nat.testBit_two_pow]
    simp [eq_comm]
theorem bit_of (x i : Nat) : decide (x / 2 ^ i % 2 = 1) = x.testBit i := by rw [Nat.testBit_eq_decide_div_mod_eq]
theorem set_bit8 (l : List UInt8) (v : UInt8) (c : Bool) (i : Nat) (hi : i / 8 < l.length) (hv : ∀ j, v.toNat.testBit j = ((l.getD (i / 8) 0).toNat.testBit j || (decide (j = i % 8) && c))) (j : Nat) :
    bit8 (l.set (i / 8) v) j = (bit8 l j || (decide (j = i) && c)) := by
  unfold bit8
  by_cases h : j / 8 = i / 8
  · rw [h, List.getD_eq_getElem?_getD, List.getElem?_set_self hi, Option.getD_some, hv]
    have : (j % 8 = i % 8) ↔ (j = i) := by omega
    simp only [this]
  · have h2 : ¬ j = i := fun e => h (by rw [e])
    rw [List.getD_eq_getElem?_getD, List.getElem?_set_ne (fun e => h e.symm), ← List.getD_eq_getElem?_getD]
    simp [h2]
theorem set_bit51 (l : List UInt64) (v : UInt64) (c : Bool) (i : Nat) (hi : i / 51 < l.length) (hv : ∀ j, v.toNat.testBit j = ((l.getD (i / 51) 0).toNat.testBit j || (decide (j = i % 51) && c))) (j : Nat) :
    bit51 (l.set (i / 51) v) j = (bit51 l j || (decide (j = i) && c)) := by
  unfold bit51
  by_cases h : j / 51 = i / 51
  · rw [h, List.getD_eq_getElem?_getD, List.getElem?_set_self hi, Option.getD_some, hv]
    have : (j % 51 = i % 51) ↔ (j = i) := by omega
    simp only [this]
  · have h2 : ¬ j = i := fun e => h (by rw [e])
    rw [List.getD_eq_getElem?_getD, List.getElem?_set_ne (fun e => h e.symm), ← List.getD_eq_getElem?_getD]
    simp [h2]
theorem pow_le7 {s : Nat} (h : s < 8) : 2 ^ s ≤ 128 := Nat.le_trans (Nat.pow_le_pow_right (by omega) (show s ≤ 7 by omega)) (by decide)
theorem pow_le50 {s : Nat} (h : s < 51) : 2 ^ s ≤ 1125899906842624 := Nat.le_trans (Nat.pow_le_pow_right (by omega) (show s ≤ 50 by omega)) (by decide)
theorem byStep_bit (w : List UInt64) (l : List UInt8) (i : Nat) (hi : i / 8 < l.length) (j : Nat) : bit8 (byStep w l i) j = (bit8 l j || (decide (j = i) && bit51 w i)) := by
  unfold byStep
  refine set_bit8 l _ _ i hi (fun j => ?_) j
  have e : (shl8 (shr64 (w.getD (i / 51) 0) (i % 51) &&& 1).toUInt8 (i % 8)).toNat = ((w.getD (i / 51) 0).toNat / 2 ^ (i % 51)) % 2 * 2 ^ (i % 8) := by
    have e1 : (shr64 (w.getD (i / 51) 0) (i % 51) &&& 1).toUInt8.toNat = ((w.getD (i / 51) 0).toNat / 2 ^ (i % 51)) % 2 := by
      rw [UInt64.toNat_toUInt8, UInt64.toNat_and, shr64_nat, show (1 : UInt64).toNat = 1 from rfl, Nat.and_one_is_mod]; omega
    rw [shl8_nat, e1]
    have h1 := pow_le7 (Nat.mod_lt i (show 0 < 8 by decide))
    have h2 := Nat.mod_lt ((w.getD (i / 51) 0).toNat / 2 ^ (i % 51)) (show 0 < 2 by decide)
    refine Nat.mod_eq_of_lt (Nat.lt_of_le_of_lt (Nat.mul_le_mul (show _ ≤ 1 by omega) h1) (by decide))
  rw [UInt8.toNat_or, e, or_bit, bit_of]; rfl
theorem ofStep_bit (b : List UInt8) (l : List UInt64) (i : Nat) (hi : i / 51 < l.length) (j : Nat) : bit51 (ofStep b l i) j = (bit51 l j || (decide (j = i) && bit8 b i)) := by
  unfold ofStep
  refine set_bit51 l _ _ i hi (fun j => ?_) j
  have e : (shl64 (shr8 (b.getD (i / 8) 0) (i % 8) &&& 1).toUInt64 (i % 51)).toNat = ((b.getD (i / 8) 0).toNat / 2 ^ (i % 8)) % 2 * 2 ^ (i % 51) := by
    have e1 : (shr8 (b.getD (i / 8) 0) (i % 8) &&& 1).toUInt64.toNat = ((b.getD (i / 8) 0).toNat / 2 ^ (i % 8)) % 2 := by
      rw [UInt8.toNat_toUInt64, UInt8.toNat_and, shr8_nat, show (1 : UInt8).toNat = 1 from rfl, Nat.and_one_is_mod]
    unfold shl64
    rw [UInt64.toNat_ofNat', e1]
    have h1 := pow_le50 (Nat.mod_lt i (show 0 < 51 by decide))
    have h2 := Nat.mod_lt ((b.getD (i / 8) 0).toNat / 2 ^ (i % 8)) (show 0 < 2 by decide)
    refine Nat.mod_eq_of_lt (Nat.lt_of_le_of_lt (Nat.mul_le_mul (show _ ≤ 1 by omega) h1) (by decide))
  rw [UInt64.toNat_or, e, or_bit, bit_of]; rfl
theorem repl8_bit (n j : Nat) : bit8 (List.replicate n 0) j = false := by
  unfold bit8
  rw [List.getD_eq_getElem?_getD, List.getElem?_replicate]
  split <;> simp
theorem repl51_bit (n j : Nat) : bit51 (List.replicate n 0) j = false := by
  unfold bit51
  rw [List.getD_eq_getElem?_getD, List.getElem?_replicate]
  split <;> simp
theorem step_dec (j n : Nat) (c : Nat → Bool) : ((decide (j < n) && c j) || (decide (j = n) && c n)) = (decide (j < n + 1) && c j) := by
  by_cases h : j = n
  · subst h; simp
  · have : (j < n + 1) ↔ (j < n) := by omega
    simp [h, this]
theorem fBytesP_bit (w : List UInt64) : ∀ n, n ≤ 256 → ∀ j, bit8 (fBytesP w n) j = (decide (j < n) && bit51 w j)
  | 0, _, j => by rw [show fBytesP w 0 = List.replicate 32 0 from rfl, repl8_bit]; simp
  | n + 1, h, j => by rw [fBytesP_succ, byStep_bit _ _ _ (by rw [fBytesP_len]; omega), fBytesP_bit w n (by omega), step_dec]
theorem fOfP_bit (b : List UInt8) : ∀ n, n ≤ 255 → ∀ j, bit51 (fOfP b n) j = (decide (j < n) && bit8 b j)
  | 0, _, j => by rw [show fOfP b 0 = List.replicate 5 0 from rfl, repl51_bit]; simp
  | n + 1, h, j => by rw [fOfP_succ, ofStep_bit _ _ _ (by rw [fOfP_len]; omega), fOfP_bit b n (by omega), step_dec]
/-- Words that bits are put into stay below 2^51. -/
theorem ofStep_lt (b : List UInt8) (l : List UInt64) (i : Nat) (h : ∀ x ∈ l, x.toNat < 2251799813685248) : ∀ x ∈ ofStep b l i, x.toNat < 2251799813685248 := by
  intro x hx
  unfold ofStep at hx
  rcases List.mem_or_eq_of_mem_set hx with h1 | h1
  · exact h x h1
  · have e1 : (shr8 (b.getD (i / 8) 0) (i % 8) &&& 1).toUInt64.toNat = ((b.getD (i / 8) 0).toNat / 2 ^ (i % 8)) % 2 := by
      rw [UInt8.toNat_toUInt64, UInt8.toNat_and, shr8_nat, show (1 : UInt8).toNat = 1 from rfl, Nat.and_one_is_mod]
    have h1' := pow_le50 (Nat.mod_lt i (show 0 < 51 by decide))
    have h2 := Nat.mod_lt ((b.getD (i / 8) 0).toNat / 2 ^ (i % 8)) (show 0 < 2 by decide)
    have h3 : ((b.getD (i / 8) 0).toNat / 2 ^ (i % 8)) % 2 * 2 ^ (i % 51) < 2 ^ 51 := Nat.lt_of_le_of_lt (Nat.mul_le_mul (show _ ≤ 1 by omega) h1') (by decide)
    have h4 : (l.getD (i / 51) 0).toNat < 2 ^ 51 := by
      rw [List.getD_eq_getElem?_getD]
      cases hq : l[i / 51]? with
      | none => decide
      | some y => exact Nat.lt_of_lt_of_eq (h y (List.mem_of_getElem? hq)) (by decide)
    have h5 : x.toNat < 2 ^ 51 := by
      rw [h1, UInt64.toNat_or]
      refine Nat.or_lt_two_pow h4 ?_
      unfold shl64
      rw [UInt64.toNat_ofNat', e1]
      exact Nat.lt_of_le_of_lt (Nat.mod_le _ _) h3
    exact Nat.lt_of_lt_of_eq h5 (by decide)
theorem fOfP_lt (b : List UInt8) : ∀ n, ∀ x ∈ fOfP b n, x.toNat < 2251799813685248
  | 0 => by
    intro x hx
    rw [show fOfP b 0 = List.replicate 5 0 from rfl] at hx
    rw [(List.mem_replicate.1 hx).2]; decide
  | n + 1 => by rw [fOfP_succ]; exact ofStep_lt _ _ _ (fOfP_lt b n)
theorem bit51_big (w : List UInt64) (h : w.length = 5) (j : Nat) (hj : 255 ≤ j) : bit51 w j = false := by
  unfold bit51
  rw [List.getD_eq_getElem?_getD, List.getElem?_eq_none (by omega)]
  simp
theorem five5_five (a : Five) : fiveL (five5 a) = a := rfl
theorem five5_lt {a : Five} (h : IsW a) : ∀ x ∈ five5 a, x.toNat < 2251799813685248 := by
  obtain ⟨a0, a1, a2, a3, a4⟩ := h
  intro x hx
  simp only [five5, List.mem_cons, List.not_mem_nil, or_false] at hx
  rcases hx with rfl | rfl | rfl | rfl | rfl <;> assumption
theorem bytes_len (a : Five) : (fBytesO a).length = 32 := by rw [fBytesO_eq]; exact fBytesP_len _ _
theorem bytes_lev {a : Five} (h : Tame a) : lev (fBytesO a) = N5 a := by
  obtain ⟨hw, hv⟩ := fWhole_ok h
  rw [fBytesO_eq]
  refine Eq.trans ?_ hv
  apply Nat.eq_of_testBit_eq
  intro j
  rw [lev_bit, ← five5_five (fWhole a), V_bit _ rfl (five5_lt hw)]
  show bit8 (fBytesP (five5 (fWhole a)) 255) j = _
  rw [fBytesP_bit _ _ (by omega)]
  by_cases hj : j < 255
  · simp [hj]
  · rw [bit51_big _ rfl j (by omega)]; simp
/-- Bytes: those of the number. -/
theorem bytes_num {a : Five} (h : Tame a) : fBytesO a = bytesN (N5 a) 32 := by
  have := bytesN_lev (fBytesO a)
  rw [bytes_len, bytes_lev h] at this
  exact this.symm
theorem ofV_ok {b : List UInt8} (hb : b.length = 32) (h : (b.getD 31 0).toNat ≤ 127) : IsW (fOfV b) ∧ V (fOfV b) = lev b := by
  have hlen := fOfP_len b 255
  have hlt := fOfP_lt b 255
  refine ⟨?_, ?_⟩
  · unfold fOfV
    generalize fOfP b 255 = l at hlen hlt
    match l, hlen with
    | [a, b, c, d, e], _ =>
      exact ⟨hlt a (by simp), hlt b (by simp), hlt c (by simp), hlt d (by simp), hlt e (by simp)⟩
  · apply Nat.eq_of_testBit_eq
    intro j
    unfold fOfV
    rw [V_bit _ hlen hlt, lev_bit, fOfP_bit _ _ (by omega)]
    by_cases hj : j < 255
    · simp [hj]
    · have : bit8 b j = false := by
        unfold bit8
        by_cases h5 : j = 255
        · subst h5
          exact Nat.testBit_lt_two_pow (i := 7) (Nat.lt_of_le_of_lt h (by decide))
        · rw [List.getD_eq_getElem?_getD, List.getElem?_eq_none (by omega)]; simp
      simp [hj, this]
theorem lev_top {b : List UInt8} (hb : b.length = 32) (h : lev b < p5) : (b.getD 31 0).toNat ≤ 127 := by
  by_cases h1 : (b.getD 31 0).toNat ≤ 127
  · exact h1
  · exfalso
    have h2 : (b.getD 31 0).toNat.testBit 7 = true := by
      have hx := u8_lt (b.getD 31 0)
      generalize (b.getD 31 0).toNat = x at *
      rw [Nat.testBit_eq_decide_div_mod_eq, decide_eq_true_iff]
      omega
    have h3 : (lev b).testBit 255 = true := by rw [lev_bit]; exact h2
    have h4 : (lev b).testBit 255 = false := Nat.testBit_lt_two_pow (Nat.lt_of_lt_of_le h (by decide +kernel))
    rw [h3] at h4; cases h4
/-- An element from bytes: if they are a number below p. -/
theorem of_good {b : List UInt8} (hb : b.length = 32) (h : lev b < p5) : (fOfO b).2 = true ∧ IsW (fOfO b).1 ∧ V (fOfO b).1 = lev b := by
  have h1 := lev_top hb h
  obtain ⟨hw, hv⟩ := ofV_ok hb h1
  obtain ⟨w1, w2⟩ := fWhole_ok hw.tame
  have hq : fOfV b = fWhole (fOfV b) := IsW.ext hw w1 (by rw [w2, hv, Nat.mod_eq_of_lt h])
  have e : fOfO b = (fOfV b, true) := by
    rw [fOfO_eq]; unfold fOf
    rw [if_pos ⟨hb, h1, eq5_iff.2 hq⟩]
  rw [e]; exact ⟨rfl, hw, hv⟩
theorem of_bad {b : List UInt8} (h : ¬ (b.length = 32 ∧ lev b < p5)) : fOfO b = (fZero, false) := by
  rw [fOfO_eq]; unfold fOf
  rw [if_neg]
  rintro ⟨hb, h1, h2⟩
  refine h ⟨hb, ?_⟩
  obtain ⟨hw, hv⟩ := ofV_ok hb h1
  obtain ⟨_, w2⟩ := fWhole_ok hw.tame
  rw [← eq5_iff.1 h2, hv] at w2
  rw [w2]; exact Nat.mod_lt _ p5_pos
theorem wide_num : ∀ l : List UInt8, Tame (fWideL l.reverse) ∧ N5 (fWideL l.reverse) = bev l.reverse % p5
  | [] => ⟨N5_zero.1, N5_zero.2⟩
  | c :: l => by
    obtain ⟨t, e⟩ := wide_num l
    have s1 := N5_small 256
    have s2 := N5_small c.toUInt32
    have tm := tame_mul t s1.1
    rw [List.reverse_cons, fWideL_snoc, bev_snoc]
    refine ⟨(fAdd_ok tm s2.1).1, ?_⟩
    rw [N5_add tm s2.1, N5_mul t s1.1, e, s1.2, s2.2, show (256 : UInt32).toNat = 256 from rfl, UInt8.toNat_toUInt32, Nat.mod_mul_mod, Nat.mod_add_mod]
theorem wide_ok (w : List UInt8) : Tame (fWideL w) ∧ N5 (fWideL w) = bev w % p5 := by
  have := wide_num w.reverse
  rwa [List.reverse_reverse] at this
end Go.Proofs.YtigkddloeikpbaaGreatDoor.F4
/- Package field: going back: what roots, inverses and signs are. -/
set_option maxRecDepth 10000
namespace Go.Proofs.YtigkddloeikpbaaGreatDoor.F4
open Go.Sym Go.Dig R1

theorem p5_odd : p5 % 2 = 1 := by decide
/-- The even one of both roots. -/
theorem evN_sq {r : Nat} (h : r < p5) : evN r * evN r % p5 = r * r % p5 := by
  rw [evN_eq]
  split
  · rename_i h1
    rw [Nat.mod_eq_of_lt (show p5 - r < p5 by omega)]
    have e : (p5 - r) * (p5 - r) + p5 * (2 * r) = r * r + p5 * p5 := by
      obtain ⟨k, hk⟩ : ∃ k, p5 = k + r := ⟨p5 - r, by omega⟩
      rw [hk, Nat.add_sub_cancel]
      generalize p5 = q at *
      grind
    have := congrArg (· % p5) e
    simp only [Nat.add_mul_mod_self_left] at this
    exact this
  · rfl
theorem evN_even {r : Nat} (h : r < p5) : evN r % 2 = 0 := by
  have := p5_odd
  rw [evN_eq]
  split
  · rw [Nat.mod_eq_of_lt (show p5 - r < p5 by omega)]; omega
  · omega
/-- What a root that there is says. -/
theorem rootN_true {x : Nat} (hx : x < p5) (h : (rootN x).2.1 = true) : (rootN x).1.n < p5 ∧ (rootN x).1.n % 2 = 0 ∧ (rootN x).1.n * (rootN x).1.n % p5 = x := by
  have l1 : rt1 x < p5 := by unfold rt1; rw [pV_eq]; exact modP _
  have l2 : rt2 x < p5 := by unfold rt2; rw [pV_eq]; exact modP _
  by_cases h1 : rt1 x * rt1 x % pV = x
  · have e : rootN x = (⟨evN (rt1 x)⟩, true, ()) := by unfold rootN; rw [if_pos h1]
    rw [e]
    exact ⟨evN_lt l1, evN_even l1, (evN_sq l1).trans (by rw [← pV_eq]; exact h1)⟩
  · by_cases h2 : rt2 x * rt2 x % pV = x
    · have e : rootN x = (⟨evN (rt2 x)⟩, true, ()) := by unfold rootN; rw [if_neg h1, if_pos h2]
      rw [e]
      exact ⟨evN_lt l2, evN_even l2, (evN_sq l2).trans (by rw [← pV_eq]; exact h2)⟩
    · have e : rootN x = (⟨0⟩, false, ()) := by unfold rootN; rw [if_neg h1, if_neg h2]
      rw [e] at h; cases h
theorem ratio_true {U W : Nat} (hU : U < p5) (hW : W < p5) (h : (ratioN U W).2.1 = true) : (ratioN U W).1.n * (ratioN U W).1.n % p5 * W % p5 = U := by
  by_cases h0 : W = 0
  · subst h0
    by_cases h1 : U = 0
    · subst h1; rw [ratio_0]; rfl
    · rw [ratio_1 (by omega)] at h; cases h
  · obtain ⟨a, la, e1, e2, _⟩ := ratio_2 hU h0 hW
    rw [e2] at h ⊢
    obtain ⟨_, _, e3⟩ := rootN_true la h
    rw [e3, Nat.mul_comm]; exact e1
/-- Of a square there is a root. -/
theorem ratio_sq {A : Nat} (hA : A < p5) : (ratioN (A * A % p5) 1).2.1 = true ∧ (ratioN (A * A % p5) 1).1.n < p5 ∧ (ratioN (A * A % p5) 1).1.n % 2 = 0 ∧ (ratioN (A * A % p5) 1).1.n * (ratioN (A * A % p5) 1).1.n % p5 = A * A % p5 := by
  obtain ⟨a, la, e1, e2, e3⟩ := ratio_2 (U := A * A % p5) (W := 1) (modP _) (by decide) (by decide)
  have ha : a = A * A % p5 := by rw [Nat.one_mul, Nat.mod_eq_of_lt la] at e1; exact e1
  have ht : (rootN a).2.1 = true := by
    by_cases h0 : A = 0
    · have : a = 0 := by rw [ha, h0]; decide
      rw [this]
      have hr : rt1 0 = 0 := by unfold rt1; rw [Nat.zero_pow (by rw [pV_eq]; decide), Nat.zero_mod]
      unfold rootN
      rw [hr, Nat.zero_mul, Nat.zero_mod, if_pos rfl]
    · -- c² is a or -a
      have f1 : A ^ (p5 - 1) % p5 = 1 := fm (by rw [Nat.mod_eq_of_lt hA]; exact h0)
      have hs : (A ^ ((p5 - 1) / 2) % p5) * (A ^ ((p5 - 1) / 2) % p5) % p5 = 1 * 1 % p5 := by
        rw [← Nat.mul_mod, ← Nat.pow_add, show (p5 - 1) / 2 + (p5 - 1) / 2 = p5 - 1 by decide, f1]; decide
      have hc : rt1 a * rt1 a % p5 = a * (A ^ ((p5 - 1) / 2) % p5) % p5 := by
        unfold rt1
        rw [pV_eq, ← Nat.mul_mod, ← Nat.pow_add, show (p5 + 3) / 8 + (p5 + 3) / 8 = 1 + (p5 - 1) / 4 by decide, Nat.pow_add, Nat.pow_one]
        refine mulC rfl ?_
        rw [Nat.mod_mod, ha]
        refine (powC (Nat.mod_mod _ _) _).trans ?_
        rw [← Nat.pow_two, ← Nat.pow_mul, show 2 * ((p5 - 1) / 4) = (p5 - 1) / 2 by decide]
      have l1 : rt1 a < p5 := by unfold rt1; rw [pV_eq]; exact modP _
      rcases NumP.sq_eq hp5 (modP _) (show 1 < p5 by decide) hs with h | h | h
      · rw [h, Nat.mul_one, Nat.mod_eq_of_lt la] at hc
        unfold rootN
        rw [if_pos (by rw [pV_eq]; exact hc)]
      · have h' : A ^ ((p5 - 1) / 2) % p5 = p5 - 1 := by omega
        rw [h', neg_mul la] at hc
        have hz : (rt1 a * rt1 a + a) % p5 = 0 := by
          rw [Nat.add_mod, hc, Nat.mod_eq_of_lt la]
          exact (neg_iff (modP _) la).1 rfl
        have t3 := (tests (U := a) (W := 1) (a := a) (c := rt1 a) la (by decide) (by decide) la (by rw [Nat.one_mul, Nat.mod_eq_of_lt la])).2.2.2 hz
        unfold rootN
        rw [rt2_eq rfl, pV_eq]
        split
        · rfl
        · first | rfl | rw [if_pos t3]
      · exact absurd h.2 (by decide)
  rw [e2]
  obtain ⟨r1, r2, r3⟩ := rootN_true la ht
  exact ⟨ht, r1, r2, r3.trans ha⟩
end Go.Proofs.YtigkddloeikpbaaGreatDoor.F4
/- Layer 4's laws on bytes and on going back: what is to be shown of their bodies is so. -/
set_option maxRecDepth 10000
namespace Go.Proofs.YtigkddloeikpbaaGreatDoor.F4
open Go.Sym Go.Dig R1

abbrev sBytes4 : SpecF := fspec (α := List UInt8 × List UInt8 × Five × Unit) total fun _ => true
theorem zero5 (x : Five) (h : x = fZero) : (!(x.x0 == UInt64.ofNat (Int.toNat (0 : Int)) && (x.x1 == UInt64.ofNat (Int.toNat (0 : Int)) && (x.x2 == UInt64.ofNat (Int.toNat (0 : Int)) && (x.x3 == UInt64.ofNat (Int.toNat (0 : Int)) && (x.x4 == UInt64.ofNat (Int.toNat (0 : Int)) && true)))))) = false := by
  subst h; decide
theorem bev_lt24 {b : List UInt8} {k : Nat} (h : b.length ≤ k) : bev b < 16777216 ^ k := by
  have h1 := lev_lt b.reverse
  rw [← bev_lev, List.length_reverse] at h1
  refine Nat.lt_of_lt_of_le h1 ?_
  rw [show (16777216 : Nat) = 2 ^ 24 by decide, ← Nat.pow_mul]
  exact Nat.pow_le_pow_right (by decide) (by omega)
theorem smBev {b : List UInt8} (h : b.length ≤ 100) : Lh (bev b) := Nat.le_trans (dg_length_lt (bev_lt24 h)) (by decide)
theorem whole4 {a : Five} (h : Tame a) : List.drop 0 (List.take (0 + (fBytesO a).length) (fBytesO a)) = bytesN (N5 a) 32 := by
  rw [Nat.zero_add, List.take_length, List.drop_zero, bytes_num h]
theorem qtrue {l m : List UInt8} (h : l = m) : (fun x => x = SV.bool true) (SV.bool (decide (l = m))) := by
  show SV.bool (decide (l = m)) = SV.bool true
  rw [decide_eq_true h]
theorem qfin {P : Prop} [Decidable P] (h : P) : SV.bool (decide P) = SV.bool true := by rw [decide_eq_true h]
theorem ok_Bytes4 : SpecOK Tryz.prog 1000001 Sym.sNo := Sym.sNo_ok _ _
/-! Back. -/
abbrev sBack4 : SpecF := fspec (α := Five × Five × Five × Unit) total fun _ => true
theorem dist_mod (a b c p : Nat) : a * ((b + c) % p) % p = (a * b % p + a * c % p) % p := by rw [Nat.mul_mod_mod, Nat.mul_add, Nat.add_mod]
theorem assoc_mod (a b c p : Nat) : a * b % p * c % p = a * (b * c % p) % p := by rw [Nat.mod_mul_mod, Nat.mul_mod_mod, Nat.mul_assoc]
theorem one32 : (UInt32.ofNat (Int.toNat (1 : Int))).toNat = 1 := by decide
theorem ok_Back4 : SpecOK Tryz.prog 1000000 Sym.sNo := Sym.sNo_ok _ _
end Go.Proofs.YtigkddloeikpbaaGreatDoor.F4
