/- Layer 1's laws: sums, products, bits, bytes: what is to be shown of their bodies is so. -/
import Derived.Test.YthechjccpljljaaLawsB
namespace Go.Proofs.Ythechjccpljljaa
open Go.Sym Go.Dig

theorem eqv {a b : UInt64} (h : a.toNat = b.toNat) : (a == b) = true := by rw [UInt64.toNat_inj.1 h]; exact beq_self_eq_true b
theorem nev {a b : UInt64} (h : a.toNat = b.toNat) : (a != b) = false := by rw [UInt64.toNat_inj.1 h]; exact bne_self_eq_false b
theorem ofInt_small (m : Nat) (h : m < 18446744073709551616) : (UInt64.ofInt (m : Int)).toNat = m := by rw [ofInt64]; omega
abbrev sSums : SpecF := fspec (α := Four × Four × Unit) total fun _ => true
theorem ok_Sums : SpecOK Try.prog 3 sSums := by
  refine fn_okL (by kernel_rfl) tt_ok spR01_ok 9 Try.func3 (by decide +kernel) (by kernel_rfl) ?_
  rintro ⟨a, b, _⟩ _
  refine ⟨dSums (decide (nat4 a < nat4 b)), {}, fun x => x = .bool true, LnVD.of (vcSums a b _ _) ?_, fun x h at_ w v r => by have h' : x = _ := h; subst h'; exact r⟩
  rw [p256]
  have la := nat4_lt a; have lb := nat4_lt b
  have h1 := add_nat a b; have h2 := add_carry a b; have h3 := sub_nat a b; have h4 := sub_borrow a b
  have l1 := nat4_lt (limb_Add a b).1; have l2 := nat4_lt (limb_Sub a b).1
  have hc := cmp_nat a b
  have s1 : R1.Sm (nat4 a) := Sm4 a
  have s2 : R1.Sm (nat4 b) := Sm4 b
  have s3 : R1.Sm (nat4 a + nat4 b) := SmB (by omega)
  have s4 : R1.Sm (nat4 a + 115792089237316195423570985008687907853269984665640564039457584007913129639936 - nat4 b) := SmB (by omega)
  have e1 : (limb_Add a b).1 = R1.fourN (nat4 a + nat4 b) := four_eq (by omega)
  have e2 : (limb_Sub a b).1 = R1.fourN (nat4 a + 115792089237316195423570985008687907853269984665640564039457584007913129639936 - nat4 b) := four_eq (by omega)
  have e3 : (limb_Add a b).2.toNat = (nat4 a + nat4 b) / 115792089237316195423570985008687907853269984665640564039457584007913129639936 % 2 := by omega
  have e4 : (limb_Cmp a b == R1.cmpN (nat4 a) (nat4 b)) = true := by
    rw [hc]
    unfold R1.cmpN
    split
    · rfl
    · split
      · rename_i h h'; rw [if_neg (by omega)]; rfl
      · rename_i h h'; rw [if_pos (by omega)]; rfl
  refine ⟨⟨s1, s2⟩, ⟨by omega, by omega⟩, ⟨s1, SmB (by omega)⟩, ⟨SmB (by omega), by omega, s2⟩, ⟨s1, s2⟩, ?_, ?_⟩
  · congr 1
    unfold R1.cmpN
    apply propext
    split
    · simp; omega
    · split <;> simp <;> omega
  · rw [R1.bcase_dec]
    refine ⟨fun h => ⟨s3, eq4_of e1, ⟨s3, by omega, by omega⟩, eqv (by rw [ofInt_small _ (by omega), e3]), s4, eq4_of e2, eqv ?_, ⟨s1, s2⟩, e4, rfl⟩,
      fun h => ⟨s3, eq4_of e1, ⟨s3, by omega, by omega⟩, eqv (by rw [ofInt_small _ (by omega), e3]), s4, eq4_of e2, eqv ?_, ⟨s1, s2⟩, e4, rfl⟩⟩
    · show _ = 1
      omega
    · show _ = 0
      omega

theorem wv_word : ∀ (l : List UInt64) (i : Nat), R1.wv l / 2 ^ (64 * i) % 18446744073709551616 = (l.getD i 0).toNat
  | [], i => by simp [R1.wv]
  | x :: l, 0 => by have := u64_lt x; simp only [R1.wv, Nat.mul_zero, Nat.pow_zero, Nat.div_one, List.getD_cons_zero]; omega
  | x :: l, i + 1 => by
    have := u64_lt x
    have e : (R1.wv (x :: l)) / 18446744073709551616 = R1.wv l := by simp only [R1.wv]; omega
    rw [show 64 * (i + 1) = 64 + 64 * i by omega, Nat.pow_add, ← Nat.div_div_eq_div_mul, show (2 : Nat) ^ 64 = 18446744073709551616 from rfl, e, wv_word l i, List.getD_cons_succ]
theorem words_get (l : List UInt64) (n i : Nat) (h : i < n) : (R1.wordsL (R1.wv l) n).getD i 0 = l.getD i 0 := by
  apply UInt64.toNat_inj.1
  rw [R1.wordsL_get _ _ _ h, UInt64.toNat_ofNat']
  exact wv_word l i
theorem nat8_wv (x : Eight) : nat8 x = R1.wv [x.e0, x.e1, x.e2, x.e3, x.e4, x.e5, x.e6, x.e7] := by simp only [R1.wv, nat8]; omega
abbrev sProducts : SpecF := fspec (α := Four × Four × UInt64 × Unit) total fun _ => true
theorem ok_Products : SpecOK Try.prog 5 sProducts := by
  refine fn_okL (by kernel_rfl) tt_ok spR01_ok 9 Try.func5 (by decide +kernel) (by kernel_rfl) ?_
  rintro ⟨a, b, w, _⟩ _
  refine ⟨dProducts, {}, fun x => x = .bool true, LnVD.of (vcProducts a b w _) ?_, fun x h at_ w v r => by have h' : x = _ := h; subst h'; exact r⟩
  have la := nat4_lt a; have lb := nat4_lt b; have lw := u64_lt w
  have h1 := mul_nat a b
  have h2 := mulword_nat a w
  have l2 := nat4_lt (limb_MulWord a w).1
  have ww : R1.wv (List.drop 0 (List.take (0 + 1) [w])) = w.toNat := by show R1.wv [w] = _; simp [R1.wv]
  have b1 : nat4 a * nat4 b < 115792089237316195423570985008687907853269984665640564039457584007913129639936 * 115792089237316195423570985008687907853269984665640564039457584007913129639936 * 115792089237316195423570985008687907853269984665640564039457584007913129639936 := by
    have := Nat.mul_le_mul (Nat.le_of_lt la) (Nat.le_of_lt lb)
    omega
  have b2 : nat4 a * w.toNat < 115792089237316195423570985008687907853269984665640564039457584007913129639936 * 18446744073709551616 := Nat.lt_of_le_of_lt (Nat.mul_le_mul_left _ (Nat.le_of_lt lw)) (Nat.mul_lt_mul_of_pos_right la (by omega))
  have s1 : R1.Sm (nat4 a) := Sm4 a
  have s2 : R1.Sm (nat4 b) := Sm4 b
  rw [R1.wordsL_len, R1.wordsL_len, ww]
  simp only [show IntKind.wrap .i64 (0 + 1) = 1 from rfl, show IntKind.wrap .i64 (1 + 1) = 2 from rfl, show IntKind.wrap .i64 (2 + 1) = 3 from rfl, show IntKind.wrap .i64 (3 + 1) = 4 from rfl, show IntKind.wrap .i64 (4 + 1) = 5 from rfl, show IntKind.wrap .i64 (5 + 1) = 6 from rfl, show IntKind.wrap .i64 (6 + 1) = 7 from rfl,
    show Int.toNat 0 = 0 from rfl, show Int.toNat 1 = 1 from rfl, show Int.toNat 2 = 2 from rfl, show Int.toNat 3 = 3 from rfl, show Int.toNat 4 = 4 from rfl, show Int.toNat 5 = 5 from rfl, show Int.toNat 6 = 6 from rfl, show Int.toNat 7 = 7 from rfl, show Int.toNat 8 = 8 from rfl]
  rw [← h1, nat8_wv]
  have h3 : nat4 a * w.toNat = R1.wv [(limb_MulWord a w).1.w0, (limb_MulWord a w).1.w1, (limb_MulWord a w).1.w2, (limb_MulWord a w).1.w3, (limb_MulWord a w).2] := by
    rw [← h2]; simp only [R1.wv, nat4]; omega
  have s3 : R1.Sm (nat4 a * w.toNat) := SmB (by omega)
  have s4 : R1.Sm w.toNat := SmB (by omega)
  have s5 : R1.Sm (nat4 a * nat4 b) := SmB b1
  rw [← h1, nat8_wv] at s5
  rw [h3] at s3 ⊢
  simp only [words_get _ 8 0 (by omega), words_get _ 8 1 (by omega), words_get _ 8 2 (by omega), words_get _ 8 3 (by omega), words_get _ 8 4 (by omega), words_get _ 8 5 (by omega), words_get _ 8 6 (by omega), words_get _ 8 7 (by omega),
    words_get _ 5 0 (by omega), words_get _ 5 1 (by omega), words_get _ 5 2 (by omega), words_get _ 5 3 (by omega), words_get _ 5 4 (by omega), List.getD_cons_zero, List.getD_cons_succ]
  exact ⟨⟨s1, s2⟩, ⟨s5, by omega, by omega⟩, ⟨by omega, by omega⟩, nev rfl, ⟨by omega, by omega⟩, nev rfl, ⟨by omega, by omega⟩, nev rfl, ⟨by omega, by omega⟩, nev rfl, ⟨by omega, by omega⟩, nev rfl, ⟨by omega, by omega⟩, nev rfl, ⟨by omega, by omega⟩, nev rfl, ⟨by omega, by omega⟩, nev rfl,
    by simp, ⟨s1, s4⟩, ⟨s3, by omega, by omega⟩, ⟨by omega, by omega⟩, ⟨by omega, by omega⟩, ⟨by omega, by omega⟩, ⟨by omega, by omega⟩, eq4_of rfl, ⟨by omega, by omega⟩, eqv rfl, by trivial⟩

abbrev sBitsL : SpecF := fspec (α := Four × Four × Int × Unit) total fun _ => true
theorem ok_BitsL : SpecOK Try.prog 6 sBitsL := by
  refine fn_okL (by kernel_rfl) tt_ok spR01_ok 9 Try.func6 (by decide +kernel) (by kernel_rfl) ?_
  rintro ⟨a, b, n, _⟩ _
  have la := nat4_lt a
  have s1 : R1.Sm (nat4 a) := Sm4 a
  have hbits : (limb_Bits a == (R1.bitsN (nat4 a) : Int)) = true := by
    obtain ⟨m, h1, _, h2, h3, h4⟩ := bits_nat a
    rw [h1, R1.bitsN_of h2 h3 h4]; exact beq_self_eq_true _
  have hsel1 : eq4 (limb_Select (UInt64.ofNat (Int.toNat 1)) a b) a = true := eq4_of (select_one _ a b rfl)
  have hsel0 : eq4 (limb_Select (shl64 b.w0 (UInt64.toNat (UInt64.ofNat (Int.toNat 1)))) a b) b = true := by
    refine eq4_of (select_zero _ a b ?_)
    rw [show UInt64.toNat (UInt64.ofNat (Int.toNat 1)) = 1 from rfl, shl64_nat]
    omega
  have fin : ∀ x : SV, (fun x => x = SV.bool true) x → ∀ (at_ : At) (w : World) (v : Value), Rel at_ w x v → Rel at_ w (retSV (RetL.retL true)) v := fun x h at_ w v r => by have h' : x = _ := h; subst h'; exact r
  by_cases h0 : n < 0
  · refine ⟨dBits false true false, {}, fun x => x = .bool true, LnVD.of (vcBitsA a b n _) ?_, fin⟩
    have hl : limb_Left a n = a := by unfold limb_Left; rw [if_pos (by omega)]
    have hr : limb_Right a n = a := by unfold limb_Right; rw [if_pos (by omega)]
    have hb : limb_Bit a n = 0 := by unfold limb_Bit; rw [if_pos h0]
    rw [hl, hr, hb]
    refine ⟨by simp; omega, by simp; omega, by simp; omega, eq4_of rfl, eq4_of rfl, eqv rfl, s1, hbits, hsel1, hsel0, rfl⟩
  · by_cases h1 : n = 0
    · subst h1
      refine ⟨dBits false true true, {}, fun x => x = .bool true, LnVD.of (vcBitsB a b 0 _) ?_, fin⟩
      have hl : limb_Left a 0 = a := by unfold limb_Left; rw [if_pos (by omega)]
      have hr : limb_Right a 0 = a := by unfold limb_Right; rw [if_pos (by omega)]
      have hb : limb_Bit a 0 = bitN a 0 := by unfold limb_Bit; rw [if_neg (by omega), if_neg (by omega)]; rfl
      have hbn := bit_nat a 0 (by omega)
      rw [hl, hr, hb]
      refine ⟨by simp, by simp, by simp, by simp, ⟨s1, by omega, by omega⟩, eq4_of rfl, eq4_of rfl, eqv ?_, s1, hbits, hsel1, hsel0, rfl⟩
      rw [show Int.toNat 0 = 0 from rfl, ofInt_small _ (by omega), hbn]
    · by_cases h2 : n < 256
      · refine ⟨dBits true true true, {}, fun x => x = .bool true, LnVD.of (vcBitsC a b n _) ?_, fin⟩
        obtain ⟨k, hk⟩ : ∃ k : Nat, n = k := ⟨n.toNat, by omega⟩
        subst hk
        have hk : k < 256 := by omega
        simp only [Int.toNat_natCast]
        have hl := left_nat a k hk
        have hr := right_nat a k hk
        have hb : limb_Bit a k = bitN a k := by unfold limb_Bit; rw [if_neg (by omega), if_neg (by omega)]; rfl
        have hbn := bit_nat a k hk
        have hp : (2 : Nat) ^ k ≤ 2 ^ 256 := R1.pow2_le (by omega)
        have hm : nat4 a * 2 ^ k < 115792089237316195423570985008687907853269984665640564039457584007913129639936 * 115792089237316195423570985008687907853269984665640564039457584007913129639936 * 115792089237316195423570985008687907853269984665640564039457584007913129639936 := by
          have := Nat.mul_le_mul (Nat.le_of_lt la) hp
          omega
        have hd : nat4 a / 2 ^ k ≤ nat4 a := Nat.div_le_self _ _
        have hrl := nat4_lt (limb_Right a k)
        rw [hb]
        refine ⟨by simp; omega, by simp; omega, by simp; omega, ⟨?_, by omega, by omega⟩, SmB hm, ⟨s1, by omega, by omega⟩, SmB (by omega), by simp, by simp; omega, ⟨s1, by omega, by omega⟩, eq4_of (four_eq hl), eq4_of (four_eq ?_), eqv ?_, s1, hbits, hsel1, hsel0, by trivial⟩
        · exact R1.dlen2 (K := 256) (Nat.lt_of_lt_of_le la (by decide +kernel)) (by omega)
        · rw [hr]; omega
        · rw [ofInt_small _ (by omega), hbn]
      · refine ⟨dBits true false true, {}, fun x => x = .bool true, LnVD.of (vcBitsD a b n _) ?_, fin⟩
        have hl : limb_Left a n = zero4 := by unfold limb_Left; rw [if_neg (by omega), if_pos (by omega)]
        have hr : limb_Right a n = zero4 := by unfold limb_Right; rw [if_neg (by omega), if_pos (by omega)]
        have hb : limb_Bit a n = 0 := by unfold limb_Bit; rw [if_neg (by omega), if_pos (by omega)]
        rw [hl, hr, hb]
        refine ⟨by simp; omega, by simp; omega, by simp; omega, by simp; omega, by simp; omega, rfl, rfl, rfl, s1, hbits, hsel1, hsel0, rfl⟩

abbrev sBytesL : SpecF := fspec (α := List UInt8 × Four × Bool × Unit) total fun _ => true
theorem ok_BytesL : SpecOK Try.prog 4 sBytesL := by
  refine fn_okL (by kernel_rfl) tt_ok spR01_ok 9 Try.func4 (by decide +kernel) (by kernel_rfl) ?_
  rintro ⟨b, a, big, _⟩ _
  refine ⟨dBytes ((b.length : Int) != 32), {}, fun x => x = .bool true, LnVD.of (vcBytes b a big _ _) ?_, fun x h at_ w v r => by have h' : x = _ := h; subst h'; exact r⟩
  have s1 : R1.Sm (nat4 a) := Sm4 a
  have hlen : (limb_Bytes a big).length ≤ 4294967296 := by rw [bytes_len]; omega
  have hby := bytes_N a big
  have hlong : ((b.length : Int) != 32) = true → limb_Of b big = (zero4, 2) := fun h => by
    unfold limb_Of; rw [if_neg]; intro e; rw [e] at h; simp at h
  have hshort : ((b.length : Int) != 32) = false → b.length = 32 := fun h => by simp at h; omega
  have sb : ∀ l : List UInt8, l.length = 32 → R1.Sm (R1.bev l) := fun l hl => by
    have := R1.bev_lt l
    rw [hl] at this
    exact SmB (Nat.lt_of_lt_of_le this (by decide +kernel))
  simp only [R1.bcase_iff]
  refine ⟨⟨s1, by omega, by omega⟩, fun hbig => ⟨⟨s1, by omega, by omega⟩, hlen, ?_, by trivial, fun hl => ?_, fun hl => ?_⟩, fun hbig => ⟨hlen, ?_, by trivial, fun hl => ?_, fun hl => ?_⟩⟩
  · rw [hby, hbig]; simp
  · rw [hlong hl]; exact ⟨rfl, rfl, by trivial⟩
  · have h32 := hshort hl
    have hof := of_nat b big h32
    refine ⟨by omega, fun _ => ⟨by omega, ?_, sb b h32, ?_, by trivial⟩, fun h => by rw [hbig] at h; cases h⟩
    · rw [hof]; rfl
    · rw [hof, hbig]; exact eq4_of rfl
  · rw [hby, hbig]; simp
  · rw [hlong hl]; exact ⟨rfl, rfl, by trivial⟩
  · have h32 := hshort hl
    have hof := of_nat b big h32
    refine ⟨by omega, fun h => (by rw [hbig] at h; cases h), fun _ => ⟨?_, sb _ (by simpa using h32), ?_, by trivial⟩⟩
    · rw [hof]; rfl
    · rw [hof, hbig]; exact eq4_of rfl
end Go.Proofs.Ythechjccpljljaa
