/- The reference's functions on digits (6): words and bytes: what they say is so. -/
import Derived.Test.YthechjccpljljaaRefS
namespace Go.Proofs.Ythechjccpljljaa.R1
open Go.Sym Go.Dig

theorem wv_lt : ∀ l : List UInt64, wv l < 2 ^ (64 * l.length)
  | [] => by simp [wv]
  | x :: l => by
    have := wv_lt l
    have := u64_lt x
    simp only [wv, List.length_cons]
    rw [show 64 * (l.length + 1) = 64 * l.length + 64 by omega, Nat.pow_add]
    omega
theorem wv_drop (l : List UInt64) (i : Nat) (h : i < l.length) : wv (l.drop i) = (l.getD i 0).toNat + 18446744073709551616 * wv (l.drop (i + 1)) := by
  rw [List.drop_eq_getElem_cons h, List.getD_eq_getElem?_getD, List.getElem?_eq_getElem h]; rfl
theorem c24 : UInt64.ofNat (Int.toNat 16777216) = 16777216 := rfl
theorem c48 : UInt64.ofNat (Int.toNat 281474976710656) = 281474976710656 := rfl
theorem u24 (x : UInt64) : (x % 16777216).toNat = x.toNat % 16777216 := by rw [UInt64.toNat_mod]; rfl
theorem v24 (x : UInt64) : (x / 16777216).toNat = x.toNat / 16777216 := by rw [UInt64.toNat_div]; rfl
theorem v48 (x : UInt64) : (x / 281474976710656).toNat = x.toNat / 281474976710656 := by rw [UInt64.toNat_div]; rfl
theorem spRW_ok : SpecsOK Try.prog spRW := .cons ok_Add spRP_ok
theorem ok_Words : SpecOK Try.prog 34 sWords := by
  refine fn_okL (by kernel_rfl) tt_ok spRW_ok 3 Try.func34 (by decide +kernel) (by kernel_rfl) ?_
  rintro ⟨l, _⟩ hl
  replace hl : l.length ≤ 1048576 := hl
  refine ⟨[], lWords, isNum (wv l), LnVD.of (vcWords l _) ?_, fun x h at_ w v r => isNum_ok h r⟩
  rw [wr (x := (l.length : Int) - 1) (by omega)]
  refine ⟨⟨by omega, by omega, ?_⟩, fun a i ⟨i0, i1, hv⟩ => ?_⟩
  · rw [show ((l.length : Int) - 1 + 1).toNat = l.length by omega, List.drop_length]; rfl
  · obtain ⟨m⟩ := a
    simp only at hv ⊢
    obtain ⟨K, hK⟩ : ∃ K : Nat, K = 64 * 1048576 := ⟨_, rfl⟩
    have hb : m < 2 ^ K := by
      have := wv_lt (l.drop (i + 1).toNat)
      rw [← hv] at this
      exact Nat.lt_of_lt_of_le this (pow2_le (by rw [List.length_drop]; omega))
    have hm1 : (dg m).length ≤ 4194304 := dlen2 hb (by omega)
    rw [bcase_dec]
    refine ⟨fun hi => ?_, fun hi => ?_⟩
    · have hm2 : (dg (m * 2 ^ 64)).length ≤ 8388608 := by
        have : m * 2 ^ 64 < 2 ^ K * 2 ^ 64 := Nat.mul_lt_mul_of_pos_right hb (by omega)
        rw [← Nat.pow_add] at this
        exact dlen2 this (by omega)
      obtain ⟨x, hx⟩ : ∃ x, l.getD i.toNat 0 = x := ⟨_, rfl⟩
      have hxl := u64_lt x
      rw [wr (x := i - 1) (by omega), hx, c24, c48, u24, u24, v24, v48, nv_dg, show Int.toNat 64 = 64 from rfl]
      rw [wr (x := ((x.toNat % 16777216 : Nat) : Int)) (by omega), wr (x := ((x.toNat / 16777216 % 16777216 : Nat) : Int)) (by omega), wr (x := ((x.toNat / 281474976710656 : Nat) : Int)) (by omega)]
      have hdig : Dig [((x.toNat % 16777216 : Nat) : Int), ((x.toNat / 16777216 % 16777216 : Nat) : Int), ((x.toNat / 281474976710656 : Nat) : Int)] := Dig.cons (by omega) (by omega) (Dig.cons (by omega) (by omega) (Dig.cons (by omega) (by omega) Dig.nil))
      have hnv : nv [((x.toNat % 16777216 : Nat) : Int), ((x.toNat / 16777216 % 16777216 : Nat) : Int), ((x.toNat / 281474976710656 : Nat) : Int)] = x.toNat := by
        simp only [nv, val]; omega
      have e3 : ∀ d0 d1 d2 : Int, List.drop 0 (List.take (0 + 3) [d0, d1, d2]) = [d0, d1, d2] := fun _ _ _ => rfl
      rw [e3, hnv, nv_dg]
      refine ⟨⟨by omega, by omega⟩, ⟨dig_dg _, by omega, by omega, by omega⟩, ⟨Dg.dg (by omega), hdig, by simp⟩, by trivial, ⟨by omega, by omega, ?_⟩, by omega⟩
      have e1 : (i - 1 + 1).toNat = i.toNat := by omega
      rw [e1, wv_drop l i.toNat (by omega), hx, show i.toNat + 1 = (i + 1).toNat by omega, ← hv]
      omega
    · have e1 : (i + 1).toNat = 0 := by omega
      rw [e1, List.drop_zero] at hv
      refine ⟨⟨dig_dg _, by omega⟩, .inl ?_⟩
      rw [nv_dg, hv]

theorem spRF_ok : SpecsOK Try.prog spRF := .cons ok_ToWords <| .cons ok_Words <| .nil _
theorem ok_Four : SpecOK Try.prog 20 sFour := by
  refine fn_okL (by kernel_rfl) tt_ok spRF_ok 3 Try.func20 (by decide +kernel) (by kernel_rfl) ?_
  rintro ⟨a, _⟩ ha
  replace ha : Dg a := ha
  refine ⟨[], {}, fun x => x = (fourN (nv a)).sv, LnVD.of (vcFour a _) ?_, fun x h at_ w v r => by have h' : x = _ := h; subst h'; exact r⟩
  rw [show Int.toNat 4 = 4 from rfl, wordsL_len]
  refine ⟨⟨ha, by omega, by omega⟩, ⟨by omega, by omega⟩, ⟨by omega, by omega⟩, ⟨by omega, by omega⟩, ⟨by omega, by omega⟩, ?_⟩
  rw [show Int.toNat 0 = 0 from rfl, show Int.toNat 1 = 1 from rfl, show Int.toNat 2 = 2 from rfl, show Int.toNat 3 = 3 from rfl]
  rw [wordsL_get _ _ _ (by omega), wordsL_get _ _ _ (by omega), wordsL_get _ _ _ (by omega), wordsL_get _ _ _ (by omega)]
  simp only [Four.sv, fourN, Nat.mul_zero, Nat.pow_zero, Nat.div_one]
theorem ok_Of : SpecOK Try.prog 13 sOf := by
  refine fn_okL (by kernel_rfl) tt_ok spRF_ok 3 Try.func13 (by decide +kernel) (by kernel_rfl) ?_
  rintro ⟨a, _⟩ _
  refine ⟨[], {}, isNum (wv [a.w0, a.w1, a.w2, a.w3]), LnVD.of (vcOf a _) ?_, fun x h at_ w v r => isNum_ok h r⟩
  exact ⟨by simp, .inl rfl⟩

theorem bev_snoc (l : List UInt8) (x : UInt8) : bev (l ++ [x]) = bev l * 256 + x.toNat := by simp [bev]
theorem bev_take (b : List UInt8) (i : Nat) (h : i < b.length) : bev (b.take (i + 1)) = bev (b.take i) * 256 + (b.getD i 0).toNat := by
  rw [List.take_succ_eq_append_getElem h, bev_snoc, List.getD_eq_getElem?_getD, List.getElem?_eq_getElem h]; rfl
theorem bev_lt_take (b : List UInt8) : ∀ i : Nat, i ≤ b.length → bev (b.take i) < 2 ^ (8 * i)
  | 0, _ => by simp [bev]
  | i + 1, h => by
    have := bev_lt_take b i (by omega)
    have := u8_lt (b.getD i 0)
    rw [bev_take b i (by omega), show 8 * (i + 1) = 8 * i + 8 by omega, Nat.pow_add]
    omega
theorem bev_lt (b : List UInt8) : bev b < 2 ^ (8 * b.length) := by
  have := bev_lt_take b b.length (Nat.le_refl _)
  rwa [List.take_length] at this
theorem spBg_ok : SpecsOK Try.prog ((16, .pure sAdd) :: spRS) := .cons ok_Add spRS_ok
theorem ok_Big : SpecOK Try.prog 29 sBig := by
  refine fn_okL (by kernel_rfl) tt_ok spBg_ok 3 Try.func29 (by decide +kernel) (by kernel_rfl) ?_
  rintro ⟨b, _⟩ hl
  replace hl : b.length ≤ 1048576 := hl
  refine ⟨[], lBig, isNum (bev b), LnVD.of (vcBig b _) ?_, fun x h at_ w v r => isNum_ok h r⟩
  refine ⟨⟨by omega, by omega, rfl⟩, fun a i ⟨i0, i1, hv⟩ => ?_⟩
  obtain ⟨m⟩ := a
  simp only at hv ⊢
  rw [bcase_dec]
  refine ⟨fun hi => ?_, fun hi => ?_⟩
  · obtain ⟨K, hK⟩ : ∃ K : Nat, K = 8 * 1048576 := ⟨_, rfl⟩
    have hb : m < 2 ^ K := by
      have := bev_lt_take b i.toNat (by omega)
      rw [← hv] at this
      exact Nat.lt_of_lt_of_le this (pow2_le (by omega))
    have hm1 : (dg m).length ≤ 4194304 := dlen2 hb (by omega)
    have hm2 : (dg (m * 256)).length ≤ 8388608 := by
      have : m * 2 ^ 8 < 2 ^ K * 2 ^ 8 := Nat.mul_lt_mul_of_pos_right hb (by omega)
      rw [← Nat.pow_add] at this
      exact dlen2 this (by omega)
    obtain ⟨x, hx⟩ : ∃ x, b.getD i.toNat 0 = x := ⟨_, rfl⟩
    have hxl := u8_lt x
    have hm3 : (dg x.toNat).length ≤ 1 := dlen _ (by omega)
    rw [wr (x := i + 1) (by omega), hx, nv_dg, nv_dg, show Int.toNat 256 = 256 from rfl, Int.toNat_natCast, nv_dg]
    refine ⟨⟨Dg.dg (by omega), by omega, by omega⟩, ⟨i0, hi⟩, ⟨by omega, by omega⟩, ⟨Dg.dg (by omega), Dg.dg (by omega)⟩, by trivial, ⟨by omega, by omega, ?_⟩, by omega⟩
    rw [show (i + 1).toNat = i.toNat + 1 by omega, bev_take b _ (by omega), hx, hv]
  · have : b.take i.toNat = b := List.take_of_length_le (by omega)
    rw [this] at hv
    exact .inl (by rw [hv])

theorem ok_Turned : SpecOK Try.prog 66 sTurned := by
  refine fn_okL (by kernel_rfl) tt_ok (.nil _) 3 Try.func66 (by decide +kernel) (by kernel_rfl) ?_
  rintro ⟨b, _⟩ hl
  replace hl : b.length ≤ 4294967296 := hl
  refine ⟨[], lTurned, fun x => x = .lst (.bytes b.reverse), LnVD.of (vcTurned b _) ?_, fun x h at_ w v r => by have h' : x = _ := h; subst h'; exact r⟩
  rw [wr (x := (b.length : Int) - 1) (by omega)]
  refine ⟨⟨by trivial, by trivial⟩, ⟨by omega, by omega, ?_⟩, fun l i ⟨i0, i1, hv⟩ => ?_⟩
  · rw [show ((b.length : Int) - 1 + 1).toNat = b.length by omega, List.drop_length]; rfl
  · simp only [app_one, whole]
    rw [bcase_dec]
    refine ⟨fun hi => ?_, fun hi => ?_⟩
    · rw [wr (x := i - 1) (by omega)]
      have hl2 : l.length = b.length - (i + 1).toNat := by rw [hv]; simp
      refine ⟨⟨by omega, by omega⟩, ⟨by omega, by simp [appLim]; omega⟩, ⟨by trivial, by trivial⟩, by trivial, ⟨by omega, by omega, ?_⟩, by omega⟩
      rw [show (i - 1 + 1).toNat = i.toNat by omega, List.drop_eq_getElem_cons (show i.toNat < b.length by omega), List.reverse_cons, hv, show (i + 1).toNat = i.toNat + 1 by omega]
      rw [List.getD_eq_getElem?_getD, List.getElem?_eq_getElem (show i.toNat < b.length by omega)]; rfl
    · rw [hv, show (i + 1).toNat = 0 by omega, List.drop_zero]
theorem spRB_ok : SpecsOK Try.prog spRB := .cons ok_Big <| .cons ok_Turned <| .nil _
theorem ok_Little : SpecOK Try.prog 28 sLittle := by
  refine fn_okL (by kernel_rfl) tt_ok spRB_ok 3 Try.func28 (by decide +kernel) (by kernel_rfl) ?_
  rintro ⟨b, _⟩ hl
  replace hl : b.length ≤ 1048576 := hl
  refine ⟨[], {}, isNum (bev b.reverse), LnVD.of (vcLittle b _) ?_, fun x h at_ w v r => isNum_ok h r⟩
  exact ⟨by omega, by simpa using hl, .inl rfl⟩

theorem pow256 (q : Nat) : (256 : Nat) ^ q = 2 ^ (8 * q) := by rw [Nat.pow_mul]
theorem byte_digit {a : List Int} (ha : Dig a) (i : Nat) : nv a / 256 ^ i % 256 = (a.getD (i / 3) 0).toNat / 256 ^ (i % 3) % 256 := by
  have h1 : nv a / 256 ^ i = nv a / 16777216 ^ (i / 3) / 256 ^ (i % 3) := by
    rw [Nat.div_div_eq_div_mul, pow24, pow256, pow256, ← Nat.pow_add]
    congr 2; omega
  rw [h1, ← digit_nat ha]
  generalize nv a / 16777216 ^ (i / 3) = m
  have e : (16777216 : Nat) = 256 ^ (i % 3) * 256 ^ (3 - i % 3) := by rw [← Nat.pow_add, show i % 3 + (3 - i % 3) = 3 by omega]
  rw [e, Nat.mod_mul_right_div_self, Nat.mod_mod_of_dvd]
  refine ⟨256 ^ (3 - i % 3 - 1), ?_⟩
  rw [← Nat.pow_succ', show (3 - i % 3 - 1).succ = 3 - i % 3 by omega]
theorem u8_of {m k : Nat} (h : m % 256 = k % 256) : UInt8.ofNat m = UInt8.ofNat k := by
  apply UInt8.toNat_inj.1
  simp only [UInt8.toNat_ofNat']
  exact h
theorem bytesN_len (m n : Nat) : (bytesN m n).length = n := by simp [bytesN]
theorem ok_ToLittle : SpecOK Try.prog 24 sToLittle := by
  refine fn_okL (by kernel_rfl) tt_ok (.nil _) 3 Try.func24 (by decide +kernel) (by kernel_rfl) ?_
  rintro ⟨a, n, _⟩ ⟨⟨ha, hla⟩, h0, h1⟩
  simp only at ha hla h0 h1
  refine ⟨[], lToLittle, fun x => x = .lst (.bytes (bytesN (nv a) n.toNat)), LnVD.of (vcToLittle a n _) ?_, fun x h at_ w v r => by have h' : x = _ := h; subst h'; exact r⟩
  refine ⟨⟨h0, by trivial, by omega⟩, ⟨by trivial, by simp⟩, ⟨by omega, by omega, ?_⟩, fun out i ⟨i0, i1, hv⟩ => ?_⟩
  · apply List.ext_getElem (by simp)
    intro j h1 h2
    simp
  have hlen : out.length = n.toNat := by rw [hv]; simp
  rw [bcase_dec]
  refine ⟨fun hi => ?_, fun hi => ?_⟩
  · rw [tdiv_nn i0, tmod_nn i0, wr (x := i / 3) (by omega), wr (x := i + 1) (by omega), bcase_dec]
    have e1 : (i + 1).toNat = i.toNat + 1 := by omega
    have ei3 : (i / 3).toNat = i.toNat / 3 := by omega
    refine ⟨fun h3 => ⟨⟨by omega, h3⟩, ⟨by trivial, by trivial⟩, ⟨by trivial, by omega, by omega, ?_⟩, fun o x k ⟨ho, k0, k1, hx⟩ => ?_⟩, fun h3 => ⟨⟨by trivial, by trivial⟩, by trivial, ⟨by omega, by omega, ?_⟩, by omega⟩⟩
    · have := getD_dig ha (i / 3).toNat
      simp only [Int.toNat_zero, Nat.pow_zero, Nat.div_one]; omega
    · subst ho
      rw [bcase_dec]
      refine ⟨fun hk => ?_, fun hk => ?_⟩
      · have hx0 : 0 ≤ x := by rw [hx]; exact Int.natCast_nonneg _
        rw [wr (x := k + 1) (by omega), tdiv_nn hx0]
        have hd := getD_dig ha (i / 3).toNat
        have hle : (a.getD (i / 3).toNat 0).toNat / 256 ^ k.toNat ≤ (a.getD (i / 3).toNat 0).toNat := Nat.div_le_self _ _
        have hx2 : x / 256 = (((a.getD (i / 3).toNat 0).toNat / 256 ^ (k + 1).toNat : Nat) : Int) := by
          rw [show (k + 1).toNat = k.toNat + 1 by omega, Nat.pow_succ, ← Nat.div_div_eq_div_mul, hx]; rfl
        have hb : 0 ≤ x ∧ x < 16777216 := by
          rw [hx]
          generalize (a.getD (i / 3).toNat 0).toNat / 256 ^ k.toNat = z at *
          omega
        rw [wr (x := x / 256) (by omega)]
        exact ⟨⟨by trivial, by trivial⟩, by trivial, ⟨by trivial, by omega, by omega, hx2⟩, by omega⟩
      · have ek : k.toNat = i.toNat % 3 := by omega
        have hx0 : 0 ≤ x := by rw [hx]; exact Int.natCast_nonneg _
        rw [tmod_nn hx0, show 0 + i.toNat = i.toNat by omega]
        refine ⟨⟨i0, by omega⟩, ⟨by trivial, by simp⟩, by trivial, ⟨by omega, by omega, ?_⟩, by omega⟩
        have hb := byte_digit ha i.toNat
        rw [ek, ei3] at hx
        have hu : UInt8.ofInt (x % 256) = UInt8.ofNat (nv a / 256 ^ i.toNat) := by
          have e2 : x % 256 = ((nv a / 256 ^ i.toNat % 256 : Nat) : Int) := by rw [hb, hx]; rfl
          rw [e2]
          apply UInt8.toNat_inj.1
          rw [ofInt8]
          simp only [UInt8.toNat_ofNat']
          omega
        rw [hu, hv]
        apply List.ext_getElem (by simp)
        intro j h1 h2
        simp only [List.length_set, List.length_map, List.length_range] at h1
        simp only [List.getElem_set, List.getElem_map, List.getElem_range, e1]
        by_cases hj : i.toNat = j
        · subst hj; simp
        · rw [if_neg hj]
          by_cases hj2 : j < i.toNat
          · rw [if_pos hj2, if_pos (by omega)]
          · rw [if_neg hj2, if_neg (by omega)]
    · rw [hv]
      apply List.ext_getElem (by simp)
      intro j h1 h2
      simp only [List.length_map, List.length_range] at h1
      simp only [List.getElem_map, List.getElem_range, e1]
      by_cases hj : j < i.toNat
      · rw [if_pos hj, if_pos (by omega)]
      · by_cases hj2 : j = i.toNat
        · subst hj2
          rw [if_neg (by omega), if_pos (by omega)]
          have hb := byte_digit ha i.toNat
          rw [getD_ge (l := a) (by omega)] at hb
          rw [u8_of (k := 0) (by rw [hb]; simp)]; rfl
        · rw [if_neg hj, if_neg (by omega)]
  · simp only [whole]
    rw [hv]
    congr 2
    unfold bytesN
    apply List.map_congr_left
    intro j hj
    rw [List.mem_range] at hj
    rw [if_pos (by omega)]
theorem ok_ToBig : SpecOK Try.prog 25 sToBig := by
  refine fn_okL (by kernel_rfl) tt_ok (.cons ok_ToLittle spRB_ok) 3 Try.func25 (by decide +kernel) (by kernel_rfl) ?_
  rintro ⟨a, n, _⟩ ⟨ha, h0, h1⟩
  simp only at ha h0 h1
  refine ⟨[], {}, fun x => x = .lst (.bytes (bytesN (nv a) n.toNat).reverse), LnVD.of (vcToBig a n _) ?_, fun x h at_ w v r => by have h' : x = _ := h; subst h'; exact r⟩
  exact ⟨⟨ha, h0, h1⟩, by rw [bytesN_len]; omega, rfl⟩

theorem ok_Same : SpecOK Try.prog 26 sSame := by
  refine fn_okL (by kernel_rfl) tt_ok (.nil _) 3 Try.func26 (by decide +kernel) (by kernel_rfl) ?_
  rintro ⟨a, b, _⟩ hl
  replace hl : a.length ≤ 4294967296 := hl
  refine ⟨[], lSame, fun x => x = .bool (decide (a = b)), LnVD.of (vcSame a b _) ?_, fun x h at_ w v r => by have h' : x = _ := h; subst h'; exact r⟩
  rw [bcase_iff]
  refine ⟨fun hne => ?_, fun heq => ⟨⟨by omega, by omega, Int.ofNat_inj.1 (by simpa using heq), by simp⟩, fun i ⟨i0, i1, i2, i3⟩ => ?_⟩⟩
  · have : a ≠ b := by rintro rfl; simp at hne
    simp [this]
  · rw [bcase_dec]
    refine ⟨fun hi => ⟨⟨i0, hi⟩, ⟨i0, by omega⟩, ?_⟩, fun hi => ?_⟩
    · have ga : ∀ l : List UInt8, (h : i.toNat < l.length) → l.getD i.toNat 0 = l[i.toNat] := fun l h => by rw [List.getD_eq_getElem?_getD, List.getElem?_eq_getElem h]; rfl
      rw [ga a (by omega), ga b (by omega), bcase_iff]
      refine ⟨fun hne => ?_, fun heq => ?_⟩
      · have : a ≠ b := by rintro rfl; simp at hne
        simp [this]
      · rw [wr (x := i + 1) (by omega)]
        refine ⟨by trivial, ⟨by omega, by omega, i2, ?_⟩, by omega⟩
        rw [show (i + 1).toNat = i.toNat + 1 by omega, List.take_succ_eq_append_getElem (show i.toNat < a.length by omega), List.take_succ_eq_append_getElem (show i.toNat < b.length by omega), i3]
        congr 2
        simpa using heq
    · rw [List.take_of_length_le (by omega), List.take_of_length_le (by omega)] at i3
      simp [i3]

end Go.Proofs.Ythechjccpljljaa.R1
