/- The reference's functions on digits (8): quotients and rests: what they say is so. -/
import Derived.Test.YthechjccpljljaaRefD
namespace Go.Proofs.Ythechjccpljljaa.R1
open Go.Sym Go.Dig

/-- What the highest digits say of a quotient. -/
theorem quot_bounds {n b P bt bl : Nat} (hP : 0 < P) (hb : b = bl + P * bt) (hl : bl < P) (ht : 1 ≤ bt) : n / P / (bt + 1) ≤ n / b ∧ n / b < n / P / bt + 1 := by
  have hbp : 0 < b := by have := Nat.mul_pos hP ht; omega
  refine ⟨?_, ?_⟩
  · rw [Nat.le_div_iff_mul_le hbp]
    have h1 : n / P / (bt + 1) * (bt + 1) ≤ n / P := Nat.div_mul_le_self _ _
    have h2 : P * (n / P) ≤ n := Nat.mul_div_le n P
    have h3 : b ≤ P * (bt + 1) := by rw [Nat.mul_add]; omega
    calc n / P / (bt + 1) * b ≤ n / P / (bt + 1) * (P * (bt + 1)) := Nat.mul_le_mul_left _ h3
      _ = P * (n / P / (bt + 1) * (bt + 1)) := by rw [Nat.mul_left_comm]
      _ ≤ P * (n / P) := Nat.mul_le_mul_left _ h1
      _ ≤ n := h2
  · rw [Nat.div_lt_iff_lt_mul hbp]
    have h1 : n < P * (n / P + 1) := Nat.lt_mul_div_succ n hP
    have h2 : n / P < bt * (n / P / bt + 1) := Nat.lt_mul_div_succ _ (by omega)
    have h3 : P * bt ≤ b := by omega
    calc n < P * (n / P + 1) := h1
      _ ≤ P * (bt * (n / P / bt + 1)) := Nat.mul_le_mul_left _ h2
      _ = P * bt * (n / P / bt + 1) := by rw [Nat.mul_assoc]
      _ ≤ b * (n / P / bt + 1) := Nat.mul_le_mul_right _ h3
      _ = (n / P / bt + 1) * b := Nat.mul_comm _ _
theorem dg_top_ge {n : Nat} (h : n ≠ 0) : 16777216 ^ ((dg n).length - 1) ≤ n := by
  have hc : dg n ≠ [] := fun e => h (dg_nil_iff.1 e)
  have hlen : 0 < (dg n).length := List.length_pos_iff.2 hc
  by_cases e : 16777216 ^ ((dg n).length - 1) ≤ n
  · exact e
  · have := dg_length_lt (n := n) (k := (dg n).length - 1) (by omega)
    omega
theorem len_le_of_lt {n k : Nat} (h : n < 16777216 ^ k) : (dg n).length ≤ k := dg_length_lt h
theorem lt_len {n k : Nat} (h : 16777216 ^ k ≤ n) : k < (dg n).length := by
  by_cases e : k < (dg n).length
  · exact e
  · have h1 := lt_of_dg_length n
    have h2 : (16777216 : Nat) ^ (dg n).length ≤ 16777216 ^ k := Nat.pow_le_pow_right (by omega) (by omega)
    omega
theorem dg_digit (n q : Nat) : ((dg n).getD q 0) = ((n / 16777216 ^ q % 16777216 : Nat) : Int) := by
  have h := digit_nat (dig_dg n) q
  rw [nv_dg] at h
  have := getD_dig (dig_dg n) q
  omega
theorem spDg_ok : SpecsOK Try.prog spDg := .cons ok_Small <| .cons ok_nCmp <| .cons ok_nSub <| .cons ok_Trim <| .nil _
theorem cmpN_le {x y : Nat} : cmpN x y ≤ 0 ↔ x ≤ y := by
  unfold cmpN
  split
  · simp; omega
  · split <;> simp <;> omega

theorem ok_Digits : SpecOK Try.prog 83 sDigits := by
  refine fn_okL (by kernel_rfl) tt_ok spDg_ok 3 Try.func83 (by decide +kernel) (by kernel_rfl) ?_
  rintro ⟨⟨a⟩, b, _⟩ ⟨hsa, hcb, hlb, hb0⟩
  simp only at hsa hcb hlb hb0
  refine ⟨[], lDigits, fun x => x = .tup [.lst (.num (a / nv b)), .lst (.num (a % nv b))], LnVD.of (vcDigits a b _) ?_, fun x h at_ w v r => by have h' : x = _ := h; subst h'; exact r⟩
  have hla : (dg a).length ≤ 1073741824 := hsa
  have hne : b ≠ [] := by rintro rfl; simp [nv_nil] at hb0
  have hlen : 0 < b.length := List.length_pos_iff.2 hne
  have hdb := hcb.dig
  have htop := can_top hcb hne
  have htd := getD_dig hdb (b.length - 1)
  obtain ⟨bt, hbt⟩ : ∃ t : Nat, b.getD (b.length - 1) 0 = t := ⟨(b.getD (b.length - 1) 0).toNat, by omega⟩
  obtain ⟨bl, hbl, hbl2⟩ : ∃ bl : Nat, nv b = bl + 16777216 ^ (b.length - 1) * bt ∧ bl < 16777216 ^ (b.length - 1) := by
    have h1 := (can_ge hcb hne).2
    have h2 := val_lt (hdb.take (b.length - 1))
    have h3 := val_nonneg (hdb.take (b.length - 1))
    have h4 := nv_val hdb
    rw [List.length_take, Nat.min_eq_left (by omega)] at h2
    refine ⟨(val (b.take (b.length - 1))).toNat, ?_, pw_lt_nat (by omega)⟩
    apply Int.ofNat_inj.1
    rw [h4, h1, hbt, Int.natCast_add, Int.natCast_mul, pw_cast]
    omega
  have hbB : nv b < 16777216 ^ b.length := nv_lt hdb
  rw [wr (x := ((dg a).length : Int) - 1) (by omega)]
  refine ⟨⟨by omega, by trivial, by omega⟩, ⟨by trivial, by simp⟩, ⟨by omega, by omega, by simp, Dig.replicate _, fun k _ => ?_, ?_, ?_⟩, fun ⟨rest⟩ q i ⟨i0, i1, hql, hqd, hqz, hr, hv⟩ => ?_⟩
  · simp only [List.getD_eq_getElem?_getD, List.getElem?_replicate]; split <;> rfl
  · have := lt_of_dg_length a
    rw [show (((dg a).length : Int) - 1 + 1).toNat = (dg a).length by omega, Nat.div_eq_of_lt this, Nat.zero_mod]
  · have := lt_of_dg_length a
    rw [show (((dg a).length : Int) - 1 + 1).toNat = (dg a).length by omega, Nat.div_eq_of_lt this, Nat.zero_div, Nat.mul_zero]
    simp [nv, val_replicate]
  simp only at hr hv ⊢
  rw [bcase_dec]
  refine ⟨fun hi => ?_, fun hi => ?_⟩
  · have hda := getD_dig (dig_dg a) i.toNat
    have hrb : rest < nv b := by rw [hr]; exact Nat.mod_lt _ hb0
    have hrl : (dg rest).length ≤ b.length := dg_length_lt (Nat.lt_trans hrb hbB)
    have e1 : ∀ x : Int, List.drop 0 (List.take (List.length [x]) [x]) = [x] := fun x => rfl
    simp only [e1, whole]
    have hcd : Dig ((dg a).getD i.toNat 0 :: dg rest) := Dig.cons hda.1 hda.2 (dig_dg rest)
    have hnv : nv ([(dg a).getD i.toNat 0] ++ dg rest) = ((dg a).getD i.toNat 0).toNat + 16777216 * rest := by
      simp only [List.singleton_append, nv, val, val_dg]; omega
    refine ⟨⟨hi, i1⟩, ⟨by trivial, by trivial⟩, ⟨⟨by simp, by simp [appLim]; omega⟩, ⟨hcd, by simp; omega⟩, ⟨by trivial, by trivial⟩, by trivial, hnv, by trivial⟩, fun ⟨n⟩ q1 ⟨hn, hq1⟩ => ?_⟩
    subst hq1
    simp only at hn ⊢
    have hnb : n < nv b * 16777216 := by
      rw [hn]; omega
    have hnB : n < 16777216 ^ (b.length + 1) := by rw [Nat.pow_succ]; exact Nat.lt_trans hnb (Nat.mul_lt_mul_of_pos_right hbB (by omega))
    have hnl : (dg n).length ≤ b.length + 1 := dg_length_lt hnB
    have hd : n / nv b < 16777216 := Nat.div_lt_of_lt_mul hnb
    have hqb := quot_bounds (n := n) (Nat.pow_pos (n := b.length - 1) (show 0 < 16777216 by omega)) hbl hbl2 (by omega)
    have eb : ((b.length : Int) - 1).toNat = b.length - 1 := by omega
    have hsn : Sm n := by show (dg n).length ≤ _; omega
    obtain ⟨D, hD⟩ : ∃ D, D = n / nv b := ⟨_, rfl⟩
    simp only [iDgB, ← hD]
    rw [← hD] at hd hqb
    refine ⟨⟨by trivial, by trivial⟩, ?_, fun q2 low high ⟨hq2, b0, b1, b2, b3⟩ => ⟨⟨by trivial, by trivial⟩, ⟨by trivial, b0, b1, b2, b3⟩, fun q3 lo hh ⟨hq3, c0, c1, c2, c3⟩ => ?_⟩⟩
    · rw [wr (x := (b.length : Int) - 1) (by omega), eb, hbt, wr (x := (bt : Int) + 1) (by omega)]
      simp only [bcase_dec, true_and, and_true]
      refine ⟨fun hlt => ⟨by omega, by omega, ?_, by omega⟩, fun hge => ?_⟩
      · have : n < nv b := by
          have h1 := lt_of_dg_length n
          have h2 : (16777216 : Nat) ^ (dg n).length ≤ 16777216 ^ (b.length - 1) := Nat.pow_le_pow_right (by omega) (by omega)
          have h3 : 16777216 ^ (b.length - 1) * 1 ≤ 16777216 ^ (b.length - 1) * bt := Nat.mul_le_mul_left _ (by omega)
          omega
        have : D = 0 := by rw [hD, Nat.div_eq_of_lt this]
        omega
      · have hnz : dg n ≠ [] := fun e => by have h0 : (dg n).length = 0 := by rw [e]; rfl
                                            omega
        have hn1 : 0 < (dg n).length := List.length_pos_iff.2 hnz
        rw [wr (x := ((dg n).length : Int) - 1) (by omega), show (((dg n).length : Int) - 1).toNat = (dg n).length - 1 by omega]
        have hlt := lt_of_dg_length n
        refine ⟨⟨by omega, by omega⟩, fun hgt => ?_, fun hgt => ?_⟩
        · have hL : (dg n).length = b.length + 1 := by omega
          rw [wr (x := ((dg n).length : Int) - 2) (by omega), show (((dg n).length : Int) - 2).toNat = b.length - 1 by omega, hL, show b.length + 1 - 1 = b.length from rfl]
          rw [dg_digit, dg_digit]
          have ht1 : n / 16777216 ^ b.length = n / 16777216 ^ (b.length - 1) / 16777216 := by
            rw [Nat.div_div_eq_div_mul, ← Nat.pow_succ, show (b.length - 1).succ = b.length by omega]
          have ht2 : n / 16777216 ^ b.length < 16777216 := Nat.div_lt_of_lt_mul (by rw [← Nat.pow_succ]; exact hnB)
          rw [Nat.mod_eq_of_lt ht2]
          generalize n / 16777216 ^ b.length = t1 at *
          generalize n / 16777216 ^ (b.length - 1) = t at *
          rw [wr (x := (t1 : Int) * 16777216) (by omega), wr (x := (t1 : Int) * 16777216 + _) (by omega), show (t1 : Int) * 16777216 + ((t % 16777216 : Nat) : Int) = (t : Int) by omega]
          rw [tdiv_nn (x := (t : Int)) (by omega), tdiv_nn (x := (t : Int)) (by omega), show (bt : Int) + 1 = ((bt + 1 : Nat) : Int) by omega, ← Int.natCast_ediv, ← Int.natCast_ediv]
          have hl1 : t / (bt + 1) ≤ t := Nat.div_le_self _ _
          have hl2 : t / bt ≤ t := Nat.div_le_self _ _
          generalize t / (bt + 1) = u1 at *
          generalize t / bt = u2 at *
          rw [wr (x := (u1 : Int)) (by omega), wr (x := (u2 : Int)) (by omega), wr (x := (u2 : Int) + 1) (by omega)]
          exact ⟨⟨by omega, by omega⟩, ⟨by omega, by omega⟩, by omega, ⟨by omega, by omega⟩, by omega, fun hc => ⟨by omega, by omega, by omega, by omega⟩, fun hc => ⟨by omega, by omega, by omega, by omega⟩⟩
        · have hL : (dg n).length = b.length := by omega
          rw [hL, dg_digit]
          have ht2 : n / 16777216 ^ (b.length - 1) < 16777216 := Nat.div_lt_of_lt_mul (by rw [← Nat.pow_succ, show (b.length - 1).succ = b.length by omega, ← hL]; exact hlt)
          rw [Nat.mod_eq_of_lt ht2]
          generalize n / 16777216 ^ (b.length - 1) = t at *
          rw [tdiv_nn (x := (t : Int)) (by omega), tdiv_nn (x := (t : Int)) (by omega), show (bt : Int) + 1 = ((bt + 1 : Nat) : Int) by omega, ← Int.natCast_ediv, ← Int.natCast_ediv]
          have hl1 : t / (bt + 1) ≤ t := Nat.div_le_self _ _
          have hl2 : t / bt ≤ t := Nat.div_le_self _ _
          generalize t / (bt + 1) = u1 at *
          generalize t / bt = u2 at *
          rw [wr (x := (u1 : Int)) (by omega), wr (x := (u2 : Int)) (by omega), wr (x := (u2 : Int) + 1) (by omega)]
          exact ⟨⟨by omega, by omega⟩, by omega, ⟨by omega, by omega⟩, by omega, fun hc => ⟨by omega, by omega, by omega, by omega⟩, fun hc => ⟨by omega, by omega, by omega, by omega⟩⟩
    · subst hq2
      subst hq3
      have hmul : ∀ m : Nat, m ≤ 16777216 → (dg (nv b * m)).length ≤ b.length + 1 := fun m hm => by
        refine dg_length_lt ?_
        rw [Nat.pow_succ]
        exact Nat.lt_of_le_of_lt (Nat.mul_le_mul_left _ hm) (Nat.mul_lt_mul_of_pos_right hbB (by omega))
      have hdg : Dg b := ⟨hdb, by omega⟩
      rw [wr (x := hh - lo) (by omega), bcase_dec]
      refine ⟨fun hgo => ?_, fun hgo => ?_⟩
      · rw [wr (x := lo + hh) (by omega), tdiv_nn (by omega), wr (x := (lo + hh) / 2) (by omega)]
        obtain ⟨m, hm⟩ : ∃ m : Nat, (lo + hh) / 2 = m := ⟨((lo + hh) / 2).toNat, by omega⟩
        rw [hm, Int.toNat_natCast, bcase_dec, cmpN_le]
        refine ⟨⟨hdg, by omega, by omega⟩, ⟨Nat.le_trans (hmul m (by omega)) (by omega), hsn⟩, fun hc => ⟨⟨by trivial, by trivial⟩, by trivial, ⟨by trivial, by omega, ?_, c2, c3⟩, by omega⟩, fun hc => ⟨⟨by trivial, by trivial⟩, by trivial, ⟨by trivial, c0, c1, ?_, by omega⟩, by omega⟩⟩
        · have : m ≤ D := by rw [hD, Nat.le_div_iff_mul_le hb0, Nat.mul_comm]; exact hc
          omega
        · have : D < m := by rw [hD, Nat.div_lt_iff_lt_mul hb0, Nat.mul_comm]; omega
          omega
      · have hlo : lo = D := by omega
        rw [hlo, Int.toNat_natCast, wr (x := i - 1) (by omega), show 0 + i.toNat = i.toNat by omega]
        have hDn : nv b * D ≤ n := by rw [hD]; exact Nat.mul_div_le _ _
        have e2 : (i - 1 + 1).toNat = i.toNat := by omega
        have e3 : (i + 1).toNat = i.toNat + 1 := by omega
        rw [e3] at hr hv
        have hAi : a / 16777216 ^ i.toNat = 16777216 * (a / 16777216 ^ (i.toNat + 1)) + ((dg a).getD i.toNat 0).toNat := by
          rw [dg_digit, Nat.pow_succ, ← Nat.div_div_eq_div_mul, Int.toNat_natCast]; omega
        have hAn : a / 16777216 ^ i.toNat = nv b * (16777216 * (a / 16777216 ^ (i.toNat + 1) / nv b)) + n := by
          rw [hAi, hn, hr]
          have := Nat.div_add_mod (a / 16777216 ^ (i.toNat + 1)) (nv b)
          generalize a / 16777216 ^ (i.toNat + 1) = A at *
          rw [Nat.mul_left_comm]
          omega
        have hq0 := hqz i.toNat (by omega)
        have hset : val (q3.set i.toNat (D : Int)) = val q3 + 16777216 ^ i.toNat * D := by
          rw [val_set _ _ _ (by omega), hq0, Int.sub_zero]
        refine ⟨⟨hi, by omega⟩, ⟨hdg, by omega, by omega⟩, ⟨hsn, hDn, Nat.le_trans (hmul D (by omega)) (by omega)⟩, ⟨by trivial, by simp⟩, by trivial, ⟨by omega, by omega, by simp [hql], Dig.set hqd _ (by omega), fun k hk => ?_, ?_, ?_⟩, by omega⟩
        · rw [getD_set _ _ _ _ (by omega)]; exact hqz k (by omega)
        · rw [e2, hAn, Nat.mul_add_mod, hD]
          have := Nat.div_add_mod n (nv b)
          omega
        · rw [e2, hAn, Nat.mul_add_div hb0, ← hD]
          have h1 := nv_val (Dig.set hqd i.toNat (show (0 : Int) ≤ D ∧ (D : Int) < 16777216 by omega))
          rw [hset, ← nv_val hqd, hv, ← pw_cast, ← Int.natCast_mul, ← Int.natCast_add] at h1
          have h2 := Int.ofNat_inj.1 h1
          rw [h2, Nat.pow_succ, Nat.mul_add, Nat.mul_assoc]
  · simp only [whole]
    have e3 : (i + 1).toNat = 0 := by omega
    rw [e3] at hr hv
    simp only [Nat.pow_zero, Nat.div_one, Nat.one_mul] at hr hv
    refine ⟨⟨hqd, by omega⟩, ?_⟩
    rw [hr, hv]

theorem spDv_ok : SpecsOK Try.prog spDv := .cons ok_nSmall <| .cons ok_Digits <| .nil _
theorem dg_len_mul {n m k l : Nat} (h : (dg n).length ≤ k) (h' : (dg m).length ≤ l) : (dg (n * m)).length ≤ k + l := by
  refine dg_length_lt ?_
  rw [Nat.pow_add]
  have h1 := Nat.lt_of_lt_of_le (lt_of_dg_length n) (Nat.pow_le_pow_right (show 0 < 16777216 by omega) h)
  have h2 := Nat.lt_of_lt_of_le (lt_of_dg_length m) (Nat.pow_le_pow_right (show 0 < 16777216 by omega) h')
  exact Nat.mul_lt_mul_of_lt_of_le h1 (Nat.le_of_lt h2) (Nat.pow_pos (by omega))
theorem dg_len_le {n m : Nat} (h : n ≤ m) : (dg n).length ≤ (dg m).length := dg_length_lt (Nat.lt_of_le_of_lt h (lt_of_dg_length m))
theorem ok_nDiv : SpecOK Try.prog 75 nDiv := by
  refine fn_okL (by kernel_rfl) tt_ok spDv_ok 3 Try.func75 (by decide +kernel) (by kernel_rfl) ?_
  rintro ⟨⟨a⟩, ⟨b⟩, _⟩ ⟨hla, hlb, hb0⟩
  simp only at hla hlb hb0
  refine ⟨[], lDiv, fun x => x = .tup [.lst (.num (a / b)), .lst (.num (a % b))], LnVD.of (vcDiv a b _) ?_, fun x h at_ w v r => by have h' : x = _ := h; subst h'; exact r⟩
  have hc : Can (dg b) := Can.dg (by omega)
  have hne : dg b ≠ [] := fun e => by have := dg_nil_iff.1 e; omega
  have hlen : 0 < (dg b).length := List.length_pos_iff.2 hne
  have htop := can_top hc hne
  have htd := getD_dig (dig_dg b) ((dg b).length - 1)
  rw [wr (x := ((dg b).length : Int) - 1) (by omega), show (((dg b).length : Int) - 1).toNat = (dg b).length - 1 by omega]
  generalize (dg b).getD ((dg b).length - 1) 0 = t at *
  rw [wr (x := t + 1) (by omega), tdiv_nn (by omega)]
  have hf : (1 : Int) ≤ 16777216 / (t + 1) ∧ 16777216 / (t + 1) ≤ 8388608 := by
    refine ⟨(Int.le_ediv_iff_mul_le (by omega)).2 (by omega), ?_⟩
    have h1 : (t + 1) * (16777216 / (t + 1)) ≤ 16777216 := Int.mul_ediv_self_le (by omega)
    have h2 : 2 * (16777216 / (t + 1)) ≤ (t + 1) * (16777216 / (t + 1)) := Int.mul_le_mul_of_nonneg_right (by omega) (Int.ediv_nonneg (by omega) (by omega))
    omega
  generalize 16777216 / (t + 1) = f0 at *
  rw [wr (x := f0) (by omega)]
  refine ⟨⟨⟨by omega, by omega⟩, by omega, by trivial, hf⟩, fun f ⟨hf1, hf2⟩ => ?_⟩
  obtain ⟨F, hF⟩ : ∃ F : Nat, f = F := ⟨f.toNat, by omega⟩
  subst hF
  rw [Int.toNat_natCast, nv_dg]
  have hF1 : 0 < F := by omega
  have hFl : (dg F).length ≤ 1 := dlen 1 (by omega)
  have hal := dg_len_mul hla hFl
  have hbl := dg_len_mul hlb hFl
  have e1 : List.drop 0 (List.take (0 + 1) [(F : Int)]) = [(F : Int)] := rfl
  have hnF : nv [(F : Int)] = F := by simp [nv, val]
  have ecan : Can [(F : Int)] := by
    refine ⟨?_, by simp⟩
    rw [hnF, dg_pos hF1, Nat.div_eq_of_lt (by omega), dg_zero, Nat.mod_eq_of_lt (by omega)]
  rw [e1, hnF, bcase_dec, Nat.mul_div_mul_right _ _ hF1, Nat.mul_mod_mul_right]
  refine ⟨⟨Nat.le_trans hla (by omega), by omega, by omega⟩, ⟨Nat.le_trans hlb (by omega), by omega, by omega⟩, ⟨Nat.le_trans hal (by omega), Can.dg (by omega), by omega, Nat.mul_pos hb0 hF1⟩, fun h => ⟨⟨?_, ecan, by simp, hF1⟩, ?_⟩, fun h => ?_⟩
  · refine Nat.le_trans (dg_len_le (m := a * F) ?_) (by omega)
    exact Nat.mul_le_mul_right _ (Nat.mod_le _ _)
  · rw [Nat.mul_div_cancel _ hF1]
  · have : F = 1 := by omega
    rw [this, Nat.mul_one]
theorem ok_nMod : SpecOK Try.prog 48 nMod := by
  refine fn_okL (by kernel_rfl) tt_ok (.cons ok_nDiv <| .nil _) 3 Try.func48 (by decide +kernel) (by kernel_rfl) ?_
  rintro ⟨⟨a⟩, ⟨b⟩, _⟩ h
  refine ⟨[], {}, isNum (a % b), LnVD.of (vcMod a b _) ?_, fun x h at_ w v r => isNum_ok h r⟩
  exact ⟨h, .inl rfl⟩
end Go.Proofs.Ythechjccpljljaa.R1
