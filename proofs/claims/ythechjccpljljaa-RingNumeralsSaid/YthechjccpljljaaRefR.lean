/- The reference's functions on digits (3): what they say is so. -/
import Derived.Test.YthechjccpljljaaRefQ
namespace Go.Proofs.Ythechjccpljljaa.R1
open Go.Sym Go.Dig

theorem spRT_ok : SpecsOK Try.prog spRT := .cons ok_Trim (.nil _)
theorem spRM_ok : SpecsOK Try.prog spRM := .cons ok_Mul <| .cons ok_Int spRT_ok
theorem ok_Small : SpecOK Try.prog 68 sSmall := by
  refine fn_okL (by kernel_rfl) tt_ok spRM_ok 3 Try.func68 (by decide +kernel) (by kernel_rfl) ?_
  rintro ⟨a, n, _⟩ ⟨ha, h0, h1⟩
  simp only at ha h0 h1
  refine ⟨[], {}, isNum (nv a * n.toNat), LnVD.of (vcSmall a n _) ?_, fun x h at_ w v r => isNum_ok h r⟩
  have := dg_len_i64 h1
  refine ⟨⟨h0, h1⟩, ⟨ha, Dg.dg (by omega)⟩, .inl ?_⟩
  rw [nv_dg]

theorem ok_Pow2 : SpecOK Try.prog 65 sPow2 := by
  refine fn_okL (by kernel_rfl) tt_ok (.nil _) 3 Try.func65 (by decide +kernel) (by kernel_rfl) ?_
  rintro ⟨n, _⟩ ⟨h0, h1⟩
  simp only at h0 h1
  refine ⟨[], lPow2, fun x => x = .i64 (2 ^ n.toNat), LnVD.of (vcPow2 n _) ?_, fun x h at_ w v r => by have h' : x = _ := h; subst h'; exact r⟩
  refine ⟨⟨by omega, h0, rfl⟩, fun x i ⟨i0, i1, hx⟩ => ?_⟩
  rw [bcase_dec]
  refine ⟨fun hi => ?_, fun hi => ?_⟩
  · have e : (i + 1).toNat = i.toNat + 1 := by omega
    have hb : (2 : Int) * x ≤ 2 ^ 62 := by
      rw [hx, Int.mul_comm, ← Int.pow_succ]
      have : (2 : Nat) ^ (i.toNat + 1) ≤ 2 ^ 62 := Nat.pow_le_pow_right (by omega) (by omega)
      exact_mod_cast this
    have hp : 0 ≤ x := by rw [hx]; exact Int.le_of_lt (Int.pow_pos (by omega))
    rw [wr (x := i + 1) (by omega), wr (x := 2 * x) (by omega)]
    refine ⟨rfl, ⟨by omega, by omega, ?_⟩, by omega⟩
    rw [e, Int.pow_succ, hx, Int.mul_comm]
  · have : i = n := by omega
    rw [hx, this]

theorem spRS_ok : SpecsOK Try.prog spRS := .cons ok_Small <| .cons ok_Pow2 spRM_ok
theorem pw_cast (n : Nat) : ((16777216 ^ n : Nat) : Int) = 16777216 ^ n := by rw [Int.natCast_pow]; rfl
theorem pw_le {x y : Nat} (h : x ≤ y) : (16777216 : Int) ^ x ≤ 16777216 ^ y := by
  have := Int.ofNat_le.2 (Nat.pow_le_pow_right (show 0 < 16777216 by omega) h)
  rw [pw_cast, pw_cast] at this; exact this
theorem pw_lt_nat {u n : Nat} (h : (u : Int) < 16777216 ^ n) : u < 16777216 ^ n := by rw [← pw_cast] at h; exact Int.ofNat_lt.1 h
theorem pow24 (q : Nat) : (16777216 : Nat) ^ q = 2 ^ (24 * q) := by rw [Nat.pow_mul]
theorem pow2_le {k n : Nat} (h : k ≤ n) : (2 : Nat) ^ k ≤ 2 ^ n := Nat.pow_le_pow_right (by omega) h
theorem pow2_nat (k : Nat) : ((2 : Int) ^ k).toNat = 2 ^ k := by
  have : ((2 : Int) ^ k) = ((2 ^ k : Nat) : Int) := by simp
  rw [this]; rfl
theorem ok_Shift : SpecOK Try.prog 35 sShift := by
  refine fn_okL (by kernel_rfl) tt_ok spRS_ok 3 Try.func35 (by decide +kernel) (by kernel_rfl) ?_
  rintro ⟨a, n, _⟩ ⟨ha, hl, h0, h1⟩
  simp only at ha hl h0 h1
  refine ⟨[], {}, isNum (nv a * 2 ^ n.toNat), LnVD.of (vcShift a n _) ?_, fun x h at_ w v r => isNum_ok h r⟩
  rw [bcase_iff]
  refine ⟨fun hz => ?_, fun hz => ?_⟩
  · have : a = [] := List.eq_nil_of_length_eq_zero (by simpa using hz)
    subst this
    exact .inr (.inr ⟨by simp [nv_nil], rfl⟩)
  · rw [tdiv_nn h0, tmod_nn h0, wr (x := n / 24) (by omega)]
    have e1 : List.drop 0 (List.take (List.replicate (n / 24).toNat (0 : Int)).length (List.replicate (n / 24).toNat (0 : Int))) = List.replicate (n / 24).toNat (0 : Int) := by simp
    rw [e1, whole]
    have hd : Dig (List.replicate (n / 24).toNat (0 : Int) ++ a) := (Dig.replicate _).append ha
    have hp := pow2_le (k := (n % 24).toNat) (n := 62) (by omega)
    have hpn := pow2_nat (n % 24).toNat
    refine ⟨⟨by omega, rfl, by omega⟩, ⟨by simp, by simp [appLim]; omega⟩, ⟨by omega, by omega⟩, ⟨⟨hd, by simp; omega⟩, Int.le_of_lt (Int.pow_pos (by omega)), by omega⟩, .inl ?_⟩
    rw [hpn]
    have e2 : nv (List.replicate (n / 24).toNat (0 : Int) ++ a) = 2 ^ (24 * (n / 24).toNat) * nv a := by
      have e4 := nv_val hd
      rw [val_append, val_replicate, List.length_replicate, ← nv_val ha, Int.zero_add] at e4
      rw [← pow24]
      rw [← pw_cast, ← Int.natCast_mul] at e4
      exact Int.ofNat_inj.1 e4
    have e3 : nv a * 2 ^ n.toNat = nv (List.replicate (n / 24).toNat (0 : Int) ++ a) * 2 ^ (n % 24).toNat := by
      rw [e2, Nat.mul_comm (2 ^ _) (nv a), Nat.mul_assoc, ← Nat.pow_add, show 24 * (n / 24).toNat + (n % 24).toNat = n.toNat by omega]
    rw [e3]

theorem spRP_ok : SpecsOK Try.prog spRP := .cons ok_Shift spRS_ok
theorem ok_Power : SpecOK Try.prog 18 sPower := by
  refine fn_okL (by kernel_rfl) tt_ok spRP_ok 3 Try.func18 (by decide +kernel) (by kernel_rfl) ?_
  rintro ⟨n, _⟩ ⟨h0, h1⟩
  simp only at h0 h1
  refine ⟨[], {}, isNum (2 ^ n.toNat), LnVD.of (vcPower n _) ?_, fun x h at_ w v r => isNum_ok h r⟩
  refine ⟨⟨Dig.cons (by omega) (by omega) Dig.nil, by simp, h0, h1⟩, .inl ?_⟩
  have : nv (List.drop 0 (List.take (0 + 1) [(1 : Int)])) = 1 := rfl
  rw [this, Nat.one_mul]

/-- How long a number's digits are. -/
theorem can_top {l : List Int} (h : Can l) (hl : l ≠ []) : l.getD (l.length - 1) 0 ≠ 0 := by
  have hd := h.dig
  have e : l = dg (nv l) := h.1
  have hlen : 0 < l.length := List.length_pos_iff.2 hl
  intro e0
  have hlast : (dg (nv l)).getLast? = some 0 := by
    rw [← e, List.getLast?_eq_getElem?, List.getElem?_eq_getElem (by omega)]
    rw [getD_lt (by omega)] at e0
    rw [e0]
  exact dg_last 0 hlast rfl
theorem can_ge {l : List Int} (h : Can l) (hl : l ≠ []) : 16777216 ^ (l.length - 1) * (l.getD (l.length - 1) 0) ≤ val l ∧ val l = val (l.take (l.length - 1)) + 16777216 ^ (l.length - 1) * l.getD (l.length - 1) 0 := by
  have hlen : 0 < l.length := List.length_pos_iff.2 hl
  have h1 := val_split l (l.length - 1)
  rw [show l.length - 1 + 1 = l.length by omega, List.drop_length] at h1
  simp only [val, Int.mul_zero, Int.add_zero] at h1
  have := val_nonneg (h.dig.take (l.length - 1))
  exact ⟨by omega, h1⟩
theorem can_lt {a b : List Int} (ha : Can a) (hb : Can b) (h : a.length < b.length) : nv a < nv b := by
  have hne : b ≠ [] := by rintro rfl; simp at h
  have h1 := (can_ge hb hne).1
  have h2 := can_top hb hne
  have h3 := (getD_dig hb.dig (b.length - 1)).1
  have h4 := val_lt ha.dig
  have h5 : (16777216 : Int) ^ a.length ≤ 16777216 ^ (b.length - 1) := pw_le (by omega)
  have h6 := Int.mul_le_mul_of_nonneg_left (show (1 : Int) ≤ b.getD (b.length - 1) 0 by omega) (Int.le_of_lt (pw_pos (b.length - 1)))
  have := nv_val ha.dig; have := nv_val hb.dig
  omega
theorem dig_lt {a b : List Int} (ha : Dig a) (hb : Dig b) (i : Nat) (h1 : a.drop (i + 1) = b.drop (i + 1)) (h2 : a.getD i 0 < b.getD i 0) : nv a < nv b := by
  have e1 := val_split a i
  have e2 := val_split b i
  rw [h1] at e1
  have l1 := val_lt (ha.take i)
  have l2 := val_nonneg (hb.take i)
  have hle : (16777216 : Int) ^ (a.take i).length ≤ 16777216 ^ i := pw_le (by simp; omega)
  have h6 := Int.mul_le_mul_of_nonneg_left (show a.getD i 0 + 1 ≤ b.getD i 0 by omega) (Int.le_of_lt (pw_pos i))
  rw [Int.mul_add] at h6
  have := nv_val ha; have := nv_val hb
  omega
theorem cmpN_lt {x y : Nat} (h : x < y) : cmpN x y = -1 := if_pos h
theorem cmpN_gt {x y : Nat} (h : y < x) : cmpN x y = 1 := by unfold cmpN; rw [if_neg (by omega), if_pos h]
theorem cmpN_eq (x : Nat) : cmpN x x = 0 := by unfold cmpN; rw [if_neg (by omega), if_neg (by omega)]
theorem ok_Cmp : SpecOK Try.prog 19 sCmp := by
  refine fn_okL (by kernel_rfl) tt_ok (.nil _) 3 Try.func19 (by decide +kernel) (by kernel_rfl) ?_
  rintro ⟨a, b, _⟩ ⟨ha, hb⟩
  simp only at ha hb
  refine ⟨[], lCmp, fun x => x = .i64 (cmpN (nv a) (nv b)), LnVD.of (vcCmp a b _) ?_, fun x h at_ w v r => by have h' : x = _ := h; subst h'; exact r⟩
  have hla := ha.2
  have hlb := hb.2
  simp only [bcase_dec]
  refine ⟨fun h => by rw [cmpN_lt (can_lt ha hb (by omega))], fun h => ⟨fun h' => by rw [cmpN_gt (can_lt hb ha (by omega))], fun h' => ?_⟩⟩
  rw [wr (x := (a.length : Int) - 1) (by omega)]
  refine ⟨⟨by omega, by omega, by omega, ?_⟩, fun i ⟨i0, i1, i2, i3⟩ => ⟨fun hi => ?_, fun hi => ?_⟩⟩
  · rw [List.drop_of_length_le (by omega), List.drop_of_length_le (by omega)]
  · have e : (i + 1).toNat = i.toNat + 1 := by omega
    rw [e] at i3
    refine ⟨⟨by omega, by omega⟩, ⟨by omega, by omega⟩, fun hlt => ?_, fun hlt => ⟨⟨by omega, by omega⟩, ⟨by omega, by omega⟩, fun hgt => ?_, fun hgt => ?_⟩⟩
    · rw [cmpN_lt (dig_lt ha.dig hb.dig _ i3 hlt)]
    · rw [cmpN_gt (dig_lt hb.dig ha.dig _ i3.symm hgt)]
    · rw [wr (x := i - 1) (by omega)]
      refine ⟨trivial, ⟨by omega, by omega, i2, ?_⟩, by omega⟩
      have e2 : (i - 1 + 1).toNat = i.toNat := by omega
      have hi' : i.toNat < a.length := by omega
      have hi2 : i.toNat < b.length := by omega
      rw [e2, List.drop_eq_getElem_cons hi', List.drop_eq_getElem_cons hi2, i3]
      rw [getD_lt hi', getD_lt hi2] at hlt hgt
      congr 1
      omega
  · have : (i + 1).toNat = 0 := by omega
    rw [this] at i3
    simp only [List.drop_zero] at i3
    rw [i3, cmpN_eq]

/-- A digit of a number. -/
theorem digit_nat {l : List Int} (h : Dig l) (q : Nat) : nv l / 16777216 ^ q % 16777216 = (l.getD q 0).toNat := by
  have h1 := val_split l q
  have h2 := nv_val h
  have h3 := getD_dig h q
  have t0 := val_nonneg (h.take q)
  have d0 := val_nonneg (h.drop (q + 1))
  have t1 := val_lt (h.take q)
  have hle : (16777216 : Int) ^ (l.take q).length ≤ 16777216 ^ q := pw_le (by simp; omega)
  obtain ⟨t, ht⟩ : ∃ t : Nat, val (l.take q) = t := ⟨(val (l.take q)).toNat, by omega⟩
  obtain ⟨u, hu⟩ : ∃ u : Nat, val (l.drop (q + 1)) = u := ⟨(val (l.drop (q + 1))).toNat, by omega⟩
  obtain ⟨d, hd⟩ : ∃ d : Nat, l.getD q 0 = d := ⟨(l.getD q 0).toNat, by omega⟩
  rw [ht, hu, hd, Int.pow_succ] at h1
  have e : nv l = t + 16777216 ^ q * (d + 16777216 * u) := by
    have : (nv l : Int) = t + 16777216 ^ q * (d + 16777216 * u) := by rw [h2, h1, Int.mul_add, Int.mul_assoc]; omega
    rw [← pw_cast] at this
    apply Int.ofNat_inj.1
    rw [this]; simp only [Int.natCast_add, Int.natCast_mul]; rfl
  have ht2 : t < 16777216 ^ q := pw_lt_nat (by omega)
  rw [e, Nat.add_mul_div_left _ _ (Nat.pow_pos (by omega)), Nat.div_eq_of_lt ht2, hd]
  simp only [Int.toNat_natCast]
  omega
theorem bit_mod (m r : Nat) (hr : r < 24) : m % 16777216 / 2 ^ r % 2 = m / 2 ^ r % 2 := by
  have e : (16777216 : Nat) = 2 ^ r * 2 ^ (24 - r) := by rw [← Nat.pow_add, show r + (24 - r) = 24 by omega]
  rw [e, Nat.mod_mul_right_div_self, Nat.mod_mod_of_dvd]
  refine ⟨2 ^ (24 - r - 1), ?_⟩
  rw [← Nat.pow_succ', show (24 - r - 1).succ = 24 - r by omega]
theorem ok_Bit : SpecOK Try.prog 21 sBit := by
  refine fn_okL (by kernel_rfl) tt_ok spRS_ok 3 Try.func21 (by decide +kernel) (by kernel_rfl) ?_
  rintro ⟨a, i, _⟩ ⟨⟨ha, hla⟩, h0, h1⟩
  simp only at ha hla h0 h1
  refine ⟨[], {}, fun x => x = .i64 ((nv a / 2 ^ i.toNat % 2 : Nat) : Int), LnVD.of (vcBit a i _) ?_, fun x h at_ w v r => by have h' : x = _ := h; subst h'; exact r⟩
  have hp := pow2_le (k := (i % 24).toNat) (n := 62) (by omega)
  have hpn := pow2_nat (i % 24).toNat
  have hpp : (0 : Int) < 2 ^ (i % 24).toNat := Int.pow_pos (by omega)
  have hdg := getD_dig ha (i / 24).toNat
  have key : nv a / 2 ^ i.toNat % 2 = (a.getD (i / 24).toNat 0).toNat / 2 ^ (i % 24).toNat % 2 := by
    rw [← digit_nat ha, bit_mod _ _ (by omega), pow24, Nat.div_div_eq_div_mul, ← Nat.pow_add]
    congr 3
    omega
  rw [tdiv_nn h0, tmod_nn h0, wr (x := i / 24) (by omega)]
  simp only [bcase_dec]
  refine ⟨fun h => by omega, fun h => ⟨fun h' => ?_, fun h' => ⟨⟨by omega, by omega⟩, ⟨by omega, by omega⟩, by omega, ?_⟩⟩⟩
  · rw [key, getD_ge (by omega)]; simp
  · obtain ⟨d, hd⟩ : ∃ d : Nat, a.getD (i / 24).toNat 0 = d := ⟨(a.getD (i / 24).toNat 0).toNat, by omega⟩
    obtain ⟨p, hp'⟩ : ∃ p : Nat, (2 : Int) ^ (i % 24).toNat = p := ⟨2 ^ (i % 24).toNat, by omega⟩
    have hpe : 2 ^ (i % 24).toNat = p := by omega
    rw [key, hd, hp', hpe]
    have hlt : d / p ≤ d := Nat.div_le_self _ _
    rw [tdiv_nn (by omega), ← Int.natCast_ediv]
    simp only [Int.toNat_natCast]
    generalize d / p = z at *
    rw [wr (by omega), tmod_nn (by omega)]
    rfl

theorem bitsN_of {m n : Nat} (h : m < 2 ^ n) (h' : m ≠ 0 → 0 < n ∧ 2 ^ (n - 1) ≤ m) (h0 : m = 0 → n = 0) : bitsN m = n := by
  unfold bitsN
  split
  · rename_i e; exact (h0 e).symm
  · rename_i e
    obtain ⟨h1, h2⟩ := h' e
    have : Nat.log2 m = n - 1 := (Nat.log2_eq_iff e).2 ⟨h2, by rw [show n - 1 + 1 = n by omega]; exact h⟩
    omega
theorem ok_Bits : SpecOK Try.prog 41 sBits := by
  refine fn_okL (by kernel_rfl) tt_ok (.nil _) 3 Try.func41 (by decide +kernel) (by kernel_rfl) ?_
  rintro ⟨a, _⟩ ha
  replace ha : Can a := ha
  refine ⟨[], lBits, fun x => x = .i64 (bitsN (nv a)), LnVD.of (vcBits a _) ?_, fun x h at_ w v r => by have h' : x = _ := h; subst h'; exact r⟩
  have hla := ha.2
  rw [bcase_iff]
  refine ⟨fun hz => ?_, fun hz => ?_⟩
  · have : a = [] := List.eq_nil_of_length_eq_zero (by simpa using hz)
    subst this; rfl
  · have hne : a ≠ [] := by rintro rfl; simp at hz
    have hlen : 0 < a.length := List.length_pos_iff.2 hne
    have e1 : ((a.length : Int) - 1).toNat = a.length - 1 := by omega
    have ht := getD_dig ha.dig (a.length - 1)
    have htop := can_top ha hne
    obtain ⟨t, htt⟩ : ∃ t : Nat, a.getD (a.length - 1) 0 = t := ⟨(a.getD (a.length - 1) 0).toNat, by omega⟩
    have hge := (can_ge ha hne).2
    rw [wr (x := (a.length : Int) - 1) (by omega), wr (x := 24 * _) (by omega), e1]
    refine ⟨⟨by omega, by omega⟩, ⟨0, by omega, by rw [Nat.pow_zero, Nat.div_one]; omega, by omega, by omega⟩, fun n x ⟨k, k1, k2, k3, k4⟩ => ?_⟩
    simp only [htt, Int.toNat_natCast] at k2 k4
    rw [bcase_dec]
    refine ⟨fun hx => ?_, fun hx => ?_⟩
    · have hle : t / 2 ^ k ≤ t := Nat.div_le_self _ _
      have hk : k < 24 := by
        by_cases e : k = 24
        · subst e
          have : t / 2 ^ 24 = 0 := Nat.div_eq_of_lt (by omega)
          omega
        · omega
      obtain ⟨z, hz⟩ : ∃ z, z = t / 2 ^ k := ⟨_, rfl⟩
      rw [← hz] at k2 hle
      rw [wr (x := n + 1) (by omega), tdiv_nn (by omega), wr (x := x / 2) (by omega)]
      refine ⟨rfl, ⟨k + 1, by omega, ?_, by omega, fun _ => ?_⟩, by omega⟩
      · simp only [htt, Int.toNat_natCast]
        rw [Nat.pow_succ, ← Nat.div_div_eq_div_mul, ← hz, k2]; rfl
      · simp only [htt, Int.toNat_natCast, Nat.add_sub_cancel]; omega
    · have hz : t / 2 ^ k = 0 := by generalize t / 2 ^ k = z at *; omega
      have hlt : t < 2 ^ k := by
        rcases Nat.div_eq_zero_iff.1 hz with h | h
        · have := Nat.pow_pos (n := k) (show 0 < 2 by omega); omega
        · exact h
      have hk0 : 0 < k := by
        by_cases e : k = 0
        · subst e; simp at hlt; omega
        · omega
      have k5 := k4 hk0
      have hge2 : 2 ^ (k - 1) ≤ t := by
        by_cases e : 2 ^ (k - 1) ≤ t
        · exact e
        · exact absurd (Nat.div_eq_of_lt (by omega)) k5
      rw [htt] at hge
      have tl := val_lt (ha.dig.take (a.length - 1))
      have t0 := val_nonneg (ha.dig.take (a.length - 1))
      rw [List.length_take, Nat.min_eq_left (by omega)] at tl
      obtain ⟨u, hu⟩ : ∃ u : Nat, val (a.take (a.length - 1)) = u := ⟨(val (a.take (a.length - 1))).toNat, by omega⟩
      have hnv := nv_val ha.dig
      have e2 : nv a = u + 16777216 ^ (a.length - 1) * t := by
        have : (nv a : Int) = u + 16777216 ^ (a.length - 1) * t := by rw [hnv, hge, hu]
        rw [← pw_cast] at this
        apply Int.ofNat_inj.1
        rw [this]; simp only [Int.natCast_add, Int.natCast_mul]
      have hu2 : u < 16777216 ^ (a.length - 1) := pw_lt_nat (by omega)
      have hn : n = ((24 * (a.length - 1) + k : Nat) : Int) := by omega
      rw [hn]
      congr 1
      have := bitsN_of (m := nv a) (n := 24 * (a.length - 1) + k) ?_ (fun _ => ⟨by omega, ?_⟩) (fun e => ?_)
      · rw [this]
      · rw [e2, Nat.pow_add, ← pow24]
        have h1 := Nat.mul_le_mul_left (16777216 ^ (a.length - 1)) (show t + 1 ≤ 2 ^ k by omega)
        rw [Nat.mul_add] at h1
        omega
      · rw [e2, show 24 * (a.length - 1) + k - 1 = 24 * (a.length - 1) + (k - 1) by omega, Nat.pow_add, ← pow24]
        have := Nat.mul_le_mul_left (16777216 ^ (a.length - 1)) hge2
        omega
      · rw [e2] at e
        have h1 := Nat.mul_pos (Nat.pow_pos (n := a.length - 1) (show 0 < 16777216 by omega)) (show 0 < t by omega)
        omega

end Go.Proofs.Ythechjccpljljaa.R1
