/- The reference's functions on digits (5): words and bytes: what they say is so. -/
import Derived.Test.YthechjccpljljaaRefB
namespace Go.Proofs.Ythechjccpljljaa.R1
open Go.Sym Go.Dig

theorem dlen {m : Nat} (k : Nat) (h : m < 2 ^ (24 * k)) : (dg m).length ≤ k := dg_length_lt (by rw [pow24]; exact h)
theorem dlen2 {m K n : Nat} (h : m < 2 ^ K) (hn : K ≤ 24 * n) : (dg m).length ≤ n := dlen n (Nat.lt_of_lt_of_le h (pow2_le hn))
theorem down_digit (m i r : Nat) (hr : r < 24) : m / 16777216 ^ i / 2 ^ r % 16777216 = m / 16777216 ^ i % 16777216 / 2 ^ r + m / 16777216 ^ (i + 1) % 16777216 % 2 ^ r * 2 ^ (24 - r) := by
  have e1 : m / 16777216 ^ (i + 1) = m / 16777216 ^ i / 16777216 := by rw [Nat.pow_succ, Nat.div_div_eq_div_mul]
  rw [e1]
  generalize m / 16777216 ^ i = M
  have hB : (16777216 : Nat) = 2 ^ r * 2 ^ (24 - r) := by rw [← Nat.pow_add, show r + (24 - r) = 24 by omega]
  have p1 : 0 < 2 ^ r := Nat.pow_pos (by omega)
  have p2 : 0 < 2 ^ (24 - r) := Nat.pow_pos (by omega)
  have e2 : M / 16777216 % 16777216 % 2 ^ r = M / 16777216 % 2 ^ r := Nat.mod_mod_of_dvd _ ⟨_, hB⟩
  rw [e2]
  have e3 : M / 2 ^ r = M % 16777216 / 2 ^ r + 2 ^ (24 - r) * (M / 16777216) := by
    have : M = M % 16777216 + 2 ^ r * (2 ^ (24 - r) * (M / 16777216)) := by rw [← Nat.mul_assoc, ← hB]; omega
    conv => lhs; rw [this]
    rw [Nat.add_mul_div_left _ _ p1]
  have e4 : 2 ^ (24 - r) * (M / 16777216) = 16777216 * (M / 16777216 / 2 ^ r) + M / 16777216 % 2 ^ r * 2 ^ (24 - r) := by
    have := Nat.div_add_mod (M / 16777216) (2 ^ r)
    conv => lhs; rw [← this]
    rw [Nat.mul_add, ← Nat.mul_assoc, Nat.mul_comm (2 ^ (24 - r)) (2 ^ r), ← hB, Nat.mul_comm (2 ^ (24 - r))]
  have l1 : M % 16777216 / 2 ^ r < 2 ^ (24 - r) := Nat.div_lt_of_lt_mul (by rw [← hB]; omega)
  have l2 : (M / 16777216 % 2 ^ r + 1) * 2 ^ (24 - r) ≤ 2 ^ r * 2 ^ (24 - r) := Nat.mul_le_mul_right _ (Nat.mod_lt _ p1)
  rw [← hB, Nat.add_mul, Nat.one_mul] at l2
  rw [e3, e4]
  generalize M % 16777216 / 2 ^ r = x at *
  generalize M / 16777216 % 2 ^ r * 2 ^ (24 - r) = y at *
  generalize M / 16777216 / 2 ^ r = z at *
  omega
theorem nv_snoc {l : List Int} {d : Int} (h : Dig (l ++ [d])) (d' : Nat) (hd : d = d') : nv (l ++ [d]) = nv l + 16777216 ^ l.length * d' := by
  subst hd
  have h1 := nv_val h
  have h2 : Dig l := fun x hx => h x (by simp [hx])
  rw [val_snoc, ← nv_val h2, ← pw_cast, ← Int.natCast_mul, ← Int.natCast_add] at h1
  exact Int.ofNat_inj.1 h1
theorem nv_lt {l : List Int} (h : Dig l) : nv l < 16777216 ^ l.length := pw_lt_nat (by rw [nv_val h]; exact val_lt h)

theorem ok_Down : SpecOK Try.prog 36 sDown := by
  refine fn_okL (by kernel_rfl) tt_ok spRS_ok 3 Try.func36 (by decide +kernel) (by kernel_rfl) ?_
  rintro ⟨a, n, _⟩ ⟨⟨ha, hla⟩, h0, h1⟩
  simp only at ha hla h0 h1
  refine ⟨[], lDown, isNum (nv a / 2 ^ n.toNat), LnVD.of (vcDown a n _) ?_, fun x h at_ w v r => isNum_ok h r⟩
  rw [tdiv_nn h0, tmod_nn h0, wr (x := n / 24) (by omega), wr (x := 24 - n % 24) (by omega)]
  obtain ⟨r, hr⟩ : ∃ r : Nat, n % 24 = r := ⟨(n % 24).toNat, by omega⟩
  have hr24 : r < 24 := by omega
  have er : ((24 : Int) - n % 24).toNat = 24 - r := by omega
  rw [er, hr]
  simp only [Int.toNat_natCast]
  have ek : ((2 : Int) ^ r) = ((2 ^ r : Nat) : Int) := by simp
  have eu : ((2 : Int) ^ (24 - r)) = ((2 ^ (24 - r) : Nat) : Int) := by simp
  have pk : 0 < 2 ^ r := Nat.pow_pos (by omega)
  have pu : 0 < 2 ^ (24 - r) := Nat.pow_pos (by omega)
  rw [ek, eu]
  refine ⟨⟨by omega, by omega⟩, ⟨by omega, by omega⟩, ⟨trivial, rfl⟩, ⟨by omega, .inr rfl, Dig.nil, by simp, by simp [nv_nil, Nat.mod_one]⟩, fun out i ⟨i0, i1, hd, hl, hv⟩ => ?_⟩
  rw [bcase_dec]
  refine ⟨fun hi => ⟨⟨by omega, hi⟩, by omega, ⟨trivial, trivial⟩, ?_, ?_⟩, fun hi => ?_⟩
  all_goals
    have da := getD_dig ha i.toNat
    have db := getD_dig ha (i + 1).toNat
    have dd := down_digit (nv a) i.toNat r hr24
    rw [digit_nat ha, show i.toNat + 1 = (i + 1).toNat by omega, digit_nat ha] at dd
    obtain ⟨d0, hd0⟩ : ∃ d : Nat, a.getD i.toNat 0 = d := ⟨(a.getD i.toNat 0).toNat, by omega⟩
    obtain ⟨d1, hd1⟩ : ∃ d : Nat, a.getD (i + 1).toNat 0 = d := ⟨(a.getD (i + 1).toNat 0).toNat, by omega⟩
    rw [hd0, hd1] at dd
    simp only [Int.toNat_natCast] at dd
    have lt : d0 / 2 ^ r + d1 % 2 ^ r * 2 ^ (24 - r) < 16777216 := by rw [← dd]; exact Nat.mod_lt _ (by omega)
  · rw [wr (x := i + 1) (by omega), tdiv_nn da.1, tmod_nn db.1, hd0, hd1, ← Int.natCast_ediv, ← Int.natCast_emod, ← Int.natCast_mul]
    rw [hd1] at db
    generalize d0 / 2 ^ r = x at *
    generalize hy : d1 % 2 ^ r * 2 ^ (24 - r) = y at *
    rw [wr (x := (x : Int)) (by omega), wr (x := (y : Int)) (by omega), wr (x := (x : Int) + y) (by omega), bcase_dec]
    refine ⟨fun h => ⟨⟨by omega, h⟩, by omega, ⟨by trivial, by trivial⟩, by trivial, by trivial, by trivial⟩, fun h => ⟨⟨by trivial, by trivial⟩, by trivial, by trivial, ?_⟩⟩
    have : d1 = 0 := by rw [getD_ge (by omega)] at hd1; omega
    subst this
    simp at hy
    omega
  · rintro l1 x ⟨rfl, hx⟩
    rw [tdiv_nn da.1, hd0, hd1, ← Int.natCast_ediv, ← Int.natCast_emod, ← Int.natCast_mul] at hx
    have hx2 : x = ((d0 / 2 ^ r + d1 % 2 ^ r * 2 ^ (24 - r) : Nat) : Int) := by
      generalize d0 / 2 ^ r = x0 at *
      generalize d1 % 2 ^ r * 2 ^ (24 - r) = y at *
      rw [wr (x := (x0 : Int)) (by omega)] at hx
      rw [hx]; omega
    rw [← dd] at hx2
    simp only [app_one]
    rw [wr (x := i + 1) (by omega)]
    have hd' : Dig (l1 ++ [x]) := hd.append (Dig.cons (by omega) (by rw [hx2]; have := Nat.mod_lt (nv a / 16777216 ^ i.toNat / 2 ^ r) (show 16777216 > 0 by omega); omega) Dig.nil)
    refine ⟨⟨by omega, by simp [appLim]; omega⟩, ⟨trivial, trivial⟩, trivial, ⟨by omega, .inl (by omega), hd', by simp; omega, ?_⟩, by omega⟩
    rw [nv_snoc hd' _ hx2, List.length_append, List.length_singleton, Nat.mod_pow_succ, ← hv]
    congr 3
    rw [pow24, pow24, Nat.div_div_eq_div_mul, Nat.div_div_eq_div_mul, ← Nat.pow_add, ← Nat.pow_add]
    congr 2
    omega
  · simp only [whole]
    refine ⟨⟨hd, by omega⟩, .inl ?_⟩
    have : nv a / 2 ^ n.toNat < 16777216 ^ out.length := by
      refine Nat.div_lt_of_lt_mul ?_
      rw [pow24, ← Nat.pow_add]
      refine Nat.lt_of_lt_of_le (nv_lt ha) ?_
      rw [pow24]
      exact pow2_le (by omega)
    rw [hv, Nat.mod_eq_of_lt this]

theorem u64_ofNat_add (a b : Nat) : UInt64.ofNat (a + 18446744073709551616 * b) = UInt64.ofNat a := by
  apply UInt64.toNat_inj.1
  simp only [UInt64.toNat_ofNat']
  omega
theorem word_low {M t w : Nat} (hw : w < t / 64) : UInt64.ofNat ((M + 2 ^ t) / 2 ^ (64 * w)) = UInt64.ofNat (M / 2 ^ (64 * w)) := by
  have e : 2 ^ t = 2 ^ (64 * w) * (2 ^ 64 * 2 ^ (t - 64 * w - 64)) := by rw [← Nat.pow_add, ← Nat.pow_add]; congr 1; omega
  rw [e, Nat.add_mul_div_left _ _ (Nat.pow_pos (by omega))]
  exact u64_ofNat_add _ _
theorem word_at {M t : Nat} : UInt64.ofNat ((M + 2 ^ t) / 2 ^ (64 * (t / 64))) = UInt64.ofNat (M / 2 ^ (64 * (t / 64))) + UInt64.ofNat (2 ^ (t % 64)) := by
  have e : 2 ^ t = 2 ^ (64 * (t / 64)) * 2 ^ (t % 64) := by rw [← Nat.pow_add]; congr 1; omega
  rw [e, Nat.add_mul_div_left _ _ (Nat.pow_pos (by omega)), UInt64.ofNat_add]
theorem word_high {M t w : Nat} (hM : M < 2 ^ t) (hw : t / 64 < w) : UInt64.ofNat ((M + 2 ^ t) / 2 ^ (64 * w)) = UInt64.ofNat (M / 2 ^ (64 * w)) := by
  have h : 2 ^ (t + 1) ≤ 2 ^ (64 * w) := pow2_le (by omega)
  rw [Nat.pow_succ] at h
  rw [Nat.div_eq_of_lt (by omega), Nat.div_eq_of_lt (by omega)]
theorem wordsL_len (m n : Nat) : (wordsL m n).length = n := by simp [wordsL]
theorem wordsL_get (m n w : Nat) (h : w < n) : (wordsL m n).getD w 0 = UInt64.ofNat (m / 2 ^ (64 * w)) := by
  rw [List.getD_eq_getElem?_getD, List.getElem?_eq_getElem (by rw [wordsL_len]; exact h)]
  simp [wordsL]
theorem wordsL_ext {l : List UInt64} {m n : Nat} (hl : l.length = n) (h : ∀ w, w < n → l.getD w 0 = UInt64.ofNat (m / 2 ^ (64 * w))) : l = wordsL m n := by
  apply List.ext_getElem (by rw [wordsL_len, hl])
  intro w h1 h2
  have := h w (by omega)
  rw [List.getD_eq_getElem?_getD, List.getElem?_eq_getElem h1] at this
  simpa [wordsL] using this
theorem wordsL_out {M t n : Nat} (ht : 64 * n ≤ t) : wordsL (M + 2 ^ t) n = wordsL M n := by
  refine wordsL_ext (wordsL_len _ _) (fun w hw => ?_) |>.symm ▸ rfl
  rw [wordsL_get _ _ _ hw, word_low (by omega)]
theorem wordsL_set {M t n : Nat} (hM : M < 2 ^ t) (_ht : t < 64 * n) : (wordsL M n).set (t / 64) ((wordsL M n).getD (t / 64) 0 + UInt64.ofNat (2 ^ (t % 64))) = wordsL (M + 2 ^ t) n := by
  refine wordsL_ext (by simp [wordsL_len]) (fun w hw => ?_)
  by_cases e : w = t / 64
  · subst e
    rw [List.getD_eq_getElem?_getD, List.getElem?_set_self (by rw [wordsL_len]; exact hw), wordsL_get _ _ _ hw, word_at]; rfl
  · rw [List.getD_eq_getElem?_getD, List.getElem?_set_ne (Ne.symm e), ← List.getD_eq_getElem?_getD, wordsL_get _ _ _ hw]
    by_cases h : w < t / 64
    · rw [word_low h]
    · rw [word_high hM (by omega)]

theorem ok_ToWords : SpecOK Try.prog 31 sToWords := by
  refine fn_okL (by kernel_rfl) tt_ok spRS_ok 3 Try.func31 (by decide +kernel) (by kernel_rfl) ?_
  rintro ⟨a, n, _⟩ ⟨⟨ha, hla⟩, h0, h1⟩
  simp only at ha hla h0 h1
  refine ⟨[], lToWords, fun x => x = .lst (.words (wordsL (nv a) n.toNat)), LnVD.of (vcToWords a n _) ?_, fun x h at_ w v r => by have h' : x = _ := h; subst h'; exact r⟩
  refine ⟨⟨h0, rfl, by omega⟩, ⟨rfl, by simp⟩, ⟨by omega, by omega, ?_⟩, fun out i ⟨i0, i1, hv⟩ => ?_⟩
  · refine wordsL_ext (by simp) (fun w hw => ?_)
    simp [List.getD_eq_getElem?_getD, hw, Nat.mod_one]
  rw [bcase_dec]
  refine ⟨fun hi => ⟨⟨rfl, rfl⟩, ⟨by omega, by omega, by simpa using hv⟩, fun o k ⟨k0, k1, hv2⟩ => ?_⟩, fun hi => ?_⟩
  · rw [bcase_dec]
    refine ⟨fun hk => ?_, fun hk => ?_⟩
    · obtain ⟨K, hK⟩ : ∃ K : Nat, k = K := ⟨k.toNat, by omega⟩
      subst hK
      obtain ⟨I, hI⟩ : ∃ I : Nat, i = I := ⟨i.toNat, by omega⟩
      subst hI
      simp only [Int.toNat_natCast] at hv2 hv ⊢
      have da := getD_dig ha I
      obtain ⟨d, hd⟩ : ∃ d : Nat, a.getD I 0 = d := ⟨(a.getD I 0).toNat, by omega⟩
      have ek : ((2 : Int) ^ K) = ((2 ^ K : Nat) : Int) := by simp
      have pk : 0 < 2 ^ K := Nat.pow_pos (by omega)
      have hle : d / 2 ^ K ≤ d := Nat.div_le_self _ _
      have hbit : nv a / 2 ^ (24 * I + K) % 2 = d / 2 ^ K % 2 := by
        have := digit_nat ha I
        rw [hd, Int.toNat_natCast] at this
        rw [← this, bit_mod _ _ (by omega), pow24, Nat.div_div_eq_div_mul, ← Nat.pow_add]
      have hsucc := Nat.mod_pow_succ (x := nv a) (b := 2) (k := 24 * I + K)
      rw [hbit] at hsucc
      have hmod : nv a % 2 ^ (24 * I + K) < 2 ^ (24 * I + K) := Nat.mod_lt _ (Nat.pow_pos (by omega))
      rw [wr (x := 24 * (I : Int)) (by omega), wr (x := 24 * (I : Int) + K) (by omega), wr (x := (K : Int) + 1) (by omega), wr (x := 64 * n) (by omega), ek, hd, tdiv_nn (by omega), ← Int.natCast_ediv]
      have e1 : ((K : Int) + 1).toNat = K + 1 := by omega
      generalize d / 2 ^ K = z at *
      rw [wr (x := (z : Int)) (by omega), tmod_nn (by omega)]
      refine ⟨⟨by omega, hi⟩, ⟨by omega, by omega⟩, by omega, ?_⟩
      rw [bcase_iff, bcase_dec]
      refine ⟨fun hb => ⟨fun ht => ⟨⟨by trivial, by trivial⟩, ⟨rfl, by omega, by omega, by trivial⟩, fun o2 x j ⟨ho, j0, j1, hx⟩ => ?_⟩, fun ht => ⟨⟨by trivial, by trivial⟩, by trivial, ⟨by omega, by omega, ?_⟩, by omega⟩⟩, fun hb => ⟨⟨by trivial, by trivial⟩, by trivial, ⟨by omega, by omega, ?_⟩, by omega⟩⟩
      · have hb : z % 2 = 1 := by simp at hb; omega
        rw [hb, Nat.mul_one] at hsucc
        rw [tmod_nn (by omega), tdiv_nn (by omega), bcase_dec]
        subst ho
        refine ⟨fun hj => ?_, fun hj => ?_⟩
        · rw [wr (x := j + 1) (by omega)]
          refine ⟨⟨by trivial, by trivial⟩, by trivial, ⟨by trivial, by omega, by omega, ?_⟩, by omega⟩
          rw [hx, show (j + 1).toNat = j.toNat + 1 by omega, Nat.pow_succ', UInt64.ofNat_mul]; rfl
        · have ej : j.toNat = (24 * I + K) % 64 := by omega
          rw [wr (x := (24 * (I : Int) + K) / 64) (by omega)]
          have e2 : (0 + ((24 * (I : Int) + K) / 64).toNat) = (24 * I + K) / 64 := by omega
          have hlen : o2.length = n.toNat := by rw [hv2, wordsL_len]
          rw [e2]
          refine ⟨⟨by omega, by omega⟩, ⟨by omega, by omega⟩, ⟨by trivial, by simp⟩, by trivial, ⟨by omega, by omega, ?_⟩, by omega⟩
          simp only [Int.toNat_natCast]; rw [e1, ← Nat.add_assoc, hsucc, hx, ej, hv2]
          exact wordsL_set hmod (by omega)
      · have hb : z % 2 = 1 := by simp at hb; omega
        rw [hb, Nat.mul_one] at hsucc
        simp only [Int.toNat_natCast, e1]
        rw [← Nat.add_assoc, hsucc, wordsL_out (by omega), hv2]
      · have hb : z % 2 = 0 := by simp at hb; omega
        rw [hb, Nat.mul_zero] at hsucc
        simp only [Int.toNat_natCast, e1]
        rw [← Nat.add_assoc, hsucc, hv2]; rfl
    · have : k = 24 := by omega
      subst this
      rw [wr (x := i + 1) (by omega)]
      refine ⟨⟨rfl, rfl⟩, rfl, ⟨by omega, by omega, ?_⟩, by omega⟩
      rw [hv2]
      congr 3
      omega
  · simp only [whole]
    have : nv a < 2 ^ (24 * i.toNat) := by rw [← pow24, show i.toNat = a.length by omega]; exact nv_lt ha
    rw [hv, Nat.mod_eq_of_lt this]

end Go.Proofs.Ythechjccpljljaa.R1
