/- A symbolic machine for Go functions, and what the functions that the law reaches come to: NumP. -/
/- Numbers modulo a prime, in plain Lean: powers by squaring, Euclid's lemma, Fermat's little theorem, and a test by which a number is shown to be prime. -/
namespace Go.NumP

/-- a^e modulo m, by squaring; k: no fewer steps than e has bits. -/
def pm (m : Nat) : Nat → Nat → Nat → Nat
  | 0, _, _ => 1 % m
  | k + 1, a, e => match e % 2 with
    | 0 => pm m k (a * a % m) (e / 2)
    | _ => a * pm m k (a * a % m) (e / 2) % m
theorem pow_mod' (a n m : Nat) : (a % m) ^ n % m = a ^ n % m := (Nat.pow_mod a n m).symm
theorem pm_ok (m : Nat) : ∀ (k a e : Nat), e < 2 ^ k → pm m k a e = a ^ e % m
  | 0, a, e, h => by
    have : e = 0 := by simp at h; exact h
    subst this; simp [pm]
  | k + 1, a, e, h => by
    have h2 : e / 2 < 2 ^ k := by rw [Nat.pow_succ] at h; omega
    have ih : pm m k (a * a % m) (e / 2) = a ^ (2 * (e / 2)) % m := by
      rw [pm_ok m k (a * a % m) (e / 2) h2, pow_mod', ← Nat.pow_two, ← Nat.pow_mul]
    unfold pm
    split
    · rename_i h0
      rw [ih]; congr 2; omega
    · rename_i h0
      rw [ih, Nat.mul_mod_mod, Nat.mul_comm, ← Nat.pow_succ]
      congr 2
      have : e % 2 ≠ 0 := fun e => h0 e
      omega

def Prime (p : Nat) : Prop := 2 ≤ p ∧ ∀ d, d ∣ p → d = 1 ∨ d = p
theorem euclid {p a b : Nat} (hp : Prime p) (h : p ∣ a * b) : p ∣ a ∨ p ∣ b := by
  rcases hp.2 (Nat.gcd p a) (Nat.gcd_dvd_left p a) with e | e
  · exact .inr (Nat.Coprime.dvd_of_dvd_mul_left e h)
  · exact .inl (e ▸ Nat.gcd_dvd_right p a)
theorem prime_dvd_pow {p a : Nat} (hp : Prime p) : ∀ {n : Nat}, p ∣ a ^ n → p ∣ a
  | 0, h => by
    have h1 : a ^ 0 = 1 := rfl
    rw [h1] at h
    have := Nat.le_of_dvd (by omega) h; have := hp.1; omega
  | n + 1, h => by
    rw [Nat.pow_succ] at h
    rcases euclid hp h with h | h
    · exact prime_dvd_pow hp h
    · exact h
theorem prime_factor : ∀ n : Nat, 2 ≤ n → ∃ q, Prime q ∧ q ∣ n := by
  intro n
  induction n using Nat.strongRecOn with
  | _ n ih =>
    intro h
    by_cases hp : Prime n
    · exact ⟨n, hp, Nat.dvd_refl n⟩
    · have : ∃ d, d ∣ n ∧ d ≠ 1 ∧ d ≠ n := by
        apply Classical.byContradiction
        intro hn
        exact hp ⟨h, fun d hd => by
          by_cases h1 : d = 1
          · exact .inl h1
          · by_cases h2 : d = n
            · exact .inr h2
            · exact (hn ⟨d, hd, h1, h2⟩).elim⟩
      obtain ⟨d, h1, h2, h3⟩ := this
      have hle := Nat.le_of_dvd (by omega) h1
      have h0 : d ≠ 0 := fun e => by subst e; have := Nat.eq_zero_of_zero_dvd h1; omega
      obtain ⟨q, hq, hd⟩ := ih d (by omega) (by omega)
      exact ⟨q, hq, Nat.dvd_trans hd h1⟩

/-! Binomial numbers. -/
def ch : Nat → Nat → Nat
  | _, 0 => 1
  | 0, _ + 1 => 0
  | n + 1, k + 1 => ch n k + ch n (k + 1)
theorem ch_lt : ∀ {n k : Nat}, n < k → ch n k = 0
  | 0, 0, h => by omega
  | _ + 1, 0, h => by omega
  | 0, k + 1, _ => rfl
  | n + 1, k + 1, h => by simp only [ch]; rw [ch_lt (by omega), ch_lt (by omega)]
theorem ch_self : ∀ n : Nat, ch n n = 1
  | 0 => rfl
  | n + 1 => by simp only [ch]; rw [ch_self n, ch_lt (by omega)]
theorem ch_zero (n : Nat) : ch n 0 = 1 := by cases n <;> rfl
theorem ch_mul : ∀ (n k : Nat), (k + 1) * ch (n + 1) (k + 1) = (n + 1) * ch n k
  | 0, 0 => rfl
  | 0, k + 1 => by rw [ch_lt (n := 0 + 1) (k := k + 1 + 1) (by omega), ch_lt (n := 0) (k := k + 1) (by omega)]; simp
  | n + 1, 0 => by
    have ih := ch_mul n 0
    simp only [ch, ch_zero] at ih ⊢
    omega
  | n + 1, k + 1 => by
    have h1 := ch_mul n k
    have h2 := ch_mul n (k + 1)
    have e1 : ch (n + 1 + 1) (k + 1 + 1) = ch (n + 1) (k + 1) + ch (n + 1) (k + 1 + 1) := rfl
    have e2 : ch (n + 1) (k + 1) = ch n k + ch n (k + 1) := rfl
    rw [e1, Nat.mul_add, h2]
    have e3 : (k + 1 + 1) * ch (n + 1) (k + 1) = (k + 1) * ch (n + 1) (k + 1) + ch (n + 1) (k + 1) := by rw [Nat.add_mul (k + 1) 1]; omega
    rw [e3, h1, e2]
    have e4 : (n + 1 + 1) * (ch n k + ch n (k + 1)) = (n + 1) * ch n k + (n + 1) * ch n (k + 1) + (ch n k + ch n (k + 1)) := by rw [Nat.add_mul (n + 1) 1, Nat.mul_add]; omega
    rw [e4]; omega
/-- Sums of binomial numbers times powers. -/
def bs (n a : Nat) : Nat → Nat
  | 0 => 0
  | m + 1 => bs n a m + ch n m * a ^ m
theorem bs_step (n a : Nat) : ∀ m, bs (n + 1) a (m + 1) = bs n a (m + 1) + a * bs n a m
  | 0 => by simp [bs, ch_zero]
  | m + 1 => by
    have ih := bs_step n a m
    rw [show bs (n + 1) a (m + 1 + 1) = bs (n + 1) a (m + 1) + ch (n + 1) (m + 1) * a ^ (m + 1) from rfl, ih]
    rw [show bs n a (m + 1 + 1) = bs n a (m + 1) + ch n (m + 1) * a ^ (m + 1) from rfl, show bs n a (m + 1) = bs n a m + ch n m * a ^ m from rfl, show ch (n + 1) (m + 1) = ch n m + ch n (m + 1) from rfl]
    have e : a * (bs n a m + ch n m * a ^ m) = a * bs n a m + ch n m * a ^ (m + 1) := by rw [Nat.mul_add, Nat.pow_succ]; congr 1; rw [Nat.mul_left_comm, Nat.mul_comm a]
    rw [e, Nat.add_mul]; omega
theorem binomial (a : Nat) : ∀ n : Nat, (a + 1) ^ n = bs n a (n + 1)
  | 0 => by simp [bs, ch]
  | n + 1 => by
    rw [bs_step, Nat.pow_succ, binomial a n, show bs n a (n + 1 + 1) = bs n a (n + 1) + ch n (n + 1) * a ^ (n + 1) from rfl, ch_lt (n := n) (k := n + 1) (by omega), Nat.mul_comm, Nat.add_mul]
    omega
theorem bs_mod {p a : Nat} (hp : Prime p) : ∀ m, m + 1 ≤ p → bs p a (m + 1) % p = 1
  | 0, h => by
    have := hp.1
    simp only [bs, ch_zero, Nat.pow_zero]
    exact Nat.mod_eq_of_lt (by omega)
  | m + 1, h => by
    have ih := bs_mod (a := a) hp m (by omega)
    have hd : p ∣ ch p (m + 1) := by
      obtain ⟨n, rfl⟩ : ∃ n, p = n + 1 := ⟨p - 1, by omega⟩
      have := ch_mul n m
      have h1 : (n + 1) ∣ (m + 1) * ch (n + 1) (m + 1) := ⟨_, this⟩
      rcases euclid hp h1 with h2 | h2
      · have := Nat.le_of_dvd (by omega) h2; omega
      · exact h2
    obtain ⟨c, hc⟩ := hd
    rw [show bs p a (m + 1 + 1) = bs p a (m + 1) + ch p (m + 1) * a ^ (m + 1) from rfl, hc, Nat.mul_assoc, Nat.add_mul_mod_self_left]
    exact ih
theorem fermat_add {p : Nat} (hp : Prime p) : ∀ a : Nat, a ^ p % p = a % p
  | 0 => by have := hp.1; rw [Nat.zero_pow (by omega)]
  | a + 1 => by
    have h2 := hp.1
    obtain ⟨n, hn⟩ : ∃ n, p = n + 1 := ⟨p - 1, by omega⟩
    have h1 := bs_mod (a := a) hp n (by omega)
    rw [← hn] at h1
    rw [binomial, show bs p a (p + 1) = bs p a p + ch p p * a ^ p from rfl, ch_self, Nat.one_mul, Nat.add_mod, h1, fermat_add hp a, Nat.add_mod_mod, Nat.add_comm]
theorem sub_dvd {p x y : Nat} (h : x % p = y % p) : p ∣ x - y := Nat.dvd_of_mod_eq_zero (by
  rw [← Nat.mod_add_div x p, ← Nat.mod_add_div y p, h, Nat.add_sub_add_left, ← Nat.mul_sub, Nat.mul_mod_right])
/-- Fermat. -/
theorem fermat {p a : Nat} (hp : Prime p) (h : ¬ p ∣ a) : a ^ (p - 1) % p = 1 := by
  have h2 := hp.1
  have h1 := fermat_add hp a
  have e : a ^ p = a * a ^ (p - 1) := by
    conv => lhs; rw [show p = p - 1 + 1 by omega, Nat.pow_succ, Nat.mul_comm]
  have ha : 0 < a := Nat.pos_of_ne_zero fun e => h (e ▸ Nat.dvd_zero p)
  have hpos : 1 ≤ a ^ (p - 1) := Nat.pos_of_ne_zero (by
    intro e; rw [Nat.pow_eq_zero] at e; omega)
  have hd : p ∣ a * (a ^ (p - 1) - 1) := by
    rw [Nat.mul_sub, Nat.mul_one, ← e]
    exact sub_dvd h1
  rcases euclid hp hd with k | k
  · exact absurd k h
  · obtain ⟨c, hc⟩ := k
    have : a ^ (p - 1) = 1 + p * c := by omega
    rw [this, Nat.add_mul_mod_self_left]
    exact Nat.mod_eq_of_lt (by omega)

theorem pow_gcd {q b : Nat} (hq : 2 ≤ q) : ∀ x y : Nat, b ^ x % q = 1 → b ^ y % q = 1 → b ^ (Nat.gcd x y) % q = 1 := by
  intro x
  induction x using Nat.strongRecOn with
  | _ x ih =>
    intro y hx hy
    by_cases h0 : x = 0
    · subst h0; rw [Nat.gcd_zero_left]; exact hy
    · rw [Nat.gcd_rec]
      refine ih (y % x) (Nat.mod_lt _ (by omega)) x ?_ hx
      have e : b ^ y = (b ^ x) ^ (y / x) * b ^ (y % x) := by rw [← Nat.pow_mul, ← Nat.pow_add, Nat.div_add_mod]
      rw [e, Nat.mul_mod, Nat.pow_mod, hx, Nat.one_pow, Nat.mod_eq_of_lt (a := 1) (by omega), Nat.one_mul, Nat.mod_mod] at hy
      exact hy

/-- A test: r a prime that divides n - 1, a a witness; what is left of (n - 1)/r is large. -/
theorem prime_of {n r a : Nat} (hr : Prime r) (hn : 2 ≤ n) (hd : (n - 1) % r = 0) (h1 : a ^ (n - 1) % n = 1) (h2 : Nat.gcd (a ^ ((n - 1) / r) % n + (n - 1)) n = 1)
    (h3 : n / (r * r) + 1 < (n - 1) / r % r) : Prime n := by
  have hr2 := hr.1
  -- every prime that divides n is 1 modulo r
  have key : ∀ q, Prime q → q ∣ n → q % r = 1 := by
    intro q hq hqn
    have hq2 := hq.1
    have modq : ∀ x : Nat, x % n = 1 → x % q = 1 := fun x hx => by
      have := Nat.mod_mod_of_dvd x hqn
      rw [hx] at this
      rw [← this]; exact Nat.mod_eq_of_lt (by omega)
    have hb1 : (a ^ ((n - 1) / r)) ^ r % q = 1 := by
      rw [← Nat.pow_mul, Nat.div_mul_cancel (Nat.dvd_of_mod_eq_zero hd)]; exact modq _ h1
    have hbne : ¬ (a ^ ((n - 1) / r)) % q = 1 := by
      intro hb
      have : q ∣ a ^ ((n - 1) / r) % n + (n - 1) := by
        apply Nat.dvd_of_mod_eq_zero
        have e1 := Nat.mod_mod_of_dvd (a ^ ((n - 1) / r)) hqn
        rw [Nat.add_mod, e1, hb]
        obtain ⟨c, hc⟩ := hqn
        have hc0 : c ≠ 0 := fun e => by subst e; simp at hc; omega
        obtain ⟨c', rfl⟩ : ∃ c', c = c' + 1 := ⟨c - 1, by omega⟩
        have : n - 1 = q * c' + (q - 1) := by rw [hc, Nat.mul_add]; omega
        rw [this, Nat.mul_add_mod, Nat.mod_eq_of_lt (a := q - 1) (by omega), show 1 + (q - 1) = q by omega, Nat.mod_self]
      have := Nat.dvd_gcd this hqn
      rw [h2] at this
      have := Nat.le_of_dvd (by omega) this
      omega
    have hnd : ¬ q ∣ a ^ ((n - 1) / r) := fun h => by
      have : (a ^ ((n - 1) / r)) ^ r % q = 0 := Nat.mod_eq_zero_of_dvd (Nat.dvd_trans h (by
        obtain ⟨k, rfl⟩ : ∃ k, r = k + 1 := ⟨r - 1, by omega⟩
        rw [Nat.pow_succ]; exact Nat.dvd_mul_left _ _))
      omega
    have hf := fermat hq hnd
    have hg := pow_gcd hq2 r (q - 1) hb1 hf
    rcases hr.2 (Nat.gcd r (q - 1)) (Nat.gcd_dvd_left _ _) with e | e
    · rw [e, Nat.pow_one] at hg; exact absurd hg hbne
    · have : r ∣ q - 1 := e ▸ Nat.gcd_dvd_right r (q - 1)
      obtain ⟨c, hc⟩ := this
      have : q = r * c + 1 := by omega
      rw [this, Nat.mul_add_mod]; exact Nat.mod_eq_of_lt (by omega)
  -- so is every number that divides it
  have all : ∀ d, 1 ≤ d → d ∣ n → d % r = 1 := by
    intro d
    induction d using Nat.strongRecOn with
    | _ d ih =>
      intro hd1 hdn
      by_cases h : d = 1
      · subst h; exact Nat.mod_eq_of_lt (by omega)
      · obtain ⟨q, hq, c, hc⟩ := prime_factor d (by omega)
        have hq2 := hq.1
        have hc0 : c ≠ 0 := fun e => by subst e; simp at hc; omega
        have hlt : c < d := by
          have := Nat.mul_le_mul_right c hq2
          rw [hc]; omega
        have e1 := ih c hlt (by omega) (Nat.dvd_trans ⟨q, by rw [hc, Nat.mul_comm]⟩ hdn)
        have e2 := key q hq (Nat.dvd_trans ⟨c, hc⟩ hdn)
        rw [hc, Nat.mul_mod, e1, e2]
        exact Nat.mod_eq_of_lt (by omega)
  refine ⟨hn, fun d hdn => ?_⟩
  apply Classical.byContradiction
  intro hno
  have hd0 : d ≠ 0 := fun e => by subst e; have := Nat.eq_zero_of_zero_dvd hdn; omega
  obtain ⟨e, he⟩ := hdn
  have he0 : e ≠ 0 := fun x => by subst x; simp at he; omega
  have hd1 : d ≠ 1 := fun x => hno (.inl x)
  have he1 : e ≠ 1 := fun x => hno (.inr (by rw [he, x, Nat.mul_one]))
  have m1 := all d (by omega) ⟨e, he⟩
  have m2 := all e (by omega) ⟨d, by rw [he, Nat.mul_comm]⟩
  have f1 := Nat.mod_add_div d r
  have f2 := Nat.mod_add_div e r
  rw [m1] at f1
  rw [m2] at f2
  have u0 : d / r ≠ 0 := fun x => by rw [x] at f1; omega
  have v0 : e / r ≠ 0 := fun x => by rw [x] at f2; omega
  generalize hu : d / r = u at f1 u0
  generalize hv : e / r = v at f2 v0
  have hmul : n = 1 + r * (u + v + r * (u * v)) := by
    rw [he, ← f1, ← f2, Nat.add_mul, Nat.one_mul, Nat.mul_add (r * u) 1, Nat.mul_one, Nat.mul_add, Nat.mul_add]
    have : r * u * (r * v) = r * (r * (u * v)) := by rw [Nat.mul_assoc, Nat.mul_left_comm u r v]
    omega
  have hq : (n - 1) / r = u + v + r * (u * v) := by
    rw [hmul, Nat.add_sub_cancel_left, Nat.mul_div_cancel_left _ (by omega)]
  have hK : u * v ≤ n / (r * r) := by
    rw [Nat.le_div_iff_mul_le (Nat.mul_pos (by omega) (by omega))]
    rw [hmul, Nat.mul_add]
    have : u * v * (r * r) = r * (r * (u * v)) := by rw [Nat.mul_comm, Nat.mul_assoc]
    omega
  have huv : u + v ≤ u * v + 1 := by
    obtain ⟨u', rfl⟩ : ∃ u', u = u' + 1 := ⟨u - 1, by omega⟩
    obtain ⟨v', rfl⟩ : ∃ v', v = v' + 1 := ⟨v - 1, by omega⟩
    rw [Nat.add_mul, Nat.mul_add]; omega
  rw [hq, Nat.add_mul_mod_self_left] at h3
  have := Nat.mod_le (u + v) r
  omega

/-- Small numbers: by trying. -/
def tryAll (n : Nat) : Nat → Nat → Bool
  | 0, _ => true
  | k + 1, d => Nat.ble 1 (n % d) && tryAll n k (d + 1)
theorem tryAll_ok {n : Nat} : ∀ (k d : Nat), tryAll n k d = true → ∀ x, d ≤ x → x < d + k → ¬ x ∣ n
  | 0, d, _, x, h1, h2 => by omega
  | k + 1, d, h, x, h1, h2 => by
    simp only [tryAll, Bool.and_eq_true] at h
    by_cases e : x = d
    · subst e
      intro hd
      have := Nat.le_of_ble_eq_true h.1
      have := Nat.mod_eq_zero_of_dvd hd
      omega
    · exact tryAll_ok k (d + 1) h.2 x (by omega) (by omega)
theorem prime_small {n : Nat} (k : Nat) (hn : 2 ≤ n) (h : tryAll n k 2 = true) (hk : n < (k + 2) * (k + 2)) : Prime n := by
  refine ⟨hn, fun d hd => ?_⟩
  apply Classical.byContradiction
  intro hno
  obtain ⟨e, he⟩ := hd
  have hd0 : d ≠ 0 := fun x => by subst x; simp at he; omega
  have he0 : e ≠ 0 := fun x => by subst x; simp at he; omega
  have hd1 : d ≠ 1 := fun x => hno (.inl x)
  have he1 : e ≠ 1 := fun x => hno (.inr (by rw [he, x, Nat.mul_one]))
  by_cases hlt : d < 2 + k
  · exact tryAll_ok k 2 h d (by omega) hlt ⟨e, he⟩
  · by_cases hlt' : e < 2 + k
    · exact tryAll_ok k 2 h e (by omega) hlt' ⟨d, by rw [he, Nat.mul_comm]⟩
    · have : (k + 2) * (k + 2) ≤ d * e := Nat.mul_le_mul (by omega) (by omega)
      omega
end Go.NumP
