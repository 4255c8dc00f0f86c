/- A symbolic machine for Go functions, and what the functions that the law reaches come to: EdF, EdG, WeP, OrdE. -/
import Derived.Test.YtigkddloeikpbaaDoorQ22
import Derived.Test.YtigkddloeikpbaaDoorQ23
import Derived.Test.YtigkddloeikpbaaDoorQ16
/- Finite commutative groups: as many times an element as there are elements is nought. -/
namespace Go.Alg
namespace Grp
variable {G : Type} (g : Grp G)
def sum : List G → G
  | [] => g.zero
  | a :: l => g.add a (sum l)
theorem sum_perm {l m : List G} (h : l.Perm m) : g.sum l = g.sum m := by
  induction h with
  | nil => rfl
  | cons a _ ih => simp only [sum, ih]
  | swap a b l => simp only [sum]; rw [← g.assoc, g.comm b a, g.assoc]
  | trans _ _ h1 h2 => exact h1.trans h2
theorem sum_map (a : G) : ∀ l : List G, g.sum (l.map (g.add a)) = g.add (g.mul l.length a) (g.sum l)
  | [] => by simp only [List.map_nil, sum, List.length_nil, mul_zero, g.zadd]
  | b :: l => by
    simp only [List.map_cons, sum, List.length_cons, mul_succ]
    rw [sum_map a l, g.swap, g.comm a]
theorem nodup_map (a : G) : ∀ {l : List G}, l.Nodup → (l.map (g.add a)).Nodup
  | [], _ => List.nodup_nil
  | b :: l, h => by
    obtain ⟨h1, h2⟩ := List.nodup_cons.1 h
    rw [List.map_cons, List.nodup_cons]
    refine ⟨fun hm => ?_, nodup_map a h2⟩
    obtain ⟨c, hc, e⟩ := List.mem_map.1 hm
    rw [g.cancel' e] at hc
    exact h1 hc
/-- As many times an element as there are elements is nought. -/
theorem card_mul {l : List G} (hn : l.Nodup) (ha : ∀ x, x ∈ l) (a : G) : g.mul l.length a = g.zero := by
  have hp : (l.map (g.add a)).Perm l := (List.perm_ext_iff_of_nodup (g.nodup_map a hn) hn).2 fun x => ⟨fun _ => ha x, fun _ => List.mem_map.2 ⟨g.add (g.neg a) x, ha _, by rw [← g.assoc, g.addn, g.zadd]⟩⟩
  have h := (g.sum_map a l).symm.trans (g.sum_perm hp)
  exact g.cancel (c := g.sum l) (h.trans (g.zadd _).symm)
/-- What two numbers of times an element are nought, so is their greatest common divisor of times. -/
theorem mul_gcd {a : G} : ∀ (n m : Nat), g.mul n a = g.zero → g.mul m a = g.zero → g.mul (Nat.gcd n m) a = g.zero := by
  intro n m
  induction n, m using Nat.gcd.induction with
  | H0 m => intro _ h; rw [Nat.gcd_zero_left]; exact h
  | H1 n m _ ih =>
    intro h1 h2
    rw [Nat.gcd_rec]
    refine ih ?_ h1
    rw [g.mul_mod h1]
    exact h2
/-- An element of order c p, p a prime: what times it is nought is a multiple of c p. -/
theorem order_dvd {a : G} {c p n : Nat} (hp : ∀ d, d ∣ p → d = 1 ∨ d = p) (hz : g.mul (c * p) a = g.zero) (hn : g.mul n a = g.zero) (h1 : ∀ d, d ∣ c → d ≠ c → g.mul (d * p) a ≠ g.zero) (h2 : g.mul c a ≠ g.zero) (hcp : Nat.Coprime c p) : c * p ∣ n := by
  have hg := g.mul_gcd n (c * p) hn hz
  have e : Nat.gcd n (c * p) = Nat.gcd n c * Nat.gcd n p := Nat.Coprime.gcd_mul n hcp
  rw [e] at hg
  have hdc : Nat.gcd n c ∣ c := Nat.gcd_dvd_right n c
  rcases hp _ (Nat.gcd_dvd_right n p) with hq | hq
  · rw [hq, Nat.mul_one] at hg
    obtain ⟨k, hk⟩ := hdc
    refine (h2 ?_).elim
    have hk' : c = Nat.gcd n c * k := hk
    rw [hk', g.mul_mul, hg, g.mul_nil]
  · by_cases hc : Nat.gcd n c = c
    · rw [hc, hq] at e
      rw [← e]; exact Nat.gcd_dvd_left n _
    · rw [hq] at hg
      exact (h1 _ hdc hc hg).elim
end Grp
end Go.Alg
/- How many points an Edwards curve has at most. -/
namespace Go.Alg
variable {p : Nat} [NeZero p] {d : Fin p}
theorem EC.same_y (E : EC p d) {P Q : EP p d} (h : P.y = Q.y) : P = Q ∨ P = E.neg Q := by
  have h1 := on_iff.1 P.on
  have h2 := on_iff.1 Q.on
  rw [h] at h1
  have hs := E.side_ne Q.y
  have e : P.x * P.x = Q.x * Q.x := E.fld.cancel hs (h1.trans h2.symm)
  rcases sq_roots E.fld e with e | e
  · exact .inl (EP.ext e h)
  · exact .inr (EP.ext e h)
theorem EC.points (E : EC p d) : ∀ n, n ≤ p → ∃ l : List (EP p d), l.Nodup ∧ l.length ≤ 2 * n ∧ ∀ P, P ∈ l ↔ P.y.val < n
  | 0, _ => ⟨[], List.nodup_nil, by simp, fun P => by simp⟩
  | n + 1, hn => by
    obtain ⟨l, h1, h2, h3⟩ := EC.points E n (by omega)
    by_cases hp : ∃ P : EP p d, P.y.val = n
    · obtain ⟨P, hP⟩ := hp
      have hP' : P ∉ l := fun h => by have := (h3 P).1 h; omega
      have hN : (E.neg P).y.val = n := hP
      have hN' : E.neg P ∉ l := fun h => by have := (h3 _).1 h; omega
      have all : ∀ Q : EP p d, Q.y.val = n → Q = P ∨ Q = E.neg P := fun Q hQ => E.same_y (Fin.ext (hQ.trans hP.symm))
      by_cases he : P = E.neg P
      · refine ⟨P :: l, List.nodup_cons.2 ⟨hP', h1⟩, by simp only [List.length_cons]; omega, fun Q => ?_⟩
        rw [List.mem_cons, h3]
        constructor
        · rintro (h | h)
          · subst h; omega
          · omega
        · intro h
          by_cases hq : Q.y.val = n
          · rcases all Q hq with e | e
            · exact .inl e
            · exact .inl (e.trans he.symm)
          · exact .inr (by omega)
      · refine ⟨P :: E.neg P :: l, List.nodup_cons.2 ⟨fun h => ?_, List.nodup_cons.2 ⟨hN', h1⟩⟩, by simp only [List.length_cons]; omega, fun Q => ?_⟩
        · rcases List.mem_cons.1 h with h | h
          · exact he h
          · exact hP' h
        · rw [List.mem_cons, List.mem_cons, h3]
          constructor
          · rintro (h | h | h)
            · subst h; omega
            · subst h; omega
            · omega
          · intro h
            by_cases hq : Q.y.val = n
            · rcases all Q hq with e | e
              · exact .inl e
              · exact .inr (.inl e)
            · exact .inr (.inr (by omega))
    · refine ⟨l, h1, by omega, fun Q => ?_⟩
      rw [h3]
      constructor
      · intro h; omega
      · intro h
        have : Q.y.val ≠ n := fun e => hp ⟨Q, e⟩
        omega
theorem EC.all_points (E : EC p d) : ∃ l : List (EP p d), l.Nodup ∧ l.length ≤ 2 * p ∧ ∀ P, P ∈ l := by
  obtain ⟨l, h1, h2, h3⟩ := E.points p (Nat.le_refl _)
  exact ⟨l, h1, h2, fun P => (h3 P).2 P.y.isLt⟩
end Go.Alg
/- Primes: the order of the base of Edwards25519, the modulus and the order of P-256. -/
set_option maxRecDepth 10000
namespace Go.NumP
theorem primeN3 : Prime 191039911 := prime_small 13821 (by decide) (by decide +kernel) (by decide)
theorem primeN2 : Prime 208150935158385979 := prime_of' (a := 2) (k := 256) primeN3 (by decide) (by decide +kernel) (by decide +kernel) (by decide +kernel) (by decide +kernel) (by decide +kernel)
theorem primeN1 : Prime 2624747550333869278416773953 := prime_of' (a := 2) (k := 256) primeN2 (by decide) (by decide +kernel) (by decide +kernel) (by decide +kernel) (by decide +kernel) (by decide +kernel)
theorem primeN0 : Prime 115792089210356248762697446949407573529996955224135760342422259061068512044369 := prime_of' (a := 2) (k := 256) primeN1 (by decide) (by decide +kernel) (by decide +kernel) (by decide +kernel) (by decide +kernel) (by decide +kernel)
theorem primeP4 : Prime 704251 := prime_small 839 (by decide) (by decide +kernel) (by decide)
theorem primeP3 : Prime 46076956964474543 := prime_of' (a := 2) (k := 256) primeP4 (by decide) (by decide +kernel) (by decide +kernel) (by decide +kernel) (by decide +kernel) (by decide +kernel)
theorem primeP2 : Prime 774023187263532362759620327192479577272145303 := prime_of' (a := 2) (k := 256) primeP3 (by decide) (by decide +kernel) (by decide +kernel) (by decide +kernel) (by decide +kernel) (by decide +kernel)
theorem primeP1 : Prime 835945042244614951780389953367877943453916927241 := prime_of' (a := 2) (k := 256) primeP2 (by decide) (by decide +kernel) (by decide +kernel) (by decide +kernel) (by decide +kernel) (by decide +kernel)
theorem primeP0 : Prime 115792089210356248762697446949407573530086143415290314195533631308867097853951 := prime_of' (a := 2) (k := 256) primeP1 (by decide) (by decide +kernel) (by decide +kernel) (by decide +kernel) (by decide +kernel) (by decide +kernel)
theorem primeL6 : Prime 1224481 := prime_small 1106 (by decide) (by decide +kernel) (by decide)
theorem primeL5 : Prime 1257559732178653 := prime_of' (a := 2) (k := 256) primeL6 (by decide) (by decide +kernel) (by decide +kernel) (by decide +kernel) (by decide +kernel) (by decide +kernel)
theorem primeL4 : Prime 4434155615661930479 := prime_of' (a := 2) (k := 256) primeL5 (by decide) (by decide +kernel) (by decide +kernel) (by decide +kernel) (by decide +kernel) (by decide +kernel)
theorem primeL3 : Prime 172054593956031949258510691 := prime_of' (a := 2) (k := 256) primeL4 (by decide) (by decide +kernel) (by decide +kernel) (by decide +kernel) (by decide +kernel) (by decide +kernel)
theorem primeL2 : Prime 19757330305831588566944191468367130476339 := prime_of' (a := 2) (k := 256) primeL3 (by decide) (by decide +kernel) (by decide +kernel) (by decide +kernel) (by decide +kernel) (by decide +kernel)
theorem primeL1 : Prime 276602624281642239937218680557139826668747 := prime_of' (a := 2) (k := 256) primeL2 (by decide) (by decide +kernel) (by decide +kernel) (by decide +kernel) (by decide +kernel) (by decide +kernel)
theorem primeL0 : Prime 7237005577332262213973186563042994240857116359379907606001950938285454250989 := prime_of' (a := 2) (k := 256) primeL1 (by decide) (by decide +kernel) (by decide +kernel) (by decide +kernel) (by decide +kernel) (by decide +kernel)
end Go.NumP
/- Edwards25519: how many points there are, and the order of the base. No program. -/
set_option maxRecDepth 100000
namespace Go.Proofs.YtigkddloeikpbaaDoor.E10
open Go.Sym Go.Dig R1 F4 Go.Alg
/-! Multiples, computed. -/
structure P3 where
  x : Nat
  y : Nat
  z : Nat
def mC (a b : Nat) : Nat := a * b % p5
def aC (a b : Nat) : Nat := (a + b) % p5
def sC (a b : Nat) : Nat := (a + p5 - b) % p5
def fin3 (zz c d : Nat) (e h : Nat) : P3 := ⟨mC (mC zz e) (sC c d), mC (mC zz h) (aC c d), mC (sC c d) (aC c d)⟩
def addC (p q : P3) : P3 := fin3 (mC p.z q.z) (mC (mC p.z q.z) (mC p.z q.z)) (mC dLit (mC (mC p.x q.x) (mC p.y q.y))) (aC (mC p.x q.y) (mC p.y q.x)) (aC (mC p.y q.y) (mC p.x q.x))
def P3.rp (p : P3) : RP := ⟨p.x, p.y, p.z, true⟩
theorem addC_eq (p q : P3) : (addC p q).rp = rAdd p.rp q.rp rD := by
  unfold addC fin3 P3.rp rAdd mM aM sM mC aC sC
  rw [rD_lit, pV_eq]
/-- So many times: k bits of n. -/
def mulC (q : P3) : Nat → Nat → P3
  | 0, _ => ⟨0, 1, 1⟩
  | k + 1, n => match n % 2 with
    | 0 => addC (mulC q k (n / 2)) (mulC q k (n / 2))
    | _ => addC (addC (mulC q k (n / 2)) (mulC q k (n / 2))) q
theorem mulC_ok {q : P3} {P : EPt} (h : RRp q.rp P) : ∀ (k n : Nat), n < 2 ^ k → RRp (mulC q k n).rp (EE.grp.mul n P)
  | 0, n, hn => by
    have : n = 0 := by simpa using hn
    subst this
    have e : EE.grp.mul 0 P = EE.zero := EE.grp.mul_zero P
    rw [e]
    exact RRp.zero
  | k + 1, n, hn => by
    have ih := mulC_ok h k (n / 2) (by rw [Nat.pow_succ] at hn; omega)
    have d := ih.add ih
    rw [← addC_eq] at d
    have e2 : EE.add (EE.grp.mul (n / 2) P) (EE.grp.mul (n / 2) P) = EE.grp.mul (n / 2 + n / 2) P := (EE.grp.mul_add _ _ _).symm
    rw [e2] at d
    unfold mulC
    split
    · rename_i h0
      rw [show n / 2 + n / 2 = n by omega] at d
      exact d
    · rename_i h1
      have hm : n % 2 = 1 := by
        have := Nat.mod_two_eq_zero_or_one n
        rcases this with h | h
        · exact absurd h h1
        · exact h
      have a := d.add h
      rw [← addC_eq] at a
      have e3 : EE.add (EE.grp.mul (n / 2 + n / 2) P) P = EE.grp.mul n P := by
        have : n = (n / 2 + n / 2) + 1 := by omega
        conv => rhs; rw [this, EE.grp.mul_succ]
        rfl
      rw [e3] at a
      exact a
theorem zero_of {q : P3} {P : EPt} (h : RRp q.rp P) (hx : q.x = 0) (hy : q.y = q.z) : P = EE.zero := by
  obtain ⟨_, _, _, _, hz, tx, ty⟩ := h
  have e1 : fe q.x = P.x * fe q.z := tx
  have e2 : fe q.y = P.y * fe q.z := ty
  have hz' : fe q.z ≠ 0 := hz
  rw [hx, fe_zero] at e1
  rw [hy] at e2
  refine EP.ext ?_ ?_
  · have : P.x = 0 := (fld.nzd e1.symm).elim id (fun k => absurd k hz')
    rw [this]; unfold EC.zero; rfl
  · have : P.y = 1 := fld.cancel hz' (by rw [← e2]; grind -lia -linarith -order (splits := 0))
    rw [this]; unfold EC.zero; rfl
theorem not_zero_of {q : P3} {P : EPt} (h : RRp q.rp P) (hx : q.x ≠ 0) (hl : q.x < pV) : P ≠ EE.zero := fun e => by
  obtain ⟨_, _, _, _, hz, tx, ty⟩ := h
  have e1 : fe q.x = P.x * fe q.z := tx
  rw [e] at e1
  have : (EE.zero).x = 0 := by unfold EC.zero; rfl
  rw [this] at e1
  have : fe q.x = fe 0 := by rw [e1, fe_zero]; grind -lia -linarith -order (splits := 0)
  exact hx (fe_inj hl pV_pos this)
/-! The order. -/
abbrev ordL : Nat := 7237005577332262213973186563042994240857116359379907606001950938285454250989
def base3 : P3 := ⟨bX, bY, 1⟩
theorem base3_ok : RRp base3.rp PB := by
  refine ⟨bX_lt, bY_lt, one_lt, rfl, ?_⟩
  show Tells3 dE (fe bX) (fe bY) (fe 1) PB
  rw [fe_one]
  exact Tells3.one rfl one_ne b_on
theorem base_L : (mulC base3 253 ordL).x = 0 ∧ (mulC base3 253 ordL).y = (mulC base3 253 ordL).z := by decide +kernel
/-- The base's order. -/
theorem L_base : EE.grp.mul ordL PB = EE.zero := zero_of (mulC_ok base3_ok 253 ordL (by decide)) base_L.1 base_L.2
abbrev gX : Nat := 47490639360184182837601875270316946735278442122217188244898328344323804759522
theorem g_on : On dE (fe gX) (fe 3) := by
  unfold On dE
  rw [rD_lit, ← fe_one, ← fe_mul, ← fe_mul, ← fe_mul, ← fe_mul, ← fe_add]
  have h : fe (3 * 3) = fe (1 + dLit * (gX * gX) * (3 * 3)) + fe (gX * gX) := by
    rw [← fe_add, fe_eq, pV_lit]; decide +kernel
  rw [h]
  grind -lia -linarith -order (splits := 0)
noncomputable def PG : EPt := ⟨fe gX, fe 3, g_on⟩
def gen3 : P3 := ⟨gX, 3, 1⟩
theorem gen3_ok : RRp gen3.rp PG := by
  refine ⟨by show gX < pV; rw [pV_lit]; decide, by show 3 < pV; rw [pV_lit]; decide, one_lt, rfl, ?_⟩
  show Tells3 dE (fe gX) (fe 3) (fe 1) PG
  rw [fe_one]
  exact Tells3.one rfl one_ne g_on
theorem gen_8L : (mulC gen3 256 (8 * ordL)).x = 0 ∧ (mulC gen3 256 (8 * ordL)).y = (mulC gen3 256 (8 * ordL)).z := by decide +kernel
theorem gen_4L : (mulC gen3 255 (4 * ordL)).x = 0 ∧ (mulC gen3 255 (4 * ordL)).y ≠ (mulC gen3 255 (4 * ordL)).z := by decide +kernel
theorem gen_8 : (mulC gen3 4 8).x ≠ 0 ∧ (mulC gen3 4 8).x < p5 := by decide +kernel
theorem not_zero_y {q : P3} {P : EPt} (h : RRp q.rp P) (hy : q.y ≠ q.z) : P ≠ EE.zero := fun e => by
  obtain ⟨_, ly, lz, _, hz, tx, ty⟩ := h
  have e1 : fe q.y = P.y * fe q.z := ty
  rw [e] at e1
  have : (EE.zero).y = 1 := by unfold EC.zero; rfl
  rw [this] at e1
  have : fe q.y = fe q.z := by rw [e1]; grind -lia -linarith -order (splits := 0)
  exact hy (fe_inj ly lz this)
theorem gen_order {n : Nat} (h : EE.grp.mul n PG = EE.zero) : 8 * ordL ∣ n := by
  refine EE.grp.order_dvd (a := PG) (c := 8) (p := ordL) (n := n) (fun d hd => Go.NumP.primeL0.2 d hd) ?_ h ?_ ?_ ?_
  · exact zero_of (mulC_ok gen3_ok 256 (8 * ordL) (by decide)) gen_8L.1 gen_8L.2
  · intro d hd hne hz
    have hd4 : d ∣ 4 := by
      have : d ≤ 8 := Nat.le_of_dvd (by decide) hd
      obtain ⟨k, hk⟩ := hd
      have : d = 0 ∨ d = 1 ∨ d = 2 ∨ d = 3 ∨ d = 4 ∨ d = 5 ∨ d = 6 ∨ d = 7 ∨ d = 8 := by omega
      rcases this with rfl | rfl | rfl | rfl | rfl | rfl | rfl | rfl | rfl <;> first | omega | decide
    obtain ⟨k, hk⟩ := hd4
    have h4 : EE.grp.mul (4 * ordL) PG = EE.zero := by
      rw [hk, show d * k * ordL = (d * ordL) * k by rw [Nat.mul_right_comm], EE.grp.mul_mul, hz]
      exact EE.grp.mul_nil _
    exact not_zero_y (mulC_ok gen3_ok 255 (4 * ordL) (by decide)) gen_4L.2 h4
  · exact not_zero_of (mulC_ok gen3_ok 4 8 (by decide)) gen_8.1 (by rw [pV_eq]; exact gen_8.2)
  · decide +kernel
/-- Eight times the order times any point is nought. -/
theorem all_8L (P : EPt) : EE.grp.mul (8 * ordL) P = EE.zero := by
  obtain ⟨l, h1, h2, h3⟩ := EE.all_points
  have hc : ∀ Q, EE.grp.mul l.length Q = EE.zero := fun Q => EE.grp.card_mul h1 h3 Q
  obtain ⟨k, hk⟩ := gen_order (hc PG)
  have hpos : 0 < l.length := List.length_pos_of_mem (h3 PG)
  have hl : l.length ≤ 2 * p5 := by rw [← pV_eq]; exact h2
  have hk1 : k = 1 := by
    simp only [p5, ordL] at *
    omega
  rw [← hc P, hk, hk1, Nat.mul_one]
end Go.Proofs.YtigkddloeikpbaaDoor.E10
