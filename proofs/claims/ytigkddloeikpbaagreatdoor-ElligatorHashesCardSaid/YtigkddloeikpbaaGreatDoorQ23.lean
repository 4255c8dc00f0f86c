/- A symbolic machine for Go functions, and what the functions that the law reaches come to: EdM, EdN, EdO, EdQ. -/
import Derived.Test.YtigkddloeikpbaaGreatDoorQ22
import Derived.Test.YtigkddloeikpbaaGreatDoorQ18
import Derived.Test.YtigkddloeikpbaaGreatDoorQ20
import Derived.Test.YtigkddloeikpbaaGreatDoorQ17
import Derived.Test.YtigkddloeikpbaaGreatDoorQ21
/- Package edwards: its points, and the reference's, are an Edwards curve's. -/
set_option maxRecDepth 10000
namespace Go.Alg
section
variable {p : Nat} [NeZero p]
/-- Four numbers tell a point. -/
structure Tells (d X Y Z T : Fin p) (P : EP p d) : Prop where
  z : Z ≠ 0
  x : X = P.x * Z
  y : Y = P.y * Z
  t : T = P.x * P.y * Z
theorem Tells.add {d : Fin p} (E : EC p d) {X1 Y1 Z1 T1 X2 Y2 Z2 T2 A B C D d2 : Fin p} {P Q : EP p d} (h : Tells d X1 Y1 Z1 T1 P) (k : Tells d X2 Y2 Z2 T2 Q) (hd : d2 = d + d)
    (hA : A = (Y1 - X1) * (Y2 - X2)) (hB : B = (Y1 + X1) * (Y2 + X2)) (hC : C = T1 * d2 * T2) (hD : D = (Z1 + Z1) * Z2) :
    Tells d ((B - A) * (D - C)) ((D + C) * (B + A)) ((D - C) * (D + C)) ((B - A) * (B + A)) (E.add P Q) := by
  obtain ⟨n1, n2⟩ := E.complete P.on Q.on
  obtain ⟨a1, a2⟩ := E.add_is P Q
  obtain ⟨hz, hx, hy, ht⟩ := h
  obtain ⟨kz, kx, ky, kt⟩ := k
  have h2 : (2 : Fin p) * Z1 * Z2 ≠ 0 := E.fld.mul_ne (E.fld.mul_ne E.two hz) kz
  have eE : B - A = 2 * Z1 * Z2 * (P.x * Q.y + P.y * Q.x) := by subst hA hB; rw [hx, hy, kx, ky]; grind -lia -linarith -order (splits := 0)
  have eH : B + A = 2 * Z1 * Z2 * (P.y * Q.y + P.x * Q.x) := by subst hA hB; rw [hx, hy, kx, ky]; grind -lia -linarith -order (splits := 0)
  have eF : D - C = 2 * Z1 * Z2 * (1 - d * P.x * Q.x * P.y * Q.y) := by subst hC hD hd; rw [ht, kt]; grind -lia -linarith -order (splits := 0)
  have eG : D + C = 2 * Z1 * Z2 * (1 + d * P.x * Q.x * P.y * Q.y) := by subst hC hD hd; rw [ht, kt]; grind -lia -linarith -order (splits := 0)
  rw [eE, eF, eG, eH]
  generalize (2 : Fin p) * Z1 * Z2 = z at *
  rw [← a1, ← a2]
  generalize (1 - d * P.x * Q.x * P.y * Q.y) = F at *
  generalize (1 + d * P.x * Q.x * P.y * Q.y) = G at *
  clear a1 a2 eE eF eG eH hA hB hC hD
  exact ⟨E.fld.mul_ne (E.fld.mul_ne h2 n2) (E.fld.mul_ne h2 n1), by grind -lia -linarith -order (splits := 0), by grind -lia -linarith -order (splits := 0), by grind -lia -linarith -order (splits := 0)⟩
theorem Tells.double {d : Fin p} (E : EC p d) {X Y Z T a b c e g : Fin p} {P : EP p d} (h : Tells d X Y Z T P) (ha : a = X * X) (hb : b = Y * Y) (hc : c = Z * Z) (he : e = (X + Y) * (X + Y) - a - b) (hg : g = b - a) :
    Tells d (e * (g - (c + c))) (g * (0 - (a + b))) ((g - (c + c)) * g) (e * (0 - (a + b))) (E.add P P) := by
  obtain ⟨n1, n2⟩ := E.complete P.on P.on
  obtain ⟨a1, a2⟩ := E.add_is P P
  have hon := P.on
  unfold On at hon
  obtain ⟨hz, hx, hy, ht⟩ := h
  have eE : e = Z * Z * (P.x * P.y + P.y * P.x) := by subst he ha hb; rw [hx, hy]; grind -lia -linarith -order (splits := 0)
  have eG : g = Z * Z * (1 + d * P.x * P.x * P.y * P.y) := by subst hg ha hb; rw [hx, hy]; clear a1 a2 n1 n2 eE he hx hy ht hz; grind -lia -linarith -order (splits := 0)
  have eF : g - (c + c) = Z * Z * (0 - (1 - d * P.x * P.x * P.y * P.y)) := by rw [eG]; subst hc; grind -lia -linarith -order (splits := 0)
  have eH : 0 - (a + b) = Z * Z * (0 - (P.y * P.y + P.x * P.x)) := by subst ha hb; rw [hx, hy]; grind -lia -linarith -order (splits := 0)
  rw [eF, eH, eE, eG]
  rw [← a1, ← a2]
  have h2 : Z * Z ≠ 0 := E.fld.sq_ne hz
  generalize Z * Z = z at *
  generalize (1 - d * P.x * P.x * P.y * P.y) = F at *
  generalize (1 + d * P.x * P.x * P.y * P.y) = G at *
  clear a1 a2 eE eF eG eH ha hb hc he hg hon
  refine ⟨E.fld.mul_ne (E.fld.mul_ne h2 (fun h => n2 (by grind -lia -linarith -order (splits := 0)))) (E.fld.mul_ne h2 n1), by grind -lia -linarith -order (splits := 0), by grind -lia -linarith -order (splits := 0), by grind -lia -linarith -order (splits := 0)⟩
theorem Tells.neg {d : Fin p} (E : EC p d) {X Y Z T : Fin p} {P : EP p d} (h : Tells d X Y Z T P) : Tells d (0 - X) Y Z (0 - T) (E.neg P) := by
  obtain ⟨hz, hx, hy, ht⟩ := h
  refine ⟨hz, ?_, hy, ?_⟩
  · show 0 - X = -P.x * Z; rw [hx]; grind -lia -linarith -order (splits := 0)
  · show 0 - T = -P.x * P.y * Z; rw [ht]; grind -lia -linarith -order (splits := 0)
theorem Tells.one {d x y o : Fin p} (ho : o = 1) (h1 : (1 : Fin p) ≠ 0) (h : On d x y) : Tells d x y o (x * y) ⟨x, y, h⟩ := by
  subst ho
  exact ⟨h1, by grind -lia -linarith -order (splits := 0), by grind -lia -linarith -order (splits := 0), by grind -lia -linarith -order (splits := 0)⟩
/-- Three numbers tell a point. -/
structure Tells3 (d X Y Z : Fin p) (P : EP p d) : Prop where
  z : Z ≠ 0
  x : X = P.x * Z
  y : Y = P.y * Z
theorem Tells.three {d X Y Z T : Fin p} {P : EP p d} (h : Tells d X Y Z T P) : Tells3 d X Y Z P := ⟨h.z, h.x, h.y⟩
theorem Tells3.same {d : Fin p} (F : Fld p) {X1 Y1 Z1 X2 Y2 Z2 : Fin p} {P Q : EP p d} (h : Tells3 d X1 Y1 Z1 P) (k : Tells3 d X2 Y2 Z2 Q) : (X1 * Z2 = X2 * Z1 ∧ Y1 * Z2 = Y2 * Z1) ↔ P = Q := by
  obtain ⟨hz, hx, hy⟩ := h
  obtain ⟨kz, kx, ky⟩ := k
  have hzz := F.mul_ne hz kz
  constructor
  · rintro ⟨e1, e2⟩
    rw [hx, kx] at e1
    rw [hy, ky] at e2
    refine EP.ext (F.cancel hzz ?_) (F.cancel hzz ?_)
    · grind -lia -linarith -order (splits := 0)
    · grind -lia -linarith -order (splits := 0)
  · rintro rfl
    rw [hx, kx, hy, ky]
    exact ⟨by grind -lia -linarith -order (splits := 0), by grind -lia -linarith -order (splits := 0)⟩
theorem Tells3.add {d : Fin p} (E : EC p d) {X1 Y1 Z1 X2 Y2 Z2 : Fin p} {P Q : EP p d} (h : Tells3 d X1 Y1 Z1 P) (k : Tells3 d X2 Y2 Z2 Q) :
    Tells3 d (Z1 * Z2 * (X1 * Y2 + Y1 * X2) * (Z1 * Z2 * (Z1 * Z2) - d * (X1 * X2 * (Y1 * Y2)))) (Z1 * Z2 * (Y1 * Y2 + X1 * X2) * (Z1 * Z2 * (Z1 * Z2) + d * (X1 * X2 * (Y1 * Y2))))
      ((Z1 * Z2 * (Z1 * Z2) - d * (X1 * X2 * (Y1 * Y2))) * (Z1 * Z2 * (Z1 * Z2) + d * (X1 * X2 * (Y1 * Y2)))) (E.add P Q) := by
  obtain ⟨n1, n2⟩ := E.complete P.on Q.on
  obtain ⟨a1, a2⟩ := E.add_is P Q
  obtain ⟨hz, hx, hy⟩ := h
  obtain ⟨kz, kx, ky⟩ := k
  have hzz : Z1 * Z2 * (Z1 * Z2) ≠ 0 := E.fld.sq_ne (E.fld.mul_ne hz kz)
  have eF : Z1 * Z2 * (Z1 * Z2) - d * (X1 * X2 * (Y1 * Y2)) = Z1 * Z2 * (Z1 * Z2) * (1 - d * P.x * Q.x * P.y * Q.y) := by rw [hx, hy, kx, ky]; grind -lia -linarith -order (splits := 0)
  have eG : Z1 * Z2 * (Z1 * Z2) + d * (X1 * X2 * (Y1 * Y2)) = Z1 * Z2 * (Z1 * Z2) * (1 + d * P.x * Q.x * P.y * Q.y) := by rw [hx, hy, kx, ky]; grind -lia -linarith -order (splits := 0)
  have eE : X1 * Y2 + Y1 * X2 = Z1 * Z2 * (P.x * Q.y + P.y * Q.x) := by rw [hx, hy, kx, ky]; grind -lia -linarith -order (splits := 0)
  have eH : Y1 * Y2 + X1 * X2 = Z1 * Z2 * (P.y * Q.y + P.x * Q.x) := by rw [hx, hy, kx, ky]; grind -lia -linarith -order (splits := 0)
  rw [eF, eG, eE, eH, ← a1, ← a2]
  generalize (1 - d * P.x * Q.x * P.y * Q.y) = F at *
  generalize (1 + d * P.x * Q.x * P.y * Q.y) = G at *
  clear a1 a2 eE eF eG eH hx hy kx ky
  generalize Z1 * Z2 = z at *
  exact ⟨E.fld.mul_ne (E.fld.mul_ne hzz n2) (E.fld.mul_ne hzz n1), by grind -lia -linarith -order (splits := 0), by grind -lia -linarith -order (splits := 0)⟩
theorem Tells3.neg {d : Fin p} (E : EC p d) {X Y Z : Fin p} {P : EP p d} (h : Tells3 d X Y Z P) : Tells3 d (0 - X) Y Z (E.neg P) := by
  obtain ⟨hz, hx, hy⟩ := h
  refine ⟨hz, ?_, hy⟩
  show 0 - X = -P.x * Z; rw [hx]; grind -lia -linarith -order (splits := 0)
theorem Tells3.pair {d : Fin p} (F : Fld p) {X Y Z : Fin p} {P : EP p d} (h : Tells3 d X Y Z P) : X * finv Z = P.x ∧ Y * finv Z = P.y := by
  obtain ⟨hz, hx, hy⟩ := h
  have := F.mul_finv hz
  rw [hx, hy]
  generalize finv Z = c at *
  exact ⟨by grind -lia -linarith -order (splits := 0), by grind -lia -linarith -order (splits := 0)⟩
theorem Tells3.one {d x y o : Fin p} (ho : o = 1) (h1 : (1 : Fin p) ≠ 0) (h : On d x y) : Tells3 d x y o ⟨x, y, h⟩ := by
  subst ho
  exact ⟨h1, by grind -lia -linarith -order (splits := 0), by grind -lia -linarith -order (splits := 0)⟩
/-- The curve's equation, solved for x. -/
theorem on_iff {d x y : Fin p} : On d x y ↔ x * x * (d * (y * y) + 1) = y * y - 1 := by
  unfold On
  constructor <;> intro h <;> grind -lia -linarith -order (splits := 0)
theorem EC.side_ne {d : Fin p} (E : EC p d) (y : Fin p) : d * (y * y) + 1 ≠ 0 := fun h => by
  obtain ⟨i, hi⟩ := E.im
  have hy : y ≠ 0 := fun h0 => E.fld.one (by rw [h0] at h; grind -lia -linarith -order (splits := 0))
  have hc := E.fld.mul_finv hy
  refine E.nsq (i * finv y) ?_
  generalize finv y = c at *
  grind -lia -linarith -order (splits := 0)
theorem sq_roots (F : Fld p) {a b : Fin p} (h : a * a = b * b) : a = b ∨ a = 0 - b := by
  have : (a - b) * (a + b) = 0 := by grind -lia -linarith -order (splits := 0)
  rcases F.nzd this with h | h
  · exact .inl (by grind -lia -linarith -order (splits := 0))
  · exact .inr (by grind -lia -linarith -order (splits := 0))
end
end Go.Alg
/- Package edwards: elements as members of the field; the curve. -/
set_option maxRecDepth 10000
namespace Go.Proofs.YtigkddloeikpbaaGreatDoor.E10
open Go.Sym Go.Dig R1 F4 Go.Alg

instance : NeZero pV := ⟨by have := pV_pos; omega⟩
/-- The field. -/
abbrev K := Fin pV
noncomputable def fe (n : Nat) : K := Fin.ofNat pV n
theorem fe_val (n : Nat) : (fe n).val = n % pV := rfl
theorem fe_eq {a b : Nat} : fe a = fe b ↔ a % pV = b % pV := by rw [Fin.ext_iff]; rfl
theorem fe_mod (n : Nat) : fe (n % pV) = fe n := fe_eq.2 (Nat.mod_mod _ _)
theorem fe_of (x : K) : fe x.val = x := Fin.ext (Nat.mod_eq_of_lt x.isLt)
theorem fe_lt {n : Nat} (h : n < pV) : (fe n).val = n := Nat.mod_eq_of_lt h
theorem fe_add (a b : Nat) : fe (a + b) = fe a + fe b := by
  rw [Fin.ext_iff, Fin.val_add]; simp only [fe_val]; rw [Nat.add_mod]
theorem fe_mul (a b : Nat) : fe (a * b) = fe a * fe b := by
  rw [Fin.ext_iff, Fin.val_mul]; simp only [fe_val]; rw [Nat.mul_mod]
theorem fe_zero : fe 0 = 0 := rfl
theorem fe_pV : fe pV = 0 := by rw [Fin.ext_iff]; show pV % pV = 0 % pV; rw [Nat.mod_self, Nat.zero_mod]
theorem fe_sub {a b : Nat} (h : b ≤ a) : fe (a - b) = fe a - fe b := by
  have e : fe a = fe (a - b) + fe b := by rw [← fe_add]; congr 1; omega
  rw [e]; grind -lia -linarith -order (splits := 0)
theorem fe_inj {a b : Nat} (ha : a < pV) (hb : b < pV) (h : fe a = fe b) : a = b := by
  have := fe_eq.1 h
  rwa [Nat.mod_eq_of_lt ha, Nat.mod_eq_of_lt hb] at this
theorem fe_one : fe 1 = 1 := by
  rw [Fin.ext_iff]; rfl
theorem one_ne : (1 : K) ≠ 0 := fun h => by
  rw [← fe_one, ← fe_zero] at h
  have := fe_inj (by rw [pV_lit]; decide) (by rw [pV_lit]; decide) h
  omega
theorem fe_ne {n : Nat} (h : n % pV ≠ 0) : fe n ≠ 0 := fun e => h (by rw [← fe_zero, fe_eq, Nat.zero_mod] at e; exact e)
theorem two_fe : (2 : K) = fe 2 := by
  rw [show (2 : Nat) = 1 + 1 from rfl, fe_add, fe_one]; grind -lia -linarith -order (splits := 0)
theorem two_ne : (2 : K) ≠ 0 := by rw [two_fe]; exact fe_ne (by rw [pV_lit]; decide)
theorem fe_inv {n : Nat} (h : n % pV ≠ 0) : fe n * fe (n ^ (pV - 2) % pV) = 1 := by
  rw [← fe_mul, ← fe_one, fe_eq]
  have := inv_mul (w := n) (by rw [← pV_eq]; exact h)
  rw [← pV_eq] at this
  rw [this]
  exact (Nat.mod_eq_of_lt (by rw [pV_lit]; decide)).symm
theorem fld : Fld pV := ⟨one_ne, fun a h => ⟨fe (a.val ^ (pV - 2) % pV), by
  have := fe_inv (n := a.val) (fun e => h (by rw [← fe_of a, ← fe_zero, fe_eq, e, Nat.zero_mod]))
  rwa [fe_of] at this⟩⟩
/-- The reference's inverse. -/
theorem fe_iN (n : Nat) : fe (iN n) = finv (fe n) := by
  unfold iN
  by_cases h : n % pV = 0
  · have e : fe n = 0 := by rw [← fe_zero, fe_eq, h, Nat.zero_mod]
    rw [e, finv_zero, ← fe_zero, fe_eq, Nat.mod_mod, Nat.zero_mod, Nat.pow_mod, h, Nat.zero_pow (by rw [pV_lit]; decide), Nat.zero_mod]
  · have h1 := fe_inv h
    have h2 := fld.mul_finv (fe_ne h)
    refine fld.cancel (fe_ne h) ?_
    generalize finv (fe n) = c at *
    generalize fe n = b at *
    grind -lia -linarith -order (splits := 0)
theorem fe_mM (a b : Nat) : fe (mM a b) = fe a * fe b := by unfold mM; rw [fe_mod, fe_mul]
theorem fe_aM (a b : Nat) : fe (aM a b) = fe a + fe b := by unfold aM; rw [fe_mod, fe_add]
theorem fe_sM {a b : Nat} (h : b ≤ a + pV) : fe (sM a b) = fe a - fe b := by
  unfold sM; rw [fe_mod, fe_sub h, fe_add, fe_pV]; grind -lia -linarith -order (splits := 0)

/-! d. -/
abbrev dLit : Nat := 37095705934669439343138083508754565189542113879843219016388785533085940283555
theorem rD_lit : rD = dLit := by
  rw [rD_eq]
  have h : 121666 ^ (pV - 2) % pV = 37095705934669439343138083508754565189542113879843219016388785533085940283556 := by
    rewrite [pV_eq]
    exact pow_of 256 (by decide +kernel) (by decide +kernel)
  rw [h, pV_lit]
noncomputable def dE : K := fe rD
theorem d_pow : dLit ^ ((pV - 1) / 2) % pV = pV - 1 := by
  rewrite [pV_eq]
  exact pow_of 256 (by decide +kernel) (by decide +kernel)
theorem d_nsq (t : K) : t * t ≠ dE := fun h => by
  have e : t.val * t.val % pV = dLit := by
    have h1 : fe (t.val * t.val) = fe rD := by rw [fe_mul, fe_of]; exact h
    have := fe_eq.1 h1
    rw [this, rD_lit]
    exact Nat.mod_eq_of_lt (by rw [pV_lit]; decide)
  clear h
  generalize t.val = t at *
  have h0 : t % p5 ≠ 0 := fun h0 => by
    have : t * t % pV = 0 := by rw [pV_eq, Nat.mul_mod, h0]; simp
    rw [this] at e
    exact absurd e (by decide)
  have hf := fm h0
  have e2 : (t * t) ^ ((pV - 1) / 2) % pV = pV - 1 := by rw [Nat.pow_mod, e, d_pow]
  rw [← Nat.pow_two, ← Nat.pow_mul, show 2 * ((pV - 1) / 2) = p5 - 1 by rw [pV_eq]; decide, pV_eq, hf] at e2
  exact absurd e2 (by decide)
theorem im_neg : fe im0 * fe im0 = -1 := by
  have h : fe (im0 * im0) = fe (pV - 1) := by rw [fe_eq, pV_eq, im_sq]; decide
  rw [← fe_mul, h, fe_sub (by rw [pV_lit]; decide), fe_pV, fe_one]
  grind -lia -linarith -order (splits := 0)
theorem EE : EC pV dE := ⟨fld, two_ne, d_nsq, fe im0, im_neg⟩
/-- A point of the curve. -/
abbrev EPt := EP pV dE
noncomputable instance (P Q : EPt) : Decidable (P = Q) := Classical.propDecidable _

/-! Elements. -/
noncomputable def fE (a : Five) : K := fe (N5 a)
theorem fE_add {a b : Five} (ha : Tame a) (hb : Tame b) : fE (fAdd a b) = fE a + fE b := by
  unfold fE; rw [N5_add ha hb, ← pV_eq, fe_mod, fe_add]
theorem fE_mul {a b : Five} (ha : Tame a) (hb : Tame b) : fE (fMul a b) = fE a * fE b := by
  unfold fE; rw [N5_mul ha hb, ← pV_eq, fe_mod, fe_mul]
theorem fE_sub {a b : Five} (ha : Tame a) (hb : Tame b) : fE (fSub a b) = fE a - fE b := by
  unfold fE
  have := N5_lt b
  rw [N5_sub ha hb, ← pV_eq, fe_mod, fe_sub (by rw [pV_eq]; omega), fe_add, fe_pV]; grind -lia -linarith -order (splits := 0)
theorem fE_neg {a : Five} (ha : Tame a) : fE (fNeg a) = 0 - fE a := by
  unfold fE
  have := N5_lt a
  rw [(fNeg_ok ha).2, ← pV_eq, fe_mod, fe_sub (by rw [pV_eq]; omega), fe_pV]
theorem fE_same {a b : Five} (ha : Tame a) (hb : Tame b) : fSame a b = decide (fE a = fE b) := by
  rw [fSame_ok ha hb, decide_eq_decide]
  have h1 := N5_lt a
  have h2 := N5_lt b
  rw [← pV_eq] at h1 h2
  exact ⟨fun h => by unfold fE; rw [h], fun h => fe_inj h1 h2 h⟩
theorem fE_zero : fE fZero = 0 := by unfold fE; rw [N5_zero.2, fe_zero]
theorem fE_one : Tame eOne ∧ fE eOne = 1 := by
  have h := N5_small 1
  refine ⟨h.1, ?_⟩
  unfold fE eOne; rw [h.2, show (1 : UInt32).toNat = 1 from rfl, fe_one]
theorem fE_inv {a : Five} (ha : Tame a) : Tame (fInv a) ∧ fE (fInv a) = finv (fE a) := by
  have h := fInv_ok ha
  refine ⟨h.1, ?_⟩
  unfold fE
  rw [← fe_iN, fe_eq]
  unfold iN
  rw [Pw.n5 h, pV_eq, Nat.mod_mod, Nat.mod_mod]
  exact powC (Nat.mod_mod _ _).symm _
theorem tame_add {a b : Five} (ha : Tame a) (hb : Tame b) : Tame (fAdd a b) := (fAdd_ok ha hb).1
theorem tame_sub {a b : Five} (ha : Tame a) (hb : Tame b) : Tame (fSub a b) := (fSub_ok ha hb).1
theorem tame_neg {a : Five} (ha : Tame a) : Tame (fNeg a) := (fNeg_ok ha).1
theorem dC_ok : Tame dC ∧ fE dC = dE := by
  have t : Tame dC := by rw [dC_eq]; unfold Tame; decide
  refine ⟨t, ?_⟩
  unfold fE dE
  rw [rD_lit, dC_eq]
  congr 1
theorem dC2_ok : Tame dC2 ∧ fE dC2 = dE + dE := by
  have t : Tame dC2 := by rw [dC2_eq]; unfold Tame; decide
  refine ⟨t, ?_⟩
  unfold fE dE
  rw [← fe_add, rD_lit, dC2_eq, fe_eq, pV_lit]
  decide +kernel

/-! Points. -/
structure Rp (p : Pt) (P : EPt) : Prop where
  tx : Tame p.x
  ty : Tame p.y
  tz : Tame p.z
  tt : Tame p.t
  tells : Tells dE (fE p.x) (fE p.y) (fE p.z) (fE p.t) P
theorem Rp.add {p q : Pt} {P Q : EPt} (h : Rp p P) (k : Rp q Q) : Rp (eAdd p q) (EE.add P Q) := by
  have a1 := tame_mul (tame_sub h.ty h.tx) (tame_sub k.ty k.tx)
  have b1 := tame_mul (tame_add h.ty h.tx) (tame_add k.ty k.tx)
  have c1 := tame_mul (tame_mul h.tt dC2_ok.1) k.tt
  have d1 := tame_mul (tame_add h.tz h.tz) k.tz
  refine ⟨tame_mul (tame_sub b1 a1) (tame_sub d1 c1), tame_mul (tame_add d1 c1) (tame_add b1 a1), tame_mul (tame_sub d1 c1) (tame_add d1 c1), tame_mul (tame_sub b1 a1) (tame_add b1 a1), ?_⟩
  have key := h.tells.add EE k.tells (d2 := fE dC2) dC2_ok.2 rfl rfl rfl rfl
  unfold eAdd eMade
  simp only
  rw [fE_mul (tame_sub b1 a1) (tame_sub d1 c1), fE_mul (tame_add d1 c1) (tame_add b1 a1), fE_mul (tame_sub d1 c1) (tame_add d1 c1), fE_mul (tame_sub b1 a1) (tame_add b1 a1),
    fE_sub b1 a1, fE_sub d1 c1, fE_add d1 c1, fE_add b1 a1,
    fE_mul (tame_sub h.ty h.tx) (tame_sub k.ty k.tx), fE_mul (tame_add h.ty h.tx) (tame_add k.ty k.tx), fE_mul (tame_mul h.tt dC2_ok.1) k.tt, fE_mul h.tt dC2_ok.1, fE_mul (tame_add h.tz h.tz) k.tz,
    fE_sub h.ty h.tx, fE_sub k.ty k.tx, fE_add h.ty h.tx, fE_add k.ty k.tx, fE_add h.tz h.tz]
  exact key
theorem Rp.double {p : Pt} {P : EPt} (h : Rp p P) : Rp (eDouble p) (EE.add P P) := by
  have xy := tame_add h.tx h.ty
  have a1 := tame_mul h.tx h.tx
  have b1 := tame_mul h.ty h.ty
  have c1 := tame_mul h.tz h.tz
  have s1 := tame_mul xy xy
  have e1 := tame_sub (tame_sub s1 a1) b1
  have g1 := tame_sub b1 a1
  have f1 := tame_sub g1 (tame_add c1 c1)
  have h1 := tame_neg (tame_add a1 b1)
  refine ⟨tame_mul e1 f1, tame_mul g1 h1, tame_mul f1 g1, tame_mul e1 h1, ?_⟩
  have key := h.tells.double EE rfl rfl rfl rfl rfl
  unfold eDouble eMade
  simp only
  rw [fE_mul e1 f1, fE_mul g1 h1, fE_mul f1 g1, fE_mul e1 h1, fE_sub (tame_sub s1 a1) b1, fE_sub s1 a1, fE_sub g1 (tame_add c1 c1), fE_sub b1 a1, fE_neg (tame_add a1 b1), fE_add a1 b1, fE_add c1 c1,
    fE_mul xy xy, fE_mul h.tx h.tx, fE_mul h.ty h.ty, fE_mul h.tz h.tz, fE_add h.tx h.ty]
  exact key
theorem Rp.neg {p : Pt} {P : EPt} (h : Rp p P) : Rp (eNeg p) (EE.neg P) := by
  rw [eNeg_eq]
  refine ⟨tame_neg h.tx, h.ty, h.tz, tame_neg h.tt, ?_⟩
  simp only
  rw [fE_neg h.tx, fE_neg h.tt]
  exact h.tells.neg EE
theorem Rp.flat {x y : Five} (hx : Tame x) (hy : Tame y) (h : On dE (fE x) (fE y)) : Rp (eFlat x y) ⟨fE x, fE y, h⟩ := by
  refine ⟨hx, hy, fE_one.1, tame_mul hx hy, ?_⟩
  unfold eFlat
  simp only
  rw [fE_mul hx hy]
  exact Tells.one fE_one.2 one_ne h
theorem Rp.zero : Rp eZero EE.zero := by
  have h : On dE (fE fZero) (fE eOne) := by rw [fE_zero, fE_one.2]; exact EE.zero.on
  have k := Rp.flat N5_zero.1 fE_one.1 h
  rw [← eZero_eq] at k
  have e : (⟨fE fZero, fE eOne, h⟩ : EPt) = EE.zero := EP.ext fE_zero fE_one.2
  rwa [e] at k
theorem Rp.eight {p : Pt} {P : EPt} (h : Rp p P) : Rp (eEight p) (EE.grp.mul 8 P) := by
  have k := h.double.double.double
  have e : EE.add (EE.add (EE.add P P) (EE.add P P)) (EE.add (EE.add P P) (EE.add P P)) = EE.grp.mul 8 P := by
    show EE.grp.add (EE.grp.add (EE.grp.add P P) (EE.grp.add P P)) (EE.grp.add (EE.grp.add P P) (EE.grp.add P P)) = _
    rw [← EE.grp.mul_two, ← EE.grp.mul_two, ← EE.grp.mul_mul, ← EE.grp.mul_two, ← EE.grp.mul_mul]
  rw [e] at k
  exact k
theorem Rp.same {p q : Pt} {P Q : EPt} (h : Rp p P) (k : Rp q Q) : eSame p q = decide (P = Q) := by
  unfold eSame
  rw [fE_same (tame_mul h.tx k.tz) (tame_mul k.tx h.tz), fE_same (tame_mul h.ty k.tz) (tame_mul k.ty h.tz), fE_mul h.tx k.tz, fE_mul k.tx h.tz, fE_mul h.ty k.tz, fE_mul k.ty h.tz, ← Bool.decide_and, decide_eq_decide]
  exact h.tells.three.same fld k.tells.three
theorem Rp.small {p : Pt} {P : EPt} (h : Rp p P) : eSmall p = decide (EE.grp.mul 8 P = EE.zero) := h.eight.same Rp.zero
theorem Rp.pair {p : Pt} {P : EPt} (h : Rp p P) : Tame (ePair p).1 ∧ Tame (ePair p).2 ∧ fE (ePair p).1 = P.x ∧ fE (ePair p).2 = P.y := by
  obtain ⟨i1, i2⟩ := fE_inv h.tz
  obtain ⟨k1, k2⟩ := h.tells.three.pair fld
  rw [ePair_eq]
  refine ⟨tame_mul h.tx i1, tame_mul h.ty i1, ?_, ?_⟩
  · show fE (fMul p.x (fInv p.z)) = _
    rw [fE_mul h.tx i1, i2, k1]
  · show fE (fMul p.y (fInv p.z)) = _
    rw [fE_mul h.ty i1, i2, k2]
theorem N5_fE (a : Five) : N5 a = (fE a).val := by
  unfold fE; rw [fe_lt]; rw [pV_eq]; exact N5_lt a
/-- The reference's points. -/
structure RRp (r : RP) (P : EPt) : Prop where
  lx : r.x < pV
  ly : r.y < pV
  lz : r.z < pV
  is : r.is = true
  tells : Tells3 dE (fe r.x) (fe r.y) (fe r.z) P
theorem aM_lt (a b : Nat) : aM a b < pV := Nat.mod_lt _ pV_pos
theorem mM_lt' (a b : Nat) : mM a b < pV := Nat.mod_lt _ pV_pos
theorem sM_lt (a b : Nat) : sM a b < pV := Nat.mod_lt _ pV_pos
theorem RRp.add {r s : RP} {P Q : EPt} (h : RRp r P) (k : RRp s Q) : RRp (rAdd r s rD) (EE.add P Q) := by
  refine ⟨mM_lt' _ _, mM_lt' _ _, mM_lt' _ _, rfl, ?_⟩
  have key := h.tells.add EE k.tells
  have hm : ∀ a b c : Nat, mM a b ≤ c + pV := fun a b c => by have := mM_lt' a b; omega
  unfold rAdd
  simp only [fe_mM, fe_aM, fe_sM (hm _ _ _)]
  exact key
theorem RRp.neg {r : RP} {P : EPt} (h : RRp r P) : RRp (rNeg r) (EE.neg P) := by
  refine ⟨sM_lt _ _, h.ly, h.lz, h.is, ?_⟩
  unfold rNeg
  simp only
  rw [fe_sM (by have := h.lx; omega), fe_zero]
  exact h.tells.neg EE
theorem RRp.zero : RRp rZero EE.zero := by
  have l : (1 : Nat) < pV := by rw [pV_lit]; decide
  refine ⟨by have := pV_pos; exact this, l, l, rfl, ?_⟩
  show Tells3 dE (fe 0) (fe 1) (fe 1) EE.zero
  rw [fe_zero, fe_one]
  exact Tells3.one rfl one_ne EE.zero.on
theorem RRp.same {r s : RP} {P Q : EPt} (h : RRp r P) (k : RRp s Q) : rSame r s = decide (P = Q) := by
  unfold rSame
  rw [← Bool.decide_and, decide_eq_decide, ← h.tells.same fld k.tells]
  simp only [← fe_mM]
  exact ⟨fun h => ⟨by rw [h.1], by rw [h.2]⟩, fun h => ⟨fe_inj (mM_lt' _ _) (mM_lt' _ _) h.1, fe_inj (mM_lt' _ _) (mM_lt' _ _) h.2⟩⟩
theorem RRp.pair {r : RP} {P : EPt} (h : RRp r P) : rPairX r = P.x.val ∧ rPairY r = P.y.val := by
  obtain ⟨k1, k2⟩ := h.tells.pair fld
  have e1 : fe (rPairX r) = P.x := by unfold rPairX; rw [fe_mM, fe_iN, k1]
  have e2 : fe (rPairY r) = P.y := by unfold rPairY; rw [fe_mM, fe_iN, k2]
  exact ⟨by rw [← e1]; exact (fe_lt (mM_lt' _ _)).symm, by rw [← e2]; exact (fe_lt (mM_lt' _ _)).symm⟩
/-- A point's bytes. -/
noncomputable def encN (P : EPt) : Nat := if P.x.val % 2 = 1 then P.y.val + e255 else P.y.val
noncomputable def encP (P : EPt) : List UInt8 := bytesN (encN P) 32
theorem RRp.bytes {r : RP} {P : EPt} (h : RRp r P) : rBytes r = encP P := by
  obtain ⟨k1, k2⟩ := h.pair
  unfold rBytes encP encN
  rw [k1, k2]
end Go.Proofs.YtigkddloeikpbaaGreatDoor.E10
/- Package edwards: points as bytes, there and back. -/
set_option maxRecDepth 10000
namespace Go.Proofs.YtigkddloeikpbaaGreatDoor.E10
open Go.Sym Go.Dig R1 F4 Go.Alg

theorem lev_append : ∀ (l m : List UInt8), lev (l ++ m) = lev l + 256 ^ l.length * lev m
  | [], m => by simp [lev]
  | x :: l, m => by
    show x.toNat + 256 * lev (l ++ m) = x.toNat + 256 * lev l + 256 ^ (l.length + 1) * lev m
    rw [lev_append l m, Nat.pow_succ]
    generalize 256 ^ l.length = k
    generalize lev m = z
    rw [Nat.mul_add, Nat.add_assoc, Nat.mul_comm k 256, Nat.mul_assoc]
theorem bytesN_succ (n k : Nat) : bytesN n (k + 1) = UInt8.ofNat n :: bytesN (n / 256) k := by
  unfold bytesN
  rw [List.range_succ_eq_map, List.map_cons, List.map_map, Nat.pow_zero, Nat.div_one]
  congr 1
  apply List.map_congr_left
  intro i _
  show UInt8.ofNat (n / 256 ^ (i + 1)) = UInt8.ofNat (n / 256 / 256 ^ i)
  rw [Nat.pow_succ, Nat.mul_comm, Nat.div_div_eq_div_mul]
theorem fe_mod5 (n : Nat) : fe (n % p5) = fe n := by rw [← pV_eq, fe_mod]
theorem modP' (n : Nat) : n % p5 < pV := by rw [pV_eq]; exact modP n
theorem lev_bytesN : ∀ (k n : Nat), n < 256 ^ k → lev (bytesN n k) = n
  | 0, n, h => by have : n = 0 := by simpa using h
                  subst this; rfl
  | k + 1, n, h => by
    have ih := lev_bytesN k (n / 256) (by rw [Nat.pow_succ] at h; omega)
    rw [bytesN_succ]
    show (UInt8.ofNat n).toNat + 256 * lev (bytesN (n / 256) k) = n
    rw [ih, UInt8.toNat_ofNat']
    omega
/-- The last byte apart. -/
theorem split31 {b : List UInt8} (h : b.length = 32) : ∃ l x, b = l ++ [x] ∧ l.length = 31 ∧ b.getD 31 0 = x := by
  refine ⟨b.take 31, b.getD 31 0, ?_, by simp; omega, rfl⟩
  have e : b = b.take 31 ++ b.drop 31 := (List.take_append_drop 31 b).symm
  have e2 : b.drop 31 = [b.getD 31 0] := by
    rw [List.drop_eq_getElem_cons (by omega), List.drop_of_length_le (by omega), List.getD_eq_getElem?_getD, List.getElem?_eq_getElem (by omega)]; rfl
  rw [← e2]; exact e
theorem and127 (x : UInt8) : (x &&& 127).toNat = x.toNat % 128 := by
  rw [UInt8.toNat_and, show (127 : UInt8).toNat = 2 ^ 7 - 1 from rfl, Nat.and_two_pow_sub_one_eq_mod]
theorem sign_lev {b : List UInt8} (h : b.length = 32) : (signOf b == 1) = decide (lev b / 2 ^ 255 % 2 = 1) ∧ (unsigned b).length = 32 ∧ lev (unsigned b) = lev b % 2 ^ 255 := by
  obtain ⟨l, x, hb, hl, hx⟩ := split31 h
  have hx8 : x.toNat < 256 := x.toNat_lt
  have hlev : lev b = lev l + 256 ^ 31 * x.toNat := by rw [hb, lev_append, hl]; simp [lev]
  have hll := lev_lt l
  rw [hl] at hll
  have hu : unsigned b = l ++ [x &&& 127] := by
    have e : unsigned b = b.set 31 (x &&& 127) := by
      unfold unsigned
      have h2 : b.getD (0 + Int.toNat 31) 0 = x := hx
      rw [h2]
      have h3 := whole (b.set (0 + Int.toNat 31) (x &&& UInt8.ofNat (Int.toNat 127)))
      rw [List.length_set] at h3
      exact h3
    rw [e, hb, List.set_append_right _ _ (by omega), hl]; rfl
  have e1 : 2 ^ (8 * 31) = 452312848583266388373324160190187140051835877600158453279131187530910662656 := by decide
  have e2 : 256 ^ 31 = 452312848583266388373324160190187140051835877600158453279131187530910662656 := by decide
  have e3 : 2 ^ 255 = 57896044618658097711785492504343953926634992332820282019728792003956564819968 := by decide
  rw [e1] at hll
  rw [e2] at hlev
  refine ⟨?_, by rw [hu]; simp [hl], ?_⟩
  · have hs : (signOf b).toNat = x.toNat / 128 := by
      unfold signOf
      have h2 : b.getD (0 + Int.toNat 31) 0 = x := hx
      rw [h2]
      show (shr8 x 7).toNat = _
      unfold shr8
      rw [UInt8.toNat_ofNat']
      omega
    have : (signOf b == 1) = decide ((signOf b).toNat = 1) := by
      rw [Bool.eq_iff_iff, beq_iff_eq, decide_eq_true_iff, ← UInt8.toNat_inj]; rfl
    rw [this, hs, decide_eq_decide, hlev, e3]
    omega
  · rw [hu, lev_append, hl, hlev, e2, e3]
    simp only [lev, and127]
    omega

theorem rW_ne {y : Nat} : rW y ≠ 0 := fun h => by
  have e : fe (rW y) = dE * (fe y * fe y) + 1 := by unfold rW; rw [fe_aM, fe_mM, fe_mM, fe_one]; rfl
  rw [h, fe_zero] at e
  exact EE.side_ne (fe y) e.symm
theorem fe_rU (y : Nat) : fe (rU y) = fe y * fe y - 1 := by
  unfold rU; rw [fe_sM (by have := pV_pos; omega), fe_mM, fe_one]
theorem fe_rW (y : Nat) : fe (rW y) = dE * (fe y * fe y) + 1 := by unfold rW; rw [fe_aM, fe_mM, fe_mM, fe_one]; rfl
theorem rU_lt (y : Nat) : rU y < p5 := by rw [← pV_eq]; exact sM_lt _ _
theorem rW_lt (y : Nat) : rW y < p5 := by rw [← pV_eq]; exact aM_lt _ _
/-- The root that there is. -/
theorem ratio_on {y : Nat} (h : (ratioN (rU y) (rW y)).2.1 = true) : (ratioN (rU y) (rW y)).1.n < pV ∧ (ratioN (rU y) (rW y)).1.n % 2 = 0 ∧ On dE (fe (ratioN (rU y) (rW y)).1.n) (fe y) := by
  obtain ⟨a, la, _, h2, _⟩ := ratio_2 (rU_lt y) rW_ne (rW_lt y)
  have h' := h
  rw [h2] at h'
  obtain ⟨k1, k2, _⟩ := rootN_true la h'
  rw [← h2] at k1 k2
  refine ⟨by rw [pV_eq]; exact k1, k2, ?_⟩
  have ht := ratio_true (rU_lt y) (rW_lt y) h
  have e := congrArg fe ht
  rw [fe_mod5, fe_mul, fe_mod5, fe_mul] at e
  rw [on_iff, ← fe_rW, ← fe_rU]
  exact e
/-- Of a point there is a root. -/
theorem ratio_of {P : EPt} : (ratioN (rU P.y.val) (rW P.y.val)).2.1 = true ∧ ((ratioN (rU P.y.val) (rW P.y.val)).1.n = 0 → P.x = 0) := by
  obtain ⟨a, la, h1, h2, _⟩ := ratio_2 (rU_lt P.y.val) rW_ne (rW_lt P.y.val)
  have hx : P.x.val < p5 := by rw [← pV_eq]; exact P.x.isLt
  obtain ⟨s1, s2, s3, s4⟩ := ratio_sq hx
  have hon := on_iff.1 P.on
  have hw : fe (rW P.y.val) = dE * (P.y * P.y) + 1 := by rw [fe_rW, fe_of]
  have hu : fe (rU P.y.val) = P.y * P.y - 1 := by rw [fe_rU, fe_of]
  have e1 : fe (rW P.y.val) * fe a = fe (rU P.y.val) := by rw [← fe_mul, ← fe_mod5, h1]
  have ea : fe a = fe (P.x.val * P.x.val % p5) := by
    rw [fe_mod5, fe_mul, fe_of]
    refine fld.cancel (c := fe (rW P.y.val)) (by rw [hw]; exact EE.side_ne _) ?_
    rw [hu] at e1
    rw [hw] at e1 ⊢
    generalize dE * (P.y * P.y) + 1 = w at *
    clear s1 s2 s3 s4 hw hu h1 h2
    generalize P.y * P.y - 1 = u at *
    grind -lia -linarith -order (splits := 0)
  have la' : a < pV := by rw [pV_eq]; exact la
  have e2 : a = P.x.val * P.x.val % p5 := fe_inj la' (modP' _) ea
  obtain ⟨a', la2, h1', h2', _⟩ := ratio_2 (U := P.x.val * P.x.val % p5) (W := 1) (modP _) (by decide) (by decide)
  have e3 : a' = a := by rw [Nat.one_mul, Nat.mod_eq_of_lt la2] at h1'; rw [h1', e2]
  have e4 : ratioN (rU P.y.val) (rW P.y.val) = ratioN (P.x.val * P.x.val % p5) 1 := by rw [h2, h2', e3]
  rw [e4]
  refine ⟨s1, fun h0 => ?_⟩
  rw [h0] at s4
  have : fe (P.x.val * P.x.val) = 0 := by rw [← fe_mod5, ← s4]; rfl
  rw [fe_mul, fe_of] at this
  exact (fld.nzd this).elim id id
theorem p_odd : pV % 2 = 1 := by rw [pV_eq]; exact p5_odd
theorem pe256 : pV + e255 < 2 ^ 256 := by rw [pV_lit, e255_eq]; decide
theorem encN_lt (P : EPt) : encN P < 2 ^ 256 := by
  have := P.y.isLt
  have := pe256
  unfold encN
  split <;> omega
theorem pV_255 : pV < 2 ^ 255 := by rw [pV_lit]; decide
theorem encN_y (P : EPt) : encN P % 2 ^ 255 = P.y.val ∧ encN P / 2 ^ 255 % 2 = P.x.val % 2 := by
  have h1 := P.y.isLt
  have h2 := pV_255
  have h3 := e255_eq
  unfold encN
  split
  · rename_i h
    rw [h3]
    refine ⟨by rw [Nat.add_mod_right, Nat.mod_eq_of_lt (by omega)], ?_⟩
    rw [Nat.add_div_right _ (by decide), Nat.div_eq_of_lt (by omega)]; omega
  · rename_i h
    refine ⟨Nat.mod_eq_of_lt (by omega), ?_⟩
    rw [Nat.div_eq_of_lt (by omega)]; omega
theorem encN_inj {P Q : EPt} (h : encN P = encN Q) : P = Q := by
  obtain ⟨p1, p2⟩ := encN_y P
  obtain ⟨q1, q2⟩ := encN_y Q
  rw [h] at p1 p2
  have ey : P.y = Q.y := Fin.ext (p1.symm.trans q1)
  have e2 : P.x.val % 2 = Q.x.val % 2 := p2.symm.trans q2
  have hp := on_iff.1 P.on
  have hq := on_iff.1 Q.on
  rw [ey, ← hq] at hp
  have hs := fld.cancel (EE.side_ne Q.y) hp
  rcases sq_roots fld hs with e | e
  · exact EP.ext e ey
  · have ho := p_odd
    have lp := P.x.isLt
    have lq := Q.x.isLt
    have hv : P.x.val = (pV - Q.x.val) % pV := by
      have h : P.x = fe (pV - Q.x.val) := by rw [e, fe_sub (by omega), fe_pV, fe_of]
      rw [h]; rfl
    by_cases h0 : Q.x.val = 0
    · have hq0 : Q.x = 0 := Fin.ext h0
      exact EP.ext (by rw [e, hq0]; grind -lia -linarith -order (splits := 0)) ey
    · rw [Nat.mod_eq_of_lt (by omega)] at hv
      omega
theorem encP_inj {P Q : EPt} (h : encP P = encP Q) : P = Q := by
  have e := congrArg lev h
  unfold encP at e
  have hp := encN_lt P
  have hq := encN_lt Q
  rw [lev_bytesN _ _ (Nat.lt_of_lt_of_le hp (by decide)), lev_bytesN _ _ (Nat.lt_of_lt_of_le hq (by decide))] at e
  exact encN_inj e

theorem half {n c : Nat} (_hc : 0 < c) (h : n < 2 * c) : (n / c % 2 = 1 → n - c = n % c) ∧ (¬ n / c % 2 = 1 → n = n % c) ∧ n = n / c % 2 * c + n % c := by
  have h1 := Nat.div_add_mod n c
  have h2 : n / c < 2 := Nat.div_lt_of_lt_mul (by rw [Nat.mul_comm]; exact h)
  have h3 : n / c = 0 ∨ n / c = 1 := by generalize n / c = q at h2; omega
  rcases h3 with e | e <;> rw [e] at h1 ⊢ <;> generalize n % c = r at h1 ⊢
  · exact ⟨fun h => by simp at h, fun _ => by omega, by omega⟩
  · exact ⟨fun _ => by omega, fun h => absurd rfl h, by omega⟩
theorem t256 : 2 ^ 256 = 2 * 2 ^ 255 := by decide
theorem c255 : 0 < 2 ^ 255 := by decide
theorem one_lt : 1 < pV := by rw [pV_lit]; decide
/-- What both read of thirty-two bytes. -/
theorem of_both {b : List UInt8} (h : b.length = 32) : (eOf b).2 = (rOf b).is ∧ ((eOf b).2 = true → ∃ P, Rp (eOf b).1 P ∧ RRp (rOf b) P ∧ encP P = b) ∧
    (lev b % 2 ^ 255 < pV → (ratioN (rU (lev b % 2 ^ 255)) (rW (lev b % 2 ^ 255))).2.1 = true → (lev b / 2 ^ 255 % 2 = 1 → (ratioN (rU (lev b % 2 ^ 255)) (rW (lev b % 2 ^ 255))).1.n ≠ 0) → (eOf b).2 = true) := by
  obtain ⟨hs, hul, huv⟩ := sign_lev h
  have hn : lev b < 2 ^ 256 := by have := lev_lt b; rw [h] at this; exact this
  have hr : bytesN (lev b) 32 = b := by have := bytesN_lev b; rwa [h] at this
  have er : rOf b = rOfY (lev b % 2 ^ 255) (decide (lev b / 2 ^ 255 % 2 = 1)) := by
    rw [rOf_eq]
    unfold rOfB
    rw [if_neg (by omega), bev_reverse, e255_eq]
    obtain ⟨f1, f2, _⟩ := half c255 (by rw [← t256]; exact hn)
    by_cases h1 : lev b / 2 ^ 255 % 2 = 1
    · rw [if_pos h1, decide_eq_true h1, f1 h1]
    · rw [if_neg h1, decide_eq_false h1, ← f2 h1]
  have ee : eOf b = if (fOfO (unsigned b)).2 = false then (ptNil, false) else if (eOfX b).2 = false then (ptNil, false)
      else if (signOf b == 1) = true then (if fSame (eOfX b).1 fZero = true then (ptNil, false) else (eFlat (fNeg (eOfX b).1) (fOfO (unsigned b)).1, true))
      else (eFlat (eOfX b).1 (fOfO (unsigned b)).1, true) := by
    rw [eOf_eq]; unfold eOfB; rw [if_neg (by omega)]
  rw [er, ee]
  rw [hs]
  unfold rOfY
  have hy2 : lev b = lev b / 2 ^ 255 % 2 * 2 ^ 255 + lev b % 2 ^ 255 := (half c255 (by rw [← t256]; exact hn)).2.2
  generalize hyy : lev b % 2 ^ 255 = y at *
  by_cases hp : y < p5
  · have hp' : y < pV := by rw [pV_eq]; exact hp
    obtain ⟨o1, o2, o3⟩ := of_good hul (by rw [huv]; exact hp)
    have ty := o2.tame
    have ny : fE (fOfO (unsigned b)).1 = fe y := by unfold fE N5; rw [o3, huv, ← pV_eq, fe_mod]
    have tu : Tame (eSides (fOfO (unsigned b)).1).1 := tame_sub (tame_mul ty ty) fE_one.1
    have tw : Tame (eSides (fOfO (unsigned b)).1).2 := tame_add (tame_mul dC_ok.1 (tame_mul ty ty)) fE_one.1
    have nu : N5 (eSides (fOfO (unsigned b)).1).1 = rU y := by
      refine fe_inj (by rw [pV_eq]; exact N5_lt _) (by rw [pV_eq]; exact rU_lt _) ?_
      show fE (fSub (fMul _ _) eOne) = _
      rw [fE_sub (tame_mul ty ty) fE_one.1, fE_mul ty ty, ny, fE_one.2, fe_rU]
    have nw : N5 (eSides (fOfO (unsigned b)).1).2 = rW y := by
      refine fe_inj (by rw [pV_eq]; exact N5_lt _) (by rw [pV_eq]; exact rW_lt _) ?_
      show fE (fAdd (fMul dC (fMul _ _)) eOne) = _
      rw [fE_add (tame_mul dC_ok.1 (tame_mul ty ty)) fE_one.1, fE_mul dC_ok.1 (tame_mul ty ty), fE_mul ty ty, ny, fE_one.2, dC_ok.2, fe_rW]
    obtain ⟨r1, r2, r3⟩ := root_ok tu tw
    rw [nu, nw] at r2 r3
    have hX2 : (eOfX b).2 = (ratioN (rU y) (rW y)).2.1 := r2
    have hX3 : N5 (eOfX b).1 = (ratioN (rU y) (rW y)).1.n := r3
    have tX : Tame (eOfX b).1 := r1
    rw [if_neg (c := (fOfO (unsigned b)).2 = false) (by rw [o1]; decide), if_neg (c := ¬ y < pV) (fun h => h hp'), hX2]
    have zz : fSame (eOfX b).1 fZero = decide ((ratioN (rU y) (rW y)).1.n = 0) := by rw [fSame_ok tX N5_zero.1, N5_zero.2, hX3]
    rw [zz]
    cases hR : (ratioN (rU y) (rW y)).2.1 with
    | false =>
      rw [if_pos rfl, if_pos rfl]
      exact ⟨rfl, fun h => (by cases h), fun _ h _ => (by cases h)⟩
    | true =>
      obtain ⟨q1, q2, q3⟩ := ratio_on hR
      rw [if_neg (c := true = false) (by decide), if_neg (c := true = false) (by decide)]
      have fX : fE (eOfX b).1 = fe (ratioN (rU y) (rW y)).1.n := by unfold fE; rw [hX3]
      by_cases h1 : lev b / 2 ^ 255 % 2 = 1
      · rw [decide_eq_true h1, if_pos (c := true = true) rfl, if_pos (c := true = true) rfl]
        by_cases h0 : (ratioN (rU y) (rW y)).1.n = 0
        · rw [decide_eq_true h0, if_pos (c := true = true) rfl, if_pos h0]
          exact ⟨rfl, fun h => (by cases h), fun _ _ h => absurd h0 (h h1)⟩
        · rw [decide_eq_false h0, if_neg (c := false = true) (by decide), if_neg h0]
          have hon : On dE (fE (fNeg (eOfX b).1)) (fE (fOfO (unsigned b)).1) := by
            rw [fE_neg tX, fX, ny]
            unfold On at q3 ⊢
            generalize fe (ratioN (rU y) (rW y)).1.n = x at *
            clear fX
            grind -lia -linarith -order (splits := 0)
          refine ⟨rfl, fun _ => ⟨⟨fE (fNeg (eOfX b).1), fE (fOfO (unsigned b)).1, hon⟩, Rp.flat (tame_neg tX) ty hon, ⟨sM_lt _ _, hp', one_lt, rfl, ?_⟩, ?_⟩, fun _ _ _ => rfl⟩
          · have e1 : fe (sM 0 (ratioN (rU y) (rW y)).1.n) = fE (fNeg (eOfX b).1) := by rw [fe_sM (by omega), fe_zero, fE_neg tX, fX]
            show Tells3 dE (fe (sM 0 (ratioN (rU y) (rW y)).1.n)) (fe y) (fe 1) _
            rw [e1, ← ny, fe_one]
            exact Tells3.one rfl one_ne hon
          · unfold encP
            have hv : (fE (fNeg (eOfX b).1)).val = pV - (ratioN (rU y) (rW y)).1.n := by
              rw [← N5_fE, (fNeg_ok tX).2, hX3, ← pV_eq, Nat.mod_eq_of_lt (by omega)]
            have ho := p_odd
            have e2 : encN ⟨fE (fNeg (eOfX b).1), fE (fOfO (unsigned b)).1, hon⟩ = lev b := by
              unfold encN
              rw [if_pos (by show (fE (fNeg (eOfX b).1)).val % 2 = 1; rw [hv]; omega)]
              show (fE (fOfO (unsigned b)).1).val + e255 = _
              rw [ny, fe_lt hp', e255_eq, hy2, h1]; omega
            rw [e2, hr]
      · rw [decide_eq_false h1, if_neg (c := false = true) (by decide), if_neg (c := false = true) (by decide)]
        have hon : On dE (fE (eOfX b).1) (fE (fOfO (unsigned b)).1) := by rw [fX, ny]; exact q3
        refine ⟨rfl, fun _ => ⟨⟨fE (eOfX b).1, fE (fOfO (unsigned b)).1, hon⟩, Rp.flat tX ty hon, ⟨q1, hp', one_lt, rfl, ?_⟩, ?_⟩, fun _ _ _ => rfl⟩
        · show Tells3 dE (fe (ratioN (rU y) (rW y)).1.n) (fe y) (fe 1) _
          rw [← fX, ← ny, fe_one]
          exact Tells3.one rfl one_ne hon
        · unfold encP
          have hv : (fE (eOfX b).1).val = (ratioN (rU y) (rW y)).1.n := by rw [fX, fe_lt q1]
          have e2 : encN ⟨fE (eOfX b).1, fE (fOfO (unsigned b)).1, hon⟩ = lev b := by
            unfold encN
            rw [if_neg (by show ¬ (fE (eOfX b).1).val % 2 = 1; rw [hv]; omega)]
            show (fE (fOfO (unsigned b)).1).val = _
            rw [ny, fe_lt hp', hy2]; omega
          rw [e2, hr]
  · have hp' : ¬ y < pV := by rw [pV_eq]; exact hp
    have := of_bad (b := unsigned b) (by rw [huv]; exact fun h => hp h.2)
    rw [this, if_pos rfl, if_pos (c := ¬ y < pV) hp']
    exact ⟨rfl, fun h => (by cases h), fun h => absurd h hp'⟩
theorem of_short {b : List UInt8} (h : b.length ≠ 32) : (eOf b).2 = false ∧ (rOf b).is = false := by
  rw [eOf_eq, rOf_eq]
  unfold eOfB rOfB
  rw [if_pos h, if_pos h]
  exact ⟨rfl, rfl⟩
/-- What both read of bytes. -/
theorem of_ok (b : List UInt8) : (eOf b).2 = (rOf b).is ∧ ((eOf b).2 = true → ∃ P, Rp (eOf b).1 P ∧ RRp (rOf b) P ∧ encP P = b) := by
  by_cases h : b.length = 32
  · exact ⟨(of_both h).1, (of_both h).2.1⟩
  · obtain ⟨h1, h2⟩ := of_short h
    exact ⟨by rw [h1, h2], fun e => by rw [h1] at e; cases e⟩
theorem encP_len (P : EPt) : (encP P).length = 32 := bytesN_len _ _
/-- A point's bytes are read. -/
theorem of_enc (P : EPt) : (eOf (encP P)).2 = true ∧ Rp (eOf (encP P)).1 P ∧ RRp (rOf (encP P)) P := by
  obtain ⟨k1, k2, k3⟩ := of_both (encP_len P)
  have hl : lev (encP P) = encN P := lev_bytesN _ _ (Nat.lt_of_lt_of_le (encN_lt P) (by decide))
  obtain ⟨y1, y2⟩ := encN_y P
  rw [hl, y1, y2] at k3
  obtain ⟨r1, r2⟩ := ratio_of (P := P)
  have ht := k3 P.y.isLt r1 (fun h h0 => by
    have := r2 h0
    rw [this] at h
    have h' : (0 : Nat) % pV % 2 = 1 := h
    rw [Nat.zero_mod] at h'
    cases h')
  obtain ⟨Q, q1, q2, q3⟩ := k2 ht
  have := encP_inj q3
  subst this
  exact ⟨ht, q1, q2⟩
theorem or128 {x : UInt8} (h : x.toNat < 128) : (x ||| 128).toNat = x.toNat + 128 := by
  have := Nat.two_pow_add_eq_or_of_lt (i := 7) (b := x.toNat) h 1
  rw [UInt8.toNat_or, show (128 : UInt8).toNat = 2 ^ 7 * 1 from rfl, Nat.or_comm, ← this]
  omega
theorem top_bytes {l : List UInt8} {x : UInt8} {n m c : Nat} (hl : l.length = 31) (h : lev (l ++ [x]) = n) (hn : n < c) (hc : c = 256 ^ 31 * 128) (hm : m = n + c) : l ++ [x ||| 128] = bytesN m 32 := by
  rw [lev_append, hl] at h
  simp only [lev] at h
  have hk : (0 : Nat) < 256 ^ 31 := by decide
  have hx128 : x.toNat < 128 := by
    rw [hc] at hn
    have h2 : 256 ^ 31 * x.toNat < 256 ^ 31 * 128 := by
      generalize 256 ^ 31 = k at *
      rw [Nat.mul_zero, Nat.add_zero] at h
      omega
    exact Nat.lt_of_mul_lt_mul_left h2
  have hlen : (l ++ [x ||| 128]).length = 32 := by simp [hl]
  have := bytesN_lev (l ++ [x ||| 128])
  rw [hlen, lev_append, hl] at this
  simp only [lev, or128 hx128] at this
  rw [← this]
  congr 1
  rw [hm, hc, ← h]
  generalize 256 ^ 31 = k
  simp only [Nat.mul_zero, Nat.add_zero, Nat.mul_add, Nat.add_assoc]
theorem Rp.bytes {p : Pt} {P : EPt} (h : Rp p P) : eBytes p = encP P := by
  obtain ⟨t1, t2, e1, e2⟩ := h.pair
  rw [eBytes_eq]
  unfold eBytesB encP encN
  rw [fNegB_ok t1, N5_fE, e1, bytes_num t2, N5_fE, e2]
  by_cases hx : P.x.val % 2 = 1
  · rw [decide_eq_true hx, if_pos rfl, if_pos hx]
    have hy : P.y.val < 2 ^ 255 := Nat.lt_trans P.y.isLt pV_255
    have hl : (bytesN P.y.val 32).length = 32 := bytesN_len _ _
    obtain ⟨l, x, hb, hll, hg⟩ := split31 hl
    rw [hg, hb, List.set_append_right _ _ (by omega), hll]
    have hlev : lev (bytesN P.y.val 32) = P.y.val := lev_bytesN _ _ (Nat.lt_of_lt_of_le hy (by decide))
    rw [hb] at hlev
    exact top_bytes hll hlev hy (by decide) (by rw [e255_eq])
  · rw [decide_eq_false hx, if_neg (by decide), if_neg hx]
end Go.Proofs.YtigkddloeikpbaaGreatDoor.E10
/- Layer 10's laws: what is to be shown of their bodies is so. -/
set_option maxRecDepth 10000
namespace Go.Proofs.YtigkddloeikpbaaGreatDoor.E10
open Go.Sym Go.Dig R1 F4 Go.Alg

theorem ok_is10 : SpecOK Tryz.prog 1000005 Sym.sNo := Sym.sNo_ok _ _
/-! The base. -/
abbrev bX : Nat := 15112221349535400772501151409588531511454012693041857206046113283949847762202
abbrev bY : Nat := 46316835694926478169428394003475163141307993866256225615783033603165251855960
theorem b_on : On dE (fe bX) (fe bY) := by
  unfold On dE
  rw [rD_lit, ← fe_one, ← fe_mul, ← fe_mul, ← fe_mul, ← fe_mul, ← fe_add]
  have h : fe (bY * bY) = fe (1 + dLit * (bX * bX) * (bY * bY)) + fe (bX * bX) := by
    rw [← fe_add, fe_eq, pV_lit]; decide +kernel
  rw [h]
  grind -lia -linarith -order (splits := 0)
noncomputable def PB : EPt := ⟨fe bX, fe bY, b_on⟩
theorem bX_lt : bX < pV := by rw [pV_lit]; decide
theorem bY_lt : bY < pV := by rw [pV_lit]; decide
theorem encN_base : encN PB = bY := by
  unfold encN
  rw [if_neg (by show ¬ (fe bX).val % 2 = 1; rw [fe_lt bX_lt]; decide)]
  exact fe_lt bY_lt
theorem encP_base : encP PB = baseB := by
  unfold encP
  rw [encN_base]
  decide +kernel
theorem Rp.base : Rp eBase PB := by
  have := (of_enc PB).2.1
  rw [encP_base, ← eBase_eq] at this
  exact this
theorem RRp.base : RRp rBase PB := by
  have h := (of_enc PB).2.2
  have e : bytesN (mM 4 (iN 5)) 32 = encP PB := by
    unfold encP
    rw [encN_base]
    congr 1
    unfold mM iN
    have h : 5 ^ (pV - 2) % pV = 11579208923731619542357098500868790785326998466564056403945758400791312963990 := by
      rewrite [pV_eq]
      exact pow_of 256 (by decide +kernel) (by decide +kernel)
    rw [h, pV_lit]
  rw [← e, ← rBase_eq] at h
  exact h
theorem ok_awake10 : SpecOK Tryz.prog 1000004 Sym.sNo := Sym.sNo_ok _ _
theorem spL10_ok : SpecsOK Tryz.prog spL10 := .cons ok_awake10 <| .cons ok_is10 <| SpecsOK.append spE4_ok spK4_ok
theorem RRp.lh {r : RP} {P : EPt} (h : RRp r P) : Lh r.x ∧ Lh r.y ∧ Lh r.z := ⟨lhp h.lx, lhp h.ly, lhp h.lz⟩
theorem isOK {p : Pt} {r : RP} {P : EPt} (h : Rp p P) (k : RRp r P) : (Lh r.x ∧ Lh r.y ∧ Lh r.z) ∧ eBytes p = rBytes r := ⟨k.lh, by rw [h.bytes, k.bytes]⟩
theorem of_len {b : List UInt8} (h : (eOf b).2 = true) : b.length = 32 := by
  apply Classical.byContradiction
  intro hn
  rw [(of_short hn).1] at h
  cases h

/-! Pairs. -/
instance {p : Nat} [NeZero p] (d x y : Fin p) : Decidable (On d x y) := by unfold On; infer_instance
theorem eFrom_ok {x y : Five} (hx : Tame x) (hy : Tame y) : (eFrom x y).2 = decide (On dE (fE x) (fE y)) ∧ ∀ h : On dE (fE x) (fE y), Rp (eFrom x y).1 ⟨fE x, fE y, h⟩ := by
  have tyy := tame_mul hy hy
  have t1 : Tame (eSides y).1 := tame_sub tyy fE_one.1
  have t2 : Tame (eSides y).2 := tame_add (tame_mul dC_ok.1 tyy) fE_one.1
  have e1 : fE (eSides y).1 = fE y * fE y - 1 := by
    show fE (fSub _ _) = _
    rw [fE_sub tyy fE_one.1, fE_mul hy hy, fE_one.2]
  have e2 : fE (eSides y).2 = dE * (fE y * fE y) + 1 := by
    show fE (fAdd _ _) = _
    rw [fE_add (tame_mul dC_ok.1 tyy) fE_one.1, fE_mul dC_ok.1 tyy, fE_mul hy hy, fE_one.2, dC_ok.2]
  have hs : fSame (fMul (fMul x x) (eSides y).2) (eSides y).1 = decide (On dE (fE x) (fE y)) := by
    rw [fE_same (tame_mul (tame_mul hx hx) t2) t1, fE_mul (tame_mul hx hx) t2, fE_mul hx hx, e1, e2, decide_eq_decide]
    exact on_iff.symm
  rw [eFrom_eq]
  unfold eFrom0
  by_cases h : On dE (fE x) (fE y)
  · rw [hs, decide_eq_true h, if_pos rfl]
    exact ⟨rfl, fun _ => Rp.flat hx hy h⟩
  · rw [hs, decide_eq_false h, if_neg (by decide)]
    exact ⟨rfl, fun h' => absurd h' h⟩
theorem onN_ok {x y : Five} : onN (N5 x) (N5 y) = decide (On dE (fE x) (fE y)) := by
  unfold onN
  rw [decide_eq_decide]
  have hm : mM (N5 x) (N5 x) ≤ mM (N5 y) (N5 y) + pV := by have := mM_lt' (N5 x) (N5 x); omega
  have e : sM (mM (N5 y) (N5 y)) (mM (N5 x) (N5 x)) = aM 1 (mM rD (mM (mM (N5 x) (N5 x)) (mM (N5 y) (N5 y)))) ↔ fE y * fE y - fE x * fE x = 1 + dE * (fE x * fE x * (fE y * fE y)) := by
    constructor
    · intro h
      have h := congrArg fe h
      rw [fe_sM hm, fe_aM, fe_mM, fe_mM, fe_mM, fe_mM, fe_mM, fe_mM, fe_one] at h
      exact h
    · intro h
      refine fe_inj (sM_lt _ _) (aM_lt _ _) ?_
      rw [fe_sM hm, fe_aM, fe_mM, fe_mM, fe_mM, fe_mM, fe_mM, fe_mM, fe_one]
      exact h
  rw [e]
  unfold On
  constructor <;> intro h <;> grind -lia -linarith -order (splits := 0)

theorem bq {c : Bool} {F T : Prop} (hF : F) (hT : c = false → T) : bcase c F T := by
  cases c
  · exact hT rfl
  · exact hF
theorem tame_of {x : Five} (h0 : decide ((4503599627370496 : UInt64) ≤ x.x0) = false) (h1 : decide ((4503599627370496 : UInt64) ≤ x.x1) = false) (h2 : decide ((4503599627370496 : UInt64) ≤ x.x2) = false) (h3 : decide ((4503599627370496 : UInt64) ≤ x.x3) = false) (h4 : decide ((4503599627370496 : UInt64) ≤ x.x4) = false) : Tame x := by
  rw [← tame_iff]; unfold tm; rw [h0, h1, h2, h3, h4]; rfl
theorem pairTree {x y : Five} {F T : Prop} (hF : F) (hT : Tame x → Tame y → T) (c : UInt64) (hc : c = 4503599627370496) :
    bcase (decide (c ≤ x.x0)) F (bcase (decide (c ≤ y.x0)) F (bcase (decide (c ≤ x.x1)) F (bcase (decide (c ≤ y.x1)) F (bcase (decide (c ≤ x.x2)) F (bcase (decide (c ≤ y.x2)) F (bcase (decide (c ≤ x.x3)) F (bcase (decide (c ≤ y.x3)) F (bcase (decide (c ≤ x.x4)) F (bcase (decide (c ≤ y.x4)) F T))))))))) := by
  subst hc
  exact bq hF fun a0 => bq hF fun b0 => bq hF fun a1 => bq hF fun b1 => bq hF fun a2 => bq hF fun b2 => bq hF fun a3 => bq hF fun b3 => bq hF fun a4 => bq hF fun b4 => hT (tame_of a0 a1 a2 a3 a4) (tame_of b0 b1 b2 b3 b4)
abbrev sPairs : SpecF := fspec (α := Five × Five × Unit) total fun _ => true
theorem ok_Pairs : SpecOK Tryz.prog 1000003 Sym.sNo := Sym.sNo_ok _ _
/-! Sums. -/
abbrev sAdds : SpecF := fspec (α := List UInt8 × List UInt8 × Unit) total fun _ => true
theorem not_t {b : Bool} (h : b = true) : (!b) = false := by rw [h]; rfl
theorem not_f {b : Bool} (h : b = false) : (!b) = true := by rw [h]; rfl
theorem ok_Adds : SpecOK Tryz.prog 1000000 Sym.sNo := Sym.sNo_ok _ _
/-! The group. -/
theorem ok_SameT : SpecOK Tryz.prog 20 sSameT := by
  refine fn_okL (by kernel_rfl) tt_ok spE1_ok 9 Tryz.func20 (by decide +kernel) (by kernel_rfl) ?_
  rintro ⟨p, q, _⟩ h
  replace h : eSame p q = true := h
  unfold eSame at h
  rw [Bool.and_eq_true] at h
  exact ⟨_, {}, fun x => x = .bool true, LnVD.of (vcSameT p q _) ⟨h.1, by rw [h.2]⟩, svf⟩
theorem spG10_ok : SpecsOK Tryz.prog spG10 := .cons ok_SameT spL10_ok
theorem sameOK {p q : Pt} {P Q : EPt} (h : Rp p P) (k : Rp q Q) (e : P = Q) : eSame p q = true := by rw [h.same k]; exact decide_eq_true e
abbrev sGroup : SpecF := fspec (α := List UInt8 × List UInt8 × List UInt8 × Unit) total fun _ => true
theorem ok_Group : SpecOK Tryz.prog 1000002 Sym.sNo := Sym.sNo_ok _ _
/-! Bytes. -/
abbrev sEBytesL : SpecF := fspec (α := List UInt8 × Unit) total fun _ => true
theorem ok_EBytesL : SpecOK Tryz.prog 1000001 Sym.sNo := Sym.sNo_ok _ _
end Go.Proofs.YtigkddloeikpbaaGreatDoor.E10
