/- A symbolic machine for Go functions, and what the functions that the law reaches come to: SwG, WeN, SwA. -/
import Derived.Test.YtficbeeoafiiaaaGreatDoorQ17
import Derived.Test.YtficbeeoafiiaaaGreatDoorQ18
/- Squares modulo a prime that is 3 modulo 4, by powers; the second number of a pair of which one has a root. Plain Lean. -/
namespace Go.Alg
section
variable {p : Nat} [NeZero p]
/-- A power. -/
def kp (a : Fin p) : Nat → Fin p
  | 0 => 1
  | n + 1 => kp a n * a
theorem kp_mul (a b : Fin p) : ∀ n, kp (a * b) n = kp a n * kp b n
  | 0 => by show (1 : Fin p) = 1 * 1; grind -lia -linarith -order (splits := 0)
  | n + 1 => by
    show kp (a * b) n * (a * b) = kp a n * a * (kp b n * b)
    rw [kp_mul a b n]
    generalize kp a n = x
    generalize kp b n = y
    grind -lia -linarith -order (splits := 0)
theorem kp_add (a : Fin p) (m : Nat) : ∀ n, kp a (m + n) = kp a m * kp a n
  | 0 => by show kp a m = kp a m * 1; generalize kp a m = x; grind -lia -linarith -order (splits := 0)
  | n + 1 => by
    show kp a (m + n) * a = kp a m * (kp a n * a)
    rw [kp_add a m n]
    generalize kp a m = x
    generalize kp a n = y
    grind -lia -linarith -order (splits := 0)
theorem kp_val (a : Fin p) : ∀ n, (kp a n).val = a.val ^ n % p
  | 0 => rfl
  | n + 1 => by
    show (kp a n).val * a.val % p = _
    rw [kp_val a n, Nat.mod_mul_mod, Nat.pow_succ]
theorem kp_zero {n : Nat} (h : 0 < n) : kp (0 : Fin p) n = 0 := by
  cases n with
  | zero => omega
  | succ n => show kp 0 n * 0 = (0 : Fin p); generalize kp (0 : Fin p) n = x; grind -lia -linarith -order (splits := 0)
theorem kp_fermat (hp : NumP.Prime p) {a : Fin p} (ha : a ≠ 0) : kp a (p - 1) = 1 := by
  apply Fin.ext
  rw [kp_val]
  have h1 : ¬ p ∣ a.val := fun h => by
    have : a.val ≠ 0 := fun e => ha (Fin.ext e)
    have := Nat.le_of_dvd (by omega) h
    have := a.isLt
    omega
  rw [NumP.fermat hp h1]
  show 1 = 1 % p
  rw [Nat.mod_eq_of_lt hp.1]
theorem fld_of_prime (hp : NumP.Prime p) : Fld p := by
  refine ⟨fun e => ?_, fun a ha => ⟨kp a (p - 2), ?_⟩⟩
  · have h1 : 1 % p = 0 % p := congrArg Fin.val e
    rw [Nat.mod_eq_of_lt hp.1, Nat.zero_mod] at h1
    cases h1
  · have e : p - 1 = (p - 2) + 1 := by have := hp.1; omega
    have := kp_fermat hp ha
    rw [e] at this
    have k : kp a (p - 2) * a = 1 := this
    rw [← k]
    generalize kp a (p - 2) = x
    grind -lia -linarith -order (splits := 0)
/-- Half of what is below p, a quarter of what is above it. -/
structure Half (p : Nat) [NeZero p] (h q : Nat) : Prop where
  prime : NumP.Prime p
  fld : Fld p
  half : h + h = p - 1
  quar : q + q = h + 1
  pos : 0 < q
variable {h q : Nat} (H : Half p h q)
include H
theorem Half.root_sq (x : Fin p) : kp x q * kp x q = kp x h * x := by
  rw [← kp_add, H.quar]; rfl
theorem Half.of_one {x : Fin p} (k : kp x h = 1) : kp x q * kp x q = x := by
  rw [H.root_sq, k]; grind -lia -linarith -order (splits := 0)
theorem Half.sq_one {x : Fin p} (hx : x ≠ 0) : kp x h * kp x h = 1 := by
  rw [← kp_add, H.half, kp_fermat H.prime hx]
theorem Half.not_root {x : Fin p} (n : kp x q * kp x q ≠ x) : x ≠ 0 ∧ kp x h = 0 - 1 := by
  have hx : x ≠ 0 := fun e => by
    subst e
    apply n
    rw [kp_zero H.pos]
    grind -lia -linarith -order (splits := 0)
  refine ⟨hx, ?_⟩
  have k1 : kp x h ≠ 1 := fun e => n (H.of_one e)
  have k2 := H.sq_one hx
  generalize kp x h = k at *
  have k3 : (k - 1) * (k + 1) = 0 := by
    have : (k - 1) * (k + 1) = k * k - 1 := by clear k2 n k1; grind -lia -linarith -order (splits := 0)
    rw [this, k2]; grind -lia -linarith -order (splits := 0)
  rcases H.fld.nzd k3 with e | e
  · exact absurd (show k = 1 by
      have : k = (k - 1) + 1 := by clear k2 k3 n k1 e; grind -lia -linarith -order (splits := 0)
      rw [this, e]; grind -lia -linarith -order (splits := 0)) k1
  · have : k = (k + 1) - 1 := by clear k2 k3 n k1 e; grind -lia -linarith -order (splits := 0)
    rw [this, e]
/-- Where the first number of the pair has no root, the second one has. -/
theorem Half.second {a b z ia t u w x : Fin p} (hz : kp z h = 0 - 1) (hu : u ≠ 0) (hw : w = z * (u * u)) (ha : a * ia = 1) (ht : (w * w + w) * t = 1) (hx : x = (0 - b) * ia * (1 + t))
    (n : kp (x * (x * x + a) + b) q * kp (x * (x * x + a) + b) q ≠ x * (x * x + a) + b) :
    kp (w * x * (w * x * (w * x) + a) + b) q * kp (w * x * (w * x * (w * x) + a) + b) q = w * x * (w * x * (w * x) + a) + b := by
  obtain ⟨g0, g1⟩ := H.not_root n
  have e1 : a * x * (w * w + w) = (0 - b) * ((w * w + w) + 1) := by
    subst hx
    have : a * ((0 - b) * ia * (1 + t)) * (w * w + w) = (0 - b) * (a * ia) * ((w * w + w) + (w * w + w) * t) := by clear n g0 g1 ht ha hw hz hu; grind -lia -linarith -order (splits := 0)
    rw [this, ha, ht]; grind -lia -linarith -order (splits := 0)
  have e2 : w * x * (w * x * (w * x) + a) + b = w * w * w * (x * (x * x + a) + b) := by
    have k1 : w * x * (w * x * (w * x) + a) + b = w * w * w * (x * (x * x + a) + b) + (a * x * (w * w + w) * (1 - w) + b * (1 - w * w * w)) := by clear n g0 g1 ht ha hw hz hu hx e1; grind -lia -linarith -order (splits := 0)
    rw [k1, e1]
    clear n g0 g1 ht ha hw hz hu hx e1 k1
    grind -lia -linarith -order (splits := 0)
  have e3 : kp w h = 0 - 1 := by
    rw [hw, kp_mul, kp_mul, hz, H.sq_one hu]; grind -lia -linarith -order (splits := 0)
  apply H.of_one
  rw [e2, kp_mul, kp_mul, kp_mul, e3, g1]
  grind -lia -linarith -order (splits := 0)
end
end Go.Alg
/- The curve P-256 has no point of order 2: its cubic has no root. -/
set_option maxRecDepth 10000
namespace Go.Proofs.YtficbeeoafiiaaaGreatDoor.P12
open Go.Sym Go.Dig R1 Go.Alg
theorem primeP : NumP.Prime pN := by rw [pN_eq]; exact NumP.primeP0
theorem fldP : Fld pN := fld_of_prime primeP
/-- Numbers of three parts: what is left modulo the cubic. -/
def m3 (m c : Nat) (A B : Nat × Nat × Nat) : Nat × Nat × Nat :=
  ((A.1 * B.1 + c * (A.2.1 * B.2.2 + A.2.2 * B.2.1)) % m, (A.1 * B.2.1 + A.2.1 * B.1 + 3 * (A.2.1 * B.2.2 + A.2.2 * B.2.1) + c * (A.2.2 * B.2.2)) % m,
    (A.1 * B.2.2 + A.2.1 * B.2.1 + A.2.2 * B.1 + 3 * (A.2.2 * B.2.2)) % m)
def p3 (m c : Nat) : Nat → Nat → Nat × Nat × Nat
  | 0, _ => (1, 0, 0)
  | k + 1, n => if n % 2 = 1 then m3 m c (m3 m c (p3 m c k (n / 2)) (p3 m c k (n / 2))) (0, 1, 0) else m3 m c (p3 m c k (n / 2)) (p3 m c k (n / 2))
noncomputable def ev (A : Nat × Nat × Nat) (r : K) : K := fe A.1 + fe A.2.1 * r + fe A.2.2 * (r * r)
theorem hB_le : hB ≤ pN := by rw [hB_eq, pN_eq]; decide
theorem fe_negB : fe (pN - hB) = 0 - fe hB := by rw [fe_sub hB_le, fe_pN]
theorem m3_ev {r : K} (hr : r * r * r = 3 * r - fe hB) (A B : Nat × Nat × Nat) : ev (m3 pN (pN - hB) A B) r = ev A r * ev B r := by
  unfold ev m3
  simp only [fe_mod, fe_add, fe_mul, fe_negB, fe_three]
  generalize fe hB = β at *
  generalize fe A.1 = a0
  generalize fe A.2.1 = a1
  generalize fe A.2.2 = a2
  generalize fe B.1 = b0
  generalize fe B.2.1 = b1
  generalize fe B.2.2 = b2
  have e : (a0 + a1 * r + a2 * (r * r)) * (b0 + b1 * r + b2 * (r * r)) =
      a0 * b0 + (0 - β) * (a1 * b2 + a2 * b1) + (a0 * b1 + a1 * b0 + 3 * (a1 * b2 + a2 * b1) + (0 - β) * (a2 * b2)) * r + (a0 * b2 + a1 * b1 + a2 * b0 + 3 * (a2 * b2)) * (r * r)
        + (a1 * b2 + a2 * b1 + a2 * b2 * r) * (r * r * r - (3 * r - β)) := by clear hr; grind -lia -linarith -order (splits := 0)
  rw [e, hr]
  clear hr e
  grind -lia -linarith -order (splits := 0)
theorem p3_ev {r : K} (hr : r * r * r = 3 * r - fe hB) : ∀ (k n : Nat), n < 2 ^ k → ev (p3 pN (pN - hB) k n) r = kp r n
  | 0, n, h => by
    have : n = 0 := by simp at h; exact h
    subst this
    show fe 1 + fe 0 * r + fe 0 * (r * r) = 1
    rw [fe_one, fe_zero]
    clear hr
    grind -lia -linarith -order (splits := 0)
  | k + 1, n, h => by
    have ih := p3_ev hr k (n / 2) (by rw [Nat.pow_succ] at h; omega)
    have hn : n = n / 2 + n / 2 + n % 2 := by omega
    show ev (if n % 2 = 1 then _ else _) r = _
    rw [hn, kp_add, kp_add, ← hn]
    split
    · rename_i h1
      rw [m3_ev hr, m3_ev hr, ih, h1]
      have : ev (0, 1, 0) r = kp r 1 := by
        show fe 0 + fe 1 * r + fe 0 * (r * r) = 1 * r
        rw [fe_one, fe_zero]
        clear hr ih
        grind -lia -linarith -order (splits := 0)
      rw [this]
    · rename_i h1
      have : n % 2 = 0 := by omega
      rw [m3_ev hr, ih, this]
      show _ = _ * 1
      generalize kp r (n / 2) = x
      clear hr ih
      grind -lia -linarith -order (splits := 0)
def gCof : Nat × Nat × Nat := (76626890310466861426869089647039036757962535851890885406097439786770458211455, 74462945259064871768191128030512052509059297803194871526163573358218695456204, 34768139465301476436978405170953382516735956999154666452188405812258086013549)
def pX3 : Nat × Nat × Nat := (66434390973925144466073271287821796038003695194169110494110089305650096453661, 12402202686218762177567235911775779164004716598278868847786114277539554646092, 24678849118215552148312087830792888746041224110560601850711771001608500700145)
theorem x_to_p : p3 pN (pN - hB) 256 pN = pX3 := by rw [pN_eq, hB_eq]; decide +kernel
theorem x_cof : m3 pN (pN - hB) gCof (pX3.1, pX3.2.1 - 1, pX3.2.2) = (1, 0, 0) := by rw [pN_eq, hB_eq]; decide +kernel
theorem no_root (r : K) : r * r * r - (r + (r + r)) + fe hB ≠ 0 := fun h => by
  have hr : r * r * r = 3 * r - fe hB := by
    generalize fe hB = β at *
    have : r * r * r = (r * r * r - (r + (r + r)) + β) + (3 * r - β) := by clear h; grind -lia -linarith -order (splits := 0)
    rw [this, h]; clear h this; grind -lia -linarith -order (splits := 0)
  have h1 : kp r pN = r := by
    by_cases h0 : r = 0
    · subst h0; exact kp_zero pN_pos
    · have e : pN = pN - 1 + 1 := by have := pN_pos; omega
      have e2 : kp r pN = kp r (pN - 1 + 1) := congrArg (kp r) e
      rw [e2]
      show kp r (pN - 1) * r = r
      rw [kp_fermat primeP h0]
      clear h hr e e2
      grind -lia -linarith -order (splits := 0)
  have h2 := p3_ev hr 256 pN (by rw [pN_eq]; decide)
  rw [x_to_p, h1] at h2
  have h3 := m3_ev hr gCof (pX3.1, pX3.2.1 - 1, pX3.2.2)
  rw [x_cof] at h3
  have h4 : ev (pX3.1, pX3.2.1 - 1, pX3.2.2) r = ev pX3 r - r := by
    show fe pX3.1 + fe (pX3.2.1 - 1) * r + fe pX3.2.2 * (r * r) = fe pX3.1 + fe pX3.2.1 * r + fe pX3.2.2 * (r * r) - r
    rw [fe_sub (a := pX3.2.1) (b := 1) (by decide), fe_one]
    generalize fe pX3.1 = a
    generalize fe pX3.2.1 = b
    generalize fe pX3.2.2 = c
    clear h hr h1 h2 h3
    grind -lia -linarith -order (splits := 0)
  rw [h4, h2] at h3
  have h5 : ev (1, 0, 0) r = 1 := by
    show fe 1 + fe 0 * r + fe 0 * (r * r) = 1
    rw [fe_one, fe_zero]
    clear h hr h1 h2 h3 h4
    grind -lia -linarith -order (splits := 0)
  rw [h5] at h3
  apply fldP.one
  rw [h3]
  generalize ev gCof r = x
  clear h hr h1 h2 h3 h4 h5
  grind -lia -linarith -order (splits := 0)
end Go.Proofs.YtficbeeoafiiaaaGreatDoor.P12
/- Package sswu: numbers as points of P-256: what its functions compute. -/
set_option maxRecDepth 10000
namespace Go.Proofs.YtficbeeoafiiaaaGreatDoor.P12
open Go.Sym Go.Dig R1 Go.Alg
noncomputable def aC : Four := pS zero4 (pI ⟨3, 0, 0, 0⟩)
noncomputable def zC : Four := pS zero4 (pI ⟨10, 0, 0, 0⟩)
theorem sf_ex : ∃ p : P3, p = ⟨aC, pB, zC⟩ := ⟨_, rfl⟩
/-- The curve's numbers, and the one that is no square. -/
noncomputable def swF : P3 := Classical.choose sf_ex
theorem swF_eq : swF = ⟨aC, pB, zC⟩ := Classical.choose_spec sf_ex
noncomputable def swP : PPt := ⟨some rP, swF.x, swF.y, swF.z⟩
noncomputable def sSwMade : SpecF := fspec (α := Unit) total (fun _ => swF)
theorem vcSwMade (Q : SV → Prop) : LnRaw tt spA0 9 [] {} Tryz.f20 Q () = (mP = mP ∧ Q (P3.sv ⟨aC, pB, zC⟩)) := by kernel_rfl
noncomputable def gC (x : Four) : Four := pA (pT x (pA (pT x x) swF.x)) swF.y
theorem gO_ex : ∃ f : Four → Four, f = gC := ⟨_, rfl⟩
noncomputable def gO : Four → Four := Classical.choose gO_ex
theorem gO_eq : gO = gC := Classical.choose_spec gO_ex
theorem vcSwSide (x : Four) (Q : SV → Prop) : LnRaw tt spA0 9 [] {} Tryz.f58 Q (swP, x, ()) = Q (gC x).sv := by kernel_rfl
noncomputable def sSwSide : SpecF := fspec (α := PPt × Four × Unit) (fun a => some (a.1 = swP)) (fun a => gO a.2.1)
noncomputable def eQ : Four := limb_Right (limb_Add mP ⟨1, 0, 0, 0⟩).1 2
noncomputable def rtC (a : Four) : Four × Bool := (pE a eQ, eq4 (pT (pE a eQ) (pE a eQ)) a)
theorem rtO_ex : ∃ f : Four → Four × Bool, f = rtC := ⟨_, rfl⟩
noncomputable def rtO : Four → Four × Bool := Classical.choose rtO_ex
theorem rtO_eq : rtO = rtC := Classical.choose_spec rtO_ex
theorem vcSwRoot (a : Four) (Q : SV → Prop) : LnRaw tt spA1 9 [] {} Tryz.f57 Q (swP, a, ()) = Q (.tup [(pE a eQ).sv, .bool (eq4 (pT (pE a eQ) (pE a eQ)) a)]) := by kernel_rfl
noncomputable def sSwRoot : SpecF := fspec (α := PPt × Four × Unit) (β := Four × Bool) (fun a => some (a.1 = swP)) (fun a => rtO a.2.1)
theorem rdO_ex : ∃ f : Four → Four, f = fun a => onR (some rP) fun r => redR r a := ⟨_, rfl⟩
noncomputable def redP : Four → Four := Classical.choose rdO_ex
theorem redP_eq : redP = fun a => onR (some rP) fun r => redR r a := Classical.choose_spec rdO_ex
noncomputable def sRedP : SpecF := fspec (α := Option RingV × Four × Unit) (fun a => some (a.1 = some rP)) (fun a => redP a.2.1)
/-! The map, step by step: each part told so that no machine looks into it. -/
theorem zu_ex : ∃ f : Four → Four, f = fun u => pT swF.z (pT (pI u) (pI u)) := ⟨_, rfl⟩
noncomputable def zuC (u : Four) : Four := pT swF.z (pT (pI u) (pI u))
noncomputable def tC (u : Four) : Four := pV (pA (pT (zuC u) (zuC u)) (zuC u))
noncomputable def x1C (u : Four) : Four := pT (pT (pS zero4 swF.y) (pV swF.x)) (pA (pI ⟨1, 0, 0, 0⟩) (tC u))
noncomputable def x0C : Four := pT swF.y (pV (pT swF.z swF.x))
noncomputable def oddC (u : Four) (y : Four) : Bool := (pO y).w0 &&& 1 != (redP u).w0 &&& 1
end Go.Proofs.YtficbeeoafiiaaaGreatDoor.P12
