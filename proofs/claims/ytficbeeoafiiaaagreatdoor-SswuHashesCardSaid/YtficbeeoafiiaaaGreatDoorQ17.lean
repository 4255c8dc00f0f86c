/- A symbolic machine for Go functions, and what the functions that the law reaches come to: EdA. -/
/- Fields of integers modulo a number, and the points of an Edwards curve over such a field: they are a group. -/
namespace Go.Alg

/-- The integers modulo n are a field. -/
structure Fld (p : Nat) [NeZero p] : Prop where
  one : (1 : Fin p) ≠ 0
  inv : ∀ a : Fin p, a ≠ 0 → ∃ b, a * b = 1

section
variable {p : Nat} [NeZero p]
theorem Fld.nzd (F : Fld p) {a b : Fin p} (h : a * b = 0) : a = 0 ∨ b = 0 := by
  by_cases ha : a = 0
  · exact .inl ha
  · obtain ⟨c, hc⟩ := F.inv a ha
    refine .inr ?_
    have : b = a * b * c := by grind -lia -linarith -order (splits := 0)
    rw [this, h]; grind -lia -linarith -order (splits := 0)
theorem Fld.mul_ne (F : Fld p) {a b : Fin p} (ha : a ≠ 0) (hb : b ≠ 0) : a * b ≠ 0 := fun h => (F.nzd h).elim ha hb
theorem Fld.sq_ne (F : Fld p) {a : Fin p} (ha : a ≠ 0) : a * a ≠ 0 := F.mul_ne ha ha
theorem Fld.cancel (F : Fld p) {a b c : Fin p} (hc : c ≠ 0) (h : a * c = b * c) : a = b := by
  obtain ⟨d, hd⟩ := F.inv c hc
  have e1 : a = a * c * d := by grind -lia -linarith -order (splits := 0)
  have e2 : b = b * c * d := by grind -lia -linarith -order (splits := 0)
  rw [e1, e2, h]
theorem sub_ne {a b : Fin p} (h : a ≠ b) : a - b ≠ 0 := fun e => h (by grind -lia -linarith -order (splits := 0))

open Classical in
/-- An inverse; 0 has none, and has 0. -/
noncomputable def finv (a : Fin p) : Fin p := if h : a ≠ 0 ∧ ∃ b, a * b = 1 then Classical.choose h.2 else 0
theorem Fld.mul_finv (F : Fld p) {a : Fin p} (h : a ≠ 0) : a * finv a = 1 := by
  have : a ≠ 0 ∧ ∃ b, a * b = 1 := ⟨h, F.inv a h⟩
  unfold finv; rw [dif_pos this]; exact Classical.choose_spec this.2
theorem finv_zero : finv (0 : Fin p) = 0 := by
  unfold finv; rw [dif_neg (fun h => h.1 rfl)]
theorem Fld.finv_ne (F : Fld p) {a : Fin p} (h : a ≠ 0) : finv a ≠ 0 := fun e => by
  have := F.mul_finv h
  rw [e] at this
  exact F.one (by grind -lia -linarith -order (splits := 0))

/-! An Edwards curve y² - x² = 1 + d x² y², d no square, -1 one. -/
def On (d x y : Fin p) : Prop := y * y - x * x = 1 + d * (x * x) * (y * y)
structure EC (p : Nat) [NeZero p] (d : Fin p) : Prop where
  fld : Fld p
  two : (2 : Fin p) ≠ 0
  nsq : ∀ t : Fin p, t * t ≠ d
  im : ∃ i : Fin p, i * i = -1

theorem complete0 (F : Fld p) {d : Fin p} (two : (2 : Fin p) ≠ 0) (nsq : ∀ t : Fin p, t * t ≠ d) {x1 y1 x2 y2 e : Fin p} (e1 : x1 * x1 + y1 * y1 = 1 + d * (x1 * x1) * (y1 * y1)) (e2 : x2 * x2 + y2 * y2 = 1 + d * (x2 * x2) * (y2 * y2))
    (he : e = d * x1 * x2 * y1 * y2) (h : e * e = 1) : False := by
  have hne : e ≠ 0 := fun h0 => F.one (by rw [← h, h0]; grind -lia -linarith -order (splits := 0))
  have hx1 : x1 ≠ 0 := fun h0 => hne (by rw [he, h0]; grind -lia -linarith -order (splits := 0))
  have hy1 : y1 ≠ 0 := fun h0 => hne (by rw [he, h0]; grind -lia -linarith -order (splits := 0))
  have hx2 : x2 ≠ 0 := fun h0 => hne (by rw [he, h0]; grind -lia -linarith -order (splits := 0))
  have k1 : (x1 + e * y1) * (x1 + e * y1) = d * (x1 * y1 * (x2 + y2)) * (x1 * y1 * (x2 + y2)) := by
    grind -lia -linarith -order (splits := 0)
  have k2 : (x1 - e * y1) * (x1 - e * y1) = d * (x1 * y1 * (x2 - y2)) * (x1 * y1 * (x2 - y2)) := by
    grind -lia -linarith -order (splits := 0)
  have fin : ∀ a b : Fin p, b ≠ 0 → a * a = d * b * b → False := fun a b hb hab => by
    have hi := F.mul_finv hb
    refine nsq (a * finv b) ?_
    generalize finv b = c at *
    grind -lia -linarith -order (splits := 0)
  by_cases hs : x2 + y2 = 0
  · refine fin _ _ (F.mul_ne (F.mul_ne hx1 hy1) (fun hd => ?_)) k2
    have : 2 * x2 = 0 := by grind -lia -linarith -order (splits := 0)
    exact (F.nzd this).elim two hx2
  · exact fin _ _ (F.mul_ne (F.mul_ne hx1 hy1) hs) k1
/-- The denominators of a sum are not 0. -/
theorem EC.complete {d : Fin p} (E : EC p d) {x1 y1 x2 y2 : Fin p} (e1 : On d x1 y1) (e2 : On d x2 y2) : 1 + d * x1 * x2 * y1 * y2 ≠ 0 ∧ 1 - d * x1 * x2 * y1 * y2 ≠ 0 := by
  obtain ⟨i, hi⟩ := E.im
  unfold On at e1 e2
  have key : (d * x1 * x2 * y1 * y2) * (d * x1 * x2 * y1 * y2) ≠ 1 := fun h => by
    refine complete0 (d := -d) E.fld E.two (fun t ht => E.nsq (i * t) (by grind -lia -linarith -order (splits := 0))) (x1 := i * x1) (y1 := y1) (x2 := i * x2) (y2 := y2) (e := d * x1 * x2 * y1 * y2) ?_ ?_ ?_ h
    · grind -lia -linarith -order (splits := 0)
    · grind -lia -linarith -order (splits := 0)
    · grind -lia -linarith -order (splits := 0)
  generalize d * x1 * x2 * y1 * y2 = k at *
  exact ⟨fun h => key (by grind -lia -linarith -order (splits := 0)), fun h => key (by grind -lia -linarith -order (splits := 0))⟩

/-- Points. -/
structure EP (p : Nat) [NeZero p] (d : Fin p) where
  x : Fin p
  y : Fin p
  on : On d x y
theorem EP.ext {d : Fin p} {P Q : EP p d} (h : P.x = Q.x) (k : P.y = Q.y) : P = Q := by
  cases P; cases Q; cases h; cases k; rfl
/-- What a sum is. -/
def IsSum (d x1 y1 x2 y2 x3 y3 : Fin p) : Prop := x3 * (1 + d * x1 * x2 * y1 * y2) = x1 * y2 + y1 * x2 ∧ y3 * (1 - d * x1 * x2 * y1 * y2) = y1 * y2 + x1 * x2
theorem closed0 {d x1 y1 x2 y2 : Fin p} (e1 : On d x1 y1) (e2 : On d x2 y2) :
    (y1 * y2 + x1 * x2) * (y1 * y2 + x1 * x2) * ((1 + d * x1 * x2 * y1 * y2) * (1 + d * x1 * x2 * y1 * y2)) - (x1 * y2 + y1 * x2) * (x1 * y2 + y1 * x2) * ((1 - d * x1 * x2 * y1 * y2) * (1 - d * x1 * x2 * y1 * y2)) =
      (1 + d * x1 * x2 * y1 * y2) * (1 + d * x1 * x2 * y1 * y2) * ((1 - d * x1 * x2 * y1 * y2) * (1 - d * x1 * x2 * y1 * y2)) + d * ((x1 * y2 + y1 * x2) * (x1 * y2 + y1 * x2)) * ((y1 * y2 + x1 * x2) * (y1 * y2 + x1 * x2)) := by
  unfold On at e1 e2
  grind -lia -linarith -order (splits := 0)
theorem EC.closed {d : Fin p} (E : EC p d) {x1 y1 x2 y2 x3 y3 : Fin p} (e1 : On d x1 y1) (e2 : On d x2 y2) (h : IsSum d x1 y1 x2 y2 x3 y3) : On d x3 y3 := by
  obtain ⟨n1, n2⟩ := E.complete e1 e2
  have k := closed0 e1 e2
  obtain ⟨h1, h2⟩ := h
  unfold On
  rw [← h1, ← h2] at k
  generalize 1 + d * x1 * x2 * y1 * y2 = B at *
  generalize 1 - d * x1 * x2 * y1 * y2 = D at *
  have hBD : B * B * (D * D) ≠ 0 := E.fld.mul_ne (E.fld.sq_ne n1) (E.fld.sq_ne n2)
  refine E.fld.cancel hBD ?_
  grind -lia -linarith -order (splits := 0)
noncomputable def EC.add {d : Fin p} (E : EC p d) (P Q : EP p d) : EP p d :=
  ⟨(P.x * Q.y + P.y * Q.x) * finv (1 + d * P.x * Q.x * P.y * Q.y), (P.y * Q.y + P.x * Q.x) * finv (1 - d * P.x * Q.x * P.y * Q.y), by
    obtain ⟨n1, n2⟩ := E.complete P.on Q.on
    have i1 := E.fld.mul_finv n1
    have i2 := E.fld.mul_finv n2
    refine E.closed P.on Q.on ⟨?_, ?_⟩
    · generalize 1 + d * P.x * Q.x * P.y * Q.y = B at *
      grind -lia -linarith -order (splits := 0)
    · generalize 1 - d * P.x * Q.x * P.y * Q.y = B at *
      grind -lia -linarith -order (splits := 0)⟩
theorem EC.add_is {d : Fin p} (E : EC p d) (P Q : EP p d) : IsSum d P.x P.y Q.x Q.y (E.add P Q).x (E.add P Q).y := by
  obtain ⟨n1, n2⟩ := E.complete P.on Q.on
  have i1 := E.fld.mul_finv n1
  have i2 := E.fld.mul_finv n2
  constructor
  · show (P.x * Q.y + P.y * Q.x) * finv (1 + d * P.x * Q.x * P.y * Q.y) * _ = _
    generalize 1 + d * P.x * Q.x * P.y * Q.y = B at *
    grind -lia -linarith -order (splits := 0)
  · show (P.y * Q.y + P.x * Q.x) * finv (1 - d * P.x * Q.x * P.y * Q.y) * _ = _
    generalize 1 - d * P.x * Q.x * P.y * Q.y = B at *
    grind -lia -linarith -order (splits := 0)
/-- A sum is what it is. -/
theorem EC.add_eq {d : Fin p} (E : EC p d) {P Q R : EP p d} (h : IsSum d P.x P.y Q.x Q.y R.x R.y) : E.add P Q = R := by
  obtain ⟨n1, n2⟩ := E.complete P.on Q.on
  have k := E.add_is P Q
  exact EP.ext (E.fld.cancel n1 (k.1.trans h.1.symm)) (E.fld.cancel n2 (k.2.trans h.2.symm))
def EC.zero {d : Fin p} (_E : EC p d) : EP p d := ⟨0, 1, by unfold On; grind -lia -linarith -order (splits := 0)⟩
def EC.neg {d : Fin p} (_E : EC p d) (P : EP p d) : EP p d := ⟨-P.x, P.y, by have := P.on; unfold On at *; grind -lia -linarith -order (splits := 0)⟩
theorem EC.add_comm {d : Fin p} (E : EC p d) (P Q : EP p d) : E.add P Q = E.add Q P := by
  refine E.add_eq ?_
  have h := E.add_is Q P
  unfold IsSum at *
  obtain ⟨h1, h2⟩ := h
  exact ⟨by grind -lia -linarith -order (splits := 0), by grind -lia -linarith -order (splits := 0)⟩
theorem EC.zero_add {d : Fin p} (E : EC p d) (P : EP p d) : E.add E.zero P = P := by
  refine E.add_eq ?_
  unfold IsSum EC.zero
  exact ⟨by grind -lia -linarith -order (splits := 0), by grind -lia -linarith -order (splits := 0)⟩
theorem EC.neg_add {d : Fin p} (E : EC p d) (P : EP p d) : E.add (E.neg P) P = E.zero := by
  refine E.add_eq ?_
  have := P.on
  unfold On at this
  unfold IsSum EC.zero EC.neg
  exact ⟨by grind -lia -linarith -order (splits := 0), by simp only; grind -lia -linarith -order (splits := 0)⟩

theorem assocX {d x1 y1 x2 y2 x3 y3 : Fin p} (e1 : On d x1 y1) (e2 : On d x2 y2) (e3 : On d x3 y3) :
  ((x1*y2+y1*x2)*(1 - d*x1*x2*y1*y2)*y3+(y1*y2+x1*x2)*(1 + d*x1*x2*y1*y2)*x3)*((1 + d*x2*x3*y2*y3)*(1 - d*x2*x3*y2*y3)+d*x1*y1*(x2*y3+y2*x3)*(y2*y3+x2*x3)) = (x1*(y2*y3+x2*x3)*(1 + d*x2*x3*y2*y3)+y1*(x2*y3+y2*x3)*(1 - d*x2*x3*y2*y3))*((1 + d*x1*x2*y1*y2)*(1 - d*x1*x2*y1*y2)+d*(x1*y2+y1*x2)*(y1*y2+x1*x2)*x3*y3) := by
  unfold On at e1 e2 e3
  grind -lia -linarith -order (splits := 0) (ringSteps := 1000000)
theorem assocY {d x1 y1 x2 y2 x3 y3 : Fin p} (e1 : On d x1 y1) (e2 : On d x2 y2) (e3 : On d x3 y3) :
  ((y1*y2+x1*x2)*(1 + d*x1*x2*y1*y2)*y3+(x1*y2+y1*x2)*(1 - d*x1*x2*y1*y2)*x3)*((1 + d*x2*x3*y2*y3)*(1 - d*x2*x3*y2*y3)-d*x1*y1*(x2*y3+y2*x3)*(y2*y3+x2*x3)) = (y1*(y2*y3+x2*x3)*(1 + d*x2*x3*y2*y3)+x1*(x2*y3+y2*x3)*(1 - d*x2*x3*y2*y3))*((1 + d*x1*x2*y1*y2)*(1 - d*x1*x2*y1*y2)-d*(x1*y2+y1*x2)*(y1*y2+x1*x2)*x3*y3) := by
  unfold On at e1 e2 e3
  grind -lia -linarith -order (splits := 0) (ringSteps := 1000000)
theorem frac {B D b : Fin p} (hB : B * b = 1) (a : Fin p) : a = a * b * B + D * 0 := by grind -lia -linarith -order (splits := 0)
theorem EC.add_assoc {d : Fin p} (E : EC p d) (P Q R : EP p d) : E.add (E.add P Q) R = E.add P (E.add Q R) := by
  obtain ⟨n1, n2⟩ := E.complete P.on Q.on
  obtain ⟨m1, m2⟩ := E.complete Q.on R.on
  obtain ⟨l1, l2⟩ := E.complete (E.add P Q).on R.on
  obtain ⟨k1, k2⟩ := E.complete P.on (E.add Q R).on
  have hx := assocX P.on Q.on R.on
  have hy := assocY P.on Q.on R.on
  obtain ⟨a1, a2⟩ := E.add_is P Q
  obtain ⟨b1, b2⟩ := E.add_is Q R
  obtain ⟨c1, c2⟩ := E.add_is (E.add P Q) R
  obtain ⟨d1, d2⟩ := E.add_is P (E.add Q R)
  rw [show d * P.x * Q.x * P.y * Q.y = d * P.x * Q.x * P.y * Q.y from rfl] at hx hy
  rw [show d * Q.x * R.x * Q.y * R.y = d * Q.x * R.x * Q.y * R.y from rfl] at hx hy
  rw [← a1, ← a2, ← b1, ← b2] at hx hy
  generalize (E.add P Q).x = u at *
  generalize (E.add P Q).y = v at *
  generalize (E.add Q R).x = s at *
  generalize (E.add Q R).y = t at *
  generalize 1 + d * P.x * Q.x * P.y * Q.y = B at *
  generalize 1 - d * P.x * Q.x * P.y * Q.y = D at *
  generalize 1 + d * Q.x * R.x * Q.y * R.y = B' at *
  generalize 1 - d * Q.x * R.x * Q.y * R.y = D' at *
  have hz : B * D * (B' * D') ≠ 0 := E.fld.mul_ne (E.fld.mul_ne n1 n2) (E.fld.mul_ne m1 m2)
  refine EP.ext ?_ ?_
  · generalize (E.add (E.add P Q) R).x = X at *
    generalize (E.add P (E.add Q R)).x = X' at *
    have hx' : (u * R.y + v * R.x) * (1 + d * P.x * s * P.y * t) = (P.x * t + P.y * s) * (1 + d * u * R.x * v * R.y) := by
      refine E.fld.cancel hz ?_
      clear a1 a2 b1 b2 c1 c2 d1 d2 hy hz n1 n2 m1 m2 l1 l2 k1 k2
      grind -lia -linarith -order (splits := 0)
    rw [← c1, ← d1] at hx'
    refine E.fld.cancel (E.fld.mul_ne l1 k1) ?_
    generalize 1 + d * P.x * s * P.y * t = G at *
    generalize 1 + d * u * R.x * v * R.y = H at *
    clear c1 c2 d1 d2 hx hy hz a1 a2 b1 b2
    grind -lia -linarith -order (splits := 0)
  · generalize (E.add (E.add P Q) R).y = X at *
    generalize (E.add P (E.add Q R)).y = X' at *
    have hy' : (v * R.y + u * R.x) * (1 - d * P.x * s * P.y * t) = (P.y * t + P.x * s) * (1 - d * u * R.x * v * R.y) := by
      refine E.fld.cancel hz ?_
      clear a1 a2 b1 b2 c1 c2 d1 d2 hx hz n1 n2 m1 m2 l1 l2 k1 k2
      grind -lia -linarith -order (splits := 0)
    rw [← c2, ← d2] at hy'
    refine E.fld.cancel (E.fld.mul_ne l2 k2) ?_
    generalize 1 - d * P.x * s * P.y * t = G at *
    generalize 1 - d * u * R.x * v * R.y = H at *
    clear c1 c2 d1 d2 hx hy hz a1 a2 b1 b2
    grind -lia -linarith -order (splits := 0)
end

/-! Groups whose sums commute. -/
structure Grp (G : Type) where
  add : G → G → G
  zero : G
  neg : G → G
  comm : ∀ a b, add a b = add b a
  assoc : ∀ a b c, add (add a b) c = add a (add b c)
  zadd : ∀ a, add zero a = a
  nadd : ∀ a, add (neg a) a = zero
noncomputable def EC.grp {p : Nat} [NeZero p] {d : Fin p} (E : EC p d) : Grp (EP p d) := ⟨E.add, E.zero, E.neg, E.add_comm, E.add_assoc, E.zero_add, E.neg_add⟩
namespace Grp
variable {G : Type} (g : Grp G)
theorem addz (a : G) : g.add a g.zero = a := by rw [g.comm, g.zadd]
theorem addn (a : G) : g.add a (g.neg a) = g.zero := by rw [g.comm, g.nadd]
theorem cancel {a b c : G} (h : g.add a c = g.add b c) : a = b := by
  have := congrArg (fun x => g.add x (g.neg c)) h
  simpa only [g.assoc, g.addn, g.addz] using this
theorem cancel' {a b c : G} (h : g.add c a = g.add c b) : a = b := g.cancel (c := c) (by rw [g.comm a, g.comm b, h])
theorem neg_of {a b : G} (h : g.add a b = g.zero) : a = g.neg b := g.cancel (c := b) (h.trans (g.nadd b).symm)
theorem neg_zero : g.neg g.zero = g.zero := (g.neg_of (g.zadd _)).symm
theorem neg_neg (a : G) : g.neg (g.neg a) = a := (g.neg_of (g.addn a)).symm
theorem swap (a b c d : G) : g.add (g.add a b) (g.add c d) = g.add (g.add a c) (g.add b d) := by
  rw [g.assoc, ← g.assoc b, g.comm b c, g.assoc c, ← g.assoc a]
theorem neg_add (a b : G) : g.neg (g.add a b) = g.add (g.neg a) (g.neg b) := by
  refine (g.neg_of ?_).symm
  rw [g.swap, g.nadd, g.nadd, g.zadd]
/-- A multiple. -/
def mul : Nat → G → G
  | 0, _ => g.zero
  | n + 1, a => g.add (mul n a) a
theorem mul_zero (a : G) : g.mul 0 a = g.zero := rfl
theorem mul_succ (n : Nat) (a : G) : g.mul (n + 1) a = g.add (g.mul n a) a := rfl
theorem mul_one (a : G) : g.mul 1 a = a := g.zadd a
theorem mul_add (a : G) (n : Nat) : ∀ m, g.mul (n + m) a = g.add (g.mul n a) (g.mul m a)
  | 0 => (g.addz _).symm
  | m + 1 => by rw [← Nat.add_assoc, mul_succ, mul_succ, mul_add a n m, g.assoc]
theorem mul_nil : ∀ n, g.mul n g.zero = g.zero
  | 0 => rfl
  | n + 1 => by rw [mul_succ, mul_nil n, g.zadd]
theorem mul_sum (a b : G) : ∀ n, g.mul n (g.add a b) = g.add (g.mul n a) (g.mul n b)
  | 0 => (g.zadd _).symm
  | n + 1 => by rw [mul_succ, mul_succ, mul_succ, mul_sum a b n, g.swap]
theorem mul_mul (a : G) (n : Nat) : ∀ m, g.mul (n * m) a = g.mul m (g.mul n a)
  | 0 => rfl
  | m + 1 => by rw [Nat.mul_succ, mul_add, mul_succ, mul_mul a n m]
theorem mul_neg (a : G) : ∀ n, g.mul n (g.neg a) = g.neg (g.mul n a)
  | 0 => g.neg_zero.symm
  | n + 1 => by rw [mul_succ, mul_succ, mul_neg a n, g.neg_add]
theorem mul_two (a : G) : g.mul 2 a = g.add a a := by rw [mul_succ, mul_one]
theorem mul_mod {a : G} {n : Nat} (h : g.mul n a = g.zero) (m : Nat) : g.mul (m % n) a = g.mul m a := by
  have e : m = n * (m / n) + m % n := (Nat.div_add_mod m n).symm
  have e2 : g.mul m a = g.mul (n * (m / n) + m % n) a := congrArg (g.mul · a) e
  rw [e2, mul_add, mul_mul, h, mul_nil, g.zadd]
end Grp
end Go.Alg
