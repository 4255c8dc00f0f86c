/- A symbolic machine for Go functions, and what the functions that the law reaches come to: WeA, WeJ, PrW, NumP, FieldP, WeP, PrX, PrY. -/
import Derived.Test.YtficbeeoafiiaaaGreatDoorQ17
import Derived.Test.YtficbeeoafiiaaaGreatDoorQ16
/- The points of a curve y² = x³ + a x + b over a field of integers, x³ + a x + b without a root: they are a group. -/
namespace Go.Alg
section
variable {p : Nat} [NeZero p]
def OnW (a b x y : Fin p) : Prop := y * y = x * x * x + a * x + b
structure WC (p : Nat) [NeZero p] (a b : Fin p) : Prop where
  fld : Fld p
  two : (2 : Fin p) ≠ 0
  nort : ∀ x : Fin p, x * x * x + a * x + b ≠ 0
/-- Points. -/
inductive WP (p : Nat) [NeZero p] (a b : Fin p) where
  | inf
  | pt (x y : Fin p) (on : OnW a b x y)
variable {a b : Fin p}
theorem WP.ext {x y x' y' : Fin p} {h : OnW a b x y} {h' : OnW a b x' y'} (e : x = x') (f : y = y') : WP.pt x y h = WP.pt x' y' h' := by
  subst e; subst f; rfl
theorem WC.y_ne (E : WC p a b) {x y : Fin p} (h : OnW a b x y) : y ≠ 0 := fun e => by
  unfold OnW at h
  rw [e] at h
  exact E.nort x (by rw [← h]; grind -lia -linarith -order (splits := 0))
theorem WC.y2_ne (E : WC p a b) {x y : Fin p} (h : OnW a b x y) : y + y ≠ 0 := fun e => by
  have : 2 * y = 0 := by grind -lia -linarith -order (splits := 0)
  exact (E.fld.nzd this).elim E.two (E.y_ne h)
/-- The slope of the line through two points, or of the one that touches. -/
def IsSlope (a x1 y1 x2 y2 l : Fin p) : Prop := y1 - y2 = l * (x1 - x2) ∧ l * (y1 + y2) = x1 * x1 + x1 * x2 + x2 * x2 + a
def Opp (x1 y1 x2 y2 : Fin p) : Prop := x1 = x2 ∧ y1 + y2 = 0
theorem WC.slope_opp (E : WC p a b) {x1 y1 x2 y2 l : Fin p} (h1 : OnW a b x1 y1) (h : IsSlope a x1 y1 x2 y2 l) : ¬ Opp x1 y1 x2 y2 := fun ⟨e1, e2⟩ => by
  obtain ⟨k1, _⟩ := h
  refine E.y2_ne h1 ?_
  subst e1
  grind -lia -linarith -order (splits := 0)
theorem WC.slope_ex (E : WC p a b) {x1 y1 x2 y2 : Fin p} (h1 : OnW a b x1 y1) (h2 : OnW a b x2 y2) (h : ¬ Opp x1 y1 x2 y2) : ∃ l, IsSlope a x1 y1 x2 y2 l := by
  unfold OnW at h1 h2
  by_cases hx : x1 = x2
  · subst hx
    have hs : y1 + y2 ≠ 0 := fun e => h ⟨rfl, e⟩
    have hd : y1 - y2 = 0 := by
      have : (y1 - y2) * (y1 + y2) = 0 := by grind -lia -linarith -order (splits := 0)
      exact (E.fld.nzd this).resolve_right hs
    obtain ⟨c, hc⟩ := E.fld.inv _ hs
    refine ⟨(x1 * x1 + x1 * x1 + x1 * x1 + a) * c, ?_, ?_⟩
    · grind -lia -linarith -order (splits := 0)
    · grind -lia -linarith -order (splits := 0)
  · obtain ⟨c, hc⟩ := E.fld.inv _ (sub_ne hx)
    refine ⟨(y1 - y2) * c, ?_, ?_⟩
    · grind -lia -linarith -order (splits := 0)
    · refine E.fld.cancel (sub_ne hx) ?_
      grind -lia -linarith -order (splits := 0)
theorem WC.slope_uniq (E : WC p a b) {x1 y1 x2 y2 l l' : Fin p} (h1 : OnW a b x1 y1) (h : IsSlope a x1 y1 x2 y2 l) (h' : IsSlope a x1 y1 x2 y2 l') : l = l' := by
  have no := E.slope_opp h1 h
  obtain ⟨k1, k2⟩ := h
  obtain ⟨k1', k2'⟩ := h'
  by_cases hx : x1 = x2
  · have hs : y1 + y2 ≠ 0 := fun e => no ⟨hx, e⟩
    exact E.fld.cancel hs (k2.trans k2'.symm)
  · exact E.fld.cancel (sub_ne hx) (k1.symm.trans k1')
theorem IsSlope.symm {x1 y1 x2 y2 l : Fin p} (h : IsSlope a x1 y1 x2 y2 l) : IsSlope a x2 y2 x1 y1 l := by
  obtain ⟨h1, h2⟩ := h
  exact ⟨by grind -lia -linarith -order (splits := 0), by grind -lia -linarith -order (splits := 0)⟩
/-- Where the line's third point is, on the other side. -/
def Third (x1 y1 x2 l x3 y3 : Fin p) : Prop := x3 = l * l - x1 - x2 ∧ y3 = l * (x1 - x3) - y1
theorem third_on {x1 y1 x2 y2 l x3 y3 : Fin p} (h1 : OnW a b x1 y1) (hs : IsSlope a x1 y1 x2 y2 l) (h : Third x1 y1 x2 l x3 y3) : OnW a b x3 y3 := by
  obtain ⟨k1, k2⟩ := hs
  obtain ⟨e1, e2⟩ := h
  unfold OnW at *
  subst e2
  subst e1
  grind -lia -linarith -order (splits := 0)
theorem Third.symm {x1 y1 x2 y2 l x3 y3 : Fin p} (hs : IsSlope a x1 y1 x2 y2 l) (h : Third x1 y1 x2 l x3 y3) : Third x2 y2 x1 l x3 y3 := by
  obtain ⟨k1, k2⟩ := hs
  obtain ⟨e1, e2⟩ := h
  exact ⟨by grind -lia -linarith -order (splits := 0), by grind -lia -linarith -order (splits := 0)⟩

/-- What a sum is. -/
def IsAdd : WP p a b → WP p a b → WP p a b → Prop
  | .inf, Q, R => R = Q
  | P, .inf, R => R = P
  | .pt x1 y1 _, .pt x2 y2 _, .inf => Opp x1 y1 x2 y2
  | .pt x1 y1 _, .pt x2 y2 _, .pt x3 y3 _ => ∃ l, IsSlope a x1 y1 x2 y2 l ∧ Third x1 y1 x2 l x3 y3
theorem isAdd_inf_left {Q R : WP p a b} : IsAdd .inf Q R ↔ R = Q := by cases Q <;> simp [IsAdd]
theorem isAdd_inf_right {P R : WP p a b} : IsAdd P .inf R ↔ R = P := by cases P <;> simp [IsAdd]
theorem WC.add_ex (E : WC p a b) : ∀ P Q : WP p a b, ∃ R, IsAdd P Q R
  | .inf, Q => ⟨Q, isAdd_inf_left.2 rfl⟩
  | .pt x y h, .inf => ⟨.pt x y h, isAdd_inf_right.2 rfl⟩
  | .pt x1 y1 h1, .pt x2 y2 h2 => by
    by_cases ho : Opp x1 y1 x2 y2
    · exact ⟨.inf, ho⟩
    · obtain ⟨l, hl⟩ := E.slope_ex h1 h2 ho
      exact ⟨.pt (l * l - x1 - x2) (l * (x1 - (l * l - x1 - x2)) - y1) (third_on h1 hl ⟨rfl, rfl⟩), l, hl, rfl, rfl⟩
theorem WC.add_uniq (E : WC p a b) : ∀ {P Q R R' : WP p a b}, IsAdd P Q R → IsAdd P Q R' → R = R'
  | .inf, _, _, _, h, h' => (isAdd_inf_left.1 h).trans (isAdd_inf_left.1 h').symm
  | .pt _ _ _, .inf, _, _, h, h' => (isAdd_inf_right.1 h).trans (isAdd_inf_right.1 h').symm
  | .pt x1 y1 h1, .pt x2 y2 h2, .inf, .inf, _, _ => rfl
  | .pt x1 y1 h1, .pt x2 y2 h2, .inf, .pt _ _ _, h, ⟨l, hl, _⟩ => (E.slope_opp h1 hl h).elim
  | .pt x1 y1 h1, .pt x2 y2 h2, .pt _ _ _, .inf, ⟨l, hl, _⟩, h => (E.slope_opp h1 hl h).elim
  | .pt x1 y1 h1, .pt x2 y2 h2, .pt x3 y3 h3, .pt x3' y3' h3', ⟨l, hl, e1, e2⟩, ⟨l', hl', e1', e2'⟩ => by
    have e := E.slope_uniq h1 hl hl'
    subst e
    have ex : x3 = x3' := e1.trans e1'.symm
    subst ex
    exact WP.ext rfl (e2.trans e2'.symm)
theorem isAdd_comm : ∀ {P Q R : WP p a b}, IsAdd P Q R → IsAdd Q P R
  | .inf, Q, _, h => isAdd_inf_right.2 (isAdd_inf_left.1 h)
  | .pt _ _ _, .inf, _, h => isAdd_inf_left.2 (isAdd_inf_right.1 h)
  | .pt x1 y1 h1, .pt x2 y2 h2, .inf, ⟨e1, e2⟩ => ⟨e1.symm, by grind -lia -linarith -order (splits := 0)⟩
  | .pt x1 y1 h1, .pt x2 y2 h2, .pt x3 y3 h3, ⟨l, hl, ht⟩ => ⟨l, hl.symm, ht.symm hl⟩
theorem neg_on {x y : Fin p} (h : OnW a b x y) : OnW a b x (-y) := by
  unfold OnW at *
  grind -lia -linarith -order (splits := 0)
def wneg : WP p a b → WP p a b
  | .inf => .inf
  | .pt x y h => .pt x (-y) (neg_on h)
theorem wneg_neg : ∀ P : WP p a b, wneg (wneg P) = P
  | .inf => rfl
  | .pt x y h => WP.ext rfl (by grind -lia -linarith -order (splits := 0))
theorem isAdd_neg : ∀ P : WP p a b, IsAdd (wneg P) P .inf
  | .inf => rfl
  | .pt x y h => ⟨rfl, by grind -lia -linarith -order (splits := 0)⟩
theorem isAdd_negs : ∀ {P Q R : WP p a b}, IsAdd P Q R → IsAdd (wneg P) (wneg Q) (wneg R)
  | .inf, Q, R, h => by rw [isAdd_inf_left.1 h]; exact isAdd_inf_left.2 rfl
  | .pt _ _ _, .inf, R, h => by rw [isAdd_inf_right.1 h]; exact isAdd_inf_right.2 rfl
  | .pt x1 y1 h1, .pt x2 y2 h2, .inf, ⟨e1, e2⟩ => ⟨e1, by grind -lia -linarith -order (splits := 0)⟩
  | .pt x1 y1 h1, .pt x2 y2 h2, .pt x3 y3 h3, ⟨l, ⟨k1, k2⟩, ⟨t1, t2⟩⟩ => ⟨-l, ⟨by grind -lia -linarith -order (splits := 0), by grind -lia -linarith -order (splits := 0)⟩, ⟨by grind -lia -linarith -order (splits := 0), by grind -lia -linarith -order (splits := 0)⟩⟩
theorem slope_back {x1 y1 x3 y3 l u v : Fin p} (hs : IsSlope a x1 (-y1) x3 y3 l) (ht : Third x1 (-y1) x3 l u v) : IsSlope a x1 y1 u v (-l) ∧ Third x1 y1 u (-l) x3 y3 := by
  obtain ⟨k1, k2⟩ := hs
  obtain ⟨t1, t2⟩ := ht
  refine ⟨⟨?_, ?_⟩, ?_, ?_⟩
  · grind -lia -linarith -order (splits := 0)
  · subst t2; subst t1; grind -lia -linarith -order (splits := 0)
  · grind -lia -linarith -order (splits := 0)
  · grind -lia -linarith -order (splits := 0)
/-- What was taken away may be added again. -/
theorem isAdd_back : ∀ {P R T : WP p a b}, IsAdd (wneg P) R T → IsAdd P T R
  | .inf, R, T, h => by rw [isAdd_inf_left.1 h]; exact isAdd_inf_left.2 rfl
  | .pt x y h, .inf, T, k => by
    rw [isAdd_inf_right.1 k]
    exact isAdd_comm (isAdd_neg (.pt x y h))
  | .pt x1 y1 h1, .pt x3 y3 h3, .inf, ⟨e1, e2⟩ => isAdd_inf_right.2 (WP.ext e1.symm (by grind -lia -linarith -order (splits := 0)))
  | .pt x1 y1 h1, .pt x3 y3 h3, .pt u v h, ⟨l, hl, ht⟩ => ⟨-l, slope_back hl ht⟩

theorem coreS {x1 y1 x2 y2 x3 y3 l m s t k : Fin p} (oS : OnW a b s t) (o3 : OnW a b x3 y3) (hl : IsSlope a x1 y1 x2 y2 l) (hm : IsSlope a x2 y2 x3 y3 m) (hs : Third x1 y1 x2 l s t) (F : Fld p) (hd : l - m ≠ 0) (hk : k * (l - m) = x3 - x1) : IsSlope a s t x3 y3 (-l - k) := by
  obtain ⟨l1, l2⟩ := hl
  obtain ⟨m1, m2⟩ := hm
  obtain ⟨s1, s2⟩ := hs
  unfold OnW at oS o3
  have H1 : t - y3 = (-l - k) * (s - x3) := by
    have r1 : l * (y1 + y2) - m * (y2 + y3) = (x1 - x3) * (x1 + x2 + x3) := by rw [l2, m2]; grind -lia -linarith -order (splits := 0)
    have r2 : l * (y2 - y3) = l * m * (x2 - x3) := by rw [m1]; grind -lia -linarith -order (splits := 0)
    have r3 : m * (y1 - y2) = l * m * (x1 - x2) := by rw [l1]; grind -lia -linarith -order (splits := 0)
    have r4 : (x1 - x3) * (x1 + x2 + x3 - l * m) = (y1 + y3) * (l - m) := by
      have q1 : (x1 - x3) * (x1 + x2 + x3 - l * m) = (x1 - x3) * (x1 + x2 + x3) - l * m * (x1 - x3) := by grind -lia -linarith -order (splits := 0)
      have q2 : l * (y1 + y2) - m * (y2 + y3) - l * m * (x1 - x3) = l * (y2 - y3) + m * (y1 - y2) + (y1 + y3) * (l - m) - l * m * (x1 - x3) := by clear l1 l2 m1 m2 s1 s2 oS o3 hk r1 r2 r3 q1 hd; grind -lia -linarith -order (splits := 0)
      rw [q1, ← r1, q2, r2, r3]
      clear l1 l2 m1 m2 s1 s2 oS o3 hk r1 r2 r3 q1 q2 hd
      grind -lia -linarith -order (splits := 0)
    refine F.cancel hd ?_
    have r5 : (-l - k) * (s - x3) * (l - m) = (-(l * (l - m)) - k * (l - m)) * (s - x3) := by grind -lia -linarith -order (splits := 0)
    rw [r5, hk]
    clear l1 l2 m1 m2 oS o3 hk r1 r2 r3 r5
    subst s2; subst s1
    grind -lia -linarith -order (splits := 0)
  refine ⟨H1, ?_⟩
  by_cases hA : s = x3
  · have e1 : t = y3 := by clear l1 l2 m1 m2 s1 s2 oS o3 hk; grind -lia -linarith -order (splits := 0)
    have e2 : y1 = l * (x1 - x3) - y3 := by clear l1 l2 m1 m2 oS o3 hk; grind -lia -linarith -order (splits := 0)
    have e3 : l * l = x1 + x2 + x3 := by clear l1 l2 m1 m2 oS o3 hk; grind -lia -linarith -order (splits := 0)
    have e4 : y2 = l * (x2 - x3) - y3 := by clear l2 m1 m2 oS o3 hk; grind -lia -linarith -order (splits := 0)
    have e5 : (l - m) * (x3 - x2) = -2 * y3 := by clear l2 m2 oS o3 hk l1; grind -lia -linarith -order (splits := 0)
    have e6 : a = x1 * x2 - x1 * x3 - x2 * x3 - 2 * (x3 * x3) - 2 * (l * y3) := by
      have : l * (y1 + y2) = l * l * (x1 + x2 - 2 * x3) - 2 * (l * y3) := by rw [e2, e4]; grind -lia -linarith -order (splits := 0)
      rw [e3] at this
      have q : a = l * (y1 + y2) - (x1 * x1 + x1 * x2 + x2 * x2) := by rw [l2]; clear oS o3 hk m1 m2 l1 l2 H1 e2 e4 e3 e5 s1 s2 hA e1 this hd; grind -lia -linarith -order (splits := 0)
      rw [q, this]
      clear oS o3 hk m1 m2 l1 l2 H1 e2 e4 e3 e5 s1 s2 hA e1 this hd q
      grind -lia -linarith -order (splits := 0)
    refine F.cancel hd ?_
    have e7 : k * (l - m) * (-2 * y3) = (x3 - x1) * (l - m) * (x3 - x2) := by rw [hk, ← e5]; grind -lia -linarith -order (splits := 0)
    rw [hA, e1]
    clear oS o3 m1 m2 l1 l2 H1 e2 e4 e3 e5 s1 s2
    subst e6
    grind -lia -linarith -order (splits := 0)
  · refine F.cancel (sub_ne hA) ?_
    have e : (-l - k) * (t + y3) * (s - x3) = (-l - k) * (s - x3) * (t + y3) := by grind -lia -linarith -order (splits := 0)
    rw [e, ← H1]
    clear l1 l2 m1 m2 s1 s2 hk e H1
    grind -lia -linarith -order (splits := 0)
theorem coreT {x1 y1 x2 y2 x3 y3 l m u v k : Fin p} (o1 : OnW a b x1 y1) (oT : OnW a b u v) (hl : IsSlope a x1 y1 x2 y2 l) (hm : IsSlope a x2 y2 x3 y3 m) (ht : Third x2 y2 x3 m u v) (F : Fld p) (hd : l - m ≠ 0) (hk : k * (l - m) = x3 - x1) : IsSlope a x1 y1 u v (-m - k) := by
  have h := coreS oT o1 hm.symm hl.symm (ht.symm hm) F (k := k) (fun e => hd (by grind -lia -linarith -order (splits := 0))) (by grind -lia -linarith -order (splits := 0))
  exact h.symm
theorem coreY {x1 y1 x2 y2 x3 y3 l m s k X : Fin p} (hk : k * (l - m) = x3 - x1) (H1 : l * (x1 - s) - y1 - y3 = (-l - k) * (s - x3)) (c1 : s = l * l - x1 - x2) (a1 : y1 - y2 = l * (x1 - x2)) (b1 : y2 - y3 = m * (x2 - x3))
    (e1 : X = (-l - k) * (-l - k) - s - x3) : (-l - k) * (s - X) - (l * (x1 - s) - y1) = (-m - k) * (x1 - X) - y1 := by
  have k2 : k * (x3 - s) = l * (x1 - x3) - y1 - y3 := by
    have q : k * (x3 - s) = (-l - k) * (s - x3) + l * (s - x3) := by clear hk H1 c1 a1 b1 e1; grind -lia -linarith -order (splits := 0)
    rw [q, ← H1]; clear hk H1 c1 a1 b1 e1 q; grind -lia -linarith -order (splits := 0)
  have l2 : l * l = s + x1 + x2 := by rw [c1]; clear hk H1 c1 a1 b1 e1 k2; grind -lia -linarith -order (splits := 0)
  have bx : X * (l - m) = l * l * (l - m) + 2 * l * (k * (l - m)) + k * (k * (l - m)) - (s + x3) * (l - m) := by rw [e1]; clear hk H1 c1 a1 b1 e1 k2 l2; grind -lia -linarith -order (splits := 0)
  rw [hk, l2] at bx
  have big : (-l - k) * (s - X) - (l * (x1 - s) - y1) - ((-m - k) * (x1 - X) - y1) = X * (l - m) - k * (s - x1) - (l - m) * x1 + 2 * y1 := by clear hk H1 c1 a1 b1 e1 k2 l2 bx; grind -lia -linarith -order (splits := 0)
  rw [bx] at big
  have q3 : (s + x1 + x2) * (l - m) + 2 * l * (x3 - x1) + k * (x3 - x1) - (s + x3) * (l - m) - k * (s - x1) - (l - m) * x1 + 2 * y1 = (x2 - x3) * (l - m) + 2 * l * (x3 - x1) + k * (x3 - s) + 2 * y1 := by
    clear hk H1 c1 a1 b1 e1 k2 l2 bx big; grind -lia -linarith -order (splits := 0)
  rw [q3, k2] at big
  have q4 : (x2 - x3) * (l - m) + 2 * l * (x3 - x1) + (l * (x1 - x3) - y1 - y3) + 2 * y1 = (y1 - y2) - l * (x1 - x2) + ((y2 - y3) - m * (x2 - x3)) := by
    clear hk H1 c1 a1 b1 e1 k2 l2 bx big q3; grind -lia -linarith -order (splits := 0)
  rw [q4, a1, b1] at big
  clear hk H1 c1 a1 b1 e1 k2 l2 bx q3 q4
  grind -lia -linarith -order (splits := 0)
theorem WC.core (E : WC p a b) {x1 y1 x2 y2 x3 y3 l m s t u v f g X Y X' Y' : Fin p} (h1 : OnW a b x1 y1) (h3 : OnW a b x3 y3) (hS : OnW a b s t) (hT : OnW a b u v)
    (hl : IsSlope a x1 y1 x2 y2 l) (hm : IsSlope a x2 y2 x3 y3 m) (hs : Third x1 y1 x2 l s t) (ht : Third x2 y2 x3 m u v)
    (hf : IsSlope a s t x3 y3 f) (hg : IsSlope a x1 y1 u v g) (hX : Third s t x3 f X Y) (hX' : Third x1 y1 u g X' Y') : X = X' ∧ Y = Y' := by
  by_cases hd : l - m = 0
  · have e : l = m := by grind -lia -linarith -order (splits := 0)
    subst e
    by_cases hx : x1 = x3
    · subst hx
      have ey : y1 = y3 := by
        obtain ⟨a1, _⟩ := hl
        obtain ⟨a2, _⟩ := hm
        grind -lia -linarith -order (splits := 0)
      subst ey
      have hts := ht.symm hm
      have es : s = u := hs.1.trans hts.1.symm
      subst es
      have et : t = v := hs.2.trans hts.2.symm
      subst et
      have ef := E.slope_uniq hS hf hg.symm
      subst ef
      have h2 := hX.symm hf
      have eX : X = X' := h2.1.trans hX'.1.symm
      subst eX
      exact ⟨rfl, h2.2.trans hX'.2.symm⟩
    · exfalso
      refine E.slope_opp hS hf ?_
      clear hd
      have hd := trivial
      obtain ⟨a1, a2⟩ := hl
      obtain ⟨b1, b2⟩ := hm
      obtain ⟨c1, c2⟩ := hs
      have e : s = x3 := by
        refine E.fld.cancel (sub_ne hx) ?_
        clear hf hg hX hX' ht h1 h3 hS hT c2 E hd hx
        have r1 : y1 - y3 = l * (x1 - x3) := by
          have : y1 - y3 = (y1 - y2) + (y2 - y3) := by clear a1 a2 b1 b2 c1; grind -lia -linarith -order (splits := 0)
          rw [this, a1, b1]; clear a1 a2 b1 b2 c1 this; grind -lia -linarith -order (splits := 0)
        have r2 : l * (y1 - y3) = (x1 - x3) * (x1 + x2 + x3) := by
          have : l * (y1 - y3) = l * (y1 + y2) - l * (y2 + y3) := by clear a1 a2 b1 b2 c1 r1; grind -lia -linarith -order (splits := 0)
          rw [this, a2, b2]; clear a1 a2 b1 b2 c1 this r1; grind -lia -linarith -order (splits := 0)
        rw [r1] at r2
        have r3 : s * (x1 - x3) = l * (l * (x1 - x3)) - (x1 + x2) * (x1 - x3) := by rw [c1]; clear a1 a2 b1 b2 c1 r1 r2; grind -lia -linarith -order (splits := 0)
        rw [r3, r2]
        clear a1 a2 b1 b2 c1 r1 r2 r3
        grind -lia -linarith -order (splits := 0)
      refine ⟨e, ?_⟩
      rw [c2, e]
      have r1 : y1 - y3 = l * (x1 - x3) := by
        have : y1 - y3 = (y1 - y2) + (y2 - y3) := by clear a1 a2 b1 b2 c1 c2; grind -lia -linarith -order (splits := 0)
        rw [this, a1, b1]; clear a1 a2 b1 b2 c1 c2 this; grind -lia -linarith -order (splits := 0)
      rw [← r1]
      clear a1 a2 b1 b2 c1 c2 r1
      grind -lia -linarith -order (splits := 0)
  · obtain ⟨c, hc⟩ := E.fld.inv _ hd
    have hk : (x3 - x1) * c * (l - m) = x3 - x1 := by grind -lia -linarith -order (splits := 0)
    generalize (x3 - x1) * c = k at hk
    have H1 := (coreS hS h3 hl hm hs E.fld hd hk).1
    have ef := E.slope_uniq hS hf (coreS hS h3 hl hm hs E.fld hd hk)
    have eg := E.slope_uniq h1 hg (coreT h1 hT hl hm ht E.fld hd hk)
    clear hf hg
    obtain ⟨a1, a2⟩ := hl
    obtain ⟨b1, b2⟩ := hm
    obtain ⟨c1, c2⟩ := hs
    obtain ⟨d1, d2⟩ := ht
    obtain ⟨e1, e2⟩ := hX
    obtain ⟨e1', e2'⟩ := hX'
    subst ef; subst eg
    have eX : X = X' := by
      rw [e1, e1', c1, d1]
      clear hc h1 h3 hS hT a1 a2 b1 b2 c1 c2 d1 d2 e1 e2 e1' e2' H1 hd E
      have q : (-l - k) * (-l - k) - (l * l - x1 - x2) - x3 = ((-m - k) * (-m - k) - x1 - (m * m - x2 - x3)) + 2 * (k * (l - m)) - 2 * (x3 - x1) := by
        clear hk; grind -lia -linarith -order (splits := 0)
      rw [q, hk]
      grind -lia -linarith -order (splits := 0)
    refine ⟨eX, ?_⟩
    rw [e2, e2', c2, ← eX]
    exact coreY hk (by rw [c2] at H1; exact H1) c1 a1 b1 e1
theorem WC.assoc0 (E : WC p a b) : ∀ {P Q R S T W : WP p a b}, IsAdd P Q S → IsAdd Q R T → IsAdd S R W → IsAdd P T W
  | .inf, Q, R, S, T, W, h1, h2, h3 => by
    rw [isAdd_inf_left.1 h1] at h3
    rw [E.add_uniq h3 h2]; exact isAdd_inf_left.2 rfl
  | .pt x1 y1 o1, .inf, R, S, T, W, h1, h2, h3 => by
    rw [isAdd_inf_right.1 h1] at h3
    rw [isAdd_inf_left.1 h2]; exact h3
  | .pt x1 y1 o1, .pt x2 y2 o2, .inf, S, T, W, h1, h2, h3 => by
    rw [isAdd_inf_right.1 h2, isAdd_inf_right.1 h3]; exact h1
  | .pt x1 y1 o1, .pt x2 y2 o2, .pt x3 y3 o3, .inf, T, W, h1, h2, h3 => by
    have eQ : wneg (WP.pt x1 y1 o1) = WP.pt x2 y2 o2 := WP.ext h1.1 (by have := h1.2; grind -lia -linarith -order (splits := 0))
    rw [isAdd_inf_left.1 h3]
    refine isAdd_back ?_
    rw [eQ]; exact h2
  | .pt x1 y1 o1, .pt x2 y2 o2, .pt x3 y3 o3, .pt s t oS, .inf, W, h1, h2, h3 => by
    have eR : wneg (WP.pt x2 y2 o2) = WP.pt x3 y3 o3 := WP.ext h2.1 (by have := h2.2; grind -lia -linarith -order (splits := 0))
    rw [← eR] at h3
    have hb : IsAdd (wneg (WP.pt x2 y2 o2)) (WP.pt s t oS) (WP.pt x1 y1 o1) := isAdd_back (by rw [wneg_neg]; exact isAdd_comm h1)
    rw [E.add_uniq (isAdd_comm h3) hb]
    exact isAdd_inf_right.2 rfl
  | .pt x1 y1 o1, .pt x2 y2 o2, .pt x3 y3 o3, .pt s t oS, .pt u v oT, .inf, h1, h2, h3 => by
    have eR : wneg (WP.pt s t oS) = WP.pt x3 y3 o3 := WP.ext h3.1 (by have := h3.2; grind -lia -linarith -order (splits := 0))
    have hb : IsAdd (wneg (WP.pt x2 y2 o2)) (WP.pt s t oS) (WP.pt x1 y1 o1) := isAdd_back (by rw [wneg_neg]; exact isAdd_comm h1)
    have hn := isAdd_negs hb
    rw [wneg_neg, eR] at hn
    rw [E.add_uniq h2 hn]
    exact isAdd_comm (isAdd_neg _)
  | .pt x1 y1 o1, .pt x2 y2 o2, .pt x3 y3 o3, .pt s t oS, .pt u v oT, .pt X Y oX, h1, h2, h3 => by
    by_cases ho : Opp x1 y1 u v
    · exfalso
      have eT : wneg (WP.pt x1 y1 o1) = WP.pt u v oT := WP.ext ho.1 (by have := ho.2; grind -lia -linarith -order (splits := 0))
      rw [← eT] at h2
      have hb : IsAdd (wneg (WP.pt x3 y3 o3)) (wneg (WP.pt x1 y1 o1)) (WP.pt x2 y2 o2) := isAdd_back (by rw [wneg_neg]; exact isAdd_comm h2)
      have hb2 : IsAdd (WP.pt x1 y1 o1) (WP.pt x2 y2 o2) (wneg (WP.pt x3 y3 o3)) := isAdd_back (isAdd_comm hb)
      rw [E.add_uniq h1 hb2] at h3
      have := E.add_uniq h3 (isAdd_neg _)
      cases this
    · obtain ⟨g, hg⟩ := E.slope_ex o1 oT ho
      obtain ⟨l, hl, hs⟩ := h1
      obtain ⟨m, hm, ht⟩ := h2
      obtain ⟨f, hf, hX⟩ := h3
      have hk := E.core o1 o3 oS oT hl hm hs ht hf hg hX ⟨rfl, rfl⟩
      refine ⟨g, hg, ?_, ?_⟩
      · exact hk.1
      · rw [hk.1]; exact hk.2
noncomputable def WC.add (E : WC p a b) (P Q : WP p a b) : WP p a b := Classical.choose (E.add_ex P Q)
theorem WC.add_is (E : WC p a b) (P Q : WP p a b) : IsAdd P Q (E.add P Q) := Classical.choose_spec (E.add_ex P Q)
theorem WC.add_eq (E : WC p a b) {P Q R : WP p a b} (h : IsAdd P Q R) : E.add P Q = R := E.add_uniq (E.add_is P Q) h
noncomputable def WC.grp (E : WC p a b) : Grp (WP p a b) where
  add := E.add
  zero := .inf
  neg := wneg
  comm P Q := E.add_eq (isAdd_comm (E.add_is Q P))
  assoc P Q R := (E.add_eq (E.assoc0 (E.add_is P Q) (E.add_is Q R) (E.add_is (E.add P Q) R))).symm
  zadd P := E.add_eq (isAdd_inf_left.2 rfl)
  nadd P := E.add_eq (isAdd_neg P)
end
end Go.Alg
/- Points of a curve y² = x³ - 3 x + b as x by z², y by z³: sums and doubles, as they are computed, are those of the group. -/
namespace Go.Alg
section
variable {p : Nat} [NeZero p]
structure J (p : Nat) where
  x : Fin p
  y : Fin p
  z : Fin p
/-- The double, as the program has it. -/
def jdbl (P : J p) : J p :=
  let delta := P.z * P.z
  let gamma := P.y * P.y
  let beta := P.x * gamma
  let a := (P.x - delta) * (P.x + delta)
  let alpha := a + (a + a)
  let b4 := beta + beta + (beta + beta)
  let x := alpha * alpha - (b4 + b4)
  let s := P.y + P.z
  let g := gamma * gamma
  let g4 := g + g + (g + g)
  ⟨x, alpha * (b4 - x) - (g4 + g4), s * s - gamma - delta⟩
def jzero : J p := ⟨1, 1, 0⟩
/-- The double, as the document has it. -/
def rdbl (P : J p) : J p :=
  if P.z = 0 then jzero else if P.y = 0 then jzero else
  let z2 := P.z * P.z
  let top := 3 * (P.x * P.x - z2 * z2)
  let low := 2 * P.y
  let l2 := low * low
  let xx := P.x * l2
  let x := top * top - 2 * xx
  ⟨x, top * (xx - x) - P.y * (l2 * low), low * P.z⟩
def jchord (P Q : J p) : J p :=
  let z1 := P.z * P.z
  let z2 := Q.z * Q.z
  let u1 := P.x * z2
  let s1 := P.y * (z2 * Q.z)
  let h := Q.x * z1 - u1
  let d := Q.y * (z1 * P.z) - s1
  let h2 := h * h
  let h3 := h2 * h
  let v := u1 * h2
  let x := d * d - h3 - (v + v)
  ⟨x, d * (v - x) - s1 * h3, h * (P.z * Q.z)⟩
def jaddW (dbl : J p → J p) (P Q : J p) : J p :=
  if P.z = 0 then Q else if Q.z = 0 then P
  else if P.x * (Q.z * Q.z) = Q.x * (P.z * P.z) then (if P.y * (Q.z * Q.z * Q.z) = Q.y * (P.z * P.z * P.z) then dbl P else jzero)
  else jchord P Q
def jadd (P Q : J p) : J p := jaddW jdbl P Q
def radd (P Q : J p) : J p := jaddW rdbl P Q
def jneg (P : J p) : J p := ⟨P.x, 0 - P.y, P.z⟩
/-- The program's against the document's: both are nought, or they are the same. -/
def JR (P Q : J p) : Prop := (P.z = 0 ∧ Q.z = 0) ∨ P = Q
theorem JR.refl (P : J p) : JR P P := .inr rfl
theorem jdbl_z (P : J p) : (jdbl P).z = 2 * P.y * P.z := by
  simp only [jdbl]
  grind -lia -linarith -order (splits := 0)
theorem JR.dbl {P Q : J p} (h : JR P Q) : JR (jdbl P) (rdbl Q) := by
  have key : ∀ P : J p, JR (jdbl P) (rdbl P) := fun P => by
    unfold rdbl
    by_cases hz : P.z = 0
    · rw [if_pos hz]
      exact .inl ⟨by rw [jdbl_z, hz]; grind -lia -linarith -order (splits := 0), rfl⟩
    · rw [if_neg hz]
      by_cases hy : P.y = 0
      · rw [if_pos hy]
        exact .inl ⟨by rw [jdbl_z, hy]; grind -lia -linarith -order (splits := 0), rfl⟩
      · rw [if_neg hy]
        right
        simp only [jdbl, J.mk.injEq]
        refine ⟨?_, ?_, ?_⟩ <;> grind -lia -linarith -order (splits := 0)
  rcases h with ⟨h1, h2⟩ | h
  · left
    refine ⟨by rw [jdbl_z, h1]; grind -lia -linarith -order (splits := 0), ?_⟩
    unfold rdbl
    rw [if_pos h2]; rfl
  · rw [h]; exact key Q
theorem JR.add {P P' Q Q' : J p} (h : JR P P') (k : JR Q Q') : JR (jadd P Q) (radd P' Q') := by
  unfold jadd radd jaddW
  rcases h with ⟨h1, h2⟩ | h
  · rw [if_pos h1, if_pos h2]; exact k
  · subst h
    by_cases hz : P.z = 0
    · rw [if_pos hz, if_pos hz]; exact k
    · rw [if_neg hz, if_neg hz]
      rcases k with ⟨k1, k2⟩ | k
      · rw [if_pos k1, if_pos k2]; exact .inr rfl
      · subst k
        by_cases hz2 : Q.z = 0
        · rw [if_pos hz2, if_pos hz2]; exact .inr rfl
        · rw [if_neg hz2, if_neg hz2]
          split
          · split
            · exact (JR.refl P).dbl
            · exact .inr rfl
          · exact .inr rfl
theorem JR.neg {P Q : J p} (h : JR P Q) : JR (jneg P) (jneg Q) := by
  rcases h with ⟨h1, h2⟩ | h
  · exact .inl ⟨h1, h2⟩
  · rw [h]; exact .inr rfl

/-! What a point is. -/
variable {b : Fin p}
/-- It is the point of a group. -/
def Den (P : J p) : WP p (-3) b → Prop
  | .inf => P.z = 0
  | .pt x y _ => P.z ≠ 0 ∧ P.x = x * (P.z * P.z) ∧ P.y = y * (P.z * P.z * P.z)
theorem WC.den_dbl (E : WC p (-3) b) {P : J p} : ∀ {W : WP p (-3) b}, Den P W → Den (jdbl P) (E.add W W)
  | .inf, h => by
    rw [E.add_eq (isAdd_inf_left.2 rfl)]
    show (jdbl P).z = 0
    have h' : P.z = 0 := h
    rw [jdbl_z, h']; grind -lia -linarith -order (splits := 0)
  | .pt x y on, ⟨h1, h2, h3⟩ => by
    have hy := E.y_ne on
    have hw := E.add_is (.pt x y on) (.pt x y on)
    revert hw
    generalize E.add (.pt x y on) (.pt x y on) = R
    intro hw
    cases R with
    | inf => exact (E.y2_ne on hw.2).elim
    | pt X Y oR =>
      obtain ⟨l, ⟨_, hl⟩, t1, t2⟩ := hw
      refine ⟨?_, ?_, ?_⟩
      · rw [jdbl_z, h3]
        exact E.fld.mul_ne (E.fld.mul_ne E.two (E.fld.mul_ne hy (E.fld.mul_ne (E.fld.sq_ne h1) h1))) h1
      · rw [jdbl_z]
        simp only [jdbl]
        rw [h2, h3]
        subst t2; subst t1
        generalize P.z = z
        clear on oR h1 h2 h3 hy
        grind -lia -linarith -order (splits := 0)
      · rw [jdbl_z]
        simp only [jdbl]
        rw [h2, h3]
        subst t2; subst t1
        generalize P.z = z
        clear on oR h1 h2 h3 hy
        grind -lia -linarith -order (splits := 0)
theorem WC.den_add (E : WC p (-3) b) {P Q : J p} : ∀ {W V : WP p (-3) b}, Den P W → Den Q V → Den (jadd P Q) (E.add W V)
  | .inf, V, h, k => by
    rw [E.add_eq (isAdd_inf_left.2 rfl)]
    unfold jadd jaddW
    rw [if_pos (show P.z = 0 from h)]; exact k
  | .pt x y on, .inf, h, k => by
    rw [E.add_eq (isAdd_inf_right.2 rfl)]
    unfold jadd jaddW
    rw [if_neg h.1, if_pos (show Q.z = 0 from k)]; exact h
  | .pt x1 y1 o1, .pt x2 y2 o2, h, k => by
    have hd := E.den_dbl h
    obtain ⟨h1, h2, h3⟩ := h
    obtain ⟨k1, k2, k3⟩ := k
    unfold jadd jaddW
    rw [if_neg h1, if_neg k1]
    have hzz : P.z * P.z * (Q.z * Q.z) ≠ 0 := E.fld.mul_ne (E.fld.sq_ne h1) (E.fld.sq_ne k1)
    have hzzz : P.z * P.z * P.z * (Q.z * Q.z * Q.z) ≠ 0 := E.fld.mul_ne (E.fld.mul_ne (E.fld.sq_ne h1) h1) (E.fld.mul_ne (E.fld.sq_ne k1) k1)
    by_cases hx : x1 = x2
    · have e1 : P.x * (Q.z * Q.z) = Q.x * (P.z * P.z) := by rw [h2, k2, hx]; grind -lia -linarith -order (splits := 0)
      rw [if_pos e1]
      by_cases hy : y1 = y2
      · have e2 : P.y * (Q.z * Q.z * Q.z) = Q.y * (P.z * P.z * P.z) := by rw [h3, k3, hy]; grind -lia -linarith -order (splits := 0)
        rw [if_pos e2]
        subst hx; subst hy
        exact hd
      · have e2 : ¬ P.y * (Q.z * Q.z * Q.z) = Q.y * (P.z * P.z * P.z) := fun e => hy (by
          rw [h3, k3] at e
          refine E.fld.cancel hzzz ?_
          grind -lia -linarith -order (splits := 0))
        rw [if_neg e2]
        have e3 : y1 + y2 = 0 := by
          subst hx
          unfold OnW at o1 o2
          have : (y1 - y2) * (y1 + y2) = 0 := by grind -lia -linarith -order (splits := 0)
          exact (E.fld.nzd this).resolve_left (sub_ne hy)
        rw [E.add_eq (P := .pt x1 y1 o1) (Q := .pt x2 y2 o2) (R := .inf) ⟨hx, e3⟩]
        rfl
    · have e1 : ¬ P.x * (Q.z * Q.z) = Q.x * (P.z * P.z) := fun e => hx (by
        rw [h2, k2] at e
        refine E.fld.cancel hzz ?_
        grind -lia -linarith -order (splits := 0))
      rw [if_neg e1]
      have hw := E.add_is (.pt x1 y1 o1) (.pt x2 y2 o2)
      revert hw
      generalize E.add (.pt x1 y1 o1) (.pt x2 y2 o2) = R
      intro hw
      cases R with
      | inf => exact (hx hw.1).elim
      | pt X Y oR =>
        obtain ⟨l, ⟨hl, _⟩, t1, t2⟩ := hw
        refine ⟨?_, ?_, ?_⟩
        · simp only [jchord]
          exact E.fld.mul_ne (sub_ne (fun e => e1 e.symm)) (E.fld.mul_ne h1 k1)
        · simp only [jchord]
          rw [h2, h3, k2, k3]
          subst t2; subst t1
          generalize P.z = z
          generalize Q.z = w
          have e : y1 = y2 + l * (x1 - x2) := by grind -lia -linarith -order (splits := 0)
          subst e
          clear o1 o2 oR h1 h2 h3 k1 k2 k3 hzz hzzz hx e1 hd hl
          grind -lia -linarith -order (splits := 0)
        · simp only [jchord]
          rw [h2, h3, k2, k3]
          subst t2; subst t1
          generalize P.z = z
          generalize Q.z = w
          have e : y1 = y2 + l * (x1 - x2) := by grind -lia -linarith -order (splits := 0)
          subst e
          clear o1 o2 oR h1 h2 h3 k1 k2 k3 hzz hzzz hx e1 hd hl
          grind -lia -linarith -order (splits := 0)
theorem den_zero : Den (jzero : J p) (.inf : WP p (-3) b) := rfl
theorem den_neg {P : J p} : ∀ {W : WP p (-3) b}, Den P W → Den (jneg P) (wneg W)
  | .inf, h => h
  | .pt x y on, ⟨h1, h2, h3⟩ => ⟨h1, h2, by simp only [jneg]; rw [h3]; grind -lia -linarith -order (splits := 0)⟩
end
end Go.Alg
/- Package prime and its reference: points as points over the field of p. -/
set_option maxRecDepth 10000
namespace Go.Proofs.YtficbeeoafiiaaaGreatDoor.P12
open Go.Sym Go.Dig R1 Go.Alg

instance : NeZero pN := ⟨by have := pN_pos; omega⟩
/-- The field. -/
abbrev K := Fin pN
noncomputable def fe (n : Nat) : K := Fin.ofNat pN n
theorem fe_val (n : Nat) : (fe n).val = n % pN := rfl
theorem fe_eq {a b : Nat} : fe a = fe b ↔ a % pN = b % pN := by rw [Fin.ext_iff]; rfl
theorem fe_mod (n : Nat) : fe (n % pN) = fe n := fe_eq.2 (Nat.mod_mod _ _)
theorem fe_of (x : K) : fe x.val = x := Fin.ext (Nat.mod_eq_of_lt x.isLt)
theorem fe_lt {n : Nat} (h : n < pN) : (fe n).val = n := Nat.mod_eq_of_lt h
theorem fe_add (a b : Nat) : fe (a + b) = fe a + fe b := by
  rw [Fin.ext_iff, Fin.val_add]; simp only [fe_val]; rw [Nat.add_mod]
theorem fe_mul (a b : Nat) : fe (a * b) = fe a * fe b := by
  rw [Fin.ext_iff, Fin.val_mul]; simp only [fe_val]; rw [Nat.mul_mod]
theorem fe_zero : fe 0 = 0 := rfl
theorem fe_pN : fe pN = 0 := by rw [Fin.ext_iff]; show pN % pN = 0 % pN; rw [Nat.mod_self, Nat.zero_mod]
theorem fe_sub {a b : Nat} (h : b ≤ a) : fe (a - b) = fe a - fe b := by
  have e : fe a = fe (a - b) + fe b := by rw [← fe_add]; congr 1; omega
  rw [e]; grind -lia -linarith -order (splits := 0)
theorem fe_inj {a b : Nat} (ha : a < pN) (hb : b < pN) (h : fe a = fe b) : a = b := by
  have := fe_eq.1 h
  rwa [Nat.mod_eq_of_lt ha, Nat.mod_eq_of_lt hb] at this
theorem fe_one : fe 1 = 1 := by
  rw [Fin.ext_iff]; rfl
theorem fe_two : fe 2 = 2 := by
  rw [show (2 : Nat) = 1 + 1 from rfl, fe_add, fe_one]; grind -lia -linarith -order (splits := 0)
theorem fe_three : fe 3 = 3 := by
  rw [show (3 : Nat) = 2 + 1 from rfl, fe_add, fe_two, fe_one]; grind -lia -linarith -order (splits := 0)
theorem fe_qM (a b : Nat) : fe (qM a b) = fe a * fe b := by unfold qM; rw [fe_mod, fe_mul]
theorem fe_qA (a b : Nat) : fe (qA a b) = fe a + fe b := by unfold qA; rw [fe_mod, fe_add]
theorem fe_qS {a b : Nat} (h : b < pN) : fe (qS a b) = fe a - fe b := by
  unfold qS
  rw [fe_mod, fe_sub (by omega), fe_add, fe_pN]
  generalize fe a = x
  generalize fe b = y
  grind -lia -linarith -order (splits := 0)

/-! Numerals. -/
theorem nat_mP : nat4 rP.m = pN := by rw [rP_m, mP_eq, pN_eq]; decide +kernel
theorem pN_odd : pN % 2 = 1 := by rw [pN_eq]
/-- Whose numeral it is. -/
noncomputable def phi (a : Four) : K := fe (unR pN (nat4 a))
def Rd (a : Four) : Prop := nat4 a < pN
theorem phi_val (a : Four) : (phi a).val = unR pN (nat4 a) := fe_lt (unR_lt _ pN_pos)
theorem unR_fe (n : Nat) : fe (unR pN n) = fe n * fe (hf pN ^ 256) := by unfold unR; rw [fe_mod, fe_mul]
theorem pT_nat (a b : Four) : nat4 (pT a b) = unR pN (nat4 a * nat4 b) := by unfold pT; rw [onR_good gP, mulR_nat gP, nat_mP]
theorem pA_nat (a b : Four) : nat4 (pA a b) = (nat4 a + nat4 b) % pN := by unfold pA; rw [onR_good gP, plusR_nat gP, nat_mP]
theorem pS_nat (a b : Four) : nat4 (pS a b) = (nat4 a % pN + pN - nat4 b % pN) % pN := by unfold pS; rw [onR_good gP, minusR_nat gP, nat_mP]
theorem pI_nat (a : Four) : nat4 (pI a) = nat4 a * 2 ^ 256 % pN := by unfold pI; rw [onR_good gP, in_nat gP, nat_mP]
theorem pO_nat (a : Four) : nat4 (pO a) = unR pN (nat4 a) := by unfold pO; rw [onR_good gP, out_nat gP, nat_mP]
theorem pE_nat (a e : Four) : nat4 (pE a e) = unR pN (nat4 a) ^ nat4 e * 2 ^ 256 % pN := by unfold pE; rw [onR_good gP, expR_nat gP, nat_mP]
theorem invR_natP (a : Four) : nat4 (invR rP a) = unR (nat4 rP.m) (nat4 a) ^ (nat4 rP.m - 2) * 2 ^ 256 % nat4 rP.m := by
  unfold invR
  rw [onR_good gP, expR_nat gP]
  have h1 := sub_nat rP.m two4; have h2 := sub_borrow rP.m two4
  have l1 := nat4_lt (limb_Sub rP.m two4).1; have l2 := nat4_lt rP.m
  have h3 : nat4 two4 = 2 := rfl
  have := gP.big
  rw [show nat4 (limb_Sub rP.m two4).1 = nat4 rP.m - 2 by omega]
theorem pV_nat (a : Four) : nat4 (pV a) = unR pN (nat4 a) ^ (pN - 2) * 2 ^ 256 % pN := by unfold pV; rw [onR_good gP, invR_natP, nat_mP]
theorem Rd_T (a b : Four) : Rd (pT a b) := by unfold Rd; rw [pT_nat]; exact unR_lt _ pN_pos
theorem Rd_A (a b : Four) : Rd (pA a b) := by unfold Rd; rw [pA_nat]; exact qlt _
theorem Rd_S (a b : Four) : Rd (pS a b) := by unfold Rd; rw [pS_nat]; exact qlt _
theorem Rd_I (a : Four) : Rd (pI a) := by unfold Rd; rw [pI_nat]; exact qlt _
theorem Rd_E (a e : Four) : Rd (pE a e) := by unfold Rd; rw [pE_nat]; exact qlt _
theorem Rd_V (a : Four) : Rd (pV a) := by unfold Rd; rw [pV_nat]; exact qlt _
theorem nat_zero4 : nat4 zero4 = 0 := rfl
theorem Rd_0 : Rd zero4 := pN_pos
theorem phi_T (a b : Four) : phi (pT a b) = phi a * phi b := by
  unfold phi
  rw [pT_nat, unR_fe, unR_fe, unR_fe, unR_fe, fe_mul]
  generalize fe (hf pN ^ 256) = h
  grind -lia -linarith -order (splits := 0)
theorem phi_A (a b : Four) : phi (pA a b) = phi a + phi b := by
  unfold phi
  rw [pA_nat, unR_fe, unR_fe, unR_fe, fe_mod, fe_add]
  generalize fe (hf pN ^ 256) = h
  grind -lia -linarith -order (splits := 0)
theorem phi_S (a b : Four) : phi (pS a b) = phi a - phi b := by
  unfold phi
  have hb := qlt (nat4 b)
  rw [pS_nat, unR_fe, unR_fe, unR_fe, fe_mod, fe_sub (by omega), fe_add, fe_mod, fe_mod, fe_pN]
  generalize fe (hf pN ^ 256) = h
  generalize fe (nat4 a) = x
  generalize fe (nat4 b) = y
  grind -lia -linarith -order (splits := 0)
theorem phi_I (a : Four) : phi (pI a) = fe (nat4 a) := by
  unfold phi
  rw [pI_nat, unR_mod, unR_mul pN_odd, fe_mod]
theorem phi_0 : phi zero4 = 0 := by
  unfold phi
  rw [nat_zero4, unR_fe, fe_zero]
  grind -lia -linarith -order (splits := 0)
theorem pO_val (a : Four) : nat4 (pO a) = (phi a).val := by rw [pO_nat, phi_val]
theorem phi_E (a e : Four) : phi (pE a e) = fe ((phi a).val ^ nat4 e) := by
  rw [phi_val]
  unfold phi
  rw [pE_nat, unR_mod, unR_mul pN_odd, fe_mod]
theorem phi_V (a : Four) : phi (pV a) = fe ((phi a).val ^ (pN - 2)) := by
  rw [phi_val]
  unfold phi
  rw [pV_nat, unR_mod, unR_mul pN_odd, fe_mod]
theorem phi_inj {a b : Four} (ha : Rd a) (hb : Rd b) (h : phi a = phi b) : a = b := by
  have e : unR pN (nat4 a) = unR pN (nat4 b) := by rw [← phi_val, ← phi_val, h]
  have e1 := unR_back pN_odd (nat4 a)
  have e2 := unR_back pN_odd (nat4 b)
  rw [e] at e1
  apply nat4_inj
  have ha' : nat4 a < pN := ha
  have hb' : nat4 b < pN := hb
  rw [← Nat.mod_eq_of_lt ha', ← Nat.mod_eq_of_lt hb', ← e1, ← e2]
theorem eq4_iff (a b : Four) : eq4 a b = true ↔ a = b := by
  constructor
  · intro h
    unfold eq4 at h
    simp only [Bool.and_eq_true, beq_iff_eq, and_true] at h
    obtain ⟨h0, h1, h2, h3⟩ := h
    cases a; cases b
    simp only at h0 h1 h2 h3
    subst h0; subst h1; subst h2; subst h3; rfl
  · exact eq4_of
theorem eq4_phi {a b : Four} (ha : Rd a) (hb : Rd b) : eq4 a b = true ↔ phi a = phi b := by
  rw [eq4_iff]
  exact ⟨fun h => by rw [h], phi_inj ha hb⟩

/-! Points. -/
noncomputable def jp (p : P3) : J pN := ⟨phi p.x, phi p.y, phi p.z⟩
def P3.Rd (p : P3) : Prop := P12.Rd p.x ∧ P12.Rd p.y ∧ P12.Rd p.z
noncomputable def jr (p : RP) : J pN := ⟨fe p.x, fe p.y, fe p.z⟩
theorem jp_dbl (p : P3) : jp (pDbl p) = jdbl (jp p) := by
  rw [pDbl_eq]
  simp only [jp, pDouble, jdbl, phi_T, phi_A, phi_S]
theorem Rd_dbl (p : P3) : (pDbl p).Rd := by
  rw [pDbl_eq]
  exact ⟨Rd_S _ _, Rd_S _ _, Rd_S _ _⟩
theorem phi_One : phi pOne = 1 := by
  unfold pOne
  rw [phi_I, ← fe_one]; rfl
theorem jp_zero : jp pZero = jzero := by
  simp only [jp, pZero, jzero, phi_One, phi_0]
theorem Rd_zero : pZero.Rd := ⟨Rd_I _, Rd_I _, Rd_0⟩
theorem z_zero {a : Four} (h : Rd a) : eq4 a zero4 = true ↔ phi a = 0 := by rw [eq4_phi h Rd_0, phi_0]
theorem jp_add {p q : P3} (hp : p.Rd) (hq : q.Rd) : jp (pAdd p q) = jadd (jp p) (jp q) := by
  rw [pAdd_eq]
  unfold pAdd0 jadd jaddW
  have e1 : eq4 p.z zero4 = true ↔ (jp p).z = 0 := z_zero hp.2.2
  have e2 : eq4 q.z zero4 = true ↔ (jp q).z = 0 := z_zero hq.2.2
  have e3 : addU p q = true ↔ (jp p).x * ((jp q).z * (jp q).z) = (jp q).x * ((jp p).z * (jp p).z) := by
    unfold addU
    rw [eq4_phi (Rd_T _ _) (Rd_T _ _)]
    simp only [phi_T, jp]
  have e4 : addS p q = true ↔ (jp p).y * ((jp q).z * (jp q).z * (jp q).z) = (jp q).y * ((jp p).z * (jp p).z * (jp p).z) := by
    unfold addS
    rw [eq4_phi (Rd_T _ _) (Rd_T _ _)]
    simp only [phi_T, jp]
  by_cases h1 : eq4 p.z zero4 = true
  · rw [if_pos h1, if_pos (e1.1 h1)]
  · rw [if_neg h1, if_neg (fun h => h1 (e1.2 h))]
    by_cases h2 : eq4 q.z zero4 = true
    · rw [if_pos h2, if_pos (e2.1 h2)]
    · rw [if_neg h2, if_neg (fun h => h2 (e2.2 h))]
      by_cases h3 : addU p q = true
      · rw [if_pos h3, if_pos (e3.1 h3)]
        by_cases h4 : addS p q = true
        · rw [if_pos h4, if_pos (e4.1 h4)]; exact jp_dbl p
        · rw [if_neg h4, if_neg (fun h => h4 (e4.2 h))]; exact jp_zero
      · rw [if_neg h3, if_neg (fun h => h3 (e3.2 h))]
        simp only [jp, pChord, jchord, phi_T, phi_A, phi_S]
theorem Rd_add {p q : P3} (hp : p.Rd) (hq : q.Rd) : (pAdd p q).Rd := by
  rw [pAdd_eq]
  unfold pAdd0
  split
  · exact hq
  · split
    · exact hp
    · split
      · split
        · exact Rd_dbl p
        · exact Rd_zero
      · exact ⟨Rd_S _ _, Rd_S _ _, Rd_T _ _⟩
theorem jp_neg (p : P3) : jp (pNeg p) = jneg (jp p) := by
  rw [pNeg_eq]
  simp only [jp, pNegF, jneg, phi_S, phi_0]
theorem Rd_neg {p : P3} (hp : p.Rd) : (pNeg p).Rd := by
  rw [pNeg_eq]
  exact ⟨hp.1, Rd_S _ _, hp.2.2⟩
theorem fe_z {n : Nat} (h : n < pN) : n = 0 ↔ fe n = 0 := ⟨fun e => by rw [e, fe_zero], fun e => fe_inj h pN_pos (by rw [e, fe_zero])⟩
theorem jr_zero : jr rZero = jzero := by
  simp only [jr, rZero, jzero, fe_one, fe_zero]
theorem jr_dbl {p : RP} (hp : p.Ok) : jr (rDbl p) = rdbl (jr p) := by
  rw [rDbl_eq]
  unfold rDbl0 rdbl
  have e1 : p.z = 0 ↔ (jr p).z = 0 := fe_z hp.2.2
  have e2 : p.y = 0 ↔ (jr p).y = 0 := fe_z hp.2.1
  by_cases h1 : p.z = 0
  · rw [if_pos h1, if_pos (e1.1 h1)]; exact jr_zero
  · rw [if_neg h1, if_neg (fun h => h1 (e1.2 h))]
    by_cases h2 : p.y = 0
    · rw [if_pos h2, if_pos (e2.1 h2)]; exact jr_zero
    · rw [if_neg h2, if_neg (fun h => h2 (e2.2 h))]
      simp only [jr, rDblF, fe_qM, fe_qS (qM_lt _ _), fe_qS (qS_lt _ _), fe_two, fe_three]
theorem jr_add {p q : RP} (hp : p.Ok) (hq : q.Ok) : jr (rAdd p q) = radd (jr p) (jr q) := by
  rw [rAdd_eq]
  unfold rAdd0 radd jaddW
  have e1 : p.z = 0 ↔ (jr p).z = 0 := fe_z hp.2.2
  have e2 : q.z = 0 ↔ (jr q).z = 0 := fe_z hq.2.2
  have e3 : rU p q ↔ (jr p).x * ((jr q).z * (jr q).z) = (jr q).x * ((jr p).z * (jr p).z) := by
    unfold rU
    constructor
    · intro h
      have := congrArg fe h
      simpa only [fe_qM, jr] using this
    · intro h
      refine fe_inj (qM_lt _ _) (qM_lt _ _) ?_
      simpa only [fe_qM, jr] using h
  have e4 : rS p q ↔ (jr p).y * ((jr q).z * (jr q).z * (jr q).z) = (jr q).y * ((jr p).z * (jr p).z * (jr p).z) := by
    unfold rS
    constructor
    · intro h
      have := congrArg fe h
      simpa only [fe_qM, jr] using this
    · intro h
      refine fe_inj (qM_lt _ _) (qM_lt _ _) ?_
      simpa only [fe_qM, jr] using h
  by_cases h1 : p.z = 0
  · rw [if_pos h1, if_pos (e1.1 h1)]
  · rw [if_neg h1, if_neg (fun h => h1 (e1.2 h))]
    by_cases h2 : q.z = 0
    · rw [if_pos h2, if_pos (e2.1 h2)]
    · rw [if_neg h2, if_neg (fun h => h2 (e2.2 h))]
      by_cases h3 : rU p q
      · rw [if_pos h3, if_pos (e3.1 h3)]
        by_cases h4 : rS p q
        · rw [if_pos h4, if_pos (e4.1 h4)]; exact jr_dbl hp
        · rw [if_neg h4, if_neg (fun h => h4 (e4.2 h))]; exact jr_zero
      · rw [if_neg h3, if_neg (fun h => h3 (e3.2 h))]
        simp only [jr, rChord, jchord, fe_qM, fe_qA, fe_qS (qM_lt _ _), fe_qS (qS_lt _ _), fe_qS (qA_lt _ _)]
theorem jr_neg {p : RP} (hp : p.Ok) : jr (rNeg p) = jneg (jr p) := by
  simp only [jr, rNeg, jneg, fe_qS hp.2.1, fe_zero]

/-! Bytes. -/
noncomputable def jinv (z : K) : K := fe (z.val ^ (pN - 2))
noncomputable def jx (P : J pN) : K := P.x * (jinv P.z * jinv P.z)
noncomputable def jy (P : J pN) : K := P.y * (jinv P.z * jinv P.z * jinv P.z)
noncomputable def jb (P : J pN) : List UInt8 := if P.z = 0 then [0] else UInt8.ofNat (2 + (jy P).val % 2) :: (bytesN (jx P).val 32).reverse
theorem JR.jb {P Q : J pN} (h : JR P Q) : jb P = jb Q := by
  rcases h with ⟨h1, h2⟩ | h
  · unfold P12.jb
    rw [if_pos h1, if_pos h2]
  · rw [h]
theorem w0_mod (a : Four) : nat4 a % 2 = a.w0.toNat % 2 := by simp only [nat4]; omega
theorem sgn_byte (a : Four) : (2 + (a.w0 &&& 1)).toUInt8 = UInt8.ofNat (2 + nat4 a % 2) := by
  rw [w0_mod]
  have h := and_one a.w0
  have h2 : (2 + (a.w0 &&& 1)).toNat = 2 + a.w0.toNat % 2 := by
    rw [UInt64.toNat_add, h]
    have : (2 : UInt64).toNat = 2 := rfl
    omega
  apply UInt8.toNat_inj.1
  rw [UInt64.toNat_toUInt8, h2]; exact (UInt8.toNat_ofNat').symm
theorem pBytes_jb {p : P3} (hp : p.Rd) : pBytes p = jb (jp p) := by
  rw [pBytes_eq]
  unfold pBytes0 jb
  have e1 : eq4 p.z zero4 = true ↔ (jp p).z = 0 := z_zero hp.2.2
  rw [pPair_eq]
  unfold pPair0
  by_cases h : eq4 p.z zero4 = true
  · rw [if_pos h, if_pos (e1.1 h)]; rfl
  · rw [if_neg h, if_neg (fun k => h (e1.2 k))]
    rw [if_neg (by simp)]
    simp only
    rw [sgn_byte, pO_val, bytes_N, pO_val]
    simp only [cond_true, phi_T, pairI, phi_V, jx, jy, jp, jinv]
theorem rBytes_jb {p : RP} (hp : p.Ok) : rBytes p = jb (jr p) := by
  rw [rBytes_eq]
  unfold rBytes0 jb rPair
  have e1 : p.z = 0 ↔ (jr p).z = 0 := fe_z hp.2.2
  by_cases h : p.z = 0
  · rw [if_pos h, if_pos (e1.1 h)]; rfl
  · rw [if_neg h, if_neg (fun k => h (e1.2 k))]
    rw [if_neg (by simp)]
    have ei : fe (qI p.z) = jinv (jr p).z := by
      unfold qI jinv
      rw [fe_mod, show (jr p).z = fe p.z from rfl, fe_lt hp.2.2]
    have ex : qM p.x (qM (qI p.z) (qI p.z)) = (jx (jr p)).val := by
      rw [← fe_lt (qM_lt _ _)]
      congr 1
      simp only [fe_qM, ei, jx]
      rfl
    have ey : qM p.y (qM (qM (qI p.z) (qI p.z)) (qI p.z)) = (jy (jr p)).val := by
      rw [← fe_lt (qM_lt _ _)]
      congr 1
      simp only [fe_qM, ei, jy]
      rfl
    simp only
    rw [ex, ey]
end Go.Proofs.YtficbeeoafiiaaaGreatDoor.P12
/- Numbers modulo a prime, in plain Lean: powers by squaring, Euclid's lemma, Fermat's little theorem, and a test by which a number is shown to be prime. -/
namespace Go.NumP

/-- a^e modulo m, by squaring; k: no fewer steps than e has bits. -/
def pm (m : Nat) : Nat → Nat → Nat → Nat
  | 0, _, _ => 1 % m
  | k + 1, a, e => match e % 2 with
    | 0 => pm m k (a * a % m) (e / 2)
    | _ => a * pm m k (a * a % m) (e / 2) % m
theorem pow_mod' (a n m : Nat) : (a % m) ^ n % m = a ^ n % m := (Nat.pow_mod a n m).symm
theorem pm_ok (m : Nat) : ∀ (k a e : Nat), e < 2 ^ k → pm m k a e = a ^ e % m
  | 0, a, e, h => by
    have : e = 0 := by simp at h; exact h
    subst this; simp [pm]
  | k + 1, a, e, h => by
    have h2 : e / 2 < 2 ^ k := by rw [Nat.pow_succ] at h; omega
    have ih : pm m k (a * a % m) (e / 2) = a ^ (2 * (e / 2)) % m := by
      rw [pm_ok m k (a * a % m) (e / 2) h2, pow_mod', ← Nat.pow_two, ← Nat.pow_mul]
    unfold pm
    split
    · rename_i h0
      rw [ih]; congr 2; omega
    · rename_i h0
      rw [ih, Nat.mul_mod_mod, Nat.mul_comm, ← Nat.pow_succ]
      congr 2
      have : e % 2 ≠ 0 := fun e => h0 e
      omega

def Prime (p : Nat) : Prop := 2 ≤ p ∧ ∀ d, d ∣ p → d = 1 ∨ d = p
theorem euclid {p a b : Nat} (hp : Prime p) (h : p ∣ a * b) : p ∣ a ∨ p ∣ b := by
  rcases hp.2 (Nat.gcd p a) (Nat.gcd_dvd_left p a) with e | e
  · exact .inr (Nat.Coprime.dvd_of_dvd_mul_left e h)
  · exact .inl (e ▸ Nat.gcd_dvd_right p a)
theorem prime_dvd_pow {p a : Nat} (hp : Prime p) : ∀ {n : Nat}, p ∣ a ^ n → p ∣ a
  | 0, h => by
    have h1 : a ^ 0 = 1 := rfl
    rw [h1] at h
    have := Nat.le_of_dvd (by omega) h; have := hp.1; omega
  | n + 1, h => by
    rw [Nat.pow_succ] at h
    rcases euclid hp h with h | h
    · exact prime_dvd_pow hp h
    · exact h
theorem prime_factor : ∀ n : Nat, 2 ≤ n → ∃ q, Prime q ∧ q ∣ n := by
  intro n
  induction n using Nat.strongRecOn with
  | _ n ih =>
    intro h
    by_cases hp : Prime n
    · exact ⟨n, hp, Nat.dvd_refl n⟩
    · have : ∃ d, d ∣ n ∧ d ≠ 1 ∧ d ≠ n := by
        apply Classical.byContradiction
        intro hn
        exact hp ⟨h, fun d hd => by
          by_cases h1 : d = 1
          · exact .inl h1
          · by_cases h2 : d = n
            · exact .inr h2
            · exact (hn ⟨d, hd, h1, h2⟩).elim⟩
      obtain ⟨d, h1, h2, h3⟩ := this
      have hle := Nat.le_of_dvd (by omega) h1
      have h0 : d ≠ 0 := fun e => by subst e; have := Nat.eq_zero_of_zero_dvd h1; omega
      obtain ⟨q, hq, hd⟩ := ih d (by omega) (by omega)
      exact ⟨q, hq, Nat.dvd_trans hd h1⟩

/-! Binomial numbers. -/
def ch : Nat → Nat → Nat
  | _, 0 => 1
  | 0, _ + 1 => 0
  | n + 1, k + 1 => ch n k + ch n (k + 1)
theorem ch_lt : ∀ {n k : Nat}, n < k → ch n k = 0
  | 0, 0, h => by omega
  | _ + 1, 0, h => by omega
  | 0, k + 1, _ => rfl
  | n + 1, k + 1, h => by simp only [ch]; rw [ch_lt (by omega), ch_lt (by omega)]
theorem ch_self : ∀ n : Nat, ch n n = 1
  | 0 => rfl
  | n + 1 => by simp only [ch]; rw [ch_self n, ch_lt (by omega)]
theorem ch_zero (n : Nat) : ch n 0 = 1 := by cases n <;> rfl
theorem ch_mul : ∀ (n k : Nat), (k + 1) * ch (n + 1) (k + 1) = (n + 1) * ch n k
  | 0, 0 => rfl
  | 0, k + 1 => by rw [ch_lt (n := 0 + 1) (k := k + 1 + 1) (by omega), ch_lt (n := 0) (k := k + 1) (by omega)]; simp
  | n + 1, 0 => by
    have ih := ch_mul n 0
    simp only [ch, ch_zero] at ih ⊢
    omega
  | n + 1, k + 1 => by
    have h1 := ch_mul n k
    have h2 := ch_mul n (k + 1)
    have e1 : ch (n + 1 + 1) (k + 1 + 1) = ch (n + 1) (k + 1) + ch (n + 1) (k + 1 + 1) := rfl
    have e2 : ch (n + 1) (k + 1) = ch n k + ch n (k + 1) := rfl
    rw [e1, Nat.mul_add, h2]
    have e3 : (k + 1 + 1) * ch (n + 1) (k + 1) = (k + 1) * ch (n + 1) (k + 1) + ch (n + 1) (k + 1) := by rw [Nat.add_mul (k + 1) 1]; omega
    rw [e3, h1, e2]
    have e4 : (n + 1 + 1) * (ch n k + ch n (k + 1)) = (n + 1) * ch n k + (n + 1) * ch n (k + 1) + (ch n k + ch n (k + 1)) := by rw [Nat.add_mul (n + 1) 1, Nat.mul_add]; omega
    rw [e4]; omega
/-- Sums of binomial numbers times powers. -/
def bs (n a : Nat) : Nat → Nat
  | 0 => 0
  | m + 1 => bs n a m + ch n m * a ^ m
theorem bs_step (n a : Nat) : ∀ m, bs (n + 1) a (m + 1) = bs n a (m + 1) + a * bs n a m
  | 0 => by simp [bs, ch_zero]
  | m + 1 => by
    have ih := bs_step n a m
    rw [show bs (n + 1) a (m + 1 + 1) = bs (n + 1) a (m + 1) + ch (n + 1) (m + 1) * a ^ (m + 1) from rfl, ih]
    rw [show bs n a (m + 1 + 1) = bs n a (m + 1) + ch n (m + 1) * a ^ (m + 1) from rfl, show bs n a (m + 1) = bs n a m + ch n m * a ^ m from rfl, show ch (n + 1) (m + 1) = ch n m + ch n (m + 1) from rfl]
    have e : a * (bs n a m + ch n m * a ^ m) = a * bs n a m + ch n m * a ^ (m + 1) := by rw [Nat.mul_add, Nat.pow_succ]; congr 1; rw [Nat.mul_left_comm, Nat.mul_comm a]
    rw [e, Nat.add_mul]; omega
theorem binomial (a : Nat) : ∀ n : Nat, (a + 1) ^ n = bs n a (n + 1)
  | 0 => by simp [bs, ch]
  | n + 1 => by
    rw [bs_step, Nat.pow_succ, binomial a n, show bs n a (n + 1 + 1) = bs n a (n + 1) + ch n (n + 1) * a ^ (n + 1) from rfl, ch_lt (n := n) (k := n + 1) (by omega), Nat.mul_comm, Nat.add_mul]
    omega
theorem bs_mod {p a : Nat} (hp : Prime p) : ∀ m, m + 1 ≤ p → bs p a (m + 1) % p = 1
  | 0, h => by
    have := hp.1
    simp only [bs, ch_zero, Nat.pow_zero]
    exact Nat.mod_eq_of_lt (by omega)
  | m + 1, h => by
    have ih := bs_mod (a := a) hp m (by omega)
    have hd : p ∣ ch p (m + 1) := by
      obtain ⟨n, rfl⟩ : ∃ n, p = n + 1 := ⟨p - 1, by omega⟩
      have := ch_mul n m
      have h1 : (n + 1) ∣ (m + 1) * ch (n + 1) (m + 1) := ⟨_, this⟩
      rcases euclid hp h1 with h2 | h2
      · have := Nat.le_of_dvd (by omega) h2; omega
      · exact h2
    obtain ⟨c, hc⟩ := hd
    rw [show bs p a (m + 1 + 1) = bs p a (m + 1) + ch p (m + 1) * a ^ (m + 1) from rfl, hc, Nat.mul_assoc, Nat.add_mul_mod_self_left]
    exact ih
theorem fermat_add {p : Nat} (hp : Prime p) : ∀ a : Nat, a ^ p % p = a % p
  | 0 => by have := hp.1; rw [Nat.zero_pow (by omega)]
  | a + 1 => by
    have h2 := hp.1
    obtain ⟨n, hn⟩ : ∃ n, p = n + 1 := ⟨p - 1, by omega⟩
    have h1 := bs_mod (a := a) hp n (by omega)
    rw [← hn] at h1
    rw [binomial, show bs p a (p + 1) = bs p a p + ch p p * a ^ p from rfl, ch_self, Nat.one_mul, Nat.add_mod, h1, fermat_add hp a, Nat.add_mod_mod, Nat.add_comm]
theorem sub_dvd {p x y : Nat} (h : x % p = y % p) : p ∣ x - y := Nat.dvd_of_mod_eq_zero (by
  rw [← Nat.mod_add_div x p, ← Nat.mod_add_div y p, h, Nat.add_sub_add_left, ← Nat.mul_sub, Nat.mul_mod_right])
/-- Fermat. -/
theorem fermat {p a : Nat} (hp : Prime p) (h : ¬ p ∣ a) : a ^ (p - 1) % p = 1 := by
  have h2 := hp.1
  have h1 := fermat_add hp a
  have e : a ^ p = a * a ^ (p - 1) := by
    conv => lhs; rw [show p = p - 1 + 1 by omega, Nat.pow_succ, Nat.mul_comm]
  have ha : 0 < a := Nat.pos_of_ne_zero fun e => h (e ▸ Nat.dvd_zero p)
  have hpos : 1 ≤ a ^ (p - 1) := Nat.pos_of_ne_zero (by
    intro e; rw [Nat.pow_eq_zero] at e; omega)
  have hd : p ∣ a * (a ^ (p - 1) - 1) := by
    rw [Nat.mul_sub, Nat.mul_one, ← e]
    exact sub_dvd h1
  rcases euclid hp hd with k | k
  · exact absurd k h
  · obtain ⟨c, hc⟩ := k
    have : a ^ (p - 1) = 1 + p * c := by omega
    rw [this, Nat.add_mul_mod_self_left]
    exact Nat.mod_eq_of_lt (by omega)

theorem pow_gcd {q b : Nat} (hq : 2 ≤ q) : ∀ x y : Nat, b ^ x % q = 1 → b ^ y % q = 1 → b ^ (Nat.gcd x y) % q = 1 := by
  intro x
  induction x using Nat.strongRecOn with
  | _ x ih =>
    intro y hx hy
    by_cases h0 : x = 0
    · subst h0; rw [Nat.gcd_zero_left]; exact hy
    · rw [Nat.gcd_rec]
      refine ih (y % x) (Nat.mod_lt _ (by omega)) x ?_ hx
      have e : b ^ y = (b ^ x) ^ (y / x) * b ^ (y % x) := by rw [← Nat.pow_mul, ← Nat.pow_add, Nat.div_add_mod]
      rw [e, Nat.mul_mod, Nat.pow_mod, hx, Nat.one_pow, Nat.mod_eq_of_lt (a := 1) (by omega), Nat.one_mul, Nat.mod_mod] at hy
      exact hy

/-- A test: r a prime that divides n - 1, a a witness; what is left of (n - 1)/r is large. -/
theorem prime_of {n r a : Nat} (hr : Prime r) (hn : 2 ≤ n) (hd : (n - 1) % r = 0) (h1 : a ^ (n - 1) % n = 1) (h2 : Nat.gcd (a ^ ((n - 1) / r) % n + (n - 1)) n = 1)
    (h3 : n / (r * r) + 1 < (n - 1) / r % r) : Prime n := by
  have hr2 := hr.1
  -- every prime that divides n is 1 modulo r
  have key : ∀ q, Prime q → q ∣ n → q % r = 1 := by
    intro q hq hqn
    have hq2 := hq.1
    have modq : ∀ x : Nat, x % n = 1 → x % q = 1 := fun x hx => by
      have := Nat.mod_mod_of_dvd x hqn
      rw [hx] at this
      rw [← this]; exact Nat.mod_eq_of_lt (by omega)
    have hb1 : (a ^ ((n - 1) / r)) ^ r % q = 1 := by
      rw [← Nat.pow_mul, Nat.div_mul_cancel (Nat.dvd_of_mod_eq_zero hd)]; exact modq _ h1
    have hbne : ¬ (a ^ ((n - 1) / r)) % q = 1 := by
      intro hb
      have : q ∣ a ^ ((n - 1) / r) % n + (n - 1) := by
        apply Nat.dvd_of_mod_eq_zero
        have e1 := Nat.mod_mod_of_dvd (a ^ ((n - 1) / r)) hqn
        rw [Nat.add_mod, e1, hb]
        obtain ⟨c, hc⟩ := hqn
        have hc0 : c ≠ 0 := fun e => by subst e; simp at hc; omega
        obtain ⟨c', rfl⟩ : ∃ c', c = c' + 1 := ⟨c - 1, by omega⟩
        have : n - 1 = q * c' + (q - 1) := by rw [hc, Nat.mul_add]; omega
        rw [this, Nat.mul_add_mod, Nat.mod_eq_of_lt (a := q - 1) (by omega), show 1 + (q - 1) = q by omega, Nat.mod_self]
      have := Nat.dvd_gcd this hqn
      rw [h2] at this
      have := Nat.le_of_dvd (by omega) this
      omega
    have hnd : ¬ q ∣ a ^ ((n - 1) / r) := fun h => by
      have : (a ^ ((n - 1) / r)) ^ r % q = 0 := Nat.mod_eq_zero_of_dvd (Nat.dvd_trans h (by
        obtain ⟨k, rfl⟩ : ∃ k, r = k + 1 := ⟨r - 1, by omega⟩
        rw [Nat.pow_succ]; exact Nat.dvd_mul_left _ _))
      omega
    have hf := fermat hq hnd
    have hg := pow_gcd hq2 r (q - 1) hb1 hf
    rcases hr.2 (Nat.gcd r (q - 1)) (Nat.gcd_dvd_left _ _) with e | e
    · rw [e, Nat.pow_one] at hg; exact absurd hg hbne
    · have : r ∣ q - 1 := e ▸ Nat.gcd_dvd_right r (q - 1)
      obtain ⟨c, hc⟩ := this
      have : q = r * c + 1 := by omega
      rw [this, Nat.mul_add_mod]; exact Nat.mod_eq_of_lt (by omega)
  -- so is every number that divides it
  have all : ∀ d, 1 ≤ d → d ∣ n → d % r = 1 := by
    intro d
    induction d using Nat.strongRecOn with
    | _ d ih =>
      intro hd1 hdn
      by_cases h : d = 1
      · subst h; exact Nat.mod_eq_of_lt (by omega)
      · obtain ⟨q, hq, c, hc⟩ := prime_factor d (by omega)
        have hq2 := hq.1
        have hc0 : c ≠ 0 := fun e => by subst e; simp at hc; omega
        have hlt : c < d := by
          have := Nat.mul_le_mul_right c hq2
          rw [hc]; omega
        have e1 := ih c hlt (by omega) (Nat.dvd_trans ⟨q, by rw [hc, Nat.mul_comm]⟩ hdn)
        have e2 := key q hq (Nat.dvd_trans ⟨c, hc⟩ hdn)
        rw [hc, Nat.mul_mod, e1, e2]
        exact Nat.mod_eq_of_lt (by omega)
  refine ⟨hn, fun d hdn => ?_⟩
  apply Classical.byContradiction
  intro hno
  have hd0 : d ≠ 0 := fun e => by subst e; have := Nat.eq_zero_of_zero_dvd hdn; omega
  obtain ⟨e, he⟩ := hdn
  have he0 : e ≠ 0 := fun x => by subst x; simp at he; omega
  have hd1 : d ≠ 1 := fun x => hno (.inl x)
  have he1 : e ≠ 1 := fun x => hno (.inr (by rw [he, x, Nat.mul_one]))
  have m1 := all d (by omega) ⟨e, he⟩
  have m2 := all e (by omega) ⟨d, by rw [he, Nat.mul_comm]⟩
  have f1 := Nat.mod_add_div d r
  have f2 := Nat.mod_add_div e r
  rw [m1] at f1
  rw [m2] at f2
  have u0 : d / r ≠ 0 := fun x => by rw [x] at f1; omega
  have v0 : e / r ≠ 0 := fun x => by rw [x] at f2; omega
  generalize hu : d / r = u at f1 u0
  generalize hv : e / r = v at f2 v0
  have hmul : n = 1 + r * (u + v + r * (u * v)) := by
    rw [he, ← f1, ← f2, Nat.add_mul, Nat.one_mul, Nat.mul_add (r * u) 1, Nat.mul_one, Nat.mul_add, Nat.mul_add]
    have : r * u * (r * v) = r * (r * (u * v)) := by rw [Nat.mul_assoc, Nat.mul_left_comm u r v]
    omega
  have hq : (n - 1) / r = u + v + r * (u * v) := by
    rw [hmul, Nat.add_sub_cancel_left, Nat.mul_div_cancel_left _ (by omega)]
  have hK : u * v ≤ n / (r * r) := by
    rw [Nat.le_div_iff_mul_le (Nat.mul_pos (by omega) (by omega))]
    rw [hmul, Nat.mul_add]
    have : u * v * (r * r) = r * (r * (u * v)) := by rw [Nat.mul_comm, Nat.mul_assoc]
    omega
  have huv : u + v ≤ u * v + 1 := by
    obtain ⟨u', rfl⟩ : ∃ u', u = u' + 1 := ⟨u - 1, by omega⟩
    obtain ⟨v', rfl⟩ : ∃ v', v = v' + 1 := ⟨v - 1, by omega⟩
    rw [Nat.add_mul, Nat.mul_add]; omega
  rw [hq, Nat.add_mul_mod_self_left] at h3
  have := Nat.mod_le (u + v) r
  omega

/-- Small numbers: by trying. -/
def tryAll (n : Nat) : Nat → Nat → Bool
  | 0, _ => true
  | k + 1, d => Nat.ble 1 (n % d) && tryAll n k (d + 1)
theorem tryAll_ok {n : Nat} : ∀ (k d : Nat), tryAll n k d = true → ∀ x, d ≤ x → x < d + k → ¬ x ∣ n
  | 0, d, _, x, h1, h2 => by omega
  | k + 1, d, h, x, h1, h2 => by
    simp only [tryAll, Bool.and_eq_true] at h
    by_cases e : x = d
    · subst e
      intro hd
      have := Nat.le_of_ble_eq_true h.1
      have := Nat.mod_eq_zero_of_dvd hd
      omega
    · exact tryAll_ok k (d + 1) h.2 x (by omega) (by omega)
theorem prime_small {n : Nat} (k : Nat) (hn : 2 ≤ n) (h : tryAll n k 2 = true) (hk : n < (k + 2) * (k + 2)) : Prime n := by
  refine ⟨hn, fun d hd => ?_⟩
  apply Classical.byContradiction
  intro hno
  obtain ⟨e, he⟩ := hd
  have hd0 : d ≠ 0 := fun x => by subst x; simp at he; omega
  have he0 : e ≠ 0 := fun x => by subst x; simp at he; omega
  have hd1 : d ≠ 1 := fun x => hno (.inl x)
  have he1 : e ≠ 1 := fun x => hno (.inr (by rw [he, x, Nat.mul_one]))
  by_cases hlt : d < 2 + k
  · exact tryAll_ok k 2 h d (by omega) hlt ⟨e, he⟩
  · by_cases hlt' : e < 2 + k
    · exact tryAll_ok k 2 h e (by omega) hlt' ⟨d, by rw [he, Nat.mul_comm]⟩
    · have : (k + 2) * (k + 2) ≤ d * e := Nat.mul_le_mul (by omega) (by omega)
      omega
end Go.NumP
/- 2^255 - 19 is a prime; numbers modulo it: inverses, roots of squares. Plain. -/
set_option maxRecDepth 10000
namespace Go.NumP

theorem prime_of' {n r a k : Nat} (hr : Prime r) (hn : 2 ≤ n) (hd : (n - 1) % r = 0) (hk : n < 2 ^ k) (h1 : pm n k a (n - 1) = 1) (h2 : Nat.gcd (pm n k a ((n - 1) / r) + (n - 1)) n = 1) (h3 : n / (r * r) + 1 < (n - 1) / r % r) : Prime n := by
  refine prime_of (a := a) hr hn hd ?_ ?_ h3
  · rw [← pm_ok n k a (n - 1) (by omega)]; exact h1
  · have : (n - 1) / r ≤ n - 1 := Nat.div_le_self _ _
    rw [← pm_ok n k a ((n - 1) / r) (by omega)]; exact h2
theorem prime_a : Prime 8574133 := prime_small 2930 (by decide) (by decide +kernel) (by decide)
theorem prime_b : Prime 1919519569386763 := prime_of' (a := 2) (k := 60) prime_a (by decide) (by decide +kernel) (by decide +kernel) (by decide +kernel) (by decide +kernel) (by decide +kernel)
theorem prime_c : Prime 75445702479781427272750846543864801 := prime_of' (a := 2) (k := 130) prime_b (by decide) (by decide +kernel) (by decide +kernel) (by decide +kernel) (by decide +kernel) (by decide +kernel)
theorem prime_d : Prime 74058212732561358302231226437062788676166966415465897661863160754340907 := prime_of' (a := 2) (k := 255) prime_c (by decide) (by decide +kernel) (by decide +kernel) (by decide +kernel) (by decide +kernel) (by decide +kernel)
theorem prime_p : Prime 57896044618658097711785492504343953926634992332820282019728792003956564819949 := prime_of' (a := 2) (k := 256) prime_d (by decide) (by decide +kernel) (by decide +kernel) (by decide +kernel) (by decide +kernel) (by decide +kernel)
/-! Numbers modulo a prime. -/
theorem lt_not_dvd {p a : Nat} (h0 : 0 < a) (h : a < p) : ¬ p ∣ a := fun hd => by have := Nat.le_of_dvd h0 hd; omega
section
variable {p : Nat} (hp : Prime p)
include hp
theorem fermat_lt {a : Nat} (h0 : 0 < a) (h : a < p) : a ^ (p - 1) % p = 1 := fermat hp (lt_not_dvd h0 h)
/-- What is the same times what is not nought is the same. -/
theorem cancel {a x y : Nat} (h0 : 0 < a) (h : a < p) (e : x * a % p = y * a % p) : x % p = y % p := by
  have h2 := hp.1
  have key : ∀ z : Nat, z * a % p * a ^ (p - 2) % p = z % p := fun z => by
    rw [Nat.mod_mul_mod, Nat.mul_assoc, ← Nat.pow_succ', show (p - 2).succ = p - 1 by omega, Nat.mul_mod, fermat_lt hp h0 h, Nat.mul_one, Nat.mod_mod]
  have := key x
  rw [e, key y] at this
  exact this.symm
/-- Squares that are the same. -/
theorem sq_eq {x y : Nat} (hx : x < p) (hy : y < p) (h : x * x % p = y * y % p) : x = y ∨ x + y = p ∨ (x = 0 ∧ y = 0) := by
  have key : ∀ {x y : Nat}, x < p → y ≤ x → x * x % p = y * y % p → x = y ∨ x + y = p ∨ (x = 0 ∧ y = 0) := fun {x y} hx hle h => by
    have hd : p ∣ x * x - y * y := sub_dvd h
    have e : x * x - y * y = (x + y) * (x - y) := by
      obtain ⟨d, rfl⟩ : ∃ d, x = y + d := ⟨x - y, by omega⟩
      rw [Nat.add_sub_cancel_left]
      have : (y + d) * (y + d) = y * y + (y + d + y) * d := by grind
      omega
    rw [e] at hd
    rcases euclid hp hd with h1 | h1
    · obtain ⟨c, hc⟩ := h1
      have : c = 0 ∨ c = 1 := by
        rcases c with _ | _ | c
        · exact .inl rfl
        · exact .inr rfl
        · exfalso
          have : p * 2 ≤ p * (c + 1 + 1) := Nat.mul_le_mul_left p (by omega)
          omega
      rcases this with rfl | rfl
      · exact .inr (.inr (by omega))
      · exact .inr (.inl (by omega))
    · left
      have := Nat.eq_zero_of_dvd_of_lt h1 (by omega)
      omega
  by_cases hle : y ≤ x
  · exact key hx hle h
  · rcases key hy (Nat.le_of_not_le hle) h.symm with h | h | h
    · exact .inl h.symm
    · exact .inr (.inl (by omega))
    · exact .inr (.inr ⟨h.2, h.1⟩)
end
end Go.NumP
/- Primes: the order of the base of Edwards25519, the modulus and the order of P-256. -/
set_option maxRecDepth 10000
namespace Go.NumP
theorem primeN3 : Prime 191039911 := prime_small 13821 (by decide) (by decide +kernel) (by decide)
theorem primeN2 : Prime 208150935158385979 := prime_of' (a := 2) (k := 256) primeN3 (by decide) (by decide +kernel) (by decide +kernel) (by decide +kernel) (by decide +kernel) (by decide +kernel)
theorem primeN1 : Prime 2624747550333869278416773953 := prime_of' (a := 2) (k := 256) primeN2 (by decide) (by decide +kernel) (by decide +kernel) (by decide +kernel) (by decide +kernel) (by decide +kernel)
theorem primeN0 : Prime 115792089210356248762697446949407573529996955224135760342422259061068512044369 := prime_of' (a := 2) (k := 256) primeN1 (by decide) (by decide +kernel) (by decide +kernel) (by decide +kernel) (by decide +kernel) (by decide +kernel)
theorem primeP4 : Prime 704251 := prime_small 839 (by decide) (by decide +kernel) (by decide)
theorem primeP3 : Prime 46076956964474543 := prime_of' (a := 2) (k := 256) primeP4 (by decide) (by decide +kernel) (by decide +kernel) (by decide +kernel) (by decide +kernel) (by decide +kernel)
theorem primeP2 : Prime 774023187263532362759620327192479577272145303 := prime_of' (a := 2) (k := 256) primeP3 (by decide) (by decide +kernel) (by decide +kernel) (by decide +kernel) (by decide +kernel) (by decide +kernel)
theorem primeP1 : Prime 835945042244614951780389953367877943453916927241 := prime_of' (a := 2) (k := 256) primeP2 (by decide) (by decide +kernel) (by decide +kernel) (by decide +kernel) (by decide +kernel) (by decide +kernel)
theorem primeP0 : Prime 115792089210356248762697446949407573530086143415290314195533631308867097853951 := prime_of' (a := 2) (k := 256) primeP1 (by decide) (by decide +kernel) (by decide +kernel) (by decide +kernel) (by decide +kernel) (by decide +kernel)
theorem primeL6 : Prime 1224481 := prime_small 1106 (by decide) (by decide +kernel) (by decide)
theorem primeL5 : Prime 1257559732178653 := prime_of' (a := 2) (k := 256) primeL6 (by decide) (by decide +kernel) (by decide +kernel) (by decide +kernel) (by decide +kernel) (by decide +kernel)
theorem primeL4 : Prime 4434155615661930479 := prime_of' (a := 2) (k := 256) primeL5 (by decide) (by decide +kernel) (by decide +kernel) (by decide +kernel) (by decide +kernel) (by decide +kernel)
theorem primeL3 : Prime 172054593956031949258510691 := prime_of' (a := 2) (k := 256) primeL4 (by decide) (by decide +kernel) (by decide +kernel) (by decide +kernel) (by decide +kernel) (by decide +kernel)
theorem primeL2 : Prime 19757330305831588566944191468367130476339 := prime_of' (a := 2) (k := 256) primeL3 (by decide) (by decide +kernel) (by decide +kernel) (by decide +kernel) (by decide +kernel) (by decide +kernel)
theorem primeL1 : Prime 276602624281642239937218680557139826668747 := prime_of' (a := 2) (k := 256) primeL2 (by decide) (by decide +kernel) (by decide +kernel) (by decide +kernel) (by decide +kernel) (by decide +kernel)
theorem primeL0 : Prime 7237005577332262213973186563042994240857116359379907606001950938285454250989 := prime_of' (a := 2) (k := 256) primeL1 (by decide) (by decide +kernel) (by decide +kernel) (by decide +kernel) (by decide +kernel) (by decide +kernel)
end Go.NumP
/- Layer 12's laws of pairs, bytes and sums: what their bodies come to. -/
set_option maxRecDepth 10000
namespace Go.Proofs.YtficbeeoafiiaaaGreatDoor.P12
open Go.Sym Go.Dig R1
--STOP R1.Sm, Fw, pT, pS, pA, pI, pO, pE, pV, pSide, zero4, okFrom, ptFrom, okOf, ptOf, pPair, pDbl, pAdd, pNeg, pSame, pBytes, rOn, rOf, rDbl, rAdd, rNeg, rBytes

def gX : Four := ⟨17627433388654248598, 8575836109218198432, 17923454489921339634, 7716867327612699207⟩
def gY : Four := ⟨14678990851816772085, 3156516839386865358, 10297457778147434006, 5756518291402817435⟩
theorem pg_ex : ∃ p : P3, p = ptFrom gX gY := ⟨_, rfl⟩
noncomputable def pBase : P3 := Classical.choose pg_ex
theorem pBase_eq : pBase = ptFrom gX gY := Classical.choose_spec pg_ex
noncomputable def spB0 : Specs := (60, sFromT) :: spA2
noncomputable def sPBase : SpecF := fspec (α := Unit) total (fun _ => pBase)
noncomputable def spB1 : Specs := (1000011, Sym.sNo) :: (12, sPBytes) :: (1000000, Sym.sNo) :: (1000001, Sym.sNo) :: (1000013, Sym.sNo) :: spA2
abbrev sAwake12 : SpecF := fspec (α := Unit) total fun _ => true
noncomputable def spB2 : Specs := (1000005, Sym.sNo) :: (1000006, Sym.sNo) :: (1000010, Sym.sNo) :: (1000007, Sym.sNo) :: (1000009, Sym.sNo) :: (1000008, Sym.sNo) :: (spB1 ++ spR4)
noncomputable def spPT : Specs := (60, sFromT) :: spB2
noncomputable def spPF : Specs := (60, sFromF) :: spB2
def dPairs : Dec := [(6, 5, .b false), (6, 10, .b false), (6, 17, .b false)]
noncomputable def spOT : Specs := (1000012, Sym.sNo) :: spPT
noncomputable def spOF : Specs := (1000012, Sym.sNo) :: spPT
/-- A modulus and what is by it, read through a pointer. -/
structure RoFast where
  v : FastV
instance : Enc RoFast where
  enc a := .ro [.lst (.num a.v.m), .lst (.num a.v.mu)] 0
  dec | .ro cs 0 => (dFastC cs).map RoFast.mk
      | _ => none
  ok := by
    intro s a h at_ w v r
    split at h
    · obtain ⟨x, h1, h2⟩ := Option.map_eq_some_iff.1 h
      subst h2
      rw [dFastC_ok h1] at r; exact r
    · cases h
  nn _ := rfl
noncomputable def spC1 : Specs := (12, sPBytes) :: spR4
noncomputable def sIsT : SpecF := fspec (α := PPt × RP × RoFast × Unit) (β := Bool) (fun a => some (onC a.1 ∧ a.2.1.Ok ∧ a.2.2.1.v = fV ∧ pBytes a.1.p = rBytes a.2.1)) (fun _ => true)
noncomputable def spAddT : Specs := (1000002, Sym.sNo) :: spOT
end Go.Proofs.YtficbeeoafiiaaaGreatDoor.P12
/- Layer 12's laws of pairs and bytes hold. -/
set_option maxRecDepth 10000
namespace Go.Proofs.YtficbeeoafiiaaaGreatDoor.P12
open Go.Sym Go.Dig R1 Go.Alg

theorem jinv_one : jinv 1 = 1 := by
  unfold jinv
  have : (1 : K).val = 1 := by rw [← fe_one]; exact fe_lt (small_lt (by decide))
  rw [this, Nat.one_pow, fe_one]
theorem jx_one (x y : K) : jx ⟨x, y, 1⟩ = x := by
  unfold jx
  simp only [jinv_one]
  grind -lia -linarith -order (splits := 0)
theorem jy_one (x y : K) : jy ⟨x, y, 1⟩ = y := by
  unfold jy
  simp only [jinv_one]
  grind -lia -linarith -order (splits := 0)
theorem one_ne : (1 : K) ≠ 0 := fun h => by
  have := fe_inj (small_lt (n := 1) (by decide)) pN_pos (by rw [fe_one, fe_zero]; exact h)
  omega
theorem jb_one (x y : K) : jb ⟨x, y, 1⟩ = UInt8.ofNat (2 + y.val % 2) :: (bytesN x.val 32).reverse := by
  unfold jb
  rw [if_neg one_ne, jx_one, jy_one]
theorem phi_pB : phi pB = fe hB := by
  unfold pB
  rw [phi_I, hB_eq]
  congr 1
theorem phi_side (x : Four) : phi (pSide x) = phi x * phi x * phi x - (phi x + (phi x + phi x)) + fe hB := by
  unfold pSide
  simp only [phi_A, phi_S, phi_T, phi_pB]
theorem fe_rSide (x : Nat) : fe (rSide x) = fe x * fe x * fe x - (fe x + (fe x + fe x)) + fe hB := by
  unfold rSide
  rw [fe_qA, fe_qS (qM_lt _ _), fe_qM, fe_qM, fe_qM, fe_three]
  generalize fe x = y
  grind -lia -linarith -order (splits := 0)
theorem Rd_side (x : Four) : Rd (pSide x) := Rd_A _ _
theorem below_iff (x : Four) : pBelow x = decide (nat4 x < pN) := by
  have e : nat4 mP = pN := by rw [← rP_m]; exact nat_mP
  unfold pBelow
  rw [cmp_nat, e]
  by_cases h : nat4 x < pN
  · rw [if_pos h, decide_eq_true h]; rfl
  · rw [if_neg h, decide_eq_false h]
    split <;> rfl
theorem bool_eq {a b : Bool} (h : a = true ↔ b = true) : a = b := by
  cases a <;> cases b <;> simp_all
theorem side_iff (x y : Four) : eq4 (pT (pI y) (pI y)) (pSide (pI x)) = decide (qM (nat4 y) (nat4 y) = rSide (nat4 x)) := by
  apply bool_eq
  rw [eq4_phi (Rd_T _ _) (Rd_side _), phi_T, phi_side, phi_I, phi_I, decide_eq_true_eq]
  rw [← fe_qM, ← fe_rSide]
  exact ⟨fun h => fe_inj (qM_lt _ _) (rSide_lt _) h, fun h => by rw [h]⟩
theorem okFrom_rOn (x y : Four) : okFrom x y = rOn (nat4 x) (nat4 y) := by
  rw [okFrom_eq]
  unfold okFrom0 rOn
  rw [below_iff, below_iff, side_iff]
theorem jp_from (x y : Four) : jp (ptFrom x y) = ⟨fe (nat4 x), fe (nat4 y), 1⟩ := by
  simp only [jp, ptFrom, phi_I, phi_One]
theorem Rd_from (x y : Four) : (ptFrom x y).Rd := ⟨Rd_I _, Rd_I _, Rd_I _⟩
theorem nat_gX : nat4 gX = hX := by rw [hX_eq]; decide +kernel
theorem nat_gY : nat4 gY = hY := by rw [hY_eq]; decide +kernel
theorem okBase : okFrom gX gY = true := by
  rw [okFrom_rOn, nat_gX, nat_gY]
  unfold rOn
  rw [decide_eq_true hX_lt, decide_eq_true hY_lt, Bool.true_and, Bool.true_and, decide_eq_true_eq]
  unfold rSide qA qS qM
  rw [hX_eq, hY_eq, hB_eq, pN_eq]
theorem spB0_ok : SpecsOK Tryz.prog spB0 := .cons ok_FromT spA2_ok
theorem ok_PBase : SpecOK Tryz.prog 1000003 Sym.sNo := Sym.sNo_ok _ _
theorem Rd_base : pBase.Rd := by rw [pBase_eq]; exact Rd_from _ _
theorem jp_base : jp pBase = ⟨fe hX, fe hY, 1⟩ := by rw [pBase_eq, jp_from, nat_gX, nat_gY]
theorem base_bytes : pBytes pBase = UInt8.ofNat (2 + hY % 2) :: (bytesN hX 32).reverse := by
  rw [pBytes_jb Rd_base, jp_base, jb_one, fe_lt hX_lt, fe_lt hY_lt]
theorem spB1_ok : SpecsOK Tryz.prog spB1 := .cons ok_PBase <| .cons ok_PBytes <| .cons ok_PAdd <| .cons ok_PSame <| .cons ok_Ord spA2_ok
theorem ok_Awake12 : SpecOK Tryz.prog 1000002 Sym.sNo := Sym.sNo_ok _ _
theorem spB2_ok : SpecsOK Tryz.prog spB2 := .cons ok_Awake12 <| .cons ok_nOf <| .cons ok_OrdR <| .cons ok_RBase <| .cons ok_ROf <| .cons ok_RMul <| SpecsOK.append spB1_ok spR4_ok
theorem spPT_ok : SpecsOK Tryz.prog spPT := .cons ok_FromT spB2_ok
theorem spPF_ok : SpecsOK Tryz.prog spPF := .cons ok_FromF spB2_ok
theorem sm4 (x : Four) : Sm (nat4 x) := Sm4 x
theorem eq_ord : eq4 oP (fourN hO) = true := by rw [oP_eq, hO_eq]; decide +kernel
theorem eq_mod : eq4 mP (fourN pN) = true := by rw [mP_eq, pN_eq]; decide +kernel
theorem sm_hO : Sm hO := by rw [hO_eq]; exact SmB (by decide)
theorem pBytes_len {p : P3} (hp : p.Rd) : (pBytes p).length ≤ 4294967296 := by
  rw [pBytes_jb hp]
  unfold jb
  split
  · decide
  · simp only [List.length_cons, List.length_reverse, bytesN_len]; decide
abbrev sPrimePairs : SpecF := fspec (α := Four × Four × Unit) total fun _ => true
theorem ok_PrimePairs : SpecOK Tryz.prog 1000001 Sym.sNo := Sym.sNo_ok _ _
/-! Bytes. -/
theorem drop33 (b : List UInt8) : List.drop (Int.toNat 1) (List.take (Int.toNat (b.length : Int)) b) = b.drop 1 := by simp
theorem pX_nat {b : List UInt8} (h : b.length = 33) : nat4 (pX b) = rX b := by
  have hl := bev33 h
  unfold pX rX at *
  rw [drop33] at *
  rw [of_nat _ true (by rw [List.length_drop, h])]
  simp only [cond_true]
  rw [nat4_fourN, Nat.mod_eq_of_lt hl]
theorem quarter_nat : nat4 (limb_Right (limb_Add mP ⟨1, 0, 0, 0⟩).1 2) = (pN + Int.toNat 1) / 2 ^ Int.toNat 2 := by
  rw [show (2 : Int) = ((2 : Nat) : Int) from rfl, right_nat _ 2 (by decide)]
  have h := add_nat mP ⟨1, 0, 0, 0⟩
  have e : nat4 mP = pN := by rw [← rP_m]; exact nat_mP
  have h1 : nat4 ⟨1, 0, 0, 0⟩ = 1 := rfl
  rw [e, h1] at h
  have := pN_lt
  have l := nat4_lt (limb_Add mP ⟨1, 0, 0, 0⟩).1
  have e2 : pN + 1 < 115792089237316195423570985008687907853269984665640564039457584007913129639936 := by rw [pN_eq]; decide
  rw [show nat4 (limb_Add mP ⟨1, 0, 0, 0⟩).1 = pN + 1 by omega]
  rfl
theorem phi_root {b : List UInt8} (h : b.length = 33) : phi (pRoot b) = fe (rRoot b) := by
  unfold pRoot rRoot
  rw [phi_E, quarter_nat, phi_side, phi_I, pX_nat h, ← fe_rSide, fe_lt (rSide_lt _)]
  unfold qE
  rw [fe_mod]
theorem odd_esg {b : List UInt8} {v : Four} {y : Nat} (hy : y < pN) (h : phi v = fe y) : pOdd b v = !esg b y := by
  unfold pOdd esg
  have e1 : nat4 (pO v) = y := by rw [pO_val, h, fe_lt hy]
  have e2 : ((pO v).w0 &&& 1).toNat = y % 2 := by rw [and_one, ← w0_mod, e1]
  have e3 : (((pO v).w0 &&& 1).toUInt8).toNat = y % 2 := by rw [UInt64.toNat_toUInt8, e2]; omega
  have e4 : (b.getD (Int.toNat 0) 0 &&& 1).toNat = (b.getD (Int.toNat 0) 0).toNat % 2 := by
    rw [UInt8.toNat_and]; exact Nat.and_one_is_mod _
  have e5 : Int.tmod ((b.getD (Int.toNat 0) 0).toNat : Int) 2 = (((b.getD (Int.toNat 0) 0).toNat % 2 : Nat) : Int) := by
    rw [Int.tmod_eq_emod_of_nonneg (by omega)]; rfl
  rw [e5, show Int.toNat 0 = 0 from rfl, Nat.pow_zero, Nat.div_one]
  rw [show Int.toNat 0 = 0 from rfl] at e4
  generalize b.getD 0 0 = c at *
  apply bool_eq
  simp only [bne_iff_ne, ne_eq, Bool.not_eq_true', beq_eq_false_iff_ne]
  rw [← UInt8.toNat_inj, e3, e4]
  omega
theorem rY_lt (b : List UInt8) : rY b < pN := by
  unfold rY
  split
  · exact rRoot_lt b
  · exact qS_lt _ _
theorem phi_sgn {b : List UInt8} (h : b.length = 33) : phi (pSgn b) = fe (rY b) := by
  have ho := odd_esg (b := b) (rRoot_lt b) (phi_root h)
  unfold pSgn rY
  cases he : esg b (rRoot b) with
  | true =>
    rw [he] at ho
    rw [ho, if_neg (by simp), if_pos rfl]; exact phi_root h
  | false =>
    rw [he] at ho
    rw [ho, if_pos (show (!false) = true from rfl), if_neg (by simp), phi_S, phi_0, fe_qS (rRoot_lt b), fe_zero, phi_root h]
theorem root_iff {b : List UInt8} (h : b.length = 33) : eq4 (pT (pRoot b) (pRoot b)) (pSide (pI (pX b))) = decide (qM (rRoot b) (rRoot b) = rSide (rX b)) := by
  apply bool_eq
  rw [eq4_phi (Rd_T _ _) (Rd_side _), phi_T, phi_side, phi_I, phi_root h, pX_nat h, decide_eq_true_eq, ← fe_qM, ← fe_rSide]
  exact ⟨fun e => fe_inj (qM_lt _ _) (rSide_lt _) e, fun e => by rw [e]⟩
/-- What is known of bytes that are a point. -/
structure IsOf (b : List UInt8) : Prop where
  len : b.length = 33
  sgn : b.getD 0 0 = 2 ∨ b.getD 0 0 = 3
  lt : rX b < pN
  on : qM (rY b) (rY b) = rSide (rX b)
  esg : esg b (rY b) = true
  of : rOf b = (⟨rX b, rY b, 1⟩, true)
theorem ok_isOf {b : List UInt8} (h : okOf b = true) : IsOf b := by
  rw [okOf_eq] at h
  unfold okOf0 at h
  simp only [Bool.and_eq_true, decide_eq_true_eq, Bool.or_eq_true, beq_iff_eq, Bool.not_eq_true'] at h
  obtain ⟨h1, h2, h3, h4, h5⟩ := h
  rw [below_iff, pX_nat h1, decide_eq_true_eq] at h3
  rw [root_iff h1, decide_eq_true_eq] at h4
  have h6 := odd_esg (b := b) (rY_lt b) (phi_sgn h1)
  rw [h5] at h6
  have h7 : P12.esg b (rY b) = true := by
    cases he : P12.esg b (rY b) with
    | true => rfl
    | false => rw [he] at h6; cases h6
  have h8 : qM (rY b) (rY b) = rSide (rX b) := by
    rw [← h4]
    unfold rY
    split
    · rfl
    · refine fe_inj (qM_lt _ _) (qM_lt _ _) ?_
      rw [fe_qM, fe_qM, fe_qS (rRoot_lt b), fe_zero]
      generalize fe (rRoot b) = r
      grind -lia -linarith -order (splits := 0)
  refine ⟨h1, h2, h3, h8, h7, ?_⟩
  rw [rOf_eq]
  unfold rOf0
  rw [if_neg (by simpa using h1), if_neg (fun h => h2.elim h.1 h.2), if_neg (fun h => h h3), if_neg (fun h => h h4), h7]
theorem okOf_rOf (b : List UInt8) : okOf b = (rOf b).2 := by
  cases h : okOf b with
  | true => rw [(ok_isOf h).of]
  | false =>
    rw [okOf_eq] at h
    unfold okOf0 at h
    rw [rOf_eq]
    unfold rOf0
    by_cases h1 : b.length = 33
    · rw [if_neg (by simpa using h1)]
      by_cases h2 : b.getD 0 0 = 2 ∨ b.getD 0 0 = 3
      · rw [if_neg (fun h => h2.elim h.1 h.2)]
        by_cases h3 : rX b < pN
        · rw [if_neg (fun h => h h3)]
          by_cases h4 : qM (rRoot b) (rRoot b) = rSide (rX b)
          · rw [if_neg (fun h => h h4)]
            have h2' : (b.getD 0 0 == 2 || b.getD 0 0 == 3) = true := by simpa using h2
            rw [decide_eq_true h1, h2', below_iff, pX_nat h1, decide_eq_true h3, root_iff h1, decide_eq_true h4, odd_esg (b := b) (rY_lt b) (phi_sgn h1)] at h
            simpa using h.symm
          · rw [if_pos h4]
        · rw [if_pos h3]
      · rw [if_pos ⟨fun e => h2 (.inl e), fun e => h2 (.inr e)⟩]
    · rw [if_pos h1]
theorem jp_of {b : List UInt8} (h : IsOf b) : jp (ptOf b) = ⟨fe (rX b), fe (rY b), 1⟩ := by
  rw [ptOf_eq]
  simp only [jp, phi_I, phi_One, pX_nat h.len, phi_sgn h.len]
theorem Rd_of (b : List UInt8) : (ptOf b).Rd := by
  rw [ptOf_eq]
  refine ⟨Rd_I _, ?_, Rd_I _⟩
  unfold pSgn
  split
  · exact Rd_S _ _
  · exact Rd_E _ _
theorem jr_of {b : List UInt8} (h : IsOf b) : jr (rOf b).1 = ⟨fe (rX b), fe (rY b), 1⟩ := by
  rw [h.of]
  simp only [jr, fe_one]
theorem Ok_of {b : List UInt8} (h : IsOf b) : (rOf b).1.Ok := by
  rw [h.of]
  exact ⟨h.lt, rY_lt b, small_lt (n := 1) (by decide)⟩
/-- A point's bytes are those that it is of. -/
theorem bytes_back {b : List UInt8} (h : IsOf b) : pBytes (ptOf b) = b := by
  rw [pBytes_jb (Rd_of b), jp_of h, jb_one, fe_lt (rY_lt b), fe_lt h.lt]
  have hl := h.len
  obtain ⟨c, t, rfl⟩ : ∃ c t, b = c :: t := by
    cases b with
    | nil => simp at hl
    | cons c t => exact ⟨c, t, rfl⟩
  have ht : t.length = 32 := by simpa using hl
  have h2 := h.sgn
  have h7 := h.esg
  have e1 : (bytesN (rX (c :: t)) 32).reverse = t := by
    unfold rX
    rw [drop33, List.drop_one, List.tail_cons, bev_lev]
    have := bytesN_lev t.reverse
    rw [List.length_reverse, ht] at this
    rw [this, List.reverse_reverse]
  rw [e1]
  congr 1
  unfold P12.esg at h7
  rw [show Int.toNat 0 = 0 from rfl, Nat.pow_zero, Nat.div_one] at h7
  simp only [List.getD_cons_zero] at h2 h7
  generalize rY (c :: t) % 2 = p at *
  rcases h2 with rfl | rfl
  · have : p = 0 := by
      have e : Int.tmod ((2 : UInt8).toNat : Int) 2 = 0 := by decide
      rw [e, beq_iff_eq] at h7; omega
    rw [this]; rfl
  · have : p = 1 := by
      have e : Int.tmod ((3 : UInt8).toNat : Int) 2 = 1 := by decide
      rw [e, beq_iff_eq] at h7; omega
    rw [this]; rfl
theorem spOT_ok : SpecsOK Tryz.prog spOT := .cons ok_OfT spPT_ok
theorem spOF_ok : SpecsOK Tryz.prog spOF := .cons ok_OfF spPT_ok
theorem pair_of {b : List UInt8} (h : IsOf b) : pPair (ptOf b) = (fourN (rX b), fourN (rY b), true) := by
  have e := jp_of h
  have ez : phi (ptOf b).z = 1 := congrArg J.z e
  have ex : phi (ptOf b).x = fe (rX b) := congrArg J.x e
  have ey : phi (ptOf b).y = fe (rY b) := congrArg J.y e
  rw [pPair_eq]
  unfold pPair0
  rw [if_neg (fun k => one_ne (by rw [← ez]; exact (z_zero (Rd_of b).2.2).1 k))]
  have hv : phi (pV (ptOf b).z) = 1 := by
    rw [phi_V, ez]; exact jinv_one
  have e1 : nat4 (pO (pT (ptOf b).x (pairI (ptOf b)))) = rX b := by
    rw [pO_val, phi_T, pairI, phi_T, hv, ex]
    have : fe (rX b) * (1 * 1) = fe (rX b) := by generalize fe (rX b) = x; grind -lia -linarith -order (splits := 0)
    rw [this, fe_lt h.lt]
  have e2 : nat4 (pO (pT (ptOf b).y (pT (pairI (ptOf b)) (pV (ptOf b).z)))) = rY b := by
    rw [pO_val, phi_T, phi_T, pairI, phi_T, hv, ey]
    have : fe (rY b) * (1 * 1 * 1) = fe (rY b) := by generalize fe (rY b) = x; grind -lia -linarith -order (splits := 0)
    rw [this, fe_lt (rY_lt b)]
  rw [← fourN_of e1, ← fourN_of e2]
theorem nat4_small {n : Nat} (h : n < pN) : nat4 (fourN n) = n := by
  rw [nat4_fourN, Nat.mod_eq_of_lt (by have := pN_lt; omega)]
theorem same_of {p q : P3} (hp : p.Rd) (hq : q.Rd) (h1 : phi p.z = 1) (h2 : phi q.z = 1) : pSame p q = true ↔ jp p = jp q := by
  have n1 : ¬ eq4 p.z zero4 = true := fun k => one_ne (by rw [← h1]; exact (z_zero hp.2.2).1 k)
  have n2 : ¬ eq4 q.z zero4 = true := fun k => one_ne (by rw [← h2]; exact (z_zero hq.2.2).1 k)
  rw [pSame_eq]
  unfold pSame0
  rw [if_neg n1, if_neg n2]
  have e3 : addU p q = true ↔ phi p.x = phi q.x := by
    unfold addU
    rw [eq4_phi (Rd_T _ _) (Rd_T _ _)]
    simp only [phi_T, h1, h2]
    generalize phi p.x = x
    generalize phi q.x = y
    constructor <;> intro h <;> grind -lia -linarith -order (splits := 0)
  have e4 : addS p q = true ↔ phi p.y = phi q.y := by
    unfold addS
    rw [eq4_phi (Rd_T _ _) (Rd_T _ _)]
    simp only [phi_T, h1, h2]
    generalize phi p.y = x
    generalize phi q.y = y
    constructor <;> intro h <;> grind -lia -linarith -order (splits := 0)
  constructor
  · intro h
    split at h
    · rename_i h3
      simp only [jp, h1, h2, e3.1 h3, e4.1 h]
    · cases h
  · intro h
    have hx : phi p.x = phi q.x := congrArg J.x h
    have hy : phi p.y = phi q.y := congrArg J.y h
    rw [if_pos (e3.2 hx)]
    exact e4.2 hy
abbrev sPrimeBytes : SpecF := fspec (α := List UInt8 × Unit) total fun _ => true
theorem ok_PrimeBytes : SpecOK Tryz.prog 1000000 Sym.sNo := Sym.sNo_ok _ _
end Go.Proofs.YtficbeeoafiiaaaGreatDoor.P12
