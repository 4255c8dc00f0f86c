/- A symbolic machine for Go functions, and what the functions that the law reaches come to: FieldB. -/
import Derived.Test.YtigkddloeikpbaaGreatDoorQ8
import Derived.Test.YtigkddloeikpbaaGreatDoorQ9
import Derived.Test.YtigkddloeikpbaaGreatDoorQ10
/- Package field: elements of five limbs: what its functions compute, and what that is as numbers. -/
namespace Go.Proofs.YtigkddloeikpbaaGreatDoor
open Go.Sym

structure Five where
  x0 : UInt64
  x1 : UInt64
  x2 : UInt64
  x3 : UInt64
  x4 : UInt64
def Five.sv (a : Five) : SV := .agg [.u64 a.x0, .u64 a.x1, .u64 a.x2, .u64 a.x3, .u64 a.x4]
def dFive : SV → Option Five
  | .agg [.u64 a, .u64 b, .u64 c, .u64 d, .u64 e] => some ⟨a, b, c, d, e⟩
  | _ => none
instance : Enc Five where
  enc := Five.sv
  dec := dFive
  ok := by
    intro s a h at_ w v r
    unfold dFive at h
    split at h
    · simp only [Option.some.injEq] at h; subst h; exact r
    · cases h
  nn _ := rfl
structure Dbl where
  hi : UInt64
  lo : UInt64
def Dbl.sv (a : Dbl) : SV := .agg [.u64 a.hi, .u64 a.lo]
def dDbl : SV → Option Dbl
  | .agg [.u64 a, .u64 b] => some ⟨a, b⟩
  | _ => none
instance : Enc Dbl where
  enc := Dbl.sv
  dec := dDbl
  ok := by
    intro s a h at_ w v r
    unfold dDbl at h
    split at h
    · simp only [Option.some.injEq] at h; subst h; exact r
    · cases h
  nn _ := rfl

def fCarry (l : Five) : Five :=
  let t0 := l.x0 + 0
  let t1 := l.x1 + shr64 t0 51
  let t2 := l.x2 + shr64 t1 51
  let t3 := l.x3 + shr64 t2 51
  let t4 := l.x4 + shr64 t3 51
  ⟨(t0 &&& 2251799813685247) + 19 * shr64 t4 51, t1 &&& 2251799813685247, t2 &&& 2251799813685247, t3 &&& 2251799813685247, t4 &&& 2251799813685247⟩
def fAdd (a b : Five) : Five := fCarry ⟨a.x0 + b.x0, a.x1 + b.x1, a.x2 + b.x2, a.x3 + b.x3, a.x4 + b.x4⟩
def fSub (a b : Five) : Five := fCarry ⟨a.x0 + (9007199254740916 - b.x0), a.x1 + (9007199254740988 - b.x1), a.x2 + (9007199254740988 - b.x2), a.x3 + (9007199254740988 - b.x3), a.x4 + (9007199254740988 - b.x4)⟩
def fZero : Five := ⟨0, 0, 0, 0, 0⟩
def fNeg (a : Five) : Five := fSub fZero a
def dPlus (d : Dbl) (a b : UInt64) : Dbl := ⟨addLo d.hi (mul64 a b).1 (addHi d.lo (mul64 a b).2 0), addLo d.lo (mul64 a b).2 0⟩
def dZero : Dbl := ⟨0, 0⟩
structure Rows5 where
  r0 : Dbl
  r1 : Dbl
  r2 : Dbl
  r3 : Dbl
  r4 : Dbl
def mulRows (a b : Five) : Rows5 :=
  ⟨dPlus (dPlus (dPlus (dPlus (dPlus dZero a.x0 (1 * b.x0)) a.x1 (19 * b.x4)) a.x2 (19 * b.x3)) a.x3 (19 * b.x2)) a.x4 (19 * b.x1),
   dPlus (dPlus (dPlus (dPlus (dPlus dZero a.x0 (1 * b.x1)) a.x1 (1 * b.x0)) a.x2 (19 * b.x4)) a.x3 (19 * b.x3)) a.x4 (19 * b.x2),
   dPlus (dPlus (dPlus (dPlus (dPlus dZero a.x0 (1 * b.x2)) a.x1 (1 * b.x1)) a.x2 (1 * b.x0)) a.x3 (19 * b.x4)) a.x4 (19 * b.x3),
   dPlus (dPlus (dPlus (dPlus (dPlus dZero a.x0 (1 * b.x3)) a.x1 (1 * b.x2)) a.x2 (1 * b.x1)) a.x3 (1 * b.x0)) a.x4 (19 * b.x4),
   dPlus (dPlus (dPlus (dPlus (dPlus dZero a.x0 (1 * b.x4)) a.x1 (1 * b.x3)) a.x2 (1 * b.x2)) a.x3 (1 * b.x1)) a.x4 (1 * b.x0)⟩
/-- A row with what comes from below. -/
def rowUp (r c : Dbl) : Dbl := ⟨r.hi + (c.hi + addHi r.lo c.lo 0), addLo r.lo c.lo 0⟩
def carryOf (d : Dbl) : Dbl := ⟨shr64 d.hi 51, shl64 d.hi 13 ||| shr64 d.lo 51⟩
def mulUps (r : Rows5) : Rows5 :=
  let u0 := rowUp r.r0 dZero
  let u1 := rowUp r.r1 (carryOf u0)
  let u2 := rowUp r.r2 (carryOf u1)
  let u3 := rowUp r.r3 (carryOf u2)
  ⟨u0, u1, u2, u3, rowUp r.r4 (carryOf u3)⟩
def mulFin (u : Rows5) : Five :=
  let back := dPlus ⟨0, u.r0.lo &&& 2251799813685247⟩ (carryOf u.r4).lo 19
  fCarry ⟨back.lo &&& 2251799813685247, (u.r1.lo &&& 2251799813685247) + (shl64 back.hi 13 ||| shr64 back.lo 51), u.r2.lo &&& 2251799813685247, u.r3.lo &&& 2251799813685247, u.r4.lo &&& 2251799813685247⟩
def fMul (a b : Five) : Five := mulFin (mulUps (mulRows a b))
def fSq : Nat → Five → Five
  | 0, a => a
  | n + 1, a => fMul (fSq n a) (fSq n a)

/-! As numbers. -/
def V (a : Five) : Nat := a.x0.toNat + 2251799813685248 * a.x1.toNat + 5070602400912917605986812821504 * a.x2.toNat + 11417981541647679048466287755595961091061972992 * a.x3.toNat + 25711008708143844408671393477458601640355247900524685364822016 * a.x4.toNat
abbrev p5 : Nat := 57896044618658097711785492504343953926634992332820282019728792003956564819949
/-- All limbs below 2^52. -/
def Tame (a : Five) : Prop := a.x0.toNat < 4503599627370496 ∧ a.x1.toNat < 4503599627370496 ∧ a.x2.toNat < 4503599627370496 ∧ a.x3.toNat < 4503599627370496 ∧ a.x4.toNat < 4503599627370496
theorem and51 (x : UInt64) : (x &&& 2251799813685247).toNat = x.toNat % 2251799813685248 := by
  rw [UInt64.toNat_and, show (2251799813685247 : UInt64).toNat = 2 ^ 51 - 1 from rfl, Nat.and_two_pow_sub_one_eq_mod]
theorem shr51 (x : UInt64) : (shr64 x 51).toNat = x.toNat / 2251799813685248 := by rw [shr64_nat]
theorem add_small {x y : UInt64} (h : x.toNat + y.toNat < 18446744073709551616) : (x + y).toNat = x.toNat + y.toNat := by rw [UInt64.toNat_add]; exact Nat.mod_eq_of_lt h
/-- Limbs below 2^63: as many times p as are needed are taken away. -/
theorem fCarry_ok (l : Five) (h0 : l.x0.toNat < 9223372036854775808) (h1 : l.x1.toNat < 9223372036854775808) (h2 : l.x2.toNat < 9223372036854775808) (h3 : l.x3.toNat < 9223372036854775808) (h4 : l.x4.toNat < 9223372036854775808) :
    (∃ k, V (fCarry l) + p5 * k = V l) ∧ (fCarry l).x0.toNat < 2251799813685248 + 19 * 8192 ∧ (fCarry l).x1.toNat < 2251799813685248 ∧ (fCarry l).x2.toNat < 2251799813685248 ∧ (fCarry l).x3.toNat < 2251799813685248 ∧ (fCarry l).x4.toNat < 2251799813685248 := by
  unfold fCarry
  simp only
  have e0 : (l.x0 + 0).toNat = l.x0.toNat := by rw [UInt64.add_zero]
  generalize l.x0 + 0 = t0 at *
  have s0 := shr51 t0
  have e1 : (l.x1 + shr64 t0 51).toNat = l.x1.toNat + (shr64 t0 51).toNat := add_small (by omega)
  generalize l.x1 + shr64 t0 51 = t1 at *
  have s1 := shr51 t1
  have e2 : (l.x2 + shr64 t1 51).toNat = l.x2.toNat + (shr64 t1 51).toNat := add_small (by omega)
  generalize l.x2 + shr64 t1 51 = t2 at *
  have s2 := shr51 t2
  have e3 : (l.x3 + shr64 t2 51).toNat = l.x3.toNat + (shr64 t2 51).toNat := add_small (by omega)
  generalize l.x3 + shr64 t2 51 = t3 at *
  have s3 := shr51 t3
  have e4 : (l.x4 + shr64 t3 51).toNat = l.x4.toNat + (shr64 t3 51).toNat := add_small (by omega)
  generalize l.x4 + shr64 t3 51 = t4 at *
  have s4 := shr51 t4
  have m0 := and51 t0
  have m1 := and51 t1
  have m2 := and51 t2
  have m3 := and51 t3
  have m4 := and51 t4
  have e5 : (19 * shr64 t4 51).toNat = 19 * (shr64 t4 51).toNat := by
    rw [UInt64.toNat_mul, show (19 : UInt64).toNat = 19 from rfl]; omega
  have e6 : ((t0 &&& 2251799813685247) + 19 * shr64 t4 51).toNat = (t0 &&& 2251799813685247).toNat + (19 * shr64 t4 51).toNat := add_small (by omega)
  refine ⟨⟨(shr64 t4 51).toNat, ?_⟩, ?_, ?_, ?_, ?_, ?_⟩
  · simp only [V, p5]
    omega
  all_goals omega
theorem tame_lt {a : Five} (h : a.x0.toNat < 2251799813685248 + 19 * 8192 ∧ a.x1.toNat < 2251799813685248 ∧ a.x2.toNat < 2251799813685248 ∧ a.x3.toNat < 2251799813685248 ∧ a.x4.toNat < 2251799813685248) : Tame a := by
  obtain ⟨h0, h1, h2, h3, h4⟩ := h
  refine ⟨?_, ?_, ?_, ?_, ?_⟩ <;> omega
theorem mod_of_add {x y k : Nat} (h : x + p5 * k = y) : x % p5 = y % p5 := by rw [← h, Nat.add_mul_mod_self_left]
theorem fAdd_ok {a b : Five} (ha : Tame a) (hb : Tame b) : Tame (fAdd a b) ∧ V (fAdd a b) % p5 = (V a + V b) % p5 := by
  obtain ⟨a0, a1, a2, a3, a4⟩ := ha
  obtain ⟨b0, b1, b2, b3, b4⟩ := hb
  have e0 : (a.x0 + b.x0).toNat = a.x0.toNat + b.x0.toNat := add_small (by omega)
  have e1 : (a.x1 + b.x1).toNat = a.x1.toNat + b.x1.toNat := add_small (by omega)
  have e2 : (a.x2 + b.x2).toNat = a.x2.toNat + b.x2.toNat := add_small (by omega)
  have e3 : (a.x3 + b.x3).toNat = a.x3.toNat + b.x3.toNat := add_small (by omega)
  have e4 : (a.x4 + b.x4).toNat = a.x4.toNat + b.x4.toNat := add_small (by omega)
  obtain ⟨⟨k, hk⟩, h⟩ := fCarry_ok ⟨a.x0 + b.x0, a.x1 + b.x1, a.x2 + b.x2, a.x3 + b.x3, a.x4 + b.x4⟩ (by simp only [e0]; omega) (by simp only [e1]; omega) (by simp only [e2]; omega) (by simp only [e3]; omega) (by simp only [e4]; omega)
  refine ⟨tame_lt h, (mod_of_add hk).trans (congrArg (· % p5) ?_)⟩
  simp only [V, e0, e1, e2, e3, e4]
  omega
theorem fSub_ok {a b : Five} (ha : Tame a) (hb : Tame b) : Tame (fSub a b) ∧ V (fSub a b) % p5 = (V a + 4 * p5 - V b) % p5 := by
  obtain ⟨a0, a1, a2, a3, a4⟩ := ha
  obtain ⟨b0, b1, b2, b3, b4⟩ := hb
  have key : ∀ (x y c : UInt64), x.toNat < 4503599627370496 → y.toNat < 4503599627370496 → c.toNat ≤ 9007199254740992 → 4503599627370496 ≤ c.toNat → (x + (c - y)).toNat = x.toNat + c.toNat - y.toNat := fun x y c hx hy hc hc' => by
    have : (c - y).toNat = c.toNat - y.toNat := by rw [UInt64.toNat_sub]; omega
    rw [add_small (by omega), this]; omega
  have c0 : (9007199254740916 : UInt64).toNat = 9007199254740916 := rfl
  have c1 : (9007199254740988 : UInt64).toNat = 9007199254740988 := rfl
  have e0 := key a.x0 b.x0 9007199254740916 a0 b0 (by omega) (by omega)
  have e1 := key a.x1 b.x1 9007199254740988 a1 b1 (by omega) (by omega)
  have e2 := key a.x2 b.x2 9007199254740988 a2 b2 (by omega) (by omega)
  have e3 := key a.x3 b.x3 9007199254740988 a3 b3 (by omega) (by omega)
  have e4 := key a.x4 b.x4 9007199254740988 a4 b4 (by omega) (by omega)
  rw [c0] at e0
  rw [c1] at e1 e2 e3 e4
  obtain ⟨⟨k, hk⟩, h⟩ := fCarry_ok ⟨a.x0 + (9007199254740916 - b.x0), a.x1 + (9007199254740988 - b.x1), a.x2 + (9007199254740988 - b.x2), a.x3 + (9007199254740988 - b.x3), a.x4 + (9007199254740988 - b.x4)⟩ (by simp only [e0]; omega) (by simp only [e1]; omega) (by simp only [e2]; omega) (by simp only [e3]; omega) (by simp only [e4]; omega)
  refine ⟨tame_lt h, (mod_of_add hk).trans (congrArg (· % p5) ?_)⟩
  simp only [V, e0, e1, e2, e3, e4, p5]
  omega

def dval (d : Dbl) : Nat := 18446744073709551616 * d.hi.toNat + d.lo.toNat
theorem dPlus_val {d : Dbl} {a b : UInt64} (h : dval d + a.toNat * b.toNat < 340282366920938463463374607431768211456) : dval (dPlus d a b) = dval d + a.toNat * b.toNat := by
  have m := mul64_nat a b
  unfold dval dPlus at *
  simp only at *
  generalize mul64 a b = q at *
  have l := addLo_nat d.lo q.2 0
  have c := addHi_nat d.lo q.2 0 zero_le
  have hi := addLo_nat d.hi q.1 (addHi d.lo q.2 0)
  rw [show (0 : UInt64).toNat = 0 from rfl] at l c
  generalize addHi d.lo q.2 0 = k at *
  have := u64_lt d.lo
  have := u64_lt q.2
  generalize a.toNat * b.toNat = ab at *
  omega
theorem chain5 {a0 a1 a2 a3 a4 c0 c1 c2 c3 c4 : UInt64} (h0 : a0.toNat < 4503599627370496) (h1 : a1.toNat < 4503599627370496) (h2 : a2.toNat < 4503599627370496) (h3 : a3.toNat < 4503599627370496) (h4 : a4.toNat < 4503599627370496)
    (k0 : c0.toNat < 85568392920039424) (k1 : c1.toNat < 85568392920039424) (k2 : c2.toNat < 85568392920039424) (k3 : c3.toNat < 85568392920039424) (k4 : c4.toNat < 85568392920039424) :
    dval (dPlus (dPlus (dPlus (dPlus (dPlus dZero a0 c0) a1 c1) a2 c2) a3 c3) a4 c4) = a0.toNat * c0.toNat + a1.toNat * c1.toNat + a2.toNat * c2.toNat + a3.toNat * c3.toNat + a4.toNat * c4.toNat ∧
      a0.toNat * c0.toNat + a1.toNat * c1.toNat + a2.toNat * c2.toNat + a3.toNat * c3.toNat + a4.toNat * c4.toNat < 5192296858534827628530496329220096 := by
  have q0 := Nat.mul_lt_mul'' h0 k0
  have q1 := Nat.mul_lt_mul'' h1 k1
  have q2 := Nat.mul_lt_mul'' h2 k2
  have q3 := Nat.mul_lt_mul'' h3 k3
  have q4 := Nat.mul_lt_mul'' h4 k4
  have z : dval dZero = 0 := rfl
  have e0 := dPlus_val (d := dZero) (a := a0) (b := c0) (by omega)
  have e1 := dPlus_val (d := dPlus dZero a0 c0) (a := a1) (b := c1) (by omega)
  have e2 := dPlus_val (d := dPlus (dPlus dZero a0 c0) a1 c1) (a := a2) (b := c2) (by omega)
  have e3 := dPlus_val (d := dPlus (dPlus (dPlus dZero a0 c0) a1 c1) a2 c2) (a := a3) (b := c3) (by omega)
  have e4 := dPlus_val (d := dPlus (dPlus (dPlus (dPlus dZero a0 c0) a1 c1) a2 c2) a3 c3) (a := a4) (b := c4) (by omega)
  omega
theorem rowUp_val {r c : Dbl} (hr : dval r < 5192296858534827628530496329220096) (hc : c.hi.toNat = 0) : dval (rowUp r c) = dval r + c.lo.toNat := by
  unfold rowUp dval at *
  simp only at *
  have l := addLo_nat r.lo c.lo 0
  have k := addHi_nat r.lo c.lo 0 zero_le
  rw [show (0 : UInt64).toNat = 0 from rfl] at l k
  generalize addHi r.lo c.lo 0 = q at *
  have := u64_lt r.lo
  have := u64_lt c.lo
  have e1 : (c.hi + q).toNat = q.toNat := by rw [add_small (by omega)]; omega
  have e2 : (r.hi + (c.hi + q)).toNat = r.hi.toNat + (c.hi + q).toNat := add_small (by omega)
  omega
theorem carryOf_val {d : Dbl} (h : dval d < 10384593717069655257060992658440192) : (carryOf d).hi.toNat = 0 ∧ (carryOf d).lo.toNat = dval d / 2251799813685248 := by
  unfold carryOf dval at *
  simp only at *
  have l := u64_lt d.lo
  refine ⟨by rw [shr51]; omega, ?_⟩
  have e : d.lo.toNat / 2251799813685248 < 2 ^ 13 := by omega
  rw [UInt64.toNat_or, shl64_nat, shr51, Nat.mod_eq_of_lt (by omega), ← Nat.shiftLeft_eq, ← Nat.shiftLeft_add_eq_or_of_lt e, Nat.shiftLeft_eq]
  omega
theorem mulUps_val {r : Rows5} (h0 : dval r.r0 < 5192296858534827628530496329220096) (h1 : dval r.r1 < 5192296858534827628530496329220096) (h2 : dval r.r2 < 5192296858534827628530496329220096) (h3 : dval r.r3 < 5192296858534827628530496329220096) (h4 : dval r.r4 < 5192296858534827628530496329220096) :
    dval (mulUps r).r0 = dval r.r0 ∧ dval (mulUps r).r1 = dval r.r1 + dval (mulUps r).r0 / 2251799813685248 ∧ dval (mulUps r).r2 = dval r.r2 + dval (mulUps r).r1 / 2251799813685248 ∧ dval (mulUps r).r3 = dval r.r3 + dval (mulUps r).r2 / 2251799813685248 ∧ dval (mulUps r).r4 = dval r.r4 + dval (mulUps r).r3 / 2251799813685248 := by
  unfold mulUps
  simp only
  have e0 := rowUp_val (c := dZero) h0 rfl
  rw [show (dZero).lo.toNat = 0 from rfl] at e0
  have c0 := carryOf_val (d := rowUp r.r0 dZero) (by omega)
  have e1 := rowUp_val h1 c0.1
  have c1 := carryOf_val (d := rowUp r.r1 (carryOf (rowUp r.r0 dZero))) (by omega)
  have e2 := rowUp_val h2 c1.1
  have c2 := carryOf_val (d := rowUp r.r2 (carryOf (rowUp r.r1 (carryOf (rowUp r.r0 dZero))))) (by omega)
  have e3 := rowUp_val h3 c2.1
  have c3 := carryOf_val (d := rowUp r.r3 (carryOf (rowUp r.r2 (carryOf (rowUp r.r1 (carryOf (rowUp r.r0 dZero))))))) (by omega)
  have e4 := rowUp_val h4 c3.1
  refine ⟨by omega, by rw [e1, c0.2], by rw [e2, c1.2], by rw [e3, c2.2], by rw [e4, c3.2]⟩
theorem lo51 (d : Dbl) : (d.lo &&& 2251799813685247).toNat = dval d % 2251799813685248 := by
  rw [and51]; unfold dval; omega
theorem mulFin_val {u : Rows5} (h4 : dval u.r4 < 10384593717069655257060992658440192) :
    Tame (mulFin u) ∧ ∃ k, V (mulFin u) + p5 * k = dval u.r0 % 2251799813685248 + 19 * (dval u.r4 / 2251799813685248) + 2251799813685248 * (dval u.r1 % 2251799813685248) + 5070602400912917605986812821504 * (dval u.r2 % 2251799813685248) + 11417981541647679048466287755595961091061972992 * (dval u.r3 % 2251799813685248) + 25711008708143844408671393477458601640355247900524685364822016 * (dval u.r4 % 2251799813685248) := by
  unfold mulFin
  simp only
  have c4 := (carryOf_val h4).2
  have hb := dPlus_val (d := ⟨0, u.r0.lo &&& 2251799813685247⟩) (a := (carryOf u.r4).lo) (b := 19)
  have ev : dval ⟨0, u.r0.lo &&& 2251799813685247⟩ = dval u.r0 % 2251799813685248 := by
    rw [← lo51]; show 18446744073709551616 * 0 + (u.r0.lo &&& 2251799813685247).toNat = _; omega
  rw [ev, show (19 : UInt64).toNat = 19 from rfl, c4] at hb
  have hb := hb (by omega)
  generalize dPlus ⟨0, u.r0.lo &&& 2251799813685247⟩ (carryOf u.r4).lo 19 = back at *
  have cb := (carryOf_val (d := back) (by omega)).2
  have cb' : (shl64 back.hi 13 ||| shr64 back.lo 51).toNat = dval back / 2251799813685248 := cb
  generalize shl64 back.hi 13 ||| shr64 back.lo 51 = z at *
  have l0 := lo51 back
  have l1 := lo51 u.r1
  have l2 := lo51 u.r2
  have l3 := lo51 u.r3
  have l4 := lo51 u.r4
  have e1 : ((u.r1.lo &&& 2251799813685247) + z).toNat = (u.r1.lo &&& 2251799813685247).toNat + z.toNat := add_small (by omega)
  obtain ⟨⟨k, hk⟩, h⟩ := fCarry_ok ⟨back.lo &&& 2251799813685247, (u.r1.lo &&& 2251799813685247) + z, u.r2.lo &&& 2251799813685247, u.r3.lo &&& 2251799813685247, u.r4.lo &&& 2251799813685247⟩ (by simp only; omega) (by simp only [e1]; omega) (by simp only; omega) (by simp only; omega) (by simp only; omega)
  refine ⟨tame_lt h, k, hk.trans ?_⟩
  simp only [V, e1, l0, l1, l2, l3, l4]
  omega
theorem mul_expand (a0 a1 a2 a3 a4 b0 b1 b2 b3 b4 : Nat) :
    (a0 + 2251799813685248 * a1 + 5070602400912917605986812821504 * a2 + 11417981541647679048466287755595961091061972992 * a3 + 25711008708143844408671393477458601640355247900524685364822016 * a4) *
      (b0 + 2251799813685248 * b1 + 5070602400912917605986812821504 * b2 + 11417981541647679048466287755595961091061972992 * b3 + 25711008708143844408671393477458601640355247900524685364822016 * b4) =
    (a0 * b0 + a1 * (19 * b4) + a2 * (19 * b3) + a3 * (19 * b2) + a4 * (19 * b1)) +
    2251799813685248 * (a0 * b1 + a1 * b0 + a2 * (19 * b4) + a3 * (19 * b3) + a4 * (19 * b2)) +
    5070602400912917605986812821504 * (a0 * b2 + a1 * b1 + a2 * b0 + a3 * (19 * b4) + a4 * (19 * b3)) +
    11417981541647679048466287755595961091061972992 * (a0 * b3 + a1 * b2 + a2 * b1 + a3 * b0 + a4 * (19 * b4)) +
    25711008708143844408671393477458601640355247900524685364822016 * (a0 * b4 + a1 * b3 + a2 * b2 + a3 * b1 + a4 * b0) +
    57896044618658097711785492504343953926634992332820282019728792003956564819949 * ((a1 * b4 + a2 * b3 + a3 * b2 + a4 * b1) + 2251799813685248 * (a2 * b4 + a3 * b3 + a4 * b2) + 5070602400912917605986812821504 * (a3 * b4 + a4 * b3) + 11417981541647679048466287755595961091061972992 * (a4 * b4)) := by
  grind
theorem fMul_ok {a b : Five} (ha : Tame a) (hb : Tame b) : Tame (fMul a b) ∧ V (fMul a b) % p5 = V a * V b % p5 := by
  obtain ⟨a0, a1, a2, a3, a4⟩ := ha
  obtain ⟨b0, b1, b2, b3, b4⟩ := hb
  have one : ∀ x : UInt64, x.toNat < 4503599627370496 → (1 * x).toNat = x.toNat := fun x _ => by rw [UInt64.one_mul]
  have nt : ∀ x : UInt64, x.toNat < 4503599627370496 → (19 * x).toNat = 19 * x.toNat := fun x h => by
    rw [UInt64.toNat_mul, show (19 : UInt64).toNat = 19 from rfl]; omega
  have o0 := one _ b0
  have o1 := one _ b1
  have o2 := one _ b2
  have o3 := one _ b3
  have o4 := one _ b4
  have n1 := nt _ b1
  have n2 := nt _ b2
  have n3 := nt _ b3
  have n4 := nt _ b4
  have r0 := chain5 (c0 := 1 * b.x0) (c1 := 19 * b.x4) (c2 := 19 * b.x3) (c3 := 19 * b.x2) (c4 := 19 * b.x1) a0 a1 a2 a3 a4 (by omega) (by omega) (by omega) (by omega) (by omega)
  have r1 := chain5 (c0 := 1 * b.x1) (c1 := 1 * b.x0) (c2 := 19 * b.x4) (c3 := 19 * b.x3) (c4 := 19 * b.x2) a0 a1 a2 a3 a4 (by omega) (by omega) (by omega) (by omega) (by omega)
  have r2 := chain5 (c0 := 1 * b.x2) (c1 := 1 * b.x1) (c2 := 1 * b.x0) (c3 := 19 * b.x4) (c4 := 19 * b.x3) a0 a1 a2 a3 a4 (by omega) (by omega) (by omega) (by omega) (by omega)
  have r3 := chain5 (c0 := 1 * b.x3) (c1 := 1 * b.x2) (c2 := 1 * b.x1) (c3 := 1 * b.x0) (c4 := 19 * b.x4) a0 a1 a2 a3 a4 (by omega) (by omega) (by omega) (by omega) (by omega)
  have r4 := chain5 (c0 := 1 * b.x4) (c1 := 1 * b.x3) (c2 := 1 * b.x2) (c3 := 1 * b.x1) (c4 := 1 * b.x0) a0 a1 a2 a3 a4 (by omega) (by omega) (by omega) (by omega) (by omega)
  rw [o0, n4, n3, n2, n1] at r0
  rw [o1, o0, n4, n3, n2] at r1
  rw [o2, o1, o0, n4, n3] at r2
  rw [o3, o2, o1, o0, n4] at r3
  rw [o4, o3, o2, o1, o0] at r4
  have hR : dval (mulRows a b).r0 = _ := r0.1
  have hR1 : dval (mulRows a b).r1 = _ := r1.1
  have hR2 : dval (mulRows a b).r2 = _ := r2.1
  have hR3 : dval (mulRows a b).r3 = _ := r3.1
  have hR4 : dval (mulRows a b).r4 = _ := r4.1
  have hx := mul_expand a.x0.toNat a.x1.toNat a.x2.toNat a.x3.toNat a.x4.toNat b.x0.toNat b.x1.toNat b.x2.toNat b.x3.toNat b.x4.toNat
  obtain ⟨u0, u1, u2, u3, u4⟩ := mulUps_val (r := mulRows a b) (hR ▸ r0.2) (hR1 ▸ r1.2) (hR2 ▸ r2.2) (hR3 ▸ r3.2) (hR4 ▸ r4.2)
  have q0 := r0.2
  have q1 := r1.2
  have q2 := r2.2
  have q3 := r3.2
  have q4 := r4.2
  rw [hR] at u0
  rw [hR1] at u1
  rw [hR2] at u2
  rw [hR3] at u3
  rw [hR4] at u4
  unfold fMul
  obtain ⟨t, k, hk⟩ := mulFin_val (u := mulUps (mulRows a b)) (by omega)
  refine ⟨t, ?_⟩
  refine mod_of_add (k := k + dval (mulUps (mulRows a b)).r4 / 2251799813685248 + ((a.x1.toNat * b.x4.toNat + a.x2.toNat * b.x3.toNat + a.x3.toNat * b.x2.toNat + a.x4.toNat * b.x1.toNat) + 2251799813685248 * (a.x2.toNat * b.x4.toNat + a.x3.toNat * b.x3.toNat + a.x4.toNat * b.x2.toNat) + 5070602400912917605986812821504 * (a.x3.toNat * b.x4.toNat + a.x4.toNat * b.x3.toNat) + 11417981541647679048466287755595961091061972992 * (a.x4.toNat * b.x4.toNat))) ?_
  rw [Nat.mul_add, Nat.mul_add, ← Nat.add_assoc, ← Nat.add_assoc, hk]
  show _ = V a * V b
  unfold V
  rw [hx]
  generalize a.x0.toNat * b.x0.toNat + a.x1.toNat * (19 * b.x4.toNat) + a.x2.toNat * (19 * b.x3.toNat) + a.x3.toNat * (19 * b.x2.toNat) + a.x4.toNat * (19 * b.x1.toNat) = R0 at *
  generalize a.x0.toNat * b.x1.toNat + a.x1.toNat * b.x0.toNat + a.x2.toNat * (19 * b.x4.toNat) + a.x3.toNat * (19 * b.x3.toNat) + a.x4.toNat * (19 * b.x2.toNat) = R1 at *
  generalize a.x0.toNat * b.x2.toNat + a.x1.toNat * b.x1.toNat + a.x2.toNat * b.x0.toNat + a.x3.toNat * (19 * b.x4.toNat) + a.x4.toNat * (19 * b.x3.toNat) = R2 at *
  generalize a.x0.toNat * b.x3.toNat + a.x1.toNat * b.x2.toNat + a.x2.toNat * b.x1.toNat + a.x3.toNat * b.x0.toNat + a.x4.toNat * (19 * b.x4.toNat) = R3 at *
  generalize a.x0.toNat * b.x4.toNat + a.x1.toNat * b.x3.toNat + a.x2.toNat * b.x2.toNat + a.x3.toNat * b.x1.toNat + a.x4.toNat * b.x0.toNat = R4 at *
  generalize (a.x1.toNat * b.x4.toNat + a.x2.toNat * b.x3.toNat + a.x3.toNat * b.x2.toNat + a.x4.toNat * b.x1.toNat) + 2251799813685248 * (a.x2.toNat * b.x4.toNat + a.x3.toNat * b.x3.toNat + a.x4.toNat * b.x2.toNat) + 5070602400912917605986812821504 * (a.x3.toNat * b.x4.toNat + a.x4.toNat * b.x3.toNat) + 11417981541647679048466287755595961091061972992 * (a.x4.toNat * b.x4.toNat) = S at *
  simp only [p5]
  omega
end Go.Proofs.YtigkddloeikpbaaGreatDoor
