/- A symbolic machine for Go functions, and what the functions that the law reaches come to: EllM, EllA, EllB, EllC, EllD, EllQ, EllR, EllS, EllV, EllT, EllU. -/
import Derived.Test.YtigkddloeikpbaaGreatDoorQ23
import Derived.Test.YtigkddloeikpbaaGreatDoorQ20
import Derived.Test.YtigkddloeikpbaaGreatDoorQ16
/- The map from numbers to Edwards25519: which numbers are squares; what is mapped lies on the curve. No program. -/
set_option maxRecDepth 10000
namespace Go.Proofs.YtigkddloeikpbaaGreatDoor.E10
open Go.Sym Go.Dig R1 F4 Go.Alg

/-! Squares. -/
theorem hh_ex : ∃ e : Nat, e = 28948022309329048855892746252171976963317496166410141009864396001978282409974 := ⟨_, rfl⟩
/-- (p - 1) / 2, told so that no machine computes with it. -/
noncomputable def hE : Nat := Classical.choose hh_ex
theorem hE_eq : hE = 28948022309329048855892746252171976963317496166410141009864396001978282409974 := Classical.choose_spec hh_ex
theorem hE_2 : hE + hE = p5 - 1 := by rw [hE_eq]; decide
noncomputable def kh (x : K) : K := fe (x.val ^ hE)
theorem kh_mul (x y : K) : kh (x * y) = kh x * kh y := by
  unfold kh
  rw [← fe_mul, ← Nat.mul_pow, fe_eq, Fin.val_mul]
  exact (Nat.pow_mod _ _ _).symm
theorem fe_eq5 {a b : Nat} (h : a % p5 = b % p5) : fe a = fe b := by rw [← fe_mod5 a, h, fe_mod5]
theorem kh_sq {x : K} (h : x ≠ 0) : kh x * kh x = 1 := by
  unfold kh
  rw [← fe_mul, ← Nat.pow_add, hE_2, ← fe_one]
  have h0 : x.val % p5 ≠ 0 := fun e => h ((fe_of x).symm.trans ((fe_eq5 (b := 0) (by rw [e]; rfl)).trans fe_zero))
  exact fe_eq5 (by rw [fm h0]; decide)
theorem kh_one : kh 1 = 1 := by
  unfold kh
  rw [show (1 : K).val = 1 from fe_lt one_lt, Nat.one_pow, fe_one]
theorem kh_two : kh 2 = -1 := by
  unfold kh
  have e : (2 : K).val = 2 := by rw [two_fe]; exact fe_lt (by rw [pV_lit]; decide)
  have h : 2 ^ hE % p5 = p5 - 1 := pow_of 256 (by rw [hE_eq]; decide +kernel) (by rw [hE_eq]; decide +kernel)
  have h2 : fe (2 ^ hE) = fe (pV - 1) := by rw [fe_eq, pV_eq, h]; decide
  rw [e, h2, fe_sub (by rw [pV_lit]; decide), fe_pV, fe_one]
  grind -lia -linarith -order (splits := 0)
/-- Has it a root? -/
noncomputable def isSq (x : K) : Bool := (rootN x.val).2.1
noncomputable def rt (x : K) : K := fe (rootN x.val).1.n
theorem val_lt (x : K) : x.val < p5 := by rw [← pV_eq]; exact x.isLt
theorem rt_sq {x : K} (h : isSq x = true) : rt x * rt x = x := by
  obtain ⟨_, _, h3⟩ := rootN_true (val_lt x) h
  unfold rt
  rw [← fe_mul]
  exact (fe_eq5 (by rw [h3, Nat.mod_eq_of_lt (val_lt x)])).trans (fe_of x)
theorem q_ex : ∃ e : Nat, e = 14474011154664524427946373126085988481658748083205070504932198000989141204987 := ⟨_, rfl⟩
noncomputable def qE : Nat := Classical.choose q_ex
theorem qE_eq : qE = 14474011154664524427946373126085988481658748083205070504932198000989141204987 := Classical.choose_spec q_ex
theorem sq_one {y : K} (h : y * y = 1) : y = 1 ∨ y = 0 - 1 := sq_roots fld (a := y) (b := 1) (by rw [h]; grind -lia -linarith -order (splits := 0))
/-- What is 1 to the half has a root. -/
theorem isSq_of {x : K} (h : kh x = 1) : isSq x = true := by
  have hq : qE + qE = hE := by rw [qE_eq, hE_eq]
  have e1 : fe (x.val ^ qE) * fe (x.val ^ qE) = 1 := by rw [← fe_mul, ← Nat.pow_add, hq]; exact h
  have l1 : rt1 x.val < pV := by unfold rt1; exact Nat.mod_lt _ pV_pos
  have l2 : rt2 x.val < pV := by unfold rt2; exact Nat.mod_lt _ pV_pos
  have e2 : fe (rt1 x.val) * fe (rt1 x.val) = x * fe (x.val ^ qE) := by
    unfold rt1
    rw [fe_mod, ← fe_mul, ← Nat.pow_add]
    have : (pV + 3) / 8 + (pV + 3) / 8 = 1 + qE := by rw [pV_eq, qE_eq]; decide
    rw [this, Nat.pow_add, Nat.pow_one, fe_mul, fe_of]
  have e3 : fe (rt2 x.val) = fe (rt1 x.val) * fe im0 := by
    unfold rt2
    rw [fe_mod, fe_mul, im_pow]
  have t1 : fe (rt1 x.val) * fe (rt1 x.val) = x → rt1 x.val * rt1 x.val % pV = x.val := fun h => by
    rw [← fe_mul] at h
    have := congrArg Fin.val h
    rwa [fe_val] at this
  have t2 : fe (rt2 x.val) * fe (rt2 x.val) = x → rt2 x.val * rt2 x.val % pV = x.val := fun h => by
    rw [← fe_mul] at h
    have := congrArg Fin.val h
    rwa [fe_val] at this
  unfold isSq rootN
  by_cases c1 : rt1 x.val * rt1 x.val % pV = x.val
  · rw [if_pos c1]
  · rw [if_neg c1]
    rcases sq_one e1 with k | k
    · exfalso
      apply c1; apply t1
      rw [e2, k]; grind -lia -linarith -order (splits := 0)
    · have c2 : rt2 x.val * rt2 x.val % pV = x.val := by
        apply t2
        have him := im_neg
        rw [e3]
        have e4 : fe (rt1 x.val) * fe im0 * (fe (rt1 x.val) * fe im0) = (fe (rt1 x.val) * fe (rt1 x.val)) * (fe im0 * fe im0) := by
          generalize fe (rt1 x.val) = a
          generalize fe im0 = b
          grind -lia -linarith -order (splits := 0)
        rw [e4, e2, k, him]
        generalize x = y
        grind -lia -linarith -order (splits := 0)
      rw [if_pos c2]
theorem isSq_zero : isSq 0 = true := by
  unfold isSq
  have : (0 : K).val = 0 := rfl
  rw [this]
  have hr : rt1 0 = 0 := by unfold rt1; rw [Nat.zero_pow (by rw [pV_eq]; decide), Nat.zero_mod]
  unfold rootN
  rw [hr, Nat.zero_mul, Nat.zero_mod, if_pos rfl]
/-- What has no root is -1 to the half. -/
theorem kh_non {x : K} (h : isSq x = false) : kh x = 0 - 1 := by
  have h0 : x ≠ 0 := fun e => by rw [e, isSq_zero] at h; cases h
  rcases sq_one (kh_sq h0) with k | k
  · rw [isSq_of k] at h; cases h
  · exact k
/-- Twice what has no root, by a square, has one. -/
theorem isSq_twice {x u : K} (h : isSq x = false) : isSq (2 * (u * u) * x) = true := by
  by_cases hu : u = 0
  · subst hu
    have : (2 * (0 * 0) * x : K) = 0 := by grind -lia -linarith -order (splits := 0)
    rw [this]; exact isSq_zero
  · apply isSq_of
    rw [kh_mul, kh_mul, kh_mul, kh_sq hu, kh_two, kh_non h]
    grind -lia -linarith -order (splits := 0)
theorem isSq_sq (a : K) : isSq (a * a) = true := by
  by_cases h : a = 0
  · subst h
    have : (0 * 0 : K) = 0 := by grind -lia -linarith -order (splits := 0)
    rw [this]; exact isSq_zero
  · apply isSq_of
    rw [kh_mul]; exact kh_sq h

/-! The map. -/
noncomputable def jE : K := fe 486662
noncomputable def gM (s : K) : K := s * s * s + jE * (s * s) + s
theorem low_ne (u : K) : 1 + 2 * (u * u) ≠ 0 := fun h => by
  -- -1 is a square, 2 is none
  have him := im_neg
  have hu : u ≠ 0 := fun e => by
    rw [e] at h
    exact one_ne (by rw [← h]; grind -lia -linarith -order (splits := 0))
  have e : 2 * (u * u) = fe im0 * fe im0 := by
    rw [him]
    generalize u * u = v at *
    grind -lia -linarith -order (splits := 0)
  have hi : fe im0 ≠ 0 := fun e0 => by
    rw [e0] at him
    exact one_ne (by
      have : (1 : K) = -(0 * 0) := by rw [him]; grind -lia -linarith -order (splits := 0)
      rw [this]; grind -lia -linarith -order (splits := 0))
  have k := congrArg kh e
  rw [kh_mul, kh_mul, kh_mul, kh_sq hu, kh_sq hi, kh_two] at k
  exact two_ne (by
    have : (2 : K) = 1 - (-1 * 1) := by grind -lia -linarith -order (splits := 0)
    rw [this, k]; grind -lia -linarith -order (splits := 0))
noncomputable def mX (u : K) : K := (0 - jE) * finv (1 + 2 * (u * u))
noncomputable def mPair (u : K) : K × K :=
  if isSq (gM (mX u)) = true then (mX u, 0 - rt (gM (mX u))) else (0 - mX u - jE, rt (gM (0 - mX u - jE)))
theorem other_side (u : K) : gM (0 - mX u - jE) = 2 * (u * u) * gM (mX u) := by
  have h := fld.mul_finv (low_ne u)
  unfold gM mX
  generalize finv (1 + 2 * (u * u)) = c at *
  generalize jE = j
  generalize u * u = v at *
  have e : 0 - (0 - j) * c - j = 2 * v * ((0 - j) * c) := by
    have : j = j * ((1 + 2 * v) * c) := by rw [h]; grind -lia -linarith -order (splits := 0)
    have e2 : 0 - (0 - j) * c - j = j * c - j * ((1 + 2 * v) * c) := by rw [← this]; grind -lia -linarith -order (splits := 0)
    rw [e2]; clear this e2 h; grind -lia -linarith -order (splits := 0)
  generalize hx : (0 - j) * c = x at *
  have e3 : (0 - x - j) * (0 - x - j) + j * (0 - x - j) = x * x + j * x := by clear h hx e; grind -lia -linarith -order (splits := 0)
  have e4 : (0 - x - j) * (0 - x - j) * (0 - x - j) + j * ((0 - x - j) * (0 - x - j)) + (0 - x - j) = (0 - x - j) * ((0 - x - j) * (0 - x - j) + j * (0 - x - j) + 1) := by clear h hx e e3; grind -lia -linarith -order (splits := 0)
  rw [e4, e3, e]
  clear h hx e e3 e4
  grind -lia -linarith -order (splits := 0)
/-- A number's pair lies on the other curve. -/
theorem mPair_on (u : K) : (mPair u).2 * (mPair u).2 = gM (mPair u).1 := by
  unfold mPair
  by_cases h : isSq (gM (mX u)) = true
  · rw [if_pos h]
    have := rt_sq h
    simp only
    generalize rt (gM (mX u)) = r at *
    rw [← this]
    clear this h
    grind -lia -linarith -order (splits := 0)
  · rw [if_neg h]
    have h' : isSq (gM (mX u)) = false := by simpa using h
    have := isSq_twice (u := u) h'
    rw [← other_side] at this
    exact rt_sq this
noncomputable def cE : K := fe (rootN (pV - 486664)).1.n
theorem val_c : (0 - fe 486664 : K).val = pV - 486664 := by
  have h : (0 - fe 486664 : K) = fe (pV - 486664) := by rw [fe_sub (by rw [pV_lit]; decide), fe_pV]
  rw [h]
  exact fe_lt (by rw [pV_lit]; decide)
theorem cE_sq : cE * cE = 0 - fe 486664 := by
  have h1 : isSq (fe 6853475219497561581579357271197624642482790079785650197046958215289687604742 * fe 6853475219497561581579357271197624642482790079785650197046958215289687604742) = true := isSq_sq _
  have h2 : (fe 6853475219497561581579357271197624642482790079785650197046958215289687604742 * fe 6853475219497561581579357271197624642482790079785650197046958215289687604742 : K) = 0 - fe 486664 := by
    rw [← fe_mul]
    apply Fin.ext
    rw [val_c, fe_val, pV_lit]
  rw [h2] at h1
  have h3 := rt_sq h1
  unfold rt at h3
  rw [val_c] at h3
  exact h3
theorem dE_j : (jE + 2) * dE = 0 - (jE - 2) := by
  unfold jE dE
  rw [rD_lit, two_fe, ← fe_add, ← fe_mul]
  have : (fe 486662 - fe 2 : K) = fe 486660 := by rw [← fe_sub (by decide)]
  rw [this]
  have h : (0 - fe 486660 : K) = fe (pV - 486660) := by rw [fe_sub (by rw [pV_lit]; decide), fe_pV]
  rw [h, fe_eq, pV_lit]
  decide +kernel
theorem cE_j : cE * cE = 0 - (jE + 2) := by
  rw [cE_sq]
  unfold jE
  rw [two_fe, ← fe_add]
/-- What is mapped lies on the curve. -/
theorem map_on {s t : K} (h : t * t = gM s) (ht : t ≠ 0) (hs : s + 1 ≠ 0) : On dE (cE * s * finv t) ((s - 1) * finv (s + 1)) := by
  have i1 := fld.mul_finv ht
  have i2 := fld.mul_finv hs
  have hc := cE_j
  have hd := dE_j
  unfold On gM at *
  generalize finv t = a at *
  generalize hb : finv (s + 1) = b at *
  generalize cE = c at *
  generalize dE = d at *
  generalize jE = j at *
  have hn : t * t * ((s + 1) * (s + 1)) ≠ 0 := fld.mul_ne (fld.sq_ne ht) (fld.sq_ne hs)
  refine fld.cancel hn ?_
  have ex : c * s * a * (c * s * a) * (t * t) = (0 - (j + 2)) * (s * s) := by
    have : c * s * a * (c * s * a) * (t * t) = (c * c) * (s * s) * ((t * a) * (t * a)) := by clear i1 i2 hc hd h hn ht hs hb; grind -lia -linarith -order (splits := 0)
    rw [this, i1, hc]; clear i1 i2 hc hd h hn ht hs hb this; grind -lia -linarith -order (splits := 0)
  have ey : (s - 1) * b * ((s - 1) * b) * ((s + 1) * (s + 1)) = (s - 1) * (s - 1) := by
    have : (s - 1) * b * ((s - 1) * b) * ((s + 1) * (s + 1)) = (s - 1) * (s - 1) * (((s + 1) * b) * ((s + 1) * b)) := by clear i1 i2 hc hd h hn ht hs hb ex; grind -lia -linarith -order (splits := 0)
    rw [this, i2]; clear i1 i2 hc hd h hn ht hs hb this ex; grind -lia -linarith -order (splits := 0)
  generalize c * s * a * (c * s * a) = x at *
  generalize (s - 1) * b * ((s - 1) * b) = y at *
  have l1 : (y - x) * (t * t * ((s + 1) * (s + 1))) = (y * ((s + 1) * (s + 1))) * (t * t) - (x * (t * t)) * ((s + 1) * (s + 1)) := by clear i1 i2 hc hd h hn ht hs hb ex ey; grind -lia -linarith -order (splits := 0)
  have l2 : (1 + d * x * y) * (t * t * ((s + 1) * (s + 1))) = t * t * ((s + 1) * (s + 1)) + d * (x * (t * t)) * (y * ((s + 1) * (s + 1))) := by clear i1 i2 hc hd h hn ht hs hb ex ey l1; grind -lia -linarith -order (splits := 0)
  rw [l1, l2, ex, ey]
  have l3 : d * ((0 - (j + 2)) * (s * s)) * ((s - 1) * (s - 1)) = (0 - (j + 2) * d) * (s * s) * ((s - 1) * (s - 1)) := by clear i1 i2 hc hd h hn ht hs hb ex ey l1 l2; grind -lia -linarith -order (splits := 0)
  rw [l3, hd, h]
  clear i1 i2 hc hd h hn ht hs hb ex ey l1 l2 l3
  grind -lia -linarith -order (splits := 0)
end Go.Proofs.YtigkddloeikpbaaGreatDoor.E10
/- Package elligator: what its functions come to. -/
set_option maxRecDepth 10000
namespace Go.Proofs.YtigkddloeikpbaaGreatDoor.E10
open Go.Sym Go.Dig R1 F4
noncomputable def jF : Five := smallV 486662
noncomputable def sBig : SpecF := fspec (α := Unit) total (fun _ => jF)
--STOP smallV, jF
noncomputable def spE5 : Specs := (54, sBig) :: spE4
theorem vcBigE (Q : SV → Prop) : LnRaw tt spE4 9 [] {} Tryz.f54 Q () =
 (Q
 (SV.agg
 [SV.u64 (Five.x0 (smallV (UInt32.ofNat (Int.toNat (486662 : Int))))),
 SV.u64 (Five.x1 (smallV (UInt32.ofNat (Int.toNat (486662 : Int))))),
 SV.u64 (Five.x2 (smallV (UInt32.ofNat (Int.toNat (486662 : Int))))),
 SV.u64 (Five.x3 (smallV (UInt32.ofNat (Int.toNat (486662 : Int))))),
 SV.u64 (Five.x4 (smallV (UInt32.ofNat (Int.toNat (486662 : Int)))))])) := by kernel_rfl
noncomputable def side0 (s : Five) : Five := fAdd (fAdd (fMul (fMul s s) s) (fMul jF (fMul s s))) s
theorem vcSideE (s : Five) (Q : SV → Prop) : LnRaw tt spE5 9 [] {} Tryz.f78 Q (s, ()) =
 (Q
 (SV.agg
 [SV.u64 (Five.x0 (fAdd (fAdd (fMul (fMul s s) s) (fMul jF (fMul s s))) s)),
 SV.u64 (Five.x1 (fAdd (fAdd (fMul (fMul s s) s) (fMul jF (fMul s s))) s)),
 SV.u64 (Five.x2 (fAdd (fAdd (fMul (fMul s s) s) (fMul jF (fMul s s))) s)),
 SV.u64 (Five.x3 (fAdd (fAdd (fMul (fMul s s) s) (fMul jF (fMul s s))) s)),
 SV.u64 (Five.x4 (fAdd (fAdd (fMul (fMul s s) s) (fMul jF (fMul s s))) s))])) := by kernel_rfl
theorem vcCurveE (Q : SV → Prop) : LnRaw tt spE5 9 [] {} Tryz.f51 Q () = Q (.agg [.fn 78 []]) := by kernel_rfl
theorem side_ex : ∃ f : Five → Five, f = side0 := ⟨_, rfl⟩
noncomputable def sideV : Five → Five := Classical.choose side_ex
theorem sideV_eq : sideV = side0 := Classical.choose_spec side_ex
noncomputable def sSideE : SpecF := fspec (α := Five × Unit) total (fun a => sideV a.1)
/-- The curve's other side, as a function. -/
structure CurveF where
instance : RetL CurveF := ⟨fun _ => [.agg [.fn 78 []]]⟩
def sCurveE : SpecF := fspec (α := Unit) total (fun _ => CurveF.mk)
noncomputable def spE6 : Specs := (51, sCurveE) :: (78, sSideE) :: spE5
end Go.Proofs.YtigkddloeikpbaaGreatDoor.E10
/- Package elligator: pairs and points: what the bodies come to. -/
set_option maxRecDepth 10000
namespace Go.Proofs.YtigkddloeikpbaaGreatDoor.E10
open Go.Sym Go.Dig R1 F4
--STOP smallV, jF, sideV
theorem vcPairT (u : Five) (Q : SV → Prop) : LnRaw tt spE6 9 [(6, 2, .b false), (9, 0, .b true)] {} Tryz.f15 Q (u, ()) =
 ((fSame (fAdd (smallV (UInt32.ofNat (Int.toNat (1 : Int)))) (fAdd (fMul u u) (fMul u u)))
 (Five.mk (UInt64.ofNat (Int.toNat (0 : Int))) (UInt64.ofNat (Int.toNat (0 : Int)))
 (UInt64.ofNat (Int.toNat (0 : Int))) (UInt64.ofNat (Int.toNat (0 : Int))) (UInt64.ofNat (Int.toNat (0 : Int)))) =
 false) ∧
 ((Prod.snd
 (fRootV
 (sideV (fMul (fNeg jF) (fInv (fAdd (smallV (UInt32.ofNat (Int.toNat (1 : Int)))) (fAdd (fMul u u) (fMul u u))))))
 (smallV (UInt32.ofNat (Int.toNat (1 : Int))))) =
 true) ∧
 (Q
 (SV.tup
 [SV.agg
 [SV.u64
 (Five.x0
 (fMul (fNeg jF)
 (fInv (fAdd (smallV (UInt32.ofNat (Int.toNat (1 : Int)))) (fAdd (fMul u u) (fMul u u)))))),
 SV.u64
 (Five.x1
 (fMul (fNeg jF)
 (fInv (fAdd (smallV (UInt32.ofNat (Int.toNat (1 : Int)))) (fAdd (fMul u u) (fMul u u)))))),
 SV.u64
 (Five.x2
 (fMul (fNeg jF)
 (fInv (fAdd (smallV (UInt32.ofNat (Int.toNat (1 : Int)))) (fAdd (fMul u u) (fMul u u)))))),
 SV.u64
 (Five.x3
 (fMul (fNeg jF)
 (fInv (fAdd (smallV (UInt32.ofNat (Int.toNat (1 : Int)))) (fAdd (fMul u u) (fMul u u)))))),
 SV.u64
 (Five.x4
 (fMul (fNeg jF)
 (fInv (fAdd (smallV (UInt32.ofNat (Int.toNat (1 : Int)))) (fAdd (fMul u u) (fMul u u))))))],
 SV.agg
 [SV.u64
 (Five.x0
 (fNeg
 (Prod.fst
 (fRootV
 (sideV
 (fMul (fNeg jF)
 (fInv (fAdd (smallV (UInt32.ofNat (Int.toNat (1 : Int)))) (fAdd (fMul u u) (fMul u u))))))
 (smallV (UInt32.ofNat (Int.toNat (1 : Int)))))))),
 SV.u64
 (Five.x1
 (fNeg
 (Prod.fst
 (fRootV
 (sideV
 (fMul (fNeg jF)
 (fInv (fAdd (smallV (UInt32.ofNat (Int.toNat (1 : Int)))) (fAdd (fMul u u) (fMul u u))))))
 (smallV (UInt32.ofNat (Int.toNat (1 : Int)))))))),
 SV.u64
 (Five.x2
 (fNeg
 (Prod.fst
 (fRootV
 (sideV
 (fMul (fNeg jF)
 (fInv (fAdd (smallV (UInt32.ofNat (Int.toNat (1 : Int)))) (fAdd (fMul u u) (fMul u u))))))
 (smallV (UInt32.ofNat (Int.toNat (1 : Int)))))))),
 SV.u64
 (Five.x3
 (fNeg
 (Prod.fst
 (fRootV
 (sideV
 (fMul (fNeg jF)
 (fInv (fAdd (smallV (UInt32.ofNat (Int.toNat (1 : Int)))) (fAdd (fMul u u) (fMul u u))))))
 (smallV (UInt32.ofNat (Int.toNat (1 : Int)))))))),
 SV.u64
 (Five.x4
 (fNeg
 (Prod.fst
 (fRootV
 (sideV
 (fMul (fNeg jF)
 (fInv (fAdd (smallV (UInt32.ofNat (Int.toNat (1 : Int)))) (fAdd (fMul u u) (fMul u u))))))
 (smallV (UInt32.ofNat (Int.toNat (1 : Int))))))))]])))) := by kernel_rfl
theorem vcPairF (u : Five) (Q : SV → Prop) : LnRaw tt spE6 9 [(6, 2, .b false), (9, 0, .b false)] {} Tryz.f15 Q (u, ()) =
 ((fSame (fAdd (smallV (UInt32.ofNat (Int.toNat (1 : Int)))) (fAdd (fMul u u) (fMul u u)))
 (Five.mk (UInt64.ofNat (Int.toNat (0 : Int))) (UInt64.ofNat (Int.toNat (0 : Int)))
 (UInt64.ofNat (Int.toNat (0 : Int))) (UInt64.ofNat (Int.toNat (0 : Int))) (UInt64.ofNat (Int.toNat (0 : Int)))) =
 false) ∧
 ((Prod.snd
 (fRootV
 (sideV (fMul (fNeg jF) (fInv (fAdd (smallV (UInt32.ofNat (Int.toNat (1 : Int)))) (fAdd (fMul u u) (fMul u u))))))
 (smallV (UInt32.ofNat (Int.toNat (1 : Int))))) =
 false) ∧
 (Q
 (SV.tup
 [SV.agg
 [SV.u64
 (Five.x0
 (fSub
 (fNeg
 (fMul (fNeg jF)
 (fInv (fAdd (smallV (UInt32.ofNat (Int.toNat (1 : Int)))) (fAdd (fMul u u) (fMul u u))))))
 jF)),
 SV.u64
 (Five.x1
 (fSub
 (fNeg
 (fMul (fNeg jF)
 (fInv (fAdd (smallV (UInt32.ofNat (Int.toNat (1 : Int)))) (fAdd (fMul u u) (fMul u u))))))
 jF)),
 SV.u64
 (Five.x2
 (fSub
 (fNeg
 (fMul (fNeg jF)
 (fInv (fAdd (smallV (UInt32.ofNat (Int.toNat (1 : Int)))) (fAdd (fMul u u) (fMul u u))))))
 jF)),
 SV.u64
 (Five.x3
 (fSub
 (fNeg
 (fMul (fNeg jF)
 (fInv (fAdd (smallV (UInt32.ofNat (Int.toNat (1 : Int)))) (fAdd (fMul u u) (fMul u u))))))
 jF)),
 SV.u64
 (Five.x4
 (fSub
 (fNeg
 (fMul (fNeg jF)
 (fInv (fAdd (smallV (UInt32.ofNat (Int.toNat (1 : Int)))) (fAdd (fMul u u) (fMul u u))))))
 jF))],
 SV.agg
 [SV.u64
 (Five.x0
 (Prod.fst
 (fRootV
 (sideV
 (fSub
 (fNeg
 (fMul (fNeg jF)
 (fInv (fAdd (smallV (UInt32.ofNat (Int.toNat (1 : Int)))) (fAdd (fMul u u) (fMul u u))))))
 jF))
 (smallV (UInt32.ofNat (Int.toNat (1 : Int))))))),
 SV.u64
 (Five.x1
 (Prod.fst
 (fRootV
 (sideV
 (fSub
 (fNeg
 (fMul (fNeg jF)
 (fInv (fAdd (smallV (UInt32.ofNat (Int.toNat (1 : Int)))) (fAdd (fMul u u) (fMul u u))))))
 jF))
 (smallV (UInt32.ofNat (Int.toNat (1 : Int))))))),
 SV.u64
 (Five.x2
 (Prod.fst
 (fRootV
 (sideV
 (fSub
 (fNeg
 (fMul (fNeg jF)
 (fInv (fAdd (smallV (UInt32.ofNat (Int.toNat (1 : Int)))) (fAdd (fMul u u) (fMul u u))))))
 jF))
 (smallV (UInt32.ofNat (Int.toNat (1 : Int))))))),
 SV.u64
 (Five.x3
 (Prod.fst
 (fRootV
 (sideV
 (fSub
 (fNeg
 (fMul (fNeg jF)
 (fInv (fAdd (smallV (UInt32.ofNat (Int.toNat (1 : Int)))) (fAdd (fMul u u) (fMul u u))))))
 jF))
 (smallV (UInt32.ofNat (Int.toNat (1 : Int))))))),
 SV.u64
 (Five.x4
 (Prod.fst
 (fRootV
 (sideV
 (fSub
 (fNeg
 (fMul (fNeg jF)
 (fInv (fAdd (smallV (UInt32.ofNat (Int.toNat (1 : Int)))) (fAdd (fMul u u) (fMul u u))))))
 jF))
 (smallV (UInt32.ofNat (Int.toNat (1 : Int)))))))]])))) := by kernel_rfl
end Go.Proofs.YtigkddloeikpbaaGreatDoor.E10
/- Package elligator: pairs: the bodies hold. -/
set_option maxRecDepth 10000
namespace Go.Proofs.YtigkddloeikpbaaGreatDoor.E10
open Go.Sym Go.Dig R1 F4 Go.Alg
theorem ok_BigE : SpecOK Tryz.prog 54 sBig := by
  refine fn_okL (by kernel_rfl) tt_ok spE4_ok 9 Tryz.func54 (by decide +kernel) (by kernel_rfl) ?_
  rintro ⟨⟩ _
  exact ⟨_, {}, fun x => x = _, LnVD.of (vcBigE _) rfl, svf⟩
theorem spE5_ok : SpecsOK Tryz.prog spE5 := .cons ok_BigE spE4_ok
theorem ok_SideE : SpecOK Tryz.prog 78 sSideE := by
  unfold sSideE
  rw [sideV_eq]
  refine fn_okL (by kernel_rfl) tt_ok spE5_ok 9 Tryz.func78 (by decide +kernel) (by kernel_rfl) ?_
  rintro ⟨s, _⟩ _
  exact ⟨_, {}, fun x => x = _, LnVD.of (vcSideE s _) rfl, svf⟩
theorem ok_CurveE : SpecOK Tryz.prog 51 sCurveE := by
  refine fn_okL (by kernel_rfl) tt_ok spE5_ok 9 Tryz.func51 (by decide +kernel) (by kernel_rfl) ?_
  rintro ⟨⟩ _
  exact ⟨_, {}, fun x => x = _, LnVD.of (vcCurveE _) rfl, svf⟩
theorem spE6_ok : SpecsOK Tryz.prog spE6 := .cons ok_CurveE <| .cons ok_SideE spE5_ok
/-! What they say. -/
noncomputable def oneF : Five := smallV (UInt32.ofNat (Int.toNat (1 : Int)))
abbrev zeroF : Five := Five.mk (UInt64.ofNat (Int.toNat (0 : Int))) (UInt64.ofNat (Int.toNat (0 : Int))) (UInt64.ofNat (Int.toNat (0 : Int))) (UInt64.ofNat (Int.toNat (0 : Int))) (UInt64.ofNat (Int.toNat (0 : Int)))
theorem zeroF_eq : zeroF = fZero := rfl
theorem oneF_ok : Tame oneF ∧ fE oneF = 1 := by
  have h := N5_small (UInt32.ofNat (Int.toNat (1 : Int)))
  refine ⟨h.1, ?_⟩
  unfold fE oneF
  rw [h.2, ← fe_one]
  rfl
theorem jF_ok : Tame jF ∧ fE jF = jE := by
  have h := N5_small 486662
  refine ⟨h.1, ?_⟩
  unfold fE jF jE
  rw [h.2]
  rfl
theorem side0_ok {s : Five} (h : Tame s) : Tame (sideV s) ∧ fE (sideV s) = gM (fE s) := by
  rw [sideV_eq]
  unfold side0 gM
  have hj := jF_ok
  have s2 := tame_mul h h
  have s3 := tame_mul s2 h
  have s4 := tame_mul hj.1 s2
  have s5 := tame_add s3 s4
  refine ⟨tame_add s5 h, ?_⟩
  rw [fE_add s5 h, fE_add s3 s4, fE_mul s2 h, fE_mul hj.1 s2, fE_mul h h, hj.2]
noncomputable def lowF (u : Five) : Five := fAdd oneF (fAdd (fMul u u) (fMul u u))
noncomputable def xF (u : Five) : Five := fMul (fNeg jF) (fInv (lowF u))
theorem lowF_ok {u : Five} (h : Tame u) : Tame (lowF u) ∧ fE (lowF u) = 1 + 2 * (fE u * fE u) := by
  unfold lowF
  have h1 := oneF_ok
  have s2 := tame_mul h h
  have s3 := tame_add s2 s2
  refine ⟨tame_add h1.1 s3, ?_⟩
  rw [fE_add h1.1 s3, fE_add s2 s2, fE_mul h h, h1.2]
  generalize fE u = v
  grind -lia -linarith -order (splits := 0)
theorem low_not {u : Five} (h : Tame u) : fSame (lowF u) zeroF = false := by
  rw [zeroF_eq, fE_same (lowF_ok h).1 N5_zero.1, fE_zero, (lowF_ok h).2]
  exact decide_eq_false (low_ne _)
theorem xF_ok {u : Five} (h : Tame u) : Tame (xF u) ∧ fE (xF u) = mX (fE u) := by
  unfold xF mX
  have hj := jF_ok
  have hl := lowF_ok h
  have hi := fE_inv hl.1
  have hn := tame_neg hj.1
  refine ⟨tame_mul hn hi.1, ?_⟩
  rw [fE_mul hn hi.1, hi.2, hl.2, fE_neg hj.1, hj.2]
theorem rootK {x : Five} (h : Tame x) : Tame (fRootV x oneF).1 ∧ (fRootV x oneF).2 = isSq (fE x) ∧ fE (fRootV x oneF).1 = rt (fE x) := by
  obtain ⟨r1, r2, r3⟩ := root_ok h oneF_ok.1
  have h1 : N5 oneF = 1 := by rw [N5_fE, oneF_ok.2]; exact fe_lt one_lt
  rw [h1] at r2 r3
  obtain ⟨a, la, e1, e2, _⟩ := ratio_2 (U := N5 x) (W := 1) (N5_lt x) (by decide) (by decide)
  have ha : a = N5 x := by rw [Nat.one_mul, Nat.mod_eq_of_lt la] at e1; exact e1
  rw [e2, ha] at r2 r3
  refine ⟨r1, ?_, ?_⟩
  · rw [r2]; unfold isSq; rw [N5_fE]
  · unfold rt
    rw [← N5_fE, ← r3]; rfl
/-! Pairs. -/
noncomputable def pair0 (u : Five) : Five × Five :=
  if (fRootV (sideV (xF u)) oneF).2 = true then (xF u, fNeg (fRootV (sideV (xF u)) oneF).1)
  else (fSub (fNeg (xF u)) jF, (fRootV (sideV (fSub (fNeg (xF u)) jF)) oneF).1)
theorem pair_ex : ∃ f : Five → Five × Five, f = pair0 := ⟨_, rfl⟩
noncomputable def pairV : Five → Five × Five := Classical.choose pair_ex
theorem pairV_eq : pairV = pair0 := Classical.choose_spec pair_ex
noncomputable def sPairE : SpecF := fspec (α := Five × Unit) (β := Five × Five) (fun a => some (Tame a.1)) (fun a => pairV a.1)
theorem ok_PairE : SpecOK Tryz.prog 15 sPairE := by
  unfold sPairE
  rw [pairV_eq]
  refine fn_okL (by kernel_rfl) tt_ok spE6_ok 9 Tryz.func15 (by decide +kernel) (by kernel_rfl) ?_
  rintro ⟨u, _⟩ hu
  replace hu : Tame u := hu
  show ∃ D L, ∃ Q : SV → Prop, LnVD tt spE6 9 D L _ Q (u, ()) ∧ ∀ z, Q z → ∀ (at_ : At) (w : World) (v : Value), Rel at_ w z v → Rel at_ w (retSV (RetL.retL (pair0 u))) v
  cases h : (fRootV (sideV (xF u)) oneF).2 with
  | true =>
    have e : pair0 u = (xF u, fNeg (fRootV (sideV (xF u)) oneF).1) := by unfold pair0; rw [if_pos h]
    rw [e]
    exact ⟨_, {}, fun x => x = _, LnVD.of (vcPairT u _) ⟨low_not hu, h, rfl⟩, svf⟩
  | false =>
    have e : pair0 u = (fSub (fNeg (xF u)) jF, (fRootV (sideV (fSub (fNeg (xF u)) jF)) oneF).1) := by unfold pair0; rw [if_neg (by rw [h]; exact Bool.false_ne_true)]
    rw [e]
    exact ⟨_, {}, fun x => x = _, LnVD.of (vcPairF u _) ⟨low_not hu, h, rfl⟩, svf⟩
theorem pair_ok {u : Five} (h : Tame u) : Tame (pairV u).1 ∧ Tame (pairV u).2 ∧ fE (pairV u).1 = (mPair (fE u)).1 ∧ fE (pairV u).2 = (mPair (fE u)).2 := by
  rw [pairV_eq]
  unfold pair0 mPair
  obtain ⟨x1, x2⟩ := xF_ok h
  obtain ⟨s1, s2⟩ := side0_ok x1
  obtain ⟨r1, r2, r3⟩ := rootK s1
  rw [s2, x2] at r2 r3
  rw [r2]
  by_cases c : isSq (gM (mX (fE u))) = true
  · rw [if_pos c, if_pos c]
    exact ⟨x1, tame_neg r1, x2, by show fE (fNeg _) = _; rw [fE_neg r1, r3]⟩
  · rw [if_neg c, if_neg c]
    have n1 := tame_neg x1
    have y1 := tame_sub n1 jF_ok.1
    have y2 : fE (fSub (fNeg (xF u)) jF) = 0 - mX (fE u) - jE := by rw [fE_sub n1 jF_ok.1, fE_neg x1, x2, jF_ok.2]
    obtain ⟨t1, t2⟩ := side0_ok y1
    obtain ⟨q1, q2, q3⟩ := rootK t1
    rw [t2, y2] at q3
    exact ⟨y1, q1, y2, q3⟩
end Go.Proofs.YtigkddloeikpbaaGreatDoor.E10
/- Package elligator: points: what the body comes to. -/
set_option maxRecDepth 10000
namespace Go.Proofs.YtigkddloeikpbaaGreatDoor.E10
open Go.Sym Go.Dig R1 F4
noncomputable def spE7 : Specs := (15, sPairE) :: spE6
--STOP smallV, jF, sideV, pairV, Tame, eFrom, eZero, fRootV
theorem vcMapZ1 (u : Five) (Q : SV → Prop) : LnRaw tt spE7 9 [(4, 2, .b true)] {} Tryz.f18 Q (u, ()) =
 ((Tame u) ∧
 ((fSame (Prod.snd (pairV u))
 (Five.mk (UInt64.ofNat (Int.toNat (0 : Int))) (UInt64.ofNat (Int.toNat (0 : Int)))
 (UInt64.ofNat (Int.toNat (0 : Int))) (UInt64.ofNat (Int.toNat (0 : Int))) (UInt64.ofNat (Int.toNat (0 : Int)))) =
 true) ∧
 (Q
 (SV.agg
 [SV.u64 (Five.x0 (Pt.x eZero)), SV.u64 (Five.x1 (Pt.x eZero)), SV.u64 (Five.x2 (Pt.x eZero)),
 SV.u64 (Five.x3 (Pt.x eZero)), SV.u64 (Five.x4 (Pt.x eZero)), SV.u64 (Five.x0 (Pt.y eZero)),
 SV.u64 (Five.x1 (Pt.y eZero)), SV.u64 (Five.x2 (Pt.y eZero)), SV.u64 (Five.x3 (Pt.y eZero)),
 SV.u64 (Five.x4 (Pt.y eZero)), SV.u64 (Five.x0 (Pt.z eZero)), SV.u64 (Five.x1 (Pt.z eZero)),
 SV.u64 (Five.x2 (Pt.z eZero)), SV.u64 (Five.x3 (Pt.z eZero)), SV.u64 (Five.x4 (Pt.z eZero)),
 SV.u64 (Five.x0 (Pt.t eZero)), SV.u64 (Five.x1 (Pt.t eZero)), SV.u64 (Five.x2 (Pt.t eZero)),
 SV.u64 (Five.x3 (Pt.t eZero)), SV.u64 (Five.x4 (Pt.t eZero))])))) := by kernel_rfl
theorem vcMapZ2 (u : Five) (Q : SV → Prop) : LnRaw tt spE7 9 [(4, 2, .b false), (4, 6, .b true)] {} Tryz.f18 Q (u, ()) =
 ((Tame u) ∧
 ((fSame (Prod.snd (pairV u))
 (Five.mk (UInt64.ofNat (Int.toNat (0 : Int))) (UInt64.ofNat (Int.toNat (0 : Int)))
 (UInt64.ofNat (Int.toNat (0 : Int))) (UInt64.ofNat (Int.toNat (0 : Int))) (UInt64.ofNat (Int.toNat (0 : Int)))) =
 false) ∧
 ((fSame (fAdd (Prod.fst (pairV u)) (smallV (UInt32.ofNat (Int.toNat (1 : Int)))))
 (Five.mk (UInt64.ofNat (Int.toNat (0 : Int))) (UInt64.ofNat (Int.toNat (0 : Int)))
 (UInt64.ofNat (Int.toNat (0 : Int))) (UInt64.ofNat (Int.toNat (0 : Int))) (UInt64.ofNat (Int.toNat (0 : Int)))) =
 true) ∧
 (Q
 (SV.agg
 [SV.u64 (Five.x0 (Pt.x eZero)), SV.u64 (Five.x1 (Pt.x eZero)), SV.u64 (Five.x2 (Pt.x eZero)),
 SV.u64 (Five.x3 (Pt.x eZero)), SV.u64 (Five.x4 (Pt.x eZero)), SV.u64 (Five.x0 (Pt.y eZero)),
 SV.u64 (Five.x1 (Pt.y eZero)), SV.u64 (Five.x2 (Pt.y eZero)), SV.u64 (Five.x3 (Pt.y eZero)),
 SV.u64 (Five.x4 (Pt.y eZero)), SV.u64 (Five.x0 (Pt.z eZero)), SV.u64 (Five.x1 (Pt.z eZero)),
 SV.u64 (Five.x2 (Pt.z eZero)), SV.u64 (Five.x3 (Pt.z eZero)), SV.u64 (Five.x4 (Pt.z eZero)),
 SV.u64 (Five.x0 (Pt.t eZero)), SV.u64 (Five.x1 (Pt.t eZero)), SV.u64 (Five.x2 (Pt.t eZero)),
 SV.u64 (Five.x3 (Pt.t eZero)), SV.u64 (Five.x4 (Pt.t eZero))]))))) := by kernel_rfl
theorem vcMapN (u : Five) (Q : SV → Prop) : LnRaw tt spE7 9 [(4, 2, .b false), (4, 6, .b false)] {} Tryz.f18 Q (u, ()) =
 ((Tame u) ∧
 ((fSame (Prod.snd (pairV u))
 (Five.mk (UInt64.ofNat (Int.toNat (0 : Int))) (UInt64.ofNat (Int.toNat (0 : Int)))
 (UInt64.ofNat (Int.toNat (0 : Int))) (UInt64.ofNat (Int.toNat (0 : Int))) (UInt64.ofNat (Int.toNat (0 : Int)))) =
 false) ∧
 ((fSame (fAdd (Prod.fst (pairV u)) (smallV (UInt32.ofNat (Int.toNat (1 : Int)))))
 (Five.mk (UInt64.ofNat (Int.toNat (0 : Int))) (UInt64.ofNat (Int.toNat (0 : Int)))
 (UInt64.ofNat (Int.toNat (0 : Int))) (UInt64.ofNat (Int.toNat (0 : Int))) (UInt64.ofNat (Int.toNat (0 : Int)))) =
 false) ∧
 (Q
 (SV.agg
 [SV.u64
 (Five.x0
 (Pt.x
 (Prod.fst
 (eFrom
 (fMul
 (fMul
 (Prod.fst
 (fRootV (fNeg (smallV (UInt32.ofNat (Int.toNat (486664 : Int)))))
 (smallV (UInt32.ofNat (Int.toNat (1 : Int))))))
 (Prod.fst (pairV u)))
 (fInv (Prod.snd (pairV u))))
 (fMul (fSub (Prod.fst (pairV u)) (smallV (UInt32.ofNat (Int.toNat (1 : Int)))))
 (fInv (fAdd (Prod.fst (pairV u)) (smallV (UInt32.ofNat (Int.toNat (1 : Int))))))))))),
 SV.u64
 (Five.x1
 (Pt.x
 (Prod.fst
 (eFrom
 (fMul
 (fMul
 (Prod.fst
 (fRootV (fNeg (smallV (UInt32.ofNat (Int.toNat (486664 : Int)))))
 (smallV (UInt32.ofNat (Int.toNat (1 : Int))))))
 (Prod.fst (pairV u)))
 (fInv (Prod.snd (pairV u))))
 (fMul (fSub (Prod.fst (pairV u)) (smallV (UInt32.ofNat (Int.toNat (1 : Int)))))
 (fInv (fAdd (Prod.fst (pairV u)) (smallV (UInt32.ofNat (Int.toNat (1 : Int))))))))))),
 SV.u64
 (Five.x2
 (Pt.x
 (Prod.fst
 (eFrom
 (fMul
 (fMul
 (Prod.fst
 (fRootV (fNeg (smallV (UInt32.ofNat (Int.toNat (486664 : Int)))))
 (smallV (UInt32.ofNat (Int.toNat (1 : Int))))))
 (Prod.fst (pairV u)))
 (fInv (Prod.snd (pairV u))))
 (fMul (fSub (Prod.fst (pairV u)) (smallV (UInt32.ofNat (Int.toNat (1 : Int)))))
 (fInv (fAdd (Prod.fst (pairV u)) (smallV (UInt32.ofNat (Int.toNat (1 : Int))))))))))),
 SV.u64
 (Five.x3
 (Pt.x
 (Prod.fst
 (eFrom
 (fMul
 (fMul
 (Prod.fst
 (fRootV (fNeg (smallV (UInt32.ofNat (Int.toNat (486664 : Int)))))
 (smallV (UInt32.ofNat (Int.toNat (1 : Int))))))
 (Prod.fst (pairV u)))
 (fInv (Prod.snd (pairV u))))
 (fMul (fSub (Prod.fst (pairV u)) (smallV (UInt32.ofNat (Int.toNat (1 : Int)))))
 (fInv (fAdd (Prod.fst (pairV u)) (smallV (UInt32.ofNat (Int.toNat (1 : Int))))))))))),
 SV.u64
 (Five.x4
 (Pt.x
 (Prod.fst
 (eFrom
 (fMul
 (fMul
 (Prod.fst
 (fRootV (fNeg (smallV (UInt32.ofNat (Int.toNat (486664 : Int)))))
 (smallV (UInt32.ofNat (Int.toNat (1 : Int))))))
 (Prod.fst (pairV u)))
 (fInv (Prod.snd (pairV u))))
 (fMul (fSub (Prod.fst (pairV u)) (smallV (UInt32.ofNat (Int.toNat (1 : Int)))))
 (fInv (fAdd (Prod.fst (pairV u)) (smallV (UInt32.ofNat (Int.toNat (1 : Int))))))))))),
 SV.u64
 (Five.x0
 (Pt.y
 (Prod.fst
 (eFrom
 (fMul
 (fMul
 (Prod.fst
 (fRootV (fNeg (smallV (UInt32.ofNat (Int.toNat (486664 : Int)))))
 (smallV (UInt32.ofNat (Int.toNat (1 : Int))))))
 (Prod.fst (pairV u)))
 (fInv (Prod.snd (pairV u))))
 (fMul (fSub (Prod.fst (pairV u)) (smallV (UInt32.ofNat (Int.toNat (1 : Int)))))
 (fInv (fAdd (Prod.fst (pairV u)) (smallV (UInt32.ofNat (Int.toNat (1 : Int))))))))))),
 SV.u64
 (Five.x1
 (Pt.y
 (Prod.fst
 (eFrom
 (fMul
 (fMul
 (Prod.fst
 (fRootV (fNeg (smallV (UInt32.ofNat (Int.toNat (486664 : Int)))))
 (smallV (UInt32.ofNat (Int.toNat (1 : Int))))))
 (Prod.fst (pairV u)))
 (fInv (Prod.snd (pairV u))))
 (fMul (fSub (Prod.fst (pairV u)) (smallV (UInt32.ofNat (Int.toNat (1 : Int)))))
 (fInv (fAdd (Prod.fst (pairV u)) (smallV (UInt32.ofNat (Int.toNat (1 : Int))))))))))),
 SV.u64
 (Five.x2
 (Pt.y
 (Prod.fst
 (eFrom
 (fMul
 (fMul
 (Prod.fst
 (fRootV (fNeg (smallV (UInt32.ofNat (Int.toNat (486664 : Int)))))
 (smallV (UInt32.ofNat (Int.toNat (1 : Int))))))
 (Prod.fst (pairV u)))
 (fInv (Prod.snd (pairV u))))
 (fMul (fSub (Prod.fst (pairV u)) (smallV (UInt32.ofNat (Int.toNat (1 : Int)))))
 (fInv (fAdd (Prod.fst (pairV u)) (smallV (UInt32.ofNat (Int.toNat (1 : Int))))))))))),
 SV.u64
 (Five.x3
 (Pt.y
 (Prod.fst
 (eFrom
 (fMul
 (fMul
 (Prod.fst
 (fRootV (fNeg (smallV (UInt32.ofNat (Int.toNat (486664 : Int)))))
 (smallV (UInt32.ofNat (Int.toNat (1 : Int))))))
 (Prod.fst (pairV u)))
 (fInv (Prod.snd (pairV u))))
 (fMul (fSub (Prod.fst (pairV u)) (smallV (UInt32.ofNat (Int.toNat (1 : Int)))))
 (fInv (fAdd (Prod.fst (pairV u)) (smallV (UInt32.ofNat (Int.toNat (1 : Int))))))))))),
 SV.u64
 (Five.x4
 (Pt.y
 (Prod.fst
 (eFrom
 (fMul
 (fMul
 (Prod.fst
 (fRootV (fNeg (smallV (UInt32.ofNat (Int.toNat (486664 : Int)))))
 (smallV (UInt32.ofNat (Int.toNat (1 : Int))))))
 (Prod.fst (pairV u)))
 (fInv (Prod.snd (pairV u))))
 (fMul (fSub (Prod.fst (pairV u)) (smallV (UInt32.ofNat (Int.toNat (1 : Int)))))
 (fInv (fAdd (Prod.fst (pairV u)) (smallV (UInt32.ofNat (Int.toNat (1 : Int))))))))))),
 SV.u64
 (Five.x0
 (Pt.z
 (Prod.fst
 (eFrom
 (fMul
 (fMul
 (Prod.fst
 (fRootV (fNeg (smallV (UInt32.ofNat (Int.toNat (486664 : Int)))))
 (smallV (UInt32.ofNat (Int.toNat (1 : Int))))))
 (Prod.fst (pairV u)))
 (fInv (Prod.snd (pairV u))))
 (fMul (fSub (Prod.fst (pairV u)) (smallV (UInt32.ofNat (Int.toNat (1 : Int)))))
 (fInv (fAdd (Prod.fst (pairV u)) (smallV (UInt32.ofNat (Int.toNat (1 : Int))))))))))),
 SV.u64
 (Five.x1
 (Pt.z
 (Prod.fst
 (eFrom
 (fMul
 (fMul
 (Prod.fst
 (fRootV (fNeg (smallV (UInt32.ofNat (Int.toNat (486664 : Int)))))
 (smallV (UInt32.ofNat (Int.toNat (1 : Int))))))
 (Prod.fst (pairV u)))
 (fInv (Prod.snd (pairV u))))
 (fMul (fSub (Prod.fst (pairV u)) (smallV (UInt32.ofNat (Int.toNat (1 : Int)))))
 (fInv (fAdd (Prod.fst (pairV u)) (smallV (UInt32.ofNat (Int.toNat (1 : Int))))))))))),
 SV.u64
 (Five.x2
 (Pt.z
 (Prod.fst
 (eFrom
 (fMul
 (fMul
 (Prod.fst
 (fRootV (fNeg (smallV (UInt32.ofNat (Int.toNat (486664 : Int)))))
 (smallV (UInt32.ofNat (Int.toNat (1 : Int))))))
 (Prod.fst (pairV u)))
 (fInv (Prod.snd (pairV u))))
 (fMul (fSub (Prod.fst (pairV u)) (smallV (UInt32.ofNat (Int.toNat (1 : Int)))))
 (fInv (fAdd (Prod.fst (pairV u)) (smallV (UInt32.ofNat (Int.toNat (1 : Int))))))))))),
 SV.u64
 (Five.x3
 (Pt.z
 (Prod.fst
 (eFrom
 (fMul
 (fMul
 (Prod.fst
 (fRootV (fNeg (smallV (UInt32.ofNat (Int.toNat (486664 : Int)))))
 (smallV (UInt32.ofNat (Int.toNat (1 : Int))))))
 (Prod.fst (pairV u)))
 (fInv (Prod.snd (pairV u))))
 (fMul (fSub (Prod.fst (pairV u)) (smallV (UInt32.ofNat (Int.toNat (1 : Int)))))
 (fInv (fAdd (Prod.fst (pairV u)) (smallV (UInt32.ofNat (Int.toNat (1 : Int))))))))))),
 SV.u64
 (Five.x4
 (Pt.z
 (Prod.fst
 (eFrom
 (fMul
 (fMul
 (Prod.fst
 (fRootV (fNeg (smallV (UInt32.ofNat (Int.toNat (486664 : Int)))))
 (smallV (UInt32.ofNat (Int.toNat (1 : Int))))))
 (Prod.fst (pairV u)))
 (fInv (Prod.snd (pairV u))))
 (fMul (fSub (Prod.fst (pairV u)) (smallV (UInt32.ofNat (Int.toNat (1 : Int)))))
 (fInv (fAdd (Prod.fst (pairV u)) (smallV (UInt32.ofNat (Int.toNat (1 : Int))))))))))),
 SV.u64
 (Five.x0
 (Pt.t
 (Prod.fst
 (eFrom
 (fMul
 (fMul
 (Prod.fst
 (fRootV (fNeg (smallV (UInt32.ofNat (Int.toNat (486664 : Int)))))
 (smallV (UInt32.ofNat (Int.toNat (1 : Int))))))
 (Prod.fst (pairV u)))
 (fInv (Prod.snd (pairV u))))
 (fMul (fSub (Prod.fst (pairV u)) (smallV (UInt32.ofNat (Int.toNat (1 : Int)))))
 (fInv (fAdd (Prod.fst (pairV u)) (smallV (UInt32.ofNat (Int.toNat (1 : Int))))))))))),
 SV.u64
 (Five.x1
 (Pt.t
 (Prod.fst
 (eFrom
 (fMul
 (fMul
 (Prod.fst
 (fRootV (fNeg (smallV (UInt32.ofNat (Int.toNat (486664 : Int)))))
 (smallV (UInt32.ofNat (Int.toNat (1 : Int))))))
 (Prod.fst (pairV u)))
 (fInv (Prod.snd (pairV u))))
 (fMul (fSub (Prod.fst (pairV u)) (smallV (UInt32.ofNat (Int.toNat (1 : Int)))))
 (fInv (fAdd (Prod.fst (pairV u)) (smallV (UInt32.ofNat (Int.toNat (1 : Int))))))))))),
 SV.u64
 (Five.x2
 (Pt.t
 (Prod.fst
 (eFrom
 (fMul
 (fMul
 (Prod.fst
 (fRootV (fNeg (smallV (UInt32.ofNat (Int.toNat (486664 : Int)))))
 (smallV (UInt32.ofNat (Int.toNat (1 : Int))))))
 (Prod.fst (pairV u)))
 (fInv (Prod.snd (pairV u))))
 (fMul (fSub (Prod.fst (pairV u)) (smallV (UInt32.ofNat (Int.toNat (1 : Int)))))
 (fInv (fAdd (Prod.fst (pairV u)) (smallV (UInt32.ofNat (Int.toNat (1 : Int))))))))))),
 SV.u64
 (Five.x3
 (Pt.t
 (Prod.fst
 (eFrom
 (fMul
 (fMul
 (Prod.fst
 (fRootV (fNeg (smallV (UInt32.ofNat (Int.toNat (486664 : Int)))))
 (smallV (UInt32.ofNat (Int.toNat (1 : Int))))))
 (Prod.fst (pairV u)))
 (fInv (Prod.snd (pairV u))))
 (fMul (fSub (Prod.fst (pairV u)) (smallV (UInt32.ofNat (Int.toNat (1 : Int)))))
 (fInv (fAdd (Prod.fst (pairV u)) (smallV (UInt32.ofNat (Int.toNat (1 : Int))))))))))),
 SV.u64
 (Five.x4
 (Pt.t
 (Prod.fst
 (eFrom
 (fMul
 (fMul
 (Prod.fst
 (fRootV (fNeg (smallV (UInt32.ofNat (Int.toNat (486664 : Int)))))
 (smallV (UInt32.ofNat (Int.toNat (1 : Int))))))
 (Prod.fst (pairV u)))
 (fInv (Prod.snd (pairV u))))
 (fMul (fSub (Prod.fst (pairV u)) (smallV (UInt32.ofNat (Int.toNat (1 : Int)))))
 (fInv (fAdd (Prod.fst (pairV u)) (smallV (UInt32.ofNat (Int.toNat (1 : Int)))))))))))]))))) := by kernel_rfl
end Go.Proofs.YtigkddloeikpbaaGreatDoor.E10
/- The reference of layer 13: what is said of its functions. -/
set_option maxRecDepth 10000
namespace Go.Proofs.YtigkddloeikpbaaGreatDoor.E10
open Go.Sym Go.Dig R1 F4
theorem int_ex : ∃ f : Int → Nat, f = Int.toNat := ⟨_, rfl⟩
/-- A number as it is, told so that no machine computes with it. -/
noncomputable def intO : Int → Nat := Classical.choose int_ex
theorem intO_eq : intO = Int.toNat := Classical.choose_spec int_ex
noncomputable def nIntO : SpecF := fspec (α := Int × Unit) (β := Num) (fun a => some (0 ≤ a.1 ∧ a.1 < 9223372036854775808)) (fun a => ⟨intO a.1⟩)
theorem ok_IntO : SpecOK Tryz.prog 37 nIntO := by
  unfold nIntO
  rw [intO_eq]
  exact ok_Int
noncomputable def spR4 : Specs := (37, nIntO) :: spK4
theorem spR4_ok : SpecsOK Tryz.prog spR4 := .cons ok_IntO spK4_ok
theorem bigJ_ex : ∃ n : Nat, n = 486662 := ⟨_, rfl⟩
noncomputable def bigJ : Nat := Classical.choose bigJ_ex
theorem bigJ_eq : bigJ = 486662 := Classical.choose_spec bigJ_ex
theorem bigC_ex : ∃ n : Nat, n = 486664 := ⟨_, rfl⟩
noncomputable def bigC : Nat := Classical.choose bigC_ex
theorem bigC_eq : bigC = 486664 := Classical.choose_spec bigC_ex
noncomputable def sideN0 (s : Nat) : Nat := aM (aM (mM (mM s s) s) (mM bigJ (mM s s))) s
theorem sideN_ex : ∃ f : Nat → Nat, f = sideN0 := ⟨_, rfl⟩
noncomputable def sideN : Nat → Nat := Classical.choose sideN_ex
theorem sideN_eq : sideN = sideN0 := Classical.choose_spec sideN_ex
noncomputable def nSideR : SpecF := fspec (α := F4.N1) (β := Num) (fun a => some (a.1.n < pV)) (fun a => ⟨sideN a.1.n⟩)
noncomputable def spR5 : Specs := (71, nSideR) :: spR4
noncomputable def lowN (u : Nat) : Nat := aM 1 (mM 2 (mM u u))
noncomputable def xN (u : Nat) : Nat := mM (sM 0 bigJ) (iN (lowN u))
noncomputable def pairN0 (u : Nat) : Nat × Nat :=
  if (rootN (sideN (xN u))).2.1 = true then (xN u, sM 0 (rootN (sideN (xN u))).1.n)
  else (sM (sM 0 (xN u)) bigJ, (rootN (sideN (sM (sM 0 (xN u)) bigJ))).1.n)
theorem pairN_ex : ∃ f : Nat → Nat × Nat, f = pairN0 := ⟨_, rfl⟩
noncomputable def pairN : Nat → Nat × Nat := Classical.choose pairN_ex
theorem pairN_eq : pairN = pairN0 := Classical.choose_spec pairN_ex
noncomputable def nPairR : SpecF := fspec (α := F4.N1) (β := Num × Num × Unit) (fun a => some (a.1.n < pV)) (fun a => (⟨(pairN a.1.n).1⟩, ⟨(pairN a.1.n).2⟩, ()))
noncomputable def spR6 : Specs := (33, nPairR) :: spR5
end Go.Proofs.YtigkddloeikpbaaGreatDoor.E10
/- The reference of layer 13: what the bodies come to. -/
set_option maxRecDepth 10000
namespace Go.Proofs.YtigkddloeikpbaaGreatDoor.E10
open Go.Sym Go.Dig R1 F4
--STOP R1.Sm, Lm, Lh, sideN, pairN, rootN, rZero, dg, intO
theorem vcSideR (s : Nat) (Q : SV → Prop) : LnRaw tt spR4 9 [] {} Tryz.f71 Q ((⟨s⟩ : Num), ()) =
 (((Lh s) ∧
 (Lh s)) ∧
 (((Lh (s * s % pV)) ∧
 (Lh s)) ∧
 ((((0 : Int) ≤ (486662 : Int)) ∧
 ((486662 : Int) < (9223372036854775808 : Int))) ∧
 (((Lh (intO (486662 : Int))) ∧
 (Lh (s * s % pV))) ∧
 (((Lh (s * s % pV * s % pV)) ∧
 (Lh (intO (486662 : Int) * (s * s % pV) % pV))) ∧
 (((Lh ((s * s % pV * s % pV + intO (486662 : Int) * (s * s % pV) % pV) % pV)) ∧
 (Lh s)) ∧
 (Q (SV.lst (LV.num (((s * s % pV * s % pV + intO (486662 : Int) * (s * s % pV) % pV) % pV + s) % pV)))))))))) := by kernel_rfl
theorem vcPairRT (u : Nat) (Q : SV → Prop) : LnRaw tt spR5 9 [(4, 2, .b false), (7, 0, .b true)] {} Tryz.f33 Q ((⟨u⟩ : Num), ()) =
 ((((0 : Int) ≤ (486662 : Int)) ∧
 ((486662 : Int) < (9223372036854775808 : Int))) ∧
 (((Lh (0 : Nat)) ∧
 ((Lh (intO (486662 : Int))) ∧
 (intO (486662 : Int) ≤ (0 : Nat) + pV))) ∧
 (((Lh u) ∧
 (Lh u)) ∧
 (((Lh (Int.toNat (2 : Int))) ∧
 (Lh (u * u % pV))) ∧
 (((Lh (Int.toNat (1 : Int))) ∧
 (Lh (Int.toNat (2 : Int) * (u * u % pV) % pV))) ∧
 ((Lh ((Int.toNat (1 : Int) + Int.toNat (2 : Int) * (u * u % pV) % pV) % pV)) ∧
 (((Lh (((0 : Nat) + pV - intO (486662 : Int)) % pV)) ∧
 (Lh (((Int.toNat (1 : Int) + Int.toNat (2 : Int) * (u * u % pV) % pV) % pV) ^ (pV - (2 : Nat)) % pV))) ∧
 ((((↑(List.length (dg ((Int.toNat (1 : Int) + Int.toNat (2 : Int) * (u * u % pV) % pV) % pV))) : Int) == (0 : Int)) =
 false) ∧
 ((((0 : Nat) + pV - intO (486662 : Int)) % pV *
 (((Int.toNat (1 : Int) + Int.toNat (2 : Int) * (u * u % pV) % pV) % pV) ^ (pV - (2 : Nat)) % pV) %
 pV <
 pV) ∧
 ((sideN
 (((0 : Nat) + pV - intO (486662 : Int)) % pV *
 (((Int.toNat (1 : Int) + Int.toNat (2 : Int) * (u * u % pV) % pV) % pV) ^ (pV - (2 : Nat)) % pV) %
 pV) <
 pV) ∧
 ((Prod.fst
 (Prod.snd
 (rootN
 (sideN
 (((0 : Nat) + pV - intO (486662 : Int)) % pV *
 (((Int.toNat (1 : Int) + Int.toNat (2 : Int) * (u * u % pV) % pV) % pV) ^ (pV - (2 : Nat)) % pV) %
 pV)))) =
 true) ∧
 (((Lh (0 : Nat)) ∧
 ((Lh
 (Num.n
 (Prod.fst
 (rootN
 (sideN
 (((0 : Nat) + pV - intO (486662 : Int)) % pV *
 (((Int.toNat (1 : Int) + Int.toNat (2 : Int) * (u * u % pV) % pV) % pV) ^ (pV - (2 : Nat)) % pV) %
 pV)))))) ∧
 (Num.n
 (Prod.fst
 (rootN
 (sideN
 (((0 : Nat) + pV - intO (486662 : Int)) % pV *
 (((Int.toNat (1 : Int) + Int.toNat (2 : Int) * (u * u % pV) % pV) % pV) ^ (pV - (2 : Nat)) % pV) %
 pV)))) ≤
 (0 : Nat) + pV))) ∧
 (Q
 (SV.tup
 [SV.lst
 (LV.num
 (((0 : Nat) + pV - intO (486662 : Int)) % pV *
 (((Int.toNat (1 : Int) + Int.toNat (2 : Int) * (u * u % pV) % pV) % pV) ^ (pV - (2 : Nat)) % pV) %
 pV)),
 SV.lst
 (LV.num
 (((0 : Nat) + pV -
 Num.n
 (Prod.fst
 (rootN
 (sideN
 (((0 : Nat) + pV - intO (486662 : Int)) % pV *
 (((Int.toNat (1 : Int) + Int.toNat (2 : Int) * (u * u % pV) % pV) % pV) ^ (pV - (2 : Nat)) %
 pV) %
 pV))))) %
 pV))])))))))))))))) := by kernel_rfl
theorem vcPairRF (u : Nat) (Q : SV → Prop) : LnRaw tt spR5 9 [(4, 2, .b false), (7, 0, .b false)] {} Tryz.f33 Q ((⟨u⟩ : Num), ()) =
 ((((0 : Int) ≤ (486662 : Int)) ∧
 ((486662 : Int) < (9223372036854775808 : Int))) ∧
 (((Lh (0 : Nat)) ∧
 ((Lh (intO (486662 : Int))) ∧
 (intO (486662 : Int) ≤ (0 : Nat) + pV))) ∧
 (((Lh u) ∧
 (Lh u)) ∧
 (((Lh (Int.toNat (2 : Int))) ∧
 (Lh (u * u % pV))) ∧
 (((Lh (Int.toNat (1 : Int))) ∧
 (Lh (Int.toNat (2 : Int) * (u * u % pV) % pV))) ∧
 ((Lh ((Int.toNat (1 : Int) + Int.toNat (2 : Int) * (u * u % pV) % pV) % pV)) ∧
 (((Lh (((0 : Nat) + pV - intO (486662 : Int)) % pV)) ∧
 (Lh (((Int.toNat (1 : Int) + Int.toNat (2 : Int) * (u * u % pV) % pV) % pV) ^ (pV - (2 : Nat)) % pV))) ∧
 ((((↑(List.length (dg ((Int.toNat (1 : Int) + Int.toNat (2 : Int) * (u * u % pV) % pV) % pV))) : Int) == (0 : Int)) =
 false) ∧
 ((((0 : Nat) + pV - intO (486662 : Int)) % pV *
 (((Int.toNat (1 : Int) + Int.toNat (2 : Int) * (u * u % pV) % pV) % pV) ^ (pV - (2 : Nat)) % pV) %
 pV <
 pV) ∧
 ((sideN
 (((0 : Nat) + pV - intO (486662 : Int)) % pV *
 (((Int.toNat (1 : Int) + Int.toNat (2 : Int) * (u * u % pV) % pV) % pV) ^ (pV - (2 : Nat)) % pV) %
 pV) <
 pV) ∧
 ((Prod.fst
 (Prod.snd
 (rootN
 (sideN
 (((0 : Nat) + pV - intO (486662 : Int)) % pV *
 (((Int.toNat (1 : Int) + Int.toNat (2 : Int) * (u * u % pV) % pV) % pV) ^ (pV - (2 : Nat)) % pV) %
 pV)))) =
 false) ∧
 (((Lh (0 : Nat)) ∧
 ((Lh
 (((0 : Nat) + pV - intO (486662 : Int)) % pV *
 (((Int.toNat (1 : Int) + Int.toNat (2 : Int) * (u * u % pV) % pV) % pV) ^ (pV - (2 : Nat)) % pV) %
 pV)) ∧
 (((0 : Nat) + pV - intO (486662 : Int)) % pV *
 (((Int.toNat (1 : Int) + Int.toNat (2 : Int) * (u * u % pV) % pV) % pV) ^ (pV - (2 : Nat)) % pV) %
 pV ≤
 (0 : Nat) + pV))) ∧
 ((((0 : Int) ≤ (486662 : Int)) ∧
 ((486662 : Int) < (9223372036854775808 : Int))) ∧
 (((Lh
 (((0 : Nat) + pV -
 ((0 : Nat) + pV - intO (486662 : Int)) % pV *
 (((Int.toNat (1 : Int) + Int.toNat (2 : Int) * (u * u % pV) % pV) % pV) ^ (pV - (2 : Nat)) % pV) %
 pV) %
 pV)) ∧
 ((Lh (intO (486662 : Int))) ∧
 (intO (486662 : Int) ≤
 ((0 : Nat) + pV -
 ((0 : Nat) + pV - intO (486662 : Int)) % pV *
 (((Int.toNat (1 : Int) + Int.toNat (2 : Int) * (u * u % pV) % pV) % pV) ^ (pV - (2 : Nat)) % pV) %
 pV) %
 pV +
 pV))) ∧
 (((((0 : Nat) + pV -
 ((0 : Nat) + pV - intO (486662 : Int)) % pV *
 (((Int.toNat (1 : Int) + Int.toNat (2 : Int) * (u * u % pV) % pV) % pV) ^ (pV - (2 : Nat)) % pV) %
 pV) %
 pV +
 pV -
 intO (486662 : Int)) %
 pV <
 pV) ∧
 ((sideN
 ((((0 : Nat) + pV -
 ((0 : Nat) + pV - intO (486662 : Int)) % pV *
 (((Int.toNat (1 : Int) + Int.toNat (2 : Int) * (u * u % pV) % pV) % pV) ^ (pV - (2 : Nat)) % pV) %
 pV) %
 pV +
 pV -
 intO (486662 : Int)) %
 pV) <
 pV) ∧
 (Q
 (SV.tup
 [SV.lst
 (LV.num
 ((((0 : Nat) + pV -
 ((0 : Nat) + pV - intO (486662 : Int)) % pV *
 (((Int.toNat (1 : Int) + Int.toNat (2 : Int) * (u * u % pV) % pV) % pV) ^ (pV - (2 : Nat)) %
 pV) %
 pV) %
 pV +
 pV -
 intO (486662 : Int)) %
 pV)),
 SV.lst
 (LV.num
 (Num.n
 (Prod.fst
 (rootN
 (sideN
 ((((0 : Nat) + pV -
 ((0 : Nat) + pV - intO (486662 : Int)) % pV *
 (((Int.toNat (1 : Int) + Int.toNat (2 : Int) * (u * u % pV) % pV) % pV) ^
 (pV - (2 : Nat)) %
 pV) %
 pV) %
 pV +
 pV -
 intO (486662 : Int)) %
 pV))))))])))))))))))))))))) := by kernel_rfl
theorem vcMapRZ1 (u : Nat) (Q : SV → Prop) : LnRaw tt spR6 9 [(3, 2, .b true)] {} Tryz.f9 Q ((⟨u⟩ : Num), ()) =
 ((u < pV) ∧
 (((Lh (Prod.fst (pairN u))) ∧
 (Lh (Int.toNat (1 : Int)))) ∧
 ((((↑(List.length (dg (Prod.snd (pairN u)))) : Int) == (0 : Int)) = true) ∧
 (Q
 (SV.agg
 [SV.lst (LV.num (RP.x rZero)), SV.lst (LV.num (RP.y rZero)), SV.lst (LV.num (RP.z rZero)), SV.bool (RP.is rZero)]))))) := by kernel_rfl
theorem vcMapRZ2 (u : Nat) (Q : SV → Prop) : LnRaw tt spR6 9 [(3, 2, .b false), (3, 6, .b true)] {} Tryz.f9 Q ((⟨u⟩ : Num), ()) =
 ((u < pV) ∧
 (((Lh (Prod.fst (pairN u))) ∧
 (Lh (Int.toNat (1 : Int)))) ∧
 ((((↑(List.length (dg (Prod.snd (pairN u)))) : Int) == (0 : Int)) = false) ∧
 ((((↑(List.length (dg ((Prod.fst (pairN u) + Int.toNat (1 : Int)) % pV))) : Int) == (0 : Int)) = true) ∧
 (Q
 (SV.agg
 [SV.lst (LV.num (RP.x rZero)), SV.lst (LV.num (RP.y rZero)), SV.lst (LV.num (RP.z rZero)), SV.bool (RP.is rZero)])))))) := by kernel_rfl
theorem vcMapRN (u : Nat) (Q : SV → Prop) : LnRaw tt spR6 9 [(3, 2, .b false), (3, 6, .b false)] {} Tryz.f9 Q ((⟨u⟩ : Num), ()) =
 ((u < pV) ∧
 (((Lh (Prod.fst (pairN u))) ∧
 (Lh (Int.toNat (1 : Int)))) ∧
 ((((↑(List.length (dg (Prod.snd (pairN u)))) : Int) == (0 : Int)) = false) ∧
 ((((↑(List.length (dg ((Prod.fst (pairN u) + Int.toNat (1 : Int)) % pV))) : Int) == (0 : Int)) = false) ∧
 ((((0 : Int) ≤ (486664 : Int)) ∧
 ((486664 : Int) < (9223372036854775808 : Int))) ∧
 (((Lh (0 : Nat)) ∧
 ((Lh (intO (486664 : Int))) ∧
 (intO (486664 : Int) ≤ (0 : Nat) + pV))) ∧
 ((((0 : Nat) + pV - intO (486664 : Int)) % pV < pV) ∧
 (((Lh (Num.n (Prod.fst (rootN (((0 : Nat) + pV - intO (486664 : Int)) % pV))))) ∧
 (Lh (Prod.fst (pairN u)))) ∧
 ((Lh (Prod.snd (pairN u))) ∧
 (((Lh (Num.n (Prod.fst (rootN (((0 : Nat) + pV - intO (486664 : Int)) % pV))) * Prod.fst (pairN u) % pV)) ∧
 (Lh (Prod.snd (pairN u) ^ (pV - (2 : Nat)) % pV))) ∧
 (((Lh (Prod.fst (pairN u))) ∧
 ((Lh (Int.toNat (1 : Int))) ∧
 (Int.toNat (1 : Int) ≤ Prod.fst (pairN u) + pV))) ∧
 ((Lh ((Prod.fst (pairN u) + Int.toNat (1 : Int)) % pV)) ∧
 (((Lh ((Prod.fst (pairN u) + pV - Int.toNat (1 : Int)) % pV)) ∧
 (Lh (((Prod.fst (pairN u) + Int.toNat (1 : Int)) % pV) ^ (pV - (2 : Nat)) % pV))) ∧
 (Q
 (SV.agg
 [SV.lst
 (LV.num
 (Num.n (Prod.fst (rootN (((0 : Nat) + pV - intO (486664 : Int)) % pV))) * Prod.fst (pairN u) % pV *
 (Prod.snd (pairN u) ^ (pV - (2 : Nat)) % pV) %
 pV)),
 SV.lst
 (LV.num
 ((Prod.fst (pairN u) + pV - Int.toNat (1 : Int)) % pV *
 (((Prod.fst (pairN u) + Int.toNat (1 : Int)) % pV) ^ (pV - (2 : Nat)) % pV) %
 pV)),
 SV.lst (LV.ints [(1 : Int)]), SV.bool true]))))))))))))))) := by kernel_rfl
end Go.Proofs.YtigkddloeikpbaaGreatDoor.E10
/- Package elligator, and its reference: points: the bodies hold, and tell the same point. -/
set_option maxRecDepth 10000
namespace Go.Proofs.YtigkddloeikpbaaGreatDoor.E10
open Go.Sym Go.Dig R1 F4 Go.Alg
/-! The point. -/
noncomputable def mMap (u : K) : EPt :=
  if h : (mPair u).2 ≠ 0 ∧ (mPair u).1 + 1 ≠ 0 then ⟨_, _, map_on (mPair_on u) h.1 h.2⟩ else EE.zero
noncomputable def cF : Five := (fRootV (fNeg (smallV (UInt32.ofNat (Int.toNat (486664 : Int))))) oneF).1
theorem cF_ok : Tame cF ∧ fE cF = cE := by
  have h := N5_small (UInt32.ofNat (Int.toNat (486664 : Int)))
  have hn := tame_neg h.1
  obtain ⟨r1, r2, r3⟩ := rootK hn
  refine ⟨r1, ?_⟩
  unfold cF
  have e : fE (smallV (UInt32.ofNat (Int.toNat (486664 : Int)))) = fe 486664 := by unfold fE; rw [h.2]; rfl
  rw [r3, fE_neg h.1, e]
  unfold rt cE
  rw [val_c]
noncomputable def mapX (s t : Five) : Five := fMul (fMul cF s) (fInv t)
noncomputable def mapY (s : Five) : Five := fMul (fSub s oneF) (fInv (fAdd s oneF))
noncomputable def map0 (u : Five) : Pt :=
  if fSame (pairV u).2 zeroF = true then eZero
  else if fSame (fAdd (pairV u).1 oneF) zeroF = true then eZero
  else (eFrom (mapX (pairV u).1 (pairV u).2) (mapY (pairV u).1)).1
theorem map_ex : ∃ f : Five → Pt, f = map0 := ⟨_, rfl⟩
noncomputable def mapV : Five → Pt := Classical.choose map_ex
theorem mapV_eq : mapV = map0 := Classical.choose_spec map_ex
noncomputable def sMapE : SpecF := fspec (α := Five × Unit) (fun a => some (Tame a.1)) (fun a => mapV a.1)
theorem spE7_ok : SpecsOK Tryz.prog spE7 := .cons ok_PairE spE6_ok
theorem ok_MapE : SpecOK Tryz.prog 18 sMapE := by
  unfold sMapE
  rw [mapV_eq]
  refine fn_okL (by kernel_rfl) tt_ok spE7_ok 9 Tryz.func18 (by decide +kernel) (by kernel_rfl) ?_
  rintro ⟨u, _⟩ hu
  replace hu : Tame u := hu
  show ∃ D L, ∃ Q : SV → Prop, LnVD tt spE7 9 D L _ Q (u, ()) ∧ ∀ z, Q z → ∀ (at_ : At) (w : World) (v : Value), Rel at_ w z v → Rel at_ w (retSV (RetL.retL (map0 u))) v
  unfold map0
  cases h : fSame (pairV u).2 zeroF with
  | true =>
    rw [if_pos rfl]
    exact ⟨_, {}, fun x => x = _, LnVD.of (vcMapZ1 u _) ⟨hu, h, rfl⟩, svf⟩
  | false =>
    rw [if_neg Bool.false_ne_true]
    cases h2 : fSame (fAdd (pairV u).1 oneF) zeroF with
    | true =>
      rw [if_pos rfl]
      exact ⟨_, {}, fun x => x = _, LnVD.of (vcMapZ2 u _) ⟨hu, h, h2, rfl⟩, svf⟩
    | false =>
      rw [if_neg Bool.false_ne_true]
      exact ⟨_, {}, fun x => x = _, LnVD.of (vcMapN u _) ⟨hu, h, h2, rfl⟩, svf⟩
theorem map_ok {u : Five} (h : Tame u) : Rp (mapV u) (mMap (fE u)) := by
  rw [mapV_eq]
  unfold map0 mMap
  obtain ⟨t1, t2, e1, e2⟩ := pair_ok h
  have ho := oneF_ok
  have hc := cF_ok
  have ta := tame_add t1 ho.1
  have c1 : fSame (pairV u).2 zeroF = decide ((mPair (fE u)).2 = 0) := by rw [zeroF_eq, fE_same t2 N5_zero.1, fE_zero, e2]
  have c2 : fSame (fAdd (pairV u).1 oneF) zeroF = decide ((mPair (fE u)).1 + 1 = 0) := by rw [zeroF_eq, fE_same ta N5_zero.1, fE_zero, fE_add t1 ho.1, e1, ho.2]
  by_cases h1 : (mPair (fE u)).2 = 0
  · rw [if_pos (by rw [c1]; exact decide_eq_true h1), dif_neg (fun k => k.1 h1)]
    exact Rp.zero
  rw [if_neg (by rw [c1, decide_eq_false h1]; exact Bool.false_ne_true)]
  by_cases h2 : (mPair (fE u)).1 + 1 = 0
  · rw [if_pos (by rw [c2]; exact decide_eq_true h2), dif_neg (fun k => k.2 h2)]
    exact Rp.zero
  rw [if_neg (by rw [c2, decide_eq_false h2]; exact Bool.false_ne_true), dif_pos ⟨h1, h2⟩]
  have i1 := fE_inv t2
  have i2 := fE_inv ta
  have m1 := tame_mul hc.1 t1
  have b1 := tame_sub t1 ho.1
  have x1 : Tame (mapX (pairV u).1 (pairV u).2) := tame_mul m1 i1.1
  have y1 : Tame (mapY (pairV u).1) := tame_mul b1 i2.1
  have x2 : fE (mapX (pairV u).1 (pairV u).2) = cE * (mPair (fE u)).1 * finv (mPair (fE u)).2 := by
    unfold mapX; rw [fE_mul m1 i1.1, fE_mul hc.1 t1, i1.2, hc.2, e1, e2]
  have y2 : fE (mapY (pairV u).1) = ((mPair (fE u)).1 - 1) * finv ((mPair (fE u)).1 + 1) := by
    unfold mapY; rw [fE_mul b1 i2.1, fE_sub t1 ho.1, i2.2, fE_add t1 ho.1, ho.2, e1]
  have on := map_on (mPair_on (fE u)) h1 h2
  have key := (eFrom_ok x1 y1).2 (by rw [x2, y2]; exact on)
  have e : (⟨_, _, (by rw [x2, y2]; exact on : On dE (fE (mapX (pairV u).1 (pairV u).2)) (fE (mapY (pairV u).1)))⟩ : EPt) = ⟨_, _, on⟩ := EP.ext x2 y2
  rw [e] at key
  exact key
/-! The reference. -/
theorem i486662 : Int.toNat (486662 : Int) = bigJ := by rw [bigJ_eq]; rfl
theorem i486664 : Int.toNat (486664 : Int) = bigC := by rw [bigC_eq]; rfl
theorem lhJ : Lh bigJ := lhS (by rw [bigJ_eq]; decide)
theorem lhC : Lh bigC := lhS (by rw [bigC_eq]; decide)
theorem bigJ_lt : bigJ < pV := by rw [bigJ_eq, pV_lit]; decide
theorem bigC_lt : bigC < pV := by rw [bigC_eq, pV_lit]; decide
theorem fe_bigJ : fe bigJ = jE := by rw [bigJ_eq]; rfl
theorem i1 : Int.toNat (1 : Int) = 1 := rfl
theorem i2 : Int.toNat (2 : Int) = 2 := rfl
theorem sub_le {x : Nat} (h : x < pV) : x ≤ 0 + pV := by omega
theorem big_lt : 486664 < pV := by rw [pV_lit]; decide
theorem ok_SideR : SpecOK Tryz.prog 71 nSideR := by
  unfold nSideR
  rw [sideN_eq]
  refine fn_okL (by kernel_rfl) tt_ok spR4_ok 9 Tryz.func71 (by decide +kernel) (by kernel_rfl) ?_
  rintro ⟨⟨s⟩, _⟩ hs
  replace hs : s < pV := hs
  refine ⟨[], {}, fun x => x = .lst (.num (sideN0 s)), LnVD.of (vcSideR s _) ?_, svf⟩
  rw [intO_eq, i486662]
  exact ⟨⟨lhp hs, lhp hs⟩, ⟨lhMod _, lhp hs⟩, ⟨by decide, by decide⟩, ⟨lhJ, lhMod _⟩, ⟨lhMod _, lhMod _⟩, ⟨lhMod _, lhp hs⟩, rfl⟩
theorem sideN_lt (s : Nat) : sideN s < pV := by rw [sideN_eq]; exact modV _
theorem fe_sideN (s : Nat) : fe (sideN s) = gM (fe s) := by
  rw [sideN_eq]
  unfold sideN0 gM
  simp only [fe_aM, fe_mM, fe_bigJ]
theorem fe_lowN (u : Nat) : fe (lowN u) = 1 + 2 * (fe u * fe u) := by
  unfold lowN
  rw [fe_aM, fe_one, fe_mM, fe_mM, ← two_fe]
theorem lowN_ne (u : Nat) : lowN u ≠ 0 := fun h => low_ne (fe u) (by rw [← fe_lowN, h, fe_zero])
theorem fe_xN (u : Nat) : fe (xN u) = mX (fe u) := by
  unfold xN mX
  rw [fe_mM, fe_iN, fe_lowN, fe_sM (sub_le bigJ_lt), fe_zero, fe_bigJ]
theorem xN_lt (u : Nat) : xN u < pV := modV _
theorem rootN_lt {x : Nat} (hx : x < pV) : (rootN x).1.n < pV := by
  cases h : (rootN x).2.1 with
  | true => rw [pV_eq] at hx ⊢; exact (rootN_true hx h).1
  | false =>
    have : (rootN x).1.n = 0 := by
      unfold rootN at h ⊢
      split at h
      · cases h
      · rename_i h1
        split at h
        · cases h
        · rename_i h2
          rw [if_neg h1, if_neg h2]
    rw [this]; exact pV_pos
theorem root_fe {x : Nat} (hx : x < pV) : (rootN x).2.1 = isSq (fe x) ∧ fe (rootN x).1.n = rt (fe x) := by
  unfold isSq rt
  rw [fe_lt hx]
  exact ⟨rfl, rfl⟩
theorem spR5_ok : SpecsOK Tryz.prog spR5 := .cons ok_SideR spR4_ok
theorem ok_PairR : SpecOK Tryz.prog 33 nPairR := by
  unfold nPairR
  rw [pairN_eq]
  refine fn_okL (by kernel_rfl) tt_ok spR5_ok 9 Tryz.func33 (by decide +kernel) (by kernel_rfl) ?_
  rintro ⟨⟨u⟩, _⟩ hu
  replace hu : u < pV := hu
  have hl : (((dg (lowN u)).length : Int) == 0) = false := by rw [dg_len0]; exact decide_eq_false (lowN_ne u)
  have hx := xN_lt u
  have hr := rootN_lt (sideN_lt (xN u))
  have hy := sM_lt (sM 0 (xN u)) bigJ
  have hy0 := sM_lt 0 (xN u)
  show ∃ D L, ∃ Q : SV → Prop, LnVD tt spR5 9 D L _ Q (_, ()) ∧ ∀ z, Q z → ∀ (at_ : At) (w : World) (v : Value), Rel at_ w z v → Rel at_ w (.tup [.lst (.num (pairN0 u).1), .lst (.num (pairN0 u).2)]) v
  cases h : (rootN (sideN (xN u))).2.1 with
  | true =>
    have e : pairN0 u = (xN u, sM 0 (rootN (sideN (xN u))).1.n) := by unfold pairN0; rw [if_pos h]
    rw [e]
    refine ⟨_, {}, fun x => x = _, LnVD.of (vcPairRT u _) ?_, svf⟩
    rw [intO_eq, i486662, i1, i2]
    exact ⟨⟨by decide, by decide⟩, ⟨lhS (by decide), lhJ, sub_le bigJ_lt⟩, ⟨lhp hu, lhp hu⟩, ⟨lhS (by decide), lhMod _⟩, ⟨lhS (by decide), lhMod _⟩, lhMod _, ⟨lhMod _, lhMod _⟩, hl, hx, sideN_lt _, h, ⟨lhS (by decide), lhp hr, sub_le hr⟩, rfl⟩
  | false =>
    have e : pairN0 u = (sM (sM 0 (xN u)) bigJ, (rootN (sideN (sM (sM 0 (xN u)) bigJ))).1.n) := by unfold pairN0; rw [if_neg (by rw [h]; exact Bool.false_ne_true)]
    rw [e]
    refine ⟨_, {}, fun x => x = _, LnVD.of (vcPairRF u _) ?_, svf⟩
    rw [intO_eq, i486662, i1, i2]
    exact ⟨⟨by decide, by decide⟩, ⟨lhS (by decide), lhJ, sub_le bigJ_lt⟩, ⟨lhp hu, lhp hu⟩, ⟨lhS (by decide), lhMod _⟩, ⟨lhS (by decide), lhMod _⟩, lhMod _, ⟨lhMod _, lhMod _⟩, hl, hx, sideN_lt _, h, ⟨lhS (by decide), lhp hx, sub_le hx⟩, ⟨by decide, by decide⟩, ⟨lhMod _, lhJ, Nat.le_trans (Nat.le_of_lt bigJ_lt) (Nat.le_add_left _ _)⟩, hy, sideN_lt _, rfl⟩
theorem pairN_lt (u : Nat) : (pairN u).1 < pV ∧ (pairN u).2 < pV := by
  rw [pairN_eq]
  unfold pairN0
  split
  · exact ⟨xN_lt u, sM_lt _ _⟩
  · exact ⟨sM_lt _ _, rootN_lt (sideN_lt _)⟩
theorem pairN_fe (u : Nat) : fe (pairN u).1 = (mPair (fe u)).1 ∧ fe (pairN u).2 = (mPair (fe u)).2 := by
  rw [pairN_eq]
  unfold pairN0 mPair
  obtain ⟨r1, r2⟩ := root_fe (sideN_lt (xN u))
  rw [fe_sideN, fe_xN] at r1 r2
  have hr := rootN_lt (sideN_lt (xN u))
  rw [r1]
  by_cases c : isSq (gM (mX (fe u))) = true
  · rw [if_pos c, if_pos c]
    refine ⟨fe_xN u, ?_⟩
    show fe (sM 0 _) = _
    rw [fe_sM (sub_le hr), fe_zero, r2]
  · rw [if_neg c, if_neg c]
    have hy : fe (sM (sM 0 (xN u)) bigJ) = 0 - mX (fe u) - jE := by
      rw [fe_sM (Nat.le_trans (Nat.le_of_lt bigJ_lt) (Nat.le_add_left _ _)), fe_sM (sub_le (xN_lt u)), fe_zero, fe_xN, fe_bigJ]
    obtain ⟨q1, q2⟩ := root_fe (sideN_lt (sM (sM 0 (xN u)) bigJ))
    rw [fe_sideN, hy] at q2
    exact ⟨hy, q2⟩
noncomputable def cN : Nat := (rootN (sM 0 bigC)).1.n
theorem cN_fe : fe cN = cE := by
  unfold cN cE
  have : sM 0 bigC = pV - bigC := by
    unfold sM
    rw [Nat.zero_add]
    exact Nat.mod_eq_of_lt (by have := bigC_lt; have : 0 < bigC := (by rw [bigC_eq]; decide); omega)
  rw [this, bigC_eq]
theorem cN_lt : cN < pV := rootN_lt (sM_lt _ _)
noncomputable def mapN0 (u : Nat) : RP :=
  if (pairN u).2 = 0 then rZero else if aM (pairN u).1 1 = 0 then rZero
  else ⟨mM (mM cN (pairN u).1) (iN (pairN u).2), mM (sM (pairN u).1 1) (iN (aM (pairN u).1 1)), 1, true⟩
theorem mapN_ex : ∃ f : Nat → RP, f = mapN0 := ⟨_, rfl⟩
noncomputable def mapN : Nat → RP := Classical.choose mapN_ex
theorem mapN_eq : mapN = mapN0 := Classical.choose_spec mapN_ex
noncomputable def nMapR : SpecF := fspec (α := F4.N1) (fun a => some (a.1.n < pV)) (fun a => mapN a.1.n)
theorem spR6_ok : SpecsOK Tryz.prog spR6 := .cons ok_PairR spR5_ok
theorem ok_MapR : SpecOK Tryz.prog 9 nMapR := by
  unfold nMapR
  rw [mapN_eq]
  refine fn_okL (by kernel_rfl) tt_ok spR6_ok 9 Tryz.func9 (by decide +kernel) (by kernel_rfl) ?_
  rintro ⟨⟨u⟩, _⟩ hu
  replace hu : u < pV := hu
  obtain ⟨l1, l2⟩ := pairN_lt u
  have hc := cN_lt
  show ∃ D L, ∃ Q : SV → Prop, LnVD tt spR6 9 D L _ Q (_, ()) ∧ ∀ z, Q z → ∀ (at_ : At) (w : World) (v : Value), Rel at_ w z v → Rel at_ w (mapN0 u).sv v
  have d1 := dg_len0 (pairN u).2
  have d2 := dg_len0 (aM (pairN u).1 1)
  unfold mapN0
  by_cases h1 : (pairN u).2 = 0
  · rw [if_pos h1]
    exact ⟨_, {}, fun x => x = _, LnVD.of (vcMapRZ1 u _) ⟨hu, ⟨lhp l1, lhS (by decide)⟩, by rw [d1]; exact decide_eq_true h1, rfl⟩, svf⟩
  rw [if_neg h1]
  by_cases h2 : aM (pairN u).1 1 = 0
  · rw [if_pos h2]
    exact ⟨_, {}, fun x => x = _, LnVD.of (vcMapRZ2 u _) ⟨hu, ⟨lhp l1, lhS (by decide)⟩, by rw [d1]; exact decide_eq_false h1, (d2.trans (decide_eq_true h2) :), rfl⟩, svf⟩
  rw [if_neg h2]
  refine ⟨_, {}, fun x => x = .agg [.lst (.num (mM (mM cN (pairN u).1) (iN (pairN u).2))), .lst (.num (mM (sM (pairN u).1 1) (iN (aM (pairN u).1 1)))), .lst (.ints [1]), .bool true], LnVD.of (vcMapRN u _) ?_, svr rfl⟩
  rw [intO_eq, i486664, i1]
  exact ⟨hu, ⟨lhp l1, lhS (by decide)⟩, by rw [d1]; exact decide_eq_false h1, (d2.trans (decide_eq_false h2) :), ⟨by decide, by decide⟩, ⟨lhS (by decide), lhC, sub_le bigC_lt⟩, sM_lt 0 bigC, ⟨lhp hc, lhp l1⟩, lhp l2, ⟨lhMod _, lhMod _⟩, ⟨lhp l1, lhS (by decide), Nat.le_trans (Nat.le_of_lt one_lt) (Nat.le_add_left _ _)⟩, lhMod _, ⟨lhMod _, lhMod _⟩, rfl⟩
theorem mapN_ok (u : Nat) : RRp (mapN u) (mMap (fe u)) := by
  rw [mapN_eq]
  unfold mapN0 mMap
  obtain ⟨l1, l2⟩ := pairN_lt u
  obtain ⟨e1, e2⟩ := pairN_fe u
  have o := one_lt
  have z1 : (pairN u).2 = 0 ↔ (mPair (fe u)).2 = 0 := by
    rw [← e2]
    exact ⟨fun h => by rw [h, fe_zero], fun h => fe_inj l2 pV_pos (by rw [h, fe_zero])⟩
  have ea : fe (aM (pairN u).1 1) = (mPair (fe u)).1 + 1 := by rw [fe_aM, e1, fe_one]
  have z2 : aM (pairN u).1 1 = 0 ↔ (mPair (fe u)).1 + 1 = 0 := by
    rw [← ea]
    exact ⟨fun h => by rw [h, fe_zero], fun h => fe_inj (aM_lt _ _) pV_pos (by rw [h, fe_zero])⟩
  by_cases h1 : (pairN u).2 = 0
  · rw [if_pos h1, dif_neg (fun k => k.1 (z1.1 h1))]
    exact RRp.zero
  rw [if_neg h1]
  by_cases h2 : aM (pairN u).1 1 = 0
  · rw [if_pos h2, dif_neg (fun k => k.2 (z2.1 h2))]
    exact RRp.zero
  rw [if_neg h2, dif_pos ⟨fun h => h1 (z1.2 h), fun h => h2 (z2.2 h)⟩]
  refine ⟨mM_lt' _ _, mM_lt' _ _, one_lt, rfl, ?_⟩
  have x2 : fe (mM (mM cN (pairN u).1) (iN (pairN u).2)) = cE * (mPair (fe u)).1 * finv (mPair (fe u)).2 := by
    rw [fe_mM, fe_mM, fe_iN, cN_fe, e1, e2]
  have y2 : fe (mM (sM (pairN u).1 1) (iN (aM (pairN u).1 1))) = ((mPair (fe u)).1 - 1) * finv ((mPair (fe u)).1 + 1) := by
    rw [fe_mM, fe_iN, ea, fe_sM (by have := one_lt; omega), e1, fe_one]
  show Tells3 dE (fe (mM (mM cN (pairN u).1) (iN (pairN u).2))) (fe (mM (sM (pairN u).1 1) (iN (aM (pairN u).1 1)))) (fe 1) _
  rw [x2, y2]
  exact Tells3.one fe_one one_ne _
end Go.Proofs.YtigkddloeikpbaaGreatDoor.E10
/- Layer 13's law of pairs: what is said of its functions. -/
set_option maxRecDepth 10000
namespace Go.Proofs.YtigkddloeikpbaaGreatDoor.E10
open Go.Sym Go.Dig R1 F4
noncomputable def spAw13 : Specs := (15, sPairE) :: (18, sMapE) :: spE4
def sAw13 : SpecF := fspec (α := Unit) total fun _ => true
/-- Tame: so it is; not: so it is not. -/
def sTm (b : Bool) : SpecF := fspec (α := Five × Unit) (fun x => some (tm x.1 = b)) (fun _ => b)
noncomputable def spP13 (b : Bool) : Specs := (4, sAw13) :: (1000000, Sym.sNo) :: (15, sPairE) :: (18, sMapE) :: (33, nPairR) :: (9, nMapR) :: (spE4 ++ spK4)
end Go.Proofs.YtigkddloeikpbaaGreatDoor.E10
/- Layer 13's law of pairs: what the bodies come to. -/
set_option maxRecDepth 10000
namespace Go.Proofs.YtigkddloeikpbaaGreatDoor.E10
open Go.Sym Go.Dig R1 F4
--STOP R1.Sm, Lm, Lh, smallV, pairV, mapV, pairN, mapN, Tame, eZero, eSame, eBytes, rBytes, V, tm
theorem vcAwP1 (Q : SV → Prop) : LnRaw tt spAw13 9 [(4, 2, .b true), (4, 11, .b true), (4, 21, .b false)] {} Tryz.f4 Q () =
 ((Tame
 (Five.mk (UInt64.ofNat (Int.toNat (0 : Int))) (UInt64.ofNat (Int.toNat (0 : Int)))
 (UInt64.ofNat (Int.toNat (0 : Int))) (UInt64.ofNat (Int.toNat (0 : Int))) (UInt64.ofNat (Int.toNat (0 : Int))))) ∧
 ((Tame (smallV (UInt32.ofNat (Int.toNat (1 : Int))))) ∧
 ((fSame
 (Prod.fst
 (pairV
 (Five.mk (UInt64.ofNat (Int.toNat (0 : Int))) (UInt64.ofNat (Int.toNat (0 : Int)))
 (UInt64.ofNat (Int.toNat (0 : Int))) (UInt64.ofNat (Int.toNat (0 : Int)))
 (UInt64.ofNat (Int.toNat (0 : Int))))))
 (fNeg (smallV (UInt32.ofNat (Int.toNat (486662 : Int))))) =
 true) ∧
 ((fSame
 (Prod.fst
 (pairV
 (Five.mk (UInt64.ofNat (Int.toNat (0 : Int))) (UInt64.ofNat (Int.toNat (0 : Int)))
 (UInt64.ofNat (Int.toNat (0 : Int))) (UInt64.ofNat (Int.toNat (0 : Int)))
 (UInt64.ofNat (Int.toNat (0 : Int))))))
 (fNeg (smallV (UInt32.ofNat (Int.toNat (486662 : Int))))) =
 true) ∧
 ((eSame (mapV (smallV (UInt32.ofNat (Int.toNat (1 : Int))))) eZero = false) ∧
 (Q (SV.bool !false))))))) := by kernel_rfl
theorem vcAwP2 (Q : SV → Prop) : LnRaw tt spAw13 9 [(4, 2, .b false), (4, 6, .b true), (4, 11, .b false), (4, 15, .b true), (4, 21, .b false)] {} Tryz.f4 Q () =
 ((Tame
 (Five.mk (UInt64.ofNat (Int.toNat (0 : Int))) (UInt64.ofNat (Int.toNat (0 : Int)))
 (UInt64.ofNat (Int.toNat (0 : Int))) (UInt64.ofNat (Int.toNat (0 : Int))) (UInt64.ofNat (Int.toNat (0 : Int))))) ∧
 ((Tame (smallV (UInt32.ofNat (Int.toNat (1 : Int))))) ∧
 ((fSame
 (Prod.fst
 (pairV
 (Five.mk (UInt64.ofNat (Int.toNat (0 : Int))) (UInt64.ofNat (Int.toNat (0 : Int)))
 (UInt64.ofNat (Int.toNat (0 : Int))) (UInt64.ofNat (Int.toNat (0 : Int)))
 (UInt64.ofNat (Int.toNat (0 : Int))))))
 (fNeg (smallV (UInt32.ofNat (Int.toNat (486662 : Int))))) =
 false) ∧
 ((fSame
 (Prod.fst
 (pairV
 (Five.mk (UInt64.ofNat (Int.toNat (0 : Int))) (UInt64.ofNat (Int.toNat (0 : Int)))
 (UInt64.ofNat (Int.toNat (0 : Int))) (UInt64.ofNat (Int.toNat (0 : Int)))
 (UInt64.ofNat (Int.toNat (0 : Int))))))
 (Five.mk (UInt64.ofNat (Int.toNat (0 : Int))) (UInt64.ofNat (Int.toNat (0 : Int)))
 (UInt64.ofNat (Int.toNat (0 : Int))) (UInt64.ofNat (Int.toNat (0 : Int))) (UInt64.ofNat (Int.toNat (0 : Int)))) =
 true) ∧
 ((fSame
 (Prod.fst
 (pairV
 (Five.mk (UInt64.ofNat (Int.toNat (0 : Int))) (UInt64.ofNat (Int.toNat (0 : Int)))
 (UInt64.ofNat (Int.toNat (0 : Int))) (UInt64.ofNat (Int.toNat (0 : Int)))
 (UInt64.ofNat (Int.toNat (0 : Int))))))
 (fNeg (smallV (UInt32.ofNat (Int.toNat (486662 : Int))))) =
 false) ∧
 ((fSame
 (Prod.snd
 (pairV
 (Five.mk (UInt64.ofNat (Int.toNat (0 : Int))) (UInt64.ofNat (Int.toNat (0 : Int)))
 (UInt64.ofNat (Int.toNat (0 : Int))) (UInt64.ofNat (Int.toNat (0 : Int)))
 (UInt64.ofNat (Int.toNat (0 : Int))))))
 (Five.mk (UInt64.ofNat (Int.toNat (0 : Int))) (UInt64.ofNat (Int.toNat (0 : Int)))
 (UInt64.ofNat (Int.toNat (0 : Int))) (UInt64.ofNat (Int.toNat (0 : Int))) (UInt64.ofNat (Int.toNat (0 : Int)))) =
 true) ∧
 ((eSame (mapV (smallV (UInt32.ofNat (Int.toNat (1 : Int))))) eZero = false) ∧
 (Q (SV.bool !false))))))))) := by kernel_rfl
end Go.Proofs.YtigkddloeikpbaaGreatDoor.E10
/- Layer 13's law of pairs holds. -/
set_option maxRecDepth 10000
namespace Go.Proofs.YtigkddloeikpbaaGreatDoor.E10
open Go.Sym Go.Dig R1 F4 Go.Alg
theorem spAw13_ok : SpecsOK Tryz.prog spAw13 := .cons ok_PairE <| .cons ok_MapE spE4_ok
/-! The example. -/
theorem nume {a b : Nat} (ha : a < 1000000000000) (hb : b < 1000000000000) (h : a ≠ b) : fe a ≠ fe b := fun e =>
  h (fe_inj (Nat.lt_trans ha (by rw [pV_lit]; decide)) (Nat.lt_trans hb (by rw [pV_lit]; decide)) e)
theorem three_fe : (3 : K) = fe 3 := by
  rw [show (3 : Nat) = 2 + 1 from rfl, fe_add, ← two_fe, fe_one]; grind -lia -linarith -order (splits := 0)
theorem nine_fe : (9 : K) = fe 9 := by
  rw [show (9 : Nat) = 3 * 3 from rfl, fe_mul, ← three_fe]; grind -lia -linarith -order (splits := 0)
theorem three_ne : (3 : K) ≠ 0 := by rw [three_fe, ← fe_zero]; exact nume (by decide) (by decide) (by decide)
theorem j_ne : jE ≠ 0 := by unfold jE; rw [← fe_zero]; exact nume (by decide) (by decide) (by decide)
theorem j_ne3 : jE ≠ 3 := by unfold jE; rw [three_fe]; exact nume (by decide) (by decide) (by decide)
theorem j2_ne3 : 2 * jE ≠ 3 := by unfold jE; rw [three_fe, two_fe, ← fe_mul]; exact nume (by decide) (by decide) (by decide)
theorem jj_ne9 : 2 * (jE * jE) ≠ 9 := by unfold jE; rw [nine_fe, two_fe, ← fe_mul, ← fe_mul]; exact nume (by decide) (by decide) (by decide)
theorem cE_ne : cE ≠ 0 := fun h => by
  have := cE_sq
  rw [h] at this
  have e : fe 486664 = 0 := by
    generalize fe 486664 = c at *
    grind -lia -linarith -order (splits := 0)
  rw [← fe_zero] at e
  exact nume (by decide) (by decide) (by decide) e
/-- Of 1, s is one of these two. -/
theorem one_s : ∃ i : K, 3 * i = 1 ∧ ((mPair 1).1 = 0 - jE * i ∨ (mPair 1).1 = 0 - 2 * (jE * i)) := by
  have h := fld.mul_finv (low_ne (1 : K))
  refine ⟨finv (1 + 2 * (1 * 1)), ?_, ?_⟩
  · have : (1 + 2 * (1 * 1) : K) = 3 := by grind -lia -linarith -order (splits := 0)
    rw [← this]; exact h
  · have h3 : 3 * finv (1 + 2 * (1 * 1) : K) = 1 := by
      have : (1 + 2 * (1 * 1) : K) = 3 := by grind -lia -linarith -order (splits := 0)
      rw [← this]; exact h
    unfold mPair
    split
    · left
      show mX 1 = _
      unfold mX
      clear h h3
      generalize finv (1 + 2 * (1 * 1) : K) = i
      generalize jE = j
      grind -lia -linarith -order (splits := 0)
    · right
      show 0 - mX 1 - jE = _
      unfold mX
      clear h
      generalize finv (1 + 2 * (1 * 1) : K) = i at *
      generalize jE = j
      have : j = j * (3 * i) := by rw [h3]; grind -lia -linarith -order (splits := 0)
      have e : 0 - (0 - j) * i - j = 0 - (0 - j) * i - j * (3 * i) := by rw [← this]
      rw [e]
      clear this e h3
      grind -lia -linarith -order (splits := 0)
theorem s_facts : (mPair 1).1 ≠ 0 ∧ (mPair 1).1 + 1 ≠ 0 ∧ (mPair 1).2 ≠ 0 := by
  obtain ⟨i, hi, hs⟩ := one_s
  have hon := mPair_on (1 : K)
  have n1 := j_ne
  have n2 := j_ne3
  have n3 := j2_ne3
  have n4 := jj_ne9
  have n5 := two_ne
  have hq : ∀ s : K, (s = 0 - jE * i ∨ s = 0 - 2 * (jE * i)) → 9 * (s * s + jE * s + 1) = 9 - 2 * (jE * jE) := by
    intro s h
    generalize jE = j at *
    have e1 : 9 * (j * i) = 3 * j := by
      have : 9 * (j * i) = 3 * j * (3 * i) := by grind -lia -linarith -order (splits := 0)
      rw [this, hi]; grind -lia -linarith -order (splits := 0)
    have e2 : 9 * (j * i * (j * i)) = j * j := by
      have : 9 * (j * i * (j * i)) = j * j * (3 * i) * (3 * i) := by grind -lia -linarith -order (splits := 0)
      rw [this, hi]; grind -lia -linarith -order (splits := 0)
    rcases h with rfl | rfl
    · have : 9 * ((0 - j * i) * (0 - j * i) + j * (0 - j * i) + 1) = 9 * (j * i * (j * i)) - j * (9 * (j * i)) + 9 := by grind -lia -linarith -order (splits := 0)
      rw [this, e1, e2]; clear e1 e2 this hi hon n1 n2 n3 n4 hs; grind -lia -linarith -order (splits := 0)
    · have : 9 * ((0 - 2 * (j * i)) * (0 - 2 * (j * i)) + j * (0 - 2 * (j * i)) + 1) = 4 * (9 * (j * i * (j * i))) - 2 * j * (9 * (j * i)) + 9 := by grind -lia -linarith -order (splits := 0)
      rw [this, e1, e2]; clear e1 e2 this hi hon n1 n2 n3 n4 hs; grind -lia -linarith -order (splits := 0)
  have hg := hq _ hs
  have hs0 : (mPair 1).1 ≠ 0 := fun e => by
    rw [e] at hs
    rcases hs with h | h
    · apply n1
      have : jE = 3 * i * jE - 3 * (0 - (0 - jE * i)) + 3 * (0 - 0) - 3 * (jE * i) + 3 * (jE * i) := by rw [hi]; rw [← h]; generalize jE = j at *; grind -lia -linarith -order (splits := 0)
      have k : jE = 3 * i * jE := by rw [hi]; grind -lia -linarith -order (splits := 0)
      rw [k]
      have k2 : 3 * i * jE = 0 - 3 * (0 - jE * i) := by generalize jE = j; grind -lia -linarith -order (splits := 0)
      rw [k2, ← h]; grind -lia -linarith -order (splits := 0)
    · have k : 2 * jE = 2 * jE * (3 * i) := by rw [hi]; grind -lia -linarith -order (splits := 0)
      have k2 : 2 * jE * (3 * i) = 0 - 3 * (0 - 2 * (jE * i)) := by generalize jE = j; grind -lia -linarith -order (splits := 0)
      have k3 : 2 * jE = 0 := by rw [k, k2, ← h]; grind -lia -linarith -order (splits := 0)
      exact (fld.mul_ne n5 n1) k3
  have hs1 : (mPair 1).1 + 1 ≠ 0 := fun e => by
    rcases hs with h | h
    · rw [h] at e
      apply n2
      have k : jE = jE * (3 * i) := by rw [hi]; grind -lia -linarith -order (splits := 0)
      have k2 : jE * (3 * i) = 3 - 3 * (0 - jE * i + 1) := by generalize jE = j; grind -lia -linarith -order (splits := 0)
      rw [k, k2, e]; grind -lia -linarith -order (splits := 0)
    · rw [h] at e
      apply n3
      have k : 2 * jE = 2 * jE * (3 * i) := by rw [hi]; grind -lia -linarith -order (splits := 0)
      have k2 : 2 * jE * (3 * i) = 3 - 3 * (0 - 2 * (jE * i) + 1) := by generalize jE = j; grind -lia -linarith -order (splits := 0)
      rw [k, k2, e]; grind -lia -linarith -order (splits := 0)
  refine ⟨hs0, hs1, fun e => ?_⟩
  rw [e] at hon
  have h0 : (mPair 1).1 * ((mPair 1).1 * (mPair 1).1 + jE * (mPair 1).1 + 1) = 0 := by
    have : gM (mPair 1).1 = 0 := by rw [← hon]; grind -lia -linarith -order (splits := 0)
    rw [← this]
    unfold gM
    generalize (mPair 1).1 = s
    generalize jE = j
    grind -lia -linarith -order (splits := 0)
  have h1 : (mPair 1).1 * (mPair 1).1 + jE * (mPair 1).1 + 1 = 0 := (fld.nzd h0).elim (fun h => absurd h hs0) id
  rw [h1] at hg
  apply n4
  generalize jE * jE = q at *
  have : 2 * q = 9 - (9 - 2 * q) := by grind -lia -linarith -order (splits := 0)
  rw [this, ← hg]; grind -lia -linarith -order (splits := 0)
theorem finv_ne {t : K} (h : t ≠ 0) : finv t ≠ 0 := fun e => by
  have := fld.mul_finv h
  rw [e] at this
  exact one_ne (by rw [← this]; grind -lia -linarith -order (splits := 0))
theorem map_one : mMap 1 ≠ EE.zero := fun h => by
  obtain ⟨s0, s1, t0⟩ := s_facts
  unfold mMap at h
  rw [dif_pos ⟨t0, s1⟩] at h
  have hx := congrArg EP.x h
  have hz : EP.x EE.zero = 0 := by unfold EC.zero; rfl
  rw [hz] at hx
  exact fld.mul_ne (fld.mul_ne cE_ne s0) (finv_ne t0) hx
theorem rt_zero : rt 0 = 0 := by
  have h := rt_sq isSq_zero
  exact (fld.nzd h).elim id id
theorem one_no : eSame (mapV oneF) eZero = false := by
  have h := (map_ok oneF_ok.1).same Rp.zero
  rw [oneF_ok.2] at h
  rw [h]
  exact decide_eq_false map_one
noncomputable def negJ : Five := fNeg (smallV (UInt32.ofNat (Int.toNat (486662 : Int))))
theorem negJ_ok : Tame negJ ∧ fE negJ = 0 - jE := by
  have h := N5_small (UInt32.ofNat (Int.toNat (486662 : Int)))
  refine ⟨tame_neg h.1, ?_⟩
  unfold negJ
  rw [fE_neg h.1]
  have e : fE (smallV (UInt32.ofNat (Int.toNat (486662 : Int)))) = jE := jF_ok.2
  rw [e]
theorem mX0 : mX 0 = 0 - jE := by
  have h := fld.mul_finv (low_ne (0 : K))
  have e : (1 + 2 * (0 * 0) : K) = 1 := by grind -lia -linarith -order (splits := 0)
  unfold mX
  rw [e] at h ⊢
  have : finv (1 : K) = 1 := by
    generalize finv (1 : K) = i at *
    have k : i = 1 * i := by clear h; grind -lia -linarith -order (splits := 0)
    rw [k]; exact h
  rw [this]; generalize jE = j; grind -lia -linarith -order (splits := 0)
theorem ok_Aw13 : SpecOK Tryz.prog 4 sAw13 := by
  refine fn_okL (by kernel_rfl) tt_ok spAw13_ok 9 Tryz.func4 (by decide +kernel) (by kernel_rfl) ?_
  rintro ⟨⟩ _
  have tz : Tame zeroF := N5_zero.1
  obtain ⟨t1, t2, e1, e2⟩ := pair_ok tz
  have z0 : fE zeroF = 0 := fE_zero
  rw [z0] at e1 e2
  have nj := negJ_ok
  have hj : ∀ s : Five, Tame s → fSame s negJ = decide (fE s = 0 - jE) := fun s hs => by rw [fE_same hs nj.1, nj.2]
  have hz : ∀ s : Five, Tame s → fSame s zeroF = decide (fE s = 0) := fun s hs => by rw [zeroF_eq, fE_same hs N5_zero.1, fE_zero]
  by_cases c : isSq (gM (mX 0)) = true
  · have k : fSame (pairV zeroF).1 negJ = true := by
      rw [hj _ t1, e1]
      apply decide_eq_true
      unfold mPair
      rw [if_pos c]
      exact mX0
    exact ⟨_, {}, fun x => x = _, LnVD.of (vcAwP1 _) ⟨tz, oneF_ok.1, k, k, one_no, rfl⟩, svf⟩
  · have m : mPair 0 = (0 - mX 0 - jE, rt (gM (0 - mX 0 - jE))) := by unfold mPair; rw [if_neg c]
    have ms : 0 - mX 0 - jE = 0 := by rw [mX0]; generalize jE = j; grind -lia -linarith -order (splits := 0)
    rw [m, ms] at e1 e2
    have g0 : gM 0 = 0 := by unfold gM; generalize jE = j; grind -lia -linarith -order (splits := 0)
    replace e1 : fE (pairV zeroF).1 = 0 := e1
    replace e2 : fE (pairV zeroF).2 = rt (gM 0) := e2
    rw [g0, rt_zero] at e2
    have k1 : fSame (pairV zeroF).1 negJ = false := by
      rw [hj _ t1, e1]
      refine decide_eq_false fun h => j_ne ?_
      generalize jE = j at *
      grind -lia -linarith -order (splits := 0)
    have k2 : fSame (pairV zeroF).1 zeroF = true := by rw [hz _ t1]; exact decide_eq_true e1
    have k3 : fSame (pairV zeroF).2 zeroF = true := by rw [hz _ t2]; exact decide_eq_true e2
    exact ⟨_, {}, fun x => x = _, LnVD.of (vcAwP2 _) ⟨tz, oneF_ok.1, k1, k2, k1, k3, one_no, rfl⟩, svf⟩
abbrev sEllP : SpecF := fspec (α := Five × Unit) total fun _ => true
theorem sm_lt {n : Nat} (h : n < pV) : Sm n := Nat.le_trans (lhp h) (by decide)
theorem ok_EllP : SpecOK Tryz.prog 1000000 Sym.sNo := Sym.sNo_ok _ _
end Go.Proofs.YtigkddloeikpbaaGreatDoor.E10
