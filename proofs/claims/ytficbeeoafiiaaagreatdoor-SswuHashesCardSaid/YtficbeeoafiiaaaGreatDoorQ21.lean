/- A symbolic machine for Go functions, and what the functions that the law reaches come to: SwM, SwC. -/
import Derived.Test.YtficbeeoafiiaaaGreatDoorQ19
import Derived.Test.YtficbeeoafiiaaaGreatDoorQ18
import Derived.Test.YtficbeeoafiiaaaGreatDoorQ20
/- Numbers as points of P-256, over the field: which of two numbers has a root, and that what comes is on the curve. -/
set_option maxRecDepth 10000
namespace Go.Proofs.YtficbeeoafiiaaaGreatDoor.P12
open Go.Sym Go.Dig R1 Go.Alg
noncomputable def hP : Nat := (pN - 1) / 2
noncomputable def qP : Nat := (pN + 1) / 4
theorem halfP : Half pN hP qP := ⟨primeP, fldP, by unfold hP; rw [pN_eq], by unfold hP qP; rw [pN_eq], by unfold qP; rw [pN_eq]; decide⟩
noncomputable def aK : K := 0 - 3
noncomputable def bK : K := fe hB
noncomputable def zK : K := 0 - fe 10
noncomputable def gK (x : K) : K := x * (x * x + aK) + bK
noncomputable def rtK (x : K) : K := kp x qP
def isK (x : K) : Prop := rtK x * rtK x = x
noncomputable instance : DecidablePred isK := fun _ => Classical.propDecidable _
noncomputable def wK (u : K) : K := zK * (u * u)
noncomputable def tK (u : K) : K := jinv (wK u * wK u + wK u)
noncomputable def x1K (u : K) : K := if tK u = 0 then bK * jinv (zK * aK) else (0 - bK) * jinv aK * (1 + tK u)
noncomputable def ptK (u : K) : K × K := if isK (gK (x1K u)) then (x1K u, rtK (gK (x1K u))) else (wK u * x1K u, rtK (gK (wK u * x1K u)))
theorem jinv_kp (z : K) : jinv z = kp z (pN - 2) := by
  apply Fin.ext
  rw [kp_val]; rfl
theorem mul_jinv {z : K} (h : z ≠ 0) : z * jinv z = 1 := by
  rw [jinv_kp]
  have e : pN - 1 = (pN - 2) + 1 := by rw [pN_eq]
  have k : kp z (pN - 2 + 1) = 1 := by rw [← e]; exact kp_fermat primeP h
  have k2 : kp z (pN - 2) * z = 1 := k
  rw [← k2]
  generalize kp z (pN - 2) = x
  clear k k2 e h
  grind -lia -linarith -order (splits := 0)
theorem jinv_zero : jinv 0 = 0 := by rw [jinv_kp]; exact kp_zero (by rw [pN_eq]; decide)
theorem jinv_ne {z : K} (h : z ≠ 0) : jinv z ≠ 0 := fun e => by
  have := mul_jinv h
  rw [e] at this
  apply fldP.one
  rw [← this]
  clear e h this
  grind -lia -linarith -order (splits := 0)
theorem fe_ne {n : Nat} (h0 : 0 < n) (h : n < pN) : fe n ≠ 0 := fun e => by
  have := fe_inj h pN_pos (by rw [e, fe_zero])
  omega
theorem num_lt {n : Nat} (h : n < 1000000) : n < pN := by rw [pN_eq]; omega
theorem three_ne : (3 : K) ≠ 0 := by rw [← fe_three]; exact fe_ne (by decide) (num_lt (by decide))
theorem aK_ne : aK ≠ 0 := fun e => three_ne (by
  have : (3 : K) = 0 - (0 - 3) := by clear e; grind -lia -linarith -order (splits := 0)
  rw [this]; show 0 - aK = 0; rw [e]; clear e this; grind -lia -linarith -order (splits := 0))
theorem fe_neg {n : Nat} (h : n ≤ pN) : fe (pN - n) = 0 - fe n := by rw [fe_sub h, fe_pN]
theorem kp_fe {n e : Nat} (h : n < pN) (he : e < 2 ^ 256) {r : Nat} (hr : r < pN) (k : NumP.pm pN 256 n e = r) : kp (fe n) e = fe r := by
  apply Fin.ext
  rw [kp_val, fe_lt h, fe_lt hr, ← k, NumP.pm_ok pN 256 n e he]
theorem neg_one : (0 - 1 : K) = fe (pN - 1) := by rw [fe_neg (by have := pN_pos; omega), fe_one]
theorem z_pow : kp zK hP = 0 - 1 := by
  unfold zK
  rw [← fe_neg (n := 10) (by rw [pN_eq]; decide), neg_one]
  refine kp_fe (by have := pN_pos; omega) (by unfold hP; rw [pN_eq]; decide) (by have := pN_pos; omega) ?_
  unfold hP
  rw [pN_eq]
  decide +kernel
def x0N : Nat := 74703601957397362287352587393959705516025038863550323175665808372750477554212
def g0N : Nat := 48268962033467940869496798614084223144535081757714431741753369719389598262662
theorem x0_eq : bK * jinv (zK * aK) = fe x0N := by
  have hz : zK * aK = fe 30 := by
    unfold zK aK
    rw [show (30 : Nat) = 10 * 3 from rfl, fe_mul, fe_three]
    generalize fe 10 = t
    grind -lia -linarith -order (splits := 0)
  have hb : bK = fe x0N * fe 30 := by
    rw [← fe_mul]
    unfold bK
    rw [fe_eq, pN_eq, hB_eq]
    decide +kernel
  have h := mul_jinv (z := fe 30) (fe_ne (by decide) (num_lt (by decide)))
  rw [hz, hb]
  generalize jinv (fe 30) = j at *
  generalize fe x0N = x
  have : x * fe 30 * j = x * (fe 30 * j) := by clear h; generalize fe 30 = t; grind -lia -linarith -order (splits := 0)
  rw [this, h]
  clear h this
  grind -lia -linarith -order (splits := 0)
theorem gK_side (x : K) : gK x = x * x * x - (x + (x + x)) + fe hB := by
  unfold gK aK bK
  generalize fe hB = β
  grind -lia -linarith -order (splits := 0)
theorem g0_num {p b : Nat} (hp : p = 115792089210356248762697446949407573530086143415290314195533631308867097853951) (hb : b = 41058363725152142129326129780047268409114441015993725554835256314039467401291) :
    ((x0N * x0N % p * x0N % p + p - 3 * x0N % p) % p + b) % p % p = g0N % p := by
  subst hp
  subst hb
  decide +kernel
theorem rSide_num {x g : Nat} (H : ∀ p b : Nat, p = 115792089210356248762697446949407573530086143415290314195533631308867097853951 → b = 41058363725152142129326129780047268409114441015993725554835256314039467401291 → ((x * x % p * x % p + p - 3 * x % p) % p + b) % p % p = g % p) : rSide x % pN = g % pN := by
  unfold rSide qA qS qM
  exact H pN hB pN_eq hB_eq
theorem gK_fe (x : Nat) : gK (fe x) = fe (rSide x) := by rw [gK_side, ← fe_rSide]
theorem g0_eq : gK (fe x0N) = fe g0N := (gK_fe x0N).trans (fe_eq.2 (rSide_num fun _ _ hp hb => g0_num hp hb))
theorem g0_root : isK (fe g0N) := by
  refine halfP.of_one (x := fe g0N) ?_
  rw [← fe_one]
  refine kp_fe (by rw [pN_eq]; decide) (by unfold hP; rw [pN_eq]; decide) (num_lt (by decide)) ?_
  unfold hP
  rw [pN_eq]
  decide +kernel
theorem pt_on (u : K) : (ptK u).2 * (ptK u).2 = gK (ptK u).1 := by
  unfold ptK
  by_cases h : isK (gK (x1K u))
  · rw [if_pos h]; exact h
  rw [if_neg h]
  have ht : tK u ≠ 0 := fun e => h (by
    unfold x1K
    rw [if_pos e, x0_eq, g0_eq]
    exact g0_root)
  have hd : wK u * wK u + wK u ≠ 0 := fun e => ht (by unfold tK; rw [e]; exact jinv_zero)
  have hu : u ≠ 0 := fun e => hd (by
    unfold wK
    rw [e]
    generalize zK = z
    clear hd ht h e
    grind -lia -linarith -order (splits := 0))
  have hx : x1K u = (0 - bK) * jinv aK * (1 + tK u) := by unfold x1K; rw [if_neg ht]
  exact halfP.second z_pow hu rfl (mul_jinv aK_ne) (mul_jinv hd) hx h
end Go.Proofs.YtficbeeoafiiaaaGreatDoor.P12
/- Package sswu: numbers as points: the bodies hold; what comes is the field's. -/
set_option maxRecDepth 10000
namespace Go.Proofs.YtficbeeoafiiaaaGreatDoor.P12
open Go.Sym Go.Dig R1 Go.Alg
theorem ok_SwMade : SpecOK Tryz.prog 20 sSwMade := by
  unfold sSwMade
  rw [swF_eq]
  refine fn_okL (by kernel_rfl) tt_ok spA0_ok 9 Tryz.func20 (by decide +kernel) (by kernel_rfl) ?_
  rintro ⟨⟩ _
  exact ⟨_, {}, fun x => x = P3.sv ⟨aC, pB, zC⟩, LnVD.of (vcSwMade _) ⟨rfl, rfl⟩, svf⟩
theorem ok_SwSide : SpecOK Tryz.prog 58 sSwSide := by
  unfold sSwSide
  rw [gO_eq]
  refine fn_okL (by kernel_rfl) tt_ok spA0_ok 9 Tryz.func58 (by decide +kernel) (by kernel_rfl) ?_
  rintro ⟨f, x, _⟩ h
  have h' : f = swP := h
  subst h'
  exact ⟨_, {}, fun y => y = (gC x).sv, LnVD.of (vcSwSide x _) rfl, svf⟩
theorem ok_SwRoot : SpecOK Tryz.prog 57 sSwRoot := by
  unfold sSwRoot
  rw [rtO_eq]
  refine fn_okL (by kernel_rfl) tt_ok spA1_ok 9 Tryz.func57 (by decide +kernel) (by kernel_rfl) ?_
  rintro ⟨f, a, _⟩ h
  have h' : f = swP := h
  subst h'
  exact ⟨_, {}, fun y => y = .tup [(pE a eQ).sv, .bool (eq4 (pT (pE a eQ) (pE a eQ)) a)], LnVD.of (vcSwRoot a _) rfl, svf⟩
theorem ok_RedP : SpecOK Tryz.prog 52 sRedP := by
  unfold sRedP
  rw [redP_eq]
  refine fspec_weaken ok_Reduce id (fun _ _ _ _ h => h) (fun ⟨r, _, _⟩ => by cases r <;> rfl) (fun _ _ => trivial) (fun a h at_ w v r => ?_)
  obtain ⟨q, u, _⟩ := a
  have h' : q = some rP := h
  subst h'
  exact r
theorem spSw_ok : SpecsOK Tryz.prog spSw := .cons ok_SwMade <| .cons ok_SwSide <| .cons ok_SwRoot <| .cons ok_FromT <| .cons ok_RedP spA0_ok
/-! Over the field. -/
theorem phi_aF : phi swF.x = aK := by
  rw [swF_eq]
  show phi (pS zero4 (pI ⟨3, 0, 0, 0⟩)) = _
  rw [phi_S, phi_0, phi_I]
  show 0 - fe 3 = 0 - 3
  rw [fe_three]
theorem phi_bF : phi swF.y = bK := by rw [swF_eq]; exact phi_pB
theorem phi_zF : phi swF.z = zK := by
  rw [swF_eq]
  show phi (pS zero4 (pI ⟨10, 0, 0, 0⟩)) = _
  rw [phi_S, phi_0, phi_I]
  rfl
noncomputable def uK (u : Four) : K := fe (nat4 u)
theorem phi_zu (u : Four) : phi (zuC u) = wK (uK u) := by
  unfold zuC wK uK
  rw [phi_T, phi_T, phi_I, phi_zF]
theorem phi_inv (a : Four) : phi (pV a) = jinv (phi a) := phi_V a
theorem phi_t (u : Four) : phi (tC u) = tK (uK u) := by
  unfold tC tK
  rw [phi_inv, phi_A, phi_T, phi_zu]
theorem Rd_t (u : Four) : Rd (tC u) := Rd_V _
theorem t_zero (u : Four) : eq4 (tC u) zero4 = decide (tK (uK u) = 0) := bool_eq (by rw [z_zero (Rd_t u), phi_t, decide_eq_true_iff])
noncomputable def xsC (u : Four) : Four := cond (eq4 (tC u) zero4) x0C (x1C u)
theorem phi_xs (u : Four) : phi (xsC u) = x1K (uK u) := by
  unfold xsC x1K
  rw [t_zero]
  by_cases h : tK (uK u) = 0
  · rw [decide_eq_true h, if_pos h]
    show phi (pT swF.y (pV (pT swF.z swF.x))) = _
    rw [phi_T, phi_inv, phi_T, phi_aF, phi_bF, phi_zF]
  · rw [decide_eq_false h, if_neg h]
    show phi (pT (pT (pS zero4 swF.y) (pV swF.x)) (pA (pI ⟨1, 0, 0, 0⟩) (tC u))) = _
    rw [phi_T, phi_T, phi_S, phi_0, phi_inv, phi_A, phi_I, phi_t, phi_aF, phi_bF]
    show _ * (fe 1 + _) = _
    rw [fe_one]
theorem phi_g (x : Four) : phi (gO x) = gK (phi x) := by
  rw [gO_eq]
  unfold gC gK
  rw [phi_A, phi_T, phi_A, phi_T, phi_aF, phi_bF]
theorem Rd_g (x : Four) : Rd (gO x) := by rw [gO_eq]; exact Rd_A _ _
theorem nat_eQ : nat4 eQ = qP := by
  unfold eQ qP
  rw [quarter_nat]
  rfl
theorem phi_root' (a : Four) : phi (pE a eQ) = rtK (phi a) := by
  rw [phi_E, nat_eQ]
  apply Fin.ext
  unfold rtK
  rw [kp_val]
  rfl
theorem rt_ok {a : Four} (h : Rd a) : phi (rtO a).1 = rtK (phi a) ∧ Rd (rtO a).1 ∧ (rtO a).2 = decide (isK (phi a)) := by
  rw [rtO_eq]
  refine ⟨phi_root' a, Rd_E _ _, bool_eq ?_⟩
  show eq4 (pT (pE a eQ) (pE a eQ)) a = true ↔ _
  rw [eq4_phi (Rd_T _ _) h, phi_T, phi_root', decide_eq_true_iff]
  exact Iff.rfl
noncomputable def xC (u : Four) : Four := cond (rtO (gO (xsC u))).2 (xsC u) (pT (zuC u) (xsC u))
noncomputable def yC (u : Four) : Four := (rtO (gO (xC u))).1
theorem pt_yes {u : K} (h : isK (gK (x1K u))) : ptK u = (x1K u, rtK (gK (x1K u))) := if_pos h
theorem pt_no {u : K} (h : ¬ isK (gK (x1K u))) : ptK u = (wK u * x1K u, rtK (gK (wK u * x1K u))) := if_neg h
theorem x_eq (u : Four) : phi (xC u) = (ptK (uK u)).1 := by
  have h1 := (rt_ok (Rd_g (xsC u))).2.2
  rw [phi_g, phi_xs] at h1
  have hx : xC u = cond (rtO (gO (xsC u))).2 (xsC u) (pT (zuC u) (xsC u)) := rfl
  rw [hx, h1]
  by_cases h : isK (gK (x1K (uK u)))
  · rw [pt_yes h, decide_eq_true h, cond_true]
    exact phi_xs u
  · rw [pt_no h, decide_eq_false h, cond_false, phi_T, phi_zu, phi_xs]
theorem pt_snd (u : K) : (ptK u).2 = rtK (gK (ptK u).1) := by
  by_cases h : isK (gK (x1K u))
  · rw [pt_yes h]
  · rw [pt_no h]
theorem pt_eq (u : Four) : phi (xC u) = (ptK (uK u)).1 ∧ phi (yC u) = (ptK (uK u)).2 ∧ Rd (yC u) := by
  have h2 := rt_ok (Rd_g (xC u))
  rw [phi_g, x_eq, ← pt_snd] at h2
  exact ⟨x_eq u, h2.1, h2.2.1⟩
/-- The sign's number. -/
def oddN (n : Nat) : Bool := n % 2 == 1
noncomputable def sgK (o : Bool) (y : K) : K := if oddN y.val = o then y else 0 - y
theorem nat_red (u : Four) : nat4 (redP u) = nat4 u % pN := by
  rw [redP_eq]
  show nat4 (onR (some rP) fun r => redR r u) = _
  rw [onR_good gP, redR_nat gP, nat_mP]
theorem bit_ne (a b : UInt64) : ((a &&& 1) != (b &&& 1)) = (oddN a.toNat != oddN b.toNat) := by
  have h : ∀ x : UInt64, (x &&& 1).toNat = x.toNat % 2 := fun x => by
    rw [UInt64.toNat_and]
    exact Nat.and_one_is_mod _
  have ha := h a
  have hb := h b
  unfold oddN
  apply bool_eq
  rw [bne_iff_ne, bne_iff_ne, ne_eq, ← UInt64.toNat_inj, ha, hb]
  have h1 := Nat.mod_two_eq_zero_or_one a.toNat
  have h2 := Nat.mod_two_eq_zero_or_one b.toNat
  rcases h1 with e1 | e1 <;> rcases h2 with e2 | e2 <;> rw [e1, e2] <;> decide
theorem oddN_mod (a : Four) : oddN a.w0.toNat = oddN (nat4 a) := by
  unfold oddN
  rw [w0_mod]
theorem odd_eq (u y : Four) : oddC u y = (oddN (phi y).val != oddN (nat4 u % pN)) := by
  unfold oddC
  rw [bit_ne, oddN_mod, oddN_mod, pO_val, nat_red]
noncomputable def y2C (u : Four) : Four := cond (oddC u (yC u)) (pS zero4 (yC u)) (yC u)
theorem phi_y2 (u : Four) : phi (y2C u) = sgK (oddN (nat4 u % pN)) (ptK (uK u)).2 := by
  obtain ⟨_, h, _⟩ := pt_eq u
  unfold y2C sgK
  rw [odd_eq, h]
  by_cases e : oddN (ptK (uK u)).2.val = oddN (nat4 u % pN)
  · rw [if_pos e, e, bne_self_eq_false]
    exact h
  · rw [if_neg e, bne_iff_ne.2 e]
    show phi (pS zero4 (yC u)) = _
    rw [phi_S, phi_0, h]
theorem sg_sq (o : Bool) (y : K) : sgK o y * sgK o y = y * y := by
  unfold sgK
  split
  · rfl
  · grind -lia -linarith -order (splits := 0)
theorem mp_ex3 : ∃ f : Four → P3, f = fun u => ptFrom (pO (xC u)) (pO (y2C u)) := ⟨_, rfl⟩
/-- A number's point. -/
noncomputable def mapP : Four → P3 := Classical.choose mp_ex3
theorem mapP_eq : mapP = fun u => ptFrom (pO (xC u)) (pO (y2C u)) := Classical.choose_spec mp_ex3
theorem fe_out (a : Four) : fe (nat4 (pO a)) = phi a := by rw [pO_val, fe_of]
theorem out_lt (a : Four) : nat4 (pO a) < pN := by rw [pO_val]; exact (phi a).isLt
theorem map_from (u : Four) : okFrom (pO (xC u)) (pO (y2C u)) = true := by
  rw [okFrom_rOn]
  unfold rOn
  simp only [Bool.and_eq_true, decide_eq_true_iff]
  refine ⟨out_lt _, out_lt _, ?_⟩
  refine fe_inj (qlt _) (qlt _) ?_
  rw [fe_qM, ← gK_fe, fe_out, fe_out, phi_y2, (pt_eq u).1, sg_sq]
  exact pt_on (uK u)
theorem jp_map (u : Four) : jp (mapP u) = ⟨(ptK (uK u)).1, sgK (oddN (nat4 u % pN)) (ptK (uK u)).2, 1⟩ := by
  rw [mapP_eq]
  show jp (ptFrom _ _) = _
  rw [jp_from, fe_out, fe_out, (pt_eq u).1, phi_y2]
theorem Rd_map (u : Four) : (mapP u).Rd := by rw [mapP_eq]; exact Rd_from _ _
noncomputable def sSwMap : SpecF := fspec (α := Four × Unit) total (fun a => mapP a.1)
theorem ok_SwMap : SpecOK Tryz.prog 22 sSwMap := by
  unfold sSwMap
  rw [mapP_eq]
  refine fn_okL (by kernel_rfl) tt_ok spSw_ok 9 Tryz.func22 (by decide +kernel) (by kernel_rfl) ?_
  rintro ⟨u, _⟩ _
  have hf := map_from u
  show ∃ D L, ∃ Q : SV → Prop, LnVD tt spSw 9 D L _ Q (u, ()) ∧ ∀ z, Q z → ∀ (at_ : At) (w : World) (v : Value), Rel at_ w z v → Rel at_ w (P3.sv (ptFrom (pO (xC u)) (pO (y2C u)))) v
  cases h1 : eq4 (tC u) zero4 <;> cases h2 : (rtO (gO (xsC u))).2 <;> cases h3 : oddC u (yC u)
  all_goals
    have e1 : xsC u = cond (eq4 (tC u) zero4) x0C (x1C u) := rfl
    have e2 : xC u = cond (rtO (gO (xsC u))).2 (xsC u) (pT (zuC u) (xsC u)) := rfl
    have e3 : y2C u = cond (oddC u (yC u)) (pS zero4 (yC u)) (yC u) := rfl
    have e4 : yC u = (rtO (gO (xC u))).1 := rfl
    rw [h1] at e1
    rw [h2] at e2
    rw [h3] at e3
    rw [e3] at hf ⊢
    rw [e4] at hf h3 ⊢
    rw [e2] at hf h3 ⊢
    rw [e1] at hf h2 h3 ⊢
  · exact ⟨_, {}, fun x => x = _, LnVD.of (vcMpFFF u _) ⟨rfl, h1, rfl, rfl, h2, rfl, rfl, h3, hf, rfl⟩, svf⟩
  · exact ⟨_, {}, fun x => x = _, LnVD.of (vcMpFFT u _) ⟨rfl, h1, rfl, rfl, h2, rfl, rfl, h3, hf, rfl⟩, svf⟩
  · exact ⟨_, {}, fun x => x = _, LnVD.of (vcMpFTF u _) ⟨rfl, h1, rfl, rfl, h2, h3, hf, rfl⟩, svf⟩
  · exact ⟨_, {}, fun x => x = _, LnVD.of (vcMpFTT u _) ⟨rfl, h1, rfl, rfl, h2, h3, hf, rfl⟩, svf⟩
  · exact ⟨_, {}, fun x => x = _, LnVD.of (vcMpTFF u _) ⟨rfl, h1, rfl, rfl, h2, rfl, rfl, h3, hf, rfl⟩, svf⟩
  · exact ⟨_, {}, fun x => x = _, LnVD.of (vcMpTFT u _) ⟨rfl, h1, rfl, rfl, h2, rfl, rfl, h3, hf, rfl⟩, svf⟩
  · exact ⟨_, {}, fun x => x = _, LnVD.of (vcMpTTF u _) ⟨rfl, h1, rfl, rfl, h2, h3, hf, rfl⟩, svf⟩
  · exact ⟨_, {}, fun x => x = _, LnVD.of (vcMpTTT u _) ⟨rfl, h1, rfl, rfl, h2, h3, hf, rfl⟩, svf⟩
end Go.Proofs.YtficbeeoafiiaaaGreatDoor.P12
