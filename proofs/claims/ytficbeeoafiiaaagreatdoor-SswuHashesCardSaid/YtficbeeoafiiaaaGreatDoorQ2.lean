/- A symbolic machine for Go functions, and what the functions that the law reaches come to: Sym8. -/
import Derived.Test.YtficbeeoafiiaaaGreatDoorQ1
import Derived.Laws.MakeOwn
/- The symbolic machine's operations are right: addresses in rows, cuts, calls; and the one theorem. -/
namespace Go.Sym
open Go.RowKit

section
variable [GLob] {P : Program} {at_ : At} {w : World} {M : List (Option Blk)} {look : Nat → Option Blk} {tt : TT} {sp : Specs} {fresh : Nat} {ρ : Operand → SV} {ev : Operand → Value}
variable (hT : TTOK P tt) (hS : SpecsOK P sp) (hM : MemOK at_ M w) (hlook : ∀ n cs, look n = some cs → M[n]? = some (some cs)) (hf : M[fresh]? = some none) (hρ : ∀ x, Rel at_ w (ρ x) (ev x))

include hT hM hρ in
theorem ok_indexAddr {t : TypeId} {x ix : Operand} {out : Out} (h : core tt sp look fresh ρ (.indexAddr t x ix) = some out) (hp : out.ok) :
    Outcome P ((do pure (Next.value (← Instr.indexAt t (ev x) (ev ix))) : Sem Next).run P w) (Post at_ w M out.ws out.sv) := by
  have hx := hρ x
  have hix := hρ ix
  simp only [core] at h
  split at h
  · rename_i n e _ _ _ i heq hi
    split at h
    · rename_i s hs
      split at h
      · rename_i out' hrow
        simp only [Option.some.injEq] at h; subst h
        unfold sizeT at hs
        obtain ⟨j, hj, rfl⟩ := Option.map_eq_some_iff.1 hs
        have hj' := hT _ _ hj
        obtain ⟨k, hk⟩ := toI_ok hi hix
        have run : ∀ a, j.size = 1 → 0 ≤ i → i < (n : Int) → (Instr.indexAt t (.pointer (some a)) (.int k i)).run P w = .ok (.pointer (some (a.add i.toNat))) w := by
          intro a h1 h2 h3
          simp only [Instr.indexAt, asIntOf, Sem.run_bind, Sem.run_pure, run_underlying ((hT _ _ heq).array rfl), Result.andThen_ok, Instr.sureAddr, hj'.sizeOf, h1, h2, h3, and_self, if_true, Nat.mul_one]
        have runS : ∀ a, 0 ≤ i → i < (n : Int) → (Instr.indexAt t (.pointer (some a)) (.int k i)).run P w = .ok (.pointer (some (a.add (i.toNat * j.size)))) w := by
          intro a h2 h3
          simp only [Instr.indexAt, asIntOf, Sem.run_bind, Sem.run_pure, run_underlying ((hT _ _ heq).array rfl), Result.andThen_ok, Instr.sureAddr, hj'.sizeOf, h2, h3, and_self, if_true]
        rw [hk]
        unfold rowAt at hrow
        split at hrow
        · rename_i b m hb
          split at hrow
          · rename_i hc
            obtain ⟨rfl, hs1⟩ := hc
            simp only [Option.some.injEq] at hrow; subst hrow
            simp only [Out.ok, Ok] at hp
            obtain ⟨p1, p2⟩ := hp
            rw [hb] at hx
            simp only [Rel] at hx
            obtain ⟨h1, h2, h3, _⟩ := hx
            obtain ⟨g, base, cap, m', hq⟩ := GN.shape_some h1 h2
            obtain ⟨rfl, h4⟩ := h3 _ _ _ _ hq
            rw [h4]
            refine Outcome.valueS hM (run _ hs1 p1 p2) ?_
            simp only [Rel]
            refine ⟨h1, h2, fun g' base' cap' n' e => ?_, rfl⟩
            rw [hq] at e
            simp only [Option.some.injEq, Prod.mk.injEq] at e
            obtain ⟨rfl, rfl, rfl, rfl⟩ := e
            exact ⟨by omega, by rw [addr_add]⟩
          · split at hrow
            · rename_i hc
              obtain ⟨rfl, hs1⟩ := hc
              simp only [Option.some.injEq] at hrow; subst hrow
              simp only [Out.ok, Ok] at hp
              obtain ⟨p1, p2⟩ := hp
              rw [hb] at hx
              simp only [Rel] at hx
              obtain ⟨h1, h2, h3, _⟩ := hx
              obtain ⟨g, base, cap, m', hq⟩ := GN.shape_some h1 h2
              obtain ⟨hm', h4⟩ := h3 _ _ _ _ hq
              rw [h4]
              refine Outcome.valueS hM (runS _ p1 p2) ?_
              simp only [Rel]
              refine ⟨h1, h2, fun g' base' cap' n' e => ?_, rfl⟩
              rw [hq] at e
              simp only [Option.some.injEq, Prod.mk.injEq] at e
              obtain ⟨rfl, rfl, rfl, rfl⟩ := e
              refine ⟨?_, by rw [addr_add]⟩
              rw [hm']
              exact Nat.mul_lt_mul_of_pos_right (by omega) hs1
            · cases hrow
        · rename_i g hb
          split at hrow
          · rename_i l hl
            split at hrow
            · rename_i hc
              obtain ⟨hc1, hs1⟩ := hc
              simp only [Option.some.injEq] at hrow; subst hrow
              simp only [Out.ok, Ok] at hp
              obtain ⟨p1, p2⟩ := hp
              rw [hb] at hx
              simp only [Rel] at hx
              obtain ⟨f1, ty, fz, f2⟩ := hM.glb g l hl
              obtain ⟨u, h4, h5⟩ := LV.get_at l i.toNat (by omega)
              rw [hx]
              refine Outcome.valueS hM (run _ hs1 p1 p2) ?_
              simp only [Rel]
              refine ⟨_, u, rfl, by rw [block_add]; exact f1, ?_, h5 _ _⟩
              rw [addr_add, cell_of_row w g _ _ ty fz f2]
              simpa using h4
            · cases hrow
          · cases hrow
        · cases hrow
      split at h
      · rename_i hcond
        unfold sizeT at hs
        obtain ⟨j, hj, rfl⟩ := Option.map_eq_some_iff.1 hs
        have hj' := hT _ _ hj
        obtain ⟨k, hk⟩ := toI_ok hi hix
        have run : ∀ a, (Instr.indexAt t (.pointer (some a)) (.int k i)).run P w = .ok (.pointer (some (a.add (i.toNat * j.size)))) w := by
          intro a
          simp only [Instr.indexAt, asIntOf, Sem.run_bind, Sem.run_pure, run_underlying ((hT _ _ heq).array rfl), Result.andThen_ok, Instr.sureAddr, hj'.sizeOf, hcond, and_self, if_true]
        rw [hk]
        split at h
        · rename_i b off hb
          simp only [mk, Option.some.injEq] at h; subst h
          rw [hb] at hx
          simp only [Rel] at hx
          obtain ⟨g, h1, h2⟩ := hx
          rw [h2]
          exact Outcome.valueS hM (run _) (by simp only [Rel]; exact ⟨g, h1, by rw [addr_add]⟩)
        · rename_i cs off hb
          simp only [mk, Option.some.injEq] at h; subst h
          rw [hb] at hx
          simp only [Rel] at hx
          obtain ⟨g, ty, fz, vs, h1, h2, h3, h4⟩ := hx
          rw [h1]
          exact Outcome.valueS hM (run _) (by simp only [Rel]; exact ⟨g, ty, fz, vs, by rw [addr_add], h2, h3, h4⟩)
        · cases h
      · cases h
    · cases h
  · rename_i e _ _ _ i heq hi
    split at h
    · rename_i hs
      unfold sizeT at hs
      obtain ⟨j, hj, hjs⟩ := Option.map_eq_some_iff.1 hs
      have hj' := hT _ _ hj
      obtain ⟨k, hk⟩ := toI_ok hi hix
      have run : ∀ a len cap, 0 ≤ i → i < (len : Nat) → (Instr.indexAt t (.slice (some a) len cap) (.int k i)).run P w = .ok (.pointer (some (a.add i.toNat))) w := by
        intro a len cap h1 h2
        simp only [Instr.indexAt, asIntOf, Sem.run_bind, Sem.run_pure, run_underlying ((hT _ _ heq).slice rfl), Result.andThen_ok, hj'.sizeOf, hjs, h1, h2, and_self, if_true, Nat.mul_one]
      rw [hk]
      split at h
      · rename_i b off len cap hb
        split at h
        · rename_i hcond
          simp only [mk, Option.some.injEq] at h; subst h
          rw [hb] at hx
          simp only [Rel] at hx
          obtain ⟨g, h1, h2⟩ := hx
          rw [h2]
          exact Outcome.valueS hM (run _ _ _ hcond.1 hcond.2) (by simp only [Rel]; exact ⟨g, h1, by rw [addr_add]⟩)
        · cases h
      · rename_i cs off len hb
        split at h
        · rename_i hcond
          simp only [mk, Option.some.injEq] at h; subst h
          rw [hb] at hx
          simp only [Rel] at hx
          obtain ⟨g, ty, fz, vs, cap, h1, h0, h2, h3, h4⟩ := hx
          rw [h1]
          exact Outcome.valueS hM (run _ _ _ hcond.1 hcond.2) (by simp only [Rel]; exact ⟨g, ty, fz, vs, by rw [addr_add], h2, h3, h4⟩)
        · cases h
      · rename_i b lo len hb
        simp only [Option.some.injEq] at h; subst h
        simp only [Out.ok, Ok] at hp
        obtain ⟨p1, p2⟩ := hp
        rw [hb] at hx
        have hx0 := hx
        simp only [Rel] at hx0
        rcases sl_any hx with ⟨_, e2, _, _⟩ | ⟨g, base, cap, n, ad, k1, k2, k3, k4, k5⟩
        · omega
        · rw [k4, k5 (by omega)]
          refine Outcome.valueS hM (run _ _ _ p1 p2) ?_
          simp only [Rel]
          refine ⟨hx0.1, fun e => by rw [e] at k1; simp [GN.shape] at k1, fun g' base' cap' n' e => ?_, rfl⟩
          rw [k1] at e
          simp only [Option.some.injEq, Prod.mk.injEq] at e
          obtain ⟨rfl, rfl, rfl, rfl⟩ := e
          exact ⟨by omega, by rw [addr_add, Nat.add_assoc]⟩
      · rename_i l hb
        simp only [Option.some.injEq] at h; subst h
        simp only [Out.ok, Ok] at hp
        obtain ⟨p1, p2⟩ := hp
        rw [hb] at hx
        simp only [Rel] at hx
        obtain ⟨a, c, h1, h2, h3⟩ := hx
        obtain ⟨u, h4, h5⟩ := LV.get_at l i.toNat (by omega)
        obtain ⟨ad, h6, h7, h8⟩ := h3 _ _ h4
        rw [h1, h6]
        exact Outcome.valueS hM (run _ _ _ p1 p2) (by simp only [Rel]; exact ⟨_, u, rfl, by rw [block_add]; exact h7, h8, h5 _ _⟩)
      · rename_i ls hb
        simp only [Option.some.injEq] at h; subst h
        simp only [Out.ok, Ok] at hp
        obtain ⟨p1, p2⟩ := hp
        rw [hb] at hx
        simp only [Rel] at hx
        obtain ⟨a, c, h1, h2, h3⟩ := hx
        have hlt : i.toNat < ls.length := by omega
        obtain ⟨ad, u, h6, h7, h8, h9⟩ := h3 i.toNat _ (List.getElem?_eq_getElem hlt)
        rw [h1, h6]
        refine Outcome.valueS hM (run _ _ _ p1 p2) ?_
        have e : ls.getD i.toNat [] = ls[i.toNat] := by rw [List.getD_eq_getElem?_getD, List.getElem?_eq_getElem hlt]; rfl
        rw [e]
        simp only [Rel]
        exact ⟨_, u, rfl, by rw [block_add]; exact h7, h8, h9⟩
      · cases h
    · rename_i s hs
      unfold sizeT at hs
      obtain ⟨j, hj, hjs⟩ := Option.map_eq_some_iff.1 hs
      have hj' := hT _ _ hj
      obtain ⟨k, hk⟩ := toI_ok hi hix
      have run : ∀ a len cap, 0 ≤ i → i < (len : Nat) → (Instr.indexAt t (.slice (some a) len cap) (.int k i)).run P w = .ok (.pointer (some (a.add (i.toNat * (s + 2))))) w := by
        intro a len cap h1 h2
        simp only [Instr.indexAt, asIntOf, Sem.run_bind, Sem.run_pure, run_underlying ((hT _ _ heq).slice rfl), Result.andThen_ok, hj'.sizeOf, hjs, h1, h2, and_self, if_true]
      rw [hk]
      split at h
      · rename_i b off len cap hb
        split at h
        · rename_i hcond
          simp only [mk, Option.some.injEq] at h; subst h
          rw [hb] at hx
          simp only [Rel] at hx
          obtain ⟨g, h1, h2⟩ := hx
          rw [h2]
          exact Outcome.valueS hM (run _ _ _ hcond.1 hcond.2) (by simp only [Rel]; exact ⟨g, h1, by rw [addr_add]⟩)
        · cases h
      · rename_i cs off len hb
        split at h
        · rename_i hcond
          simp only [mk, Option.some.injEq] at h; subst h
          rw [hb] at hx
          simp only [Rel] at hx
          obtain ⟨g, ty, fz, vs, cap, h1, h0, h2, h3, h4⟩ := hx
          rw [h1]
          exact Outcome.valueS hM (run _ _ _ hcond.1 hcond.2) (by simp only [Rel]; exact ⟨g, ty, fz, vs, by rw [addr_add], h2, h3, h4⟩)
        · cases h
      · cases h
    · cases h
  · cases h

include hT hM hlook hρ in
theorem ok_slice {t : TypeId} {x : Operand} {lo hi mx : Option Operand} {out : Out} (h : core tt sp look fresh ρ (.slice t x lo hi mx) = some out) (hp : out.ok) :
    Outcome P ((do pure (Next.value (← Instr.sliceAt t (ev x) (lo.map ev) (hi.map ev) (mx.map ev))) : Sem Next).run P w) (Post at_ w M out.ws out.sv) := by
  have hx := hρ x
  simp only [core] at h
  split at h
  · rename_i e _ _ _ heq
    split at h
    · rename_i hs
      unfold sizeT at hs
      obtain ⟨j, hj, hjs⟩ := Option.map_eq_some_iff.1 hs
      have hj' := hT _ _ hj
      have hu := (hT _ _ heq).slice rfl
      have run : ∀ (a : Option Addr) (len cap : Nat) (l m : Int), boundI ρ lo 0 = some l → boundI ρ hi len = some m → 0 ≤ l → l ≤ m → m ≤ cap →
          (Instr.sliceAt t (.slice a len cap) (lo.map ev) (hi.map ev) none).run P w = .ok (.slice (if cap = l.toNat then a else a.map (·.add l.toNat)) (m.toNat - l.toNat) (cap - l.toNat)) w := by
        intro a len cap l m h1 h2 h3 h4 h5
        have bnd : ∀ (v : Operand) (y : Nat) (n : Int) (code : BoundsCode), (ρ v).toI = some n → 0 ≤ n → n ≤ y → (Instr.sliceBound (ev v) y code).run P w = .ok n.toNat w := by
          intro v y n code g1 g2 g3
          obtain ⟨k, hk⟩ := toI_ok g1 (hρ v)
          simp only [Instr.sliceBound, hk, asIntOf, Sem.run_bind, Sem.run_pure, Result.andThen_ok, g2, g3, and_self, if_true]
        rcases lo with _ | lo <;> rcases hi with _ | hi <;> simp only [boundI, Option.some.injEq] at h1 h2 <;>
          simp only [Instr.sliceAt, Sem.run_bind, run_underlying hu, Result.andThen_ok, Instr.slice, Instr.sliceBounds, Sem.run_pure, Option.map_none, Option.map_some, Option.isSome_none, Bool.false_eq_true, if_false, if_true]
        · subst h1; subst h2
          simp [hj'.sizeOf, hjs]
        · subst h1
          simp [bnd _ _ m _ h2 (by omega) h5, hj'.sizeOf, hjs]
        · subst h2
          simp [bnd _ _ l _ h1 h3 h4, hj'.sizeOf, hjs]
        · simp [bnd _ _ m _ h2 (by omega) h5, bnd _ _ l _ h1 h3 (show l ≤ (m.toNat : Int) by omega), hj'.sizeOf, hjs]
      split at h
      · rename_i b off len cap l hb hl
        split at h
        · rename_i m hm
          split at h
          · rename_i hcond
            obtain ⟨c1, c2, c3, c4⟩ := hcond
            simp only [mk, Option.some.injEq] at h; subst h
            rw [hb] at hx
            simp only [Rel] at hx
            obtain ⟨g, h1, h2⟩ := hx
            rw [h2]
            refine Outcome.valueS hM (run _ _ _ l m hl hm c1 c2 c3) ?_
            simp only [Rel]
            refine ⟨g, h1, ?_⟩
            rw [if_neg (by omega)]
            simp [addr_add]
          · cases h
        · cases h
      · rename_i b lo len l hb hl
        split at h
        · rename_i m hm
          simp only [Option.some.injEq] at h; subst h
          simp only [Out.ok, Ok] at hp
          obtain ⟨c1, c2, c3⟩ := hp
          rw [hb] at hx
          have hx0 := hx
          simp only [Rel] at hx0
          rcases sl_any hx with ⟨e1, e2, e4, e5⟩ | ⟨g, base, cap, n, ad, k1, k2, k3, k4, k5⟩
          · rw [e4]
            have := run none 0 0 l m hl (by rw [← hm, e2]) c1 c2 (by omega)
            refine Outcome.valueS hM this ?_
            have e6 : l.toNat = 0 := by omega
            have e7 : m.toNat = 0 := by omega
            simp only [Rel, e5, e6, e7, e1]
            simp [Value.oneCell', GN.shape]
          · rw [k4]
            refine Outcome.valueS hM (run _ _ _ l m hl hm c1 c2 (by omega)) ?_
            simp only [Rel]
            refine ⟨hx0.1, fun e => by rw [e] at k1; simp [GN.shape] at k1, fun g' base' cap' n' e => ?_, rfl⟩
            rw [k1] at e
            simp only [Option.some.injEq, Prod.mk.injEq] at e
            obtain ⟨rfl, rfl, rfl, rfl⟩ := e
            refine ⟨by omega, k3, _, by rw [Nat.sub_sub], fun hlt => ?_⟩
            rw [if_neg (by omega), k5 (by omega)]
            simp [addr_add, Nat.add_assoc]
        · cases h
      · rename_i v l hb hl
        split at h
        · rename_i m hm
          simp only [Option.some.injEq] at h; subst h
          simp only [Out.ok, Ok] at hp
          obtain ⟨c1, c2, c3⟩ := hp
          rw [hb] at hx
          simp only [Rel] at hx
          obtain ⟨a, c, h1, h2, h3⟩ := hx
          rw [h1]
          refine Outcome.valueS hM (run _ _ _ l m hl hm c1 c2 (by omega)) ?_
          simp only [Rel]
          rw [LV.len_cut _ _ _ (by omega)]
          refine ⟨_, _, rfl, by omega, fun q u hq => ?_⟩
          rw [LV.vals_cut, List.getElem?_drop, List.getElem?_take] at hq
          split at hq
          · rename_i hlt
            obtain ⟨ad, e1, e2, e3⟩ := h3 _ _ hq
            have : ¬ c = l.toNat := by omega
            refine ⟨ad.add l.toNat, by rw [if_neg this, e1]; rfl, by rw [block_add]; exact e2, ?_⟩
            rw [← e3]
            congr 1
            unfold Addr.add
            by_cases g1 : l.toNat = 0 <;> by_cases g2 : q = 0 <;> simp [g1, g2, Nat.add_assoc]
          · cases hq
        · cases h
      · cases h
    · cases h
  · rename_i e _ _ _ mx heq
    split at h
    · rename_i hs
      unfold sizeT at hs
      obtain ⟨j, hj, hjs⟩ := Option.map_eq_some_iff.1 hs
      have hj' := hT _ _ hj
      have hu := (hT _ _ heq).slice rfl
      have run : ∀ (hi : Operand) (a : Option Addr) (len cap : Nat) (l m q : Int), boundI ρ lo 0 = some l → (ρ hi).toI = some m → (ρ mx).toI = some q → 0 ≤ l → l ≤ m → m ≤ q → q ≤ cap →
          (Instr.sliceAt t (.slice a len cap) (lo.map ev) (some (ev hi)) (some (ev mx))).run P w = .ok (.slice (if q.toNat = l.toNat then a else a.map (·.add l.toNat)) (m.toNat - l.toNat) (q.toNat - l.toNat)) w := by
        intro hi a len cap l m q h1 h2 h6 h3 h4 h5 h7
        have bnd : ∀ (v : Operand) (y : Nat) (n : Int) (code : BoundsCode), (ρ v).toI = some n → 0 ≤ n → n ≤ y → (Instr.sliceBound (ev v) y code).run P w = .ok n.toNat w := by
          intro v y n code g1 g2 g3
          obtain ⟨k, hk⟩ := toI_ok g1 (hρ v)
          simp only [Instr.sliceBound, hk, asIntOf, Sem.run_bind, Sem.run_pure, Result.andThen_ok, g2, g3, and_self, if_true]
        rcases lo with _ | lo <;> simp only [boundI, Option.some.injEq] at h1 <;>
          simp only [Instr.sliceAt, Sem.run_bind, run_underlying hu, Result.andThen_ok, Instr.slice, Instr.sliceBounds, Sem.run_pure, Option.map_none, Option.map_some, Option.isSome_some, Bool.false_eq_true, if_false, if_true]
        · subst h1
          simp [bnd mx _ q _ h6 (by omega) h7, bnd hi _ m _ h2 (by omega) (show m ≤ (q.toNat : Int) by omega), hj'.sizeOf, hjs]
        · simp [bnd mx _ q _ h6 (by omega) h7, bnd hi _ m _ h2 (by omega) (show m ≤ (q.toNat : Int) by omega), bnd lo _ l _ h1 h3 (show l ≤ (m.toNat : Int) by omega), hj'.sizeOf, hjs]
      split at h
      · cases h
      · rename_i hi
        split at h
        · rename_i b lo' len l m q hb hl hm hq
          split at h
          · rename_i v hv
            simp only [Option.some.injEq] at h; subst h
            simp only [Out.ok, Ok] at hp
            obtain ⟨c1, c2, c3, c4⟩ := hp
            rw [hb] at hx
            have hlend : lend look (.sl b lo' len) = some (.lst (v.cut lo' (lo' + len)), [b], false) := by simp [lend, hv]
            obtain ⟨hK, _, hr⟩ := lend_ok hM hlook hlend hx
            have hr := hr rfl [b] (fun _ h => h)
            have hcut := (sl_lst (at' := noAt) hM (hlook _ _ hv) hx (fun g _ _ _ _ => Fix.noAt g)).2
            simp only [Rel] at hr
            obtain ⟨a, c, h1, h2, h3⟩ := hr
            have hvl : (v.cut lo' (lo' + len)).len = len := by rw [LV.len_cut _ _ _ hcut]; omega
            rw [hvl] at h1 h2
            rw [h1]
            have hgo := run hi a len c l m q hl hm hq c1 c2 c3 (by omega)
            simp only [Option.map_some, Sem.run_bind, hgo, Result.andThen_ok, Sem.run_pure, Outcome]
            refine ⟨killAt at_ [b], Later.kill _ _ _, hM.kill hK, ?_⟩
            simp only [Rel]
            rw [LV.len_cut _ _ _ (by omega)]
            refine ⟨_, _, rfl, by omega, fun i u hi' => ?_⟩
            rw [LV.vals_cut, List.getElem?_drop, List.getElem?_take] at hi'
            split at hi'
            · rename_i hlt
              obtain ⟨ad, e1, e2, e3⟩ := h3 _ _ hi'
              have : ¬ q.toNat = l.toNat := by omega
              refine ⟨ad.add l.toNat, by rw [if_neg this, e1]; rfl, by rw [block_add]; exact e2, ?_⟩
              rw [← e3]
              congr 1
              unfold Addr.add
              by_cases g1 : l.toNat = 0 <;> by_cases g2 : i = 0 <;> simp [g1, g2, Nat.add_assoc]
            · cases hi'
          · cases h
        · rename_i l m q hb hl hm hq
          simp only [Option.some.injEq] at h; subst h
          simp only [Out.ok, Ok] at hp
          obtain ⟨rfl, rfl, rfl⟩ := hp
          rw [hb] at hx
          simp only [Rel] at hx
          rw [hx]
          refine Outcome.valueS hM (run hi none 0 0 0 0 0 hl hm hq (by omega) (by omega) (by omega) (by omega)) ?_
          simp [Rel]
        · cases h
    · cases h
  · cases h

theorem rep_ok {k : IntKind} {n : Nat} {l : LV} (h : LV.rep k n = some l) : l.len = n ∧ l.vals = List.replicate n (.int k 0) := by
  have _ := ‹GLob›
  unfold LV.rep at h
  split at h <;> first
    | (cases h; done)
    | (simp only [Option.some.injEq] at h; subst h; simp [LV.len, LV.vals])
include hT hM hρ hf in
theorem ok_makeSlice {t : TypeId} {l c : Operand} {out : Out} (h : core tt sp look fresh ρ (.makeSlice t l c) = some out) (hp : out.ok) :
    Outcome P ((do pure (Next.value (← Instr.makeSlice t (ev l) (ev c))) : Sem Next).run P w) (Post at_ w M out.ws out.sv) := by
  have hl := hρ l
  have hc := hρ c
  simp only [core] at h
  split at h
  · rename_i e _ _ _ n m heq hn hm
    split at h
    · rename_i k by_ k' heq'
      split at h
      · rename_i l hl0
        split at h
        · rename_i hcond
          obtain ⟨rfl, hby⟩ := hcond
          simp only [Option.some.injEq] at h; subst h
          simp only [Out.ok, Ok] at hp
          obtain ⟨c1, c2, c3⟩ := hp
          subst c2
          rw [hn] at hl; rw [hm] at hc
          simp only [Rel] at hl hc
          have hi := hT _ _ heq
          have hj := hT _ _ heq'
          obtain ⟨x, zv, h1, h2, h3, h4, h5⟩ := hj.ti
          have hz : zv.cells = #[.int k 0] := by have := congrArg List.toArray h3; simpa using this
          have hrow : madeCells zv.cells (m.toNat * x.size) = List.toArray (List.replicate m.toNat (.int k 0)) := by
            rw [hz, h4]
            apply Array.ext
            · simp [madeCells]
            · intro i hi1 hi2
              simp [madeCells, Nat.mod_one]
          have hb : (x.bytes : Int) * m ≤ 281474976710656 := by
            have : (x.bytes : Int) ≤ 8 := by rw [h5]; exact Int.ofNat_le.2 hby
            have := Int.mul_le_mul this c3 (by omega) (by omega)
            omega
          rw [hl, hc]
          have run := run_make (P := P) w t e x zv (hi.slice rfl) h1 h2 .i64 .i64 m m c1 (Int.le_refl _) hb (by omega)
          rw [hrow] at run
          simp only [Sem.run_bind, run, Result.andThen_ok, Sem.run_pure, Outcome]
          obtain ⟨r1, r2⟩ := rep_ok hl0
          have := Post.ownNew (fresh := fresh) (l := l) (c := m.toNat) (arr := List.toArray (List.replicate m.toNat (Value.int k 0))) e hM hf (by simp) (by omega) (by unfold maxLen; omega) (by rw [r2, r1]; simp)
          rw [r1] at this
          exact this
        · cases h
      · cases h
    · rename_i d by_ z hne heq'
      split at h
      · rename_i hcond
        obtain ⟨c1, c2, c3, c4⟩ := hcond
        simp only [Option.some.injEq] at h; subst h
        subst c3
        rw [hn] at hl; rw [hm] at hc
        simp only [Rel] at hl hc
        have hi := hT _ _ heq
        have hj := hT _ _ heq'
        obtain ⟨x, zv, h1, h2, h3, h4, h5⟩ := hj.ti
        have hz : zv.cells = #[z] := by have := congrArg List.toArray h3; simpa using this
        have hrow : madeCells zv.cells (m.toNat * x.size) = List.toArray (List.replicate m.toNat z) := by
          rw [hz, h4]
          apply Array.ext
          · simp [madeCells]
          · intro i hi1 hi2
            simp [madeCells, Nat.mod_one]
        have hb : (x.bytes : Int) * m ≤ 281474976710656 := by
          have : (x.bytes : Int) ≤ 1024 := by rw [h5]; exact Int.ofNat_le.2 c4
          have := Int.mul_le_mul this c2 (by omega) (by omega)
          omega
        rw [hl, hc]
        have run := run_make (P := P) w t e x zv (hi.slice rfl) h1 h2 .i64 .i64 m m (by omega) (Int.le_refl _) hb (by omega)
        rw [hrow] at run
        simp only [Sem.run_bind, run, Result.andThen_ok, Sem.run_pure, Outcome]
        exact Post.new e hM hf (RelL.replicate _ (Rel.ofV at_ w z)) (fun at' ha => by simp only [Rel]; exact ⟨_, ha, rfl⟩)
      · cases h
    · cases h
  · cases h


theorem args_rel (hρ : ∀ x, Rel at_ w (ρ x) (ev x)) : ∀ l : List Operand, RelL at_ w (l.map ρ) (l.map ev)
  | [] => have _ := ‹GLob›; RelL.nil
  | x :: l => RelL.cons (hρ x) (args_rel hρ l)

theorem Outcome.mono {P : Program} {K K' : Value → World → Prop} {r : Result Next} (hk : ∀ v w', K v w' → K' v w') (ho : Outcome P r K) : Outcome P r K' := by
  have _ := ‹GLob›
  unfold Outcome at *
  split at ho
  · exact hk _ _ ho
  · exact hk _ _ ho
  · exact Calls.mono ho fun e w'' ⟨v, h1, h2⟩ => ⟨v, h1, hk _ _ h2⟩
  · exact ho

include hS hM hlook in
theorem ok_call {f : FuncId} {cap args : List SV} {vcap vargs : List Value} {out : Out} (hff : makesF sp f = true → M[fresh]? = some none) (h : coreCall sp look fresh (.fn f cap) args = some out) (hp : out.ok) (hc : RelL at_ w cap vcap) (ha : RelL at_ w args vargs) :
    Outcome P ((callFunc f (List.toArray (vargs ++ vcap))).run P w) (Post at_ w M out.ws out.sv) := by
  simp only [coreCall] at h
  split at h
  · rename_i s hs
    split at h
    rotate_left
    · cases h
    rename_i as ks fx hl
    split at h
    · rename_i pre r hr
      have hall := RelL.append ha hc
      obtain ⟨k0, k1, k2⟩ := lendL_ok hM hlook hl hall
      split at h
      · rename_i hcond
        simp only [Bool.and_eq_true] at hcond
        simp only [Option.some.injEq] at h; subst h
        exact Outcome.mono (fun v w' ⟨h1, h2⟩ => Post.below hM h2 (Rel.flat _ _ hcond.2 h1)) (hS _ (.pure s) hs noAt w _ _ _ _ (fun n g e => by simp [noAt] at e) (fun g h => by simp [noAt] at h) (hM.glb.fixed fun g _ => Fix.noAt g) hr hp (k1 hcond.1))
      · split at h
        · rename_i hfx
          simp only [Option.some.injEq] at h; subst h
          have hk := hM.kill k0
          have hlk := Later.kill at_ w ks
          refine Outcome.mono (fun v w' ⟨h1, h2⟩ => ?_) (hS _ (.pure s) hs (killAt at_ ks) w _ _ _ _ (fun n g e => (hM.dom n g e).1) hk.outlt' hk.glb hr hp (k2 rfl ks (fun _ h => h)))
          exact ⟨killAt at_ ks, hlk.trans (Later.of_below h2), hk.later_free h2.block h2.size (Later.of_below h2), h1⟩
        · cases h
    · cases h
  · rename_i s hs
    have hfr : M[fresh]? = some none := hff (by unfold makesF; rw [hs])
    split at h
    rotate_left
    · cases h
    rename_i as ks fx hl
    split at h
    rotate_left
    · cases h
    rename_i pre r hr
    split at h
    rotate_left
    · cases h
    rename_i sv ws ht
    have hall := RelL.append ha hc
    obtain ⟨k0, k1, k2⟩ := lendL_ok hM hlook hl hall
    split at h
    · cases h
    rename_i hn
    split at h
    · rename_i hcond
      simp only [Bool.and_eq_true] at hcond
      simp only [Option.some.injEq] at h; subst h
      exact Outcome.mono (fun v w' ⟨h1, h2⟩ => fresh_post hM hfr h2 ht hn hcond.2 h1) (hS _ (.fresh s) hs noAt w _ _ _ _ (fun n g e => by simp [noAt] at e) (fun g h => by simp [noAt] at h) (hM.glb.fixed fun g _ => Fix.noAt g) hr hp (k1 hcond.1))
    · split at h
      · simp only [Option.some.injEq] at h; subst h
        have hk := hM.kill k0
        exact Outcome.mono (fun v w' ⟨h1, h2⟩ => fresh_post_kill hM k0 hfr h2 ht hn h1) (hS _ (.fresh s) hs (killAt at_ ks) w _ _ _ _ (fun n g e => (hM.dom n g e).1) hk.outlt' hk.glb hr hp (k2 rfl ks (fun _ h => h)))
      · cases h
  · rename_i s hs
    exact hS _ (.mem s) hs at_ M w look _ _ out hM hlook h hp (RelL.append ha hc)
  · rename_i s hs
    exact hS _ (.memf s) hs at_ M w look fresh _ _ out hM hlook (hff (by unfold makesF; rw [hs])) h hp (RelL.append ha hc)
  · cases h

include hT hM hlook in
theorem ok_builtin {b : Builtin} {args : List SV} {ts : List TypeId} {vargs : List Value} {out : Out} (h : coreBuiltin tt look fresh b args ts = some out) (hp : out.ok) (hfa : b = .append → M[fresh]? = some none) (ha : RelL at_ w args vargs) (ty : TypeId) (cs : Array Bool) :
    Outcome P ((builtin b (List.toArray ts) ty cs (List.toArray vargs)).run P w) (Post at_ w M out.ws out.sv) := by
  unfold coreBuiltin at h
  split at h
  · rename_i x t
    simp only [RelL] at ha
    obtain ⟨v, vs, rfl, h1, h2⟩ := ha
    subst h2
    split at h
    · rename_i heq
      have hu := (hT _ _ heq).slice rfl
      split at h
      · simp only [mk, Option.some.injEq] at h; subst h
        simp only [Rel] at h1
        obtain ⟨g, _, rfl⟩ := h1
        refine Outcome.valueS (v := .int .i64 _) hM ?_ (by simp only [Rel]; rfl)
        simp only [Builtin.len_, List.getElem?_toArray, List.getElem?_cons_zero, Sem.run_bind, Sem.run_pure, run_underlying hu, Result.andThen_ok]; rfl
      · rename_i b lo len
        simp only [mk, Option.some.injEq] at h; subst h
        have hv : ∃ ad cap, v = .slice ad len cap := by
          rcases sl_any h1 with ⟨_, e2, e4, _⟩ | ⟨g, base, cap, n, ad, _, _, _, k4, _⟩
          · exact ⟨none, 0, by rw [e4, e2]⟩
          · exact ⟨_, _, k4⟩
        obtain ⟨ad, cap, rfl⟩ := hv
        refine Outcome.valueS (v := .int .i64 _) hM ?_ (by simp only [Rel]; rfl)
        simp only [Builtin.len_, List.getElem?_toArray, List.getElem?_cons_zero, Sem.run_bind, Sem.run_pure, run_underlying hu, Result.andThen_ok]; rfl
      · simp only [mk, Option.some.injEq] at h; subst h
        simp only [Rel] at h1
        obtain ⟨a, c, rfl, _⟩ := h1
        refine Outcome.valueS (v := .int .i64 _) hM ?_ (by simp only [Rel]; rfl)
        simp only [Builtin.len_, List.getElem?_toArray, List.getElem?_cons_zero, Sem.run_bind, Sem.run_pure, run_underlying hu, Result.andThen_ok]; rfl
      · simp only [mk, Option.some.injEq] at h; subst h
        simp only [Rel] at h1
        obtain ⟨g, ty', fz, vs', cap, rfl, _⟩ := h1
        refine Outcome.valueS (v := .int .i64 _) hM ?_ (by simp only [Rel]; rfl)
        simp only [Builtin.len_, List.getElem?_toArray, List.getElem?_cons_zero, Sem.run_bind, Sem.run_pure, run_underlying hu, Result.andThen_ok]; rfl
      · simp only [mk, Option.some.injEq] at h; subst h
        simp only [Rel] at h1
        obtain ⟨a, c, rfl, _⟩ := h1
        refine Outcome.valueS (v := .int .i64 _) hM ?_ (by simp only [Rel]; rfl)
        simp only [Builtin.len_, List.getElem?_toArray, List.getElem?_cons_zero, Sem.run_bind, Sem.run_pure, run_underlying hu, Result.andThen_ok]; rfl
      · simp only [mk, Option.some.injEq] at h; subst h
        simp only [Rel] at h1
        subst h1
        refine Outcome.valueS (v := .int .i64 _) hM ?_ (by simp only [Rel]; rfl)
        simp only [Builtin.len_, List.getElem?_toArray, List.getElem?_cons_zero, Sem.run_bind, Sem.run_pure, run_underlying hu, Result.andThen_ok]; rfl
      · cases h
    · rename_i heq
      have hu := (hT _ _ heq).array rfl
      simp only [mk, Option.some.injEq] at h; subst h
      refine Outcome.valueS (v := .int .i64 _) hM ?_ (by simp only [Rel]; rfl)
      simp only [Builtin.len_, List.getElem?_toArray, List.getElem?_cons_zero, Sem.run_bind, Sem.run_pure, run_underlying hu, Result.andThen_ok]; rfl
    · rename_i heq
      have hu := (hT _ _ heq).str rfl
      split at h
      · simp only [mk, Option.some.injEq] at h; subst h
        simp only [Rel] at h1
        subst h1
        refine Outcome.valueS (v := .int .i64 _) hM ?_ (by simp only [Rel]; rfl)
        simp only [Builtin.len_, List.getElem?_toArray, List.getElem?_cons_zero, Sem.run_bind, Sem.run_pure, run_underlying hu, Result.andThen_ok]; rfl
      · cases h
    · cases h
  · rename_i x y t t'
    split at h
    · rename_i htt
      subst htt
      simp only [RelL] at ha
      obtain ⟨v, vs, rfl, h1, v', vs', rfl, h2, rfl⟩ := ha
      obtain ⟨r, w', hr, hpost⟩ := ok_append hT hM hlook (hfa rfl) h hp h1 h2 ty
      simp only [builtin, Sem.run_bind, hr, Result.andThen_ok, Sem.run_pure, Outcome]
      exact hpost
    · cases h
  · rename_i x y t t'
    simp only [RelL] at ha
    obtain ⟨v, vs, rfl, h1, v', vs', rfl, h2, rfl⟩ := ha
    obtain ⟨r, w', hr, hpost⟩ := ok_copy (t' := t') hT hM hlook h h1 h2 ty
    simp only [builtin, Sem.run_bind, hr, Result.andThen_ok, Sem.run_pure, Outcome]
    exact hpost
  · rename_i a b
    simp only [RelL, Rel] at ha
    obtain ⟨v, vs, rfl, rfl, v', vs', rfl, rfl, rfl⟩ := ha
    simp only [mk, Option.some.injEq] at h; subst h
    exact Outcome.valueS hM (run_min_int2 w _ _ _ _ _ _) (by simp only [Rel])
  · rename_i a b
    simp only [RelL, Rel] at ha
    obtain ⟨v, vs, rfl, rfl, v', vs', rfl, rfl, rfl⟩ := ha
    simp only [mk, Option.some.injEq] at h; subst h
    exact Outcome.valueS hM (run_max_int2 w _ _ _ _ _ _) (by simp only [Rel])
  · cases h

include hT hS hM hlook hρ in
omit hf in
theorem core_ok (o : Oper) (hf : makes sp ρ o.op = true → M[fresh]? = some none) {out : Out} (h : core tt sp look fresh ρ o.op = some out) (hp : out.ok) : Outcome P ((execOp ev o).run P w) (Post at_ w M out.ws out.sv) := by
  obtain ⟨dst, op, type, pos, after, guard⟩ := o
  cases op
  case move x =>
    simp only [core, mk, Option.some.injEq] at h; subst h
    exact Outcome.value (v := ev x) hM rfl (hρ x)
  case assign x =>
    simp only [core, mk, Option.some.injEq] at h; subst h
    exact Outcome.value (v := ev x) hM rfl (hρ x)
  case pick c a b => exact ok_pick hM hρ h
  case alloc t => exact ok_alloc hT hM (hf rfl) h
  case box t x => exact ok_box hM (hf rfl) hρ h
  case build t parts => exact ok_build hT hM hρ h
  case buildSlice t len parts => exact ok_buildSlice hT hM (hf rfl) hρ h
  case load t x => exact ok_load hT hM hlook hρ h hp
  case store t x y => exact ok_store hT hM hlook hρ h
  case nilCheck x => exact ok_nilCheck hM hρ rfl h
  case binOp op t x y t' => exact ok_binOp hT hM hρ h hp
  case unOp op t x => exact ok_unOp hM hρ h
  case convert src dst x => exact ok_convert hT hM hρ h
  case makeSlice t l c => exact ok_makeSlice hT hM (hf rfl) hρ h hp
  case slice t x lo hi mx => exact ok_slice hT hM hlook hρ h hp
  case fieldAddr t x f => exact ok_fieldAddr hT hM hρ h
  case field t x f => exact ok_field hT hM hρ h
  case indexAddr t x ix => exact ok_indexAddr hT hM hρ h hp
  case index t x ix => exact ok_index hT hM hρ h
  case extract x i => exact ok_extract hM hρ h
  case makeFunc fn first captured =>
    simp only [core] at h
    split at h
    · rename_i f hfirst
      simp only [mk, Option.some.injEq] at h; subst h
      have e : first = #[] := by simpa using hfirst
      subst e
      refine Outcome.value (v := .func (.func f) #[] (captured.map ev)) hM ?_ ?_
      · simp only [execOp, Instr.makeFunc, Sem.run_bind, Sem.run_pure, Result.andThen_ok, Array.map_empty]
      · simp only [Rel]
        refine ⟨captured.toList.map ev, ?_, args_rel hρ _⟩
        congr 1
        apply Array.ext' ; simp
    · cases h
  case call c =>
    simp only [core] at h
    obtain ⟨callee, args, ts⟩ := c
    simp only at h
    split at h
    · rename_i f
      have hfr := hρ f
      cases hfv : ρ f <;> rw [hfv] at h <;> try (simp only [coreCall] at h; cases h; done)
      rename_i fid cap
      rw [hfv] at hfr
      simp only [Rel] at hfr
      obtain ⟨vcap, h1, h2⟩ := hfr
      have := ok_call hS hM hlook (fun e => hf (by simp only [makes, hfv]; exact e)) h hp h2 (args_rel hρ args.toList)
      have e : List.toArray (args.toList.map ev ++ vcap) = #[] ++ args.map ev ++ List.toArray vcap := by apply Array.ext'; simp
      rw [e] at this
      simpa only [execOp, resolve, h1, Deferred.ofValue, Sem.run_bind, Sem.run_pure, Result.andThen_ok, invoke] using this
    · rename_i b
      have := fun cs => ok_builtin (P := P) hT hM hlook h hp (fun e => hf (by simp only [makes, e])) (args_rel hρ args.toList) type cs
      have e1 : List.toArray ts.toList = ts := by simp
      have e2 : List.toArray (args.toList.map ev) = args.map ev := by apply Array.ext'; simp
      rw [e1, e2] at this
      simp only [execOp, resolve, Sem.run_bind, Sem.run_pure, Result.andThen_ok, invoke]
      exact this _
    · cases h
  all_goals (simp only [core] at h; cases h)
end
end Go.Sym
