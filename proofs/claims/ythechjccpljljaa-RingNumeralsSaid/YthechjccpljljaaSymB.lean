/- Code of the symbolic machine: what is to be shown for a body, as one proposition that a machine can compute. -/
import Derived.Test.YthechjccpljljaaSymA
namespace Go.Sym
open Go.RowKit

abbrev KT := Exit → St → Prop

def conj (p : Option Prop) (q : Prop) : Prop :=
  match p with
  | none => q
  | some p => p ∧ q
def bcase (b : Bool) (x y : Prop) : Prop :=
  match b with
  | true => x
  | false => y

def condTs : Operand → List Tmp
  | .tmp t => [t]
  | _ => []
def setC (T : List SV) (c : Operand) (b : Bool) : List SV :=
  match c with
  | .tmp t => T.set t (.bool b)
  | _ => T
def guardsOf (ops : Array Oper) : List Nat := ops.toList.filterMap fun o => o.guard.map (·.1)

/-- One after the other; where an operation tells whether others run, both ways. -/
def explore (tt : TT) (sp : Specs) (ops : Array Oper) (base : Nat) (J : List Nat) (D : Gam) (K : List Rec → St → Prop) : List Nat → List Rec → St → Prop
  | [], acc, st => K acc.reverse st
  | i :: l, acc, st => match ops[i]? with
    | none => False
    | some o => match stepI tt sp [] ops base i o st with
      | none => False
      | some (r, st') => conj r.pre (if J.contains i then
          match wants ops o (TR st.T (o.looksAt ops)) with
          | some true => match o.dst with
            | some d => match st'.T.getD d .any with
              | .bool b => bcase b (explore tt sp ops base J D K l ({ r with fx := some (b = true) } :: acc) ⟨st'.T.set d (.bool true), st'.M⟩) (explore tt sp ops base J D K l ({ r with fx := some (b = false) } :: acc) ⟨st'.T.set d (.bool false), st'.M⟩)
              | _ => False
            | none => False
          | _ => explore tt sp ops base J D K l (r :: acc) st'
        else match D.lookup i with
          | none => explore tt sp ops base J D K l (r :: acc) st'
          | some dv => match wants ops o (TR st.T (o.looksAt ops)) with
            | some true => match o.dst with
              | some d => match dv.fix (st'.T.getD d .any) with
                | some q => conj (some q.1) (explore tt sp ops base J D K l ({ r with fx := some q.1 } :: acc) ⟨st'.T.set d q.2, st'.M⟩)
                | none => False
              | none => False
            | _ => explore tt sp ops base J D K l (r :: acc) st')

def extend (ops : Array Oper) (M : List (Option Blk)) : List (Option Blk) := if (ops.toList.any fun o => makes o.op) then M ++ List.replicate ops.size none else M
/-- What is decided ahead of a region's tests. -/
abbrev Dec := List (Nat × Nat × DV)
def Dec.of : Dec → Nat → Gam
  | [], _ => []
  | d :: D, id => if d.1 = id then d.2 :: Dec.of D id else Dec.of D id
def regionVC (tt : TT) (sp : Specs) (D : Gam) (ops : Array Oper) (draw : Bool) (K : St → Prop) (st : St) : Prop :=
  explore tt sp ops st.M.length (guardsOf ops) D (fun rs stf => bcase (!draw || (edgesDown ops && pairs ops rs)) (K stf) False) (List.range ops.size) [] ⟨st.T, extend ops st.M⟩

def loopVC (body : St → KT → Prop) (K : KT) : Nat → St → Prop
  | 0, _ => False
  | n + 1, st => body st fun e st' => match e with
    | .normal => loopVC body K n st'
    | e => K e st'

def vc (tt : TT) (sp : Specs) (fuel : Nat) (D : Dec) : Code → St → KT → Prop
  | .skip, st, K => K .normal st
  | .region id ops draw, st, K => regionVC tt sp (D.of id) ops draw (K .normal) st
  | .seq a b, st, K => vc tt sp fuel D a st fun e st' => match e with
    | .normal => vc tt sp fuel D b st' K
    | e => K e st'
  | .cond c x y, st, K => match TR st.T (condTs c) c with
    | .bool b => bcase b (vc tt sp fuel D x ⟨setC st.T c true, st.M⟩ K) (vc tt sp fuel D y ⟨setC st.T c false, st.M⟩ K)
    | _ => False
  | .block id c, st, K => vc tt sp fuel D c st fun e st' => match e with
    | .exit id' => if id' = id then K .normal st' else K (.exit id') st'
    | e => K e st'
  | .loop c, st, K => loopVC (vc tt sp fuel D c) K fuel st
  | .exit id, st, K => K (.exit id) st
  | .label _, st, K => K .normal st
  | .ret, st, K => K .ret st
  | _, _, _ => False

/-! What it says of the model. -/
section
variable {P : Program} {tt : TT} {sp : Specs} {at0 : At} {w0 : World}

theorem bcase_ok {b : Bool} {x y : Prop} (h : bcase b x y) : (b = true → x) ∧ (b = false → y) := by
  cases b
  · exact ⟨fun e => (by cases e), fun _ => h⟩
  · exact ⟨fun _ => h, fun e => (by cases e)⟩
theorem conj_ok {p : Option Prop} {q : Prop} (h : conj p q) : Ok p ∧ q := by
  cases p with
  | none => exact ⟨trivial, h⟩
  | some p => exact h

theorem fixed_nil (i : Nat) (sv : SV) : fixed [] i sv = some (none, sv) := rfl

/-- A step under decisions, from the step without. -/
theorem stepI_gamma {γ : Gam} {ops : Array Oper} {base i : Nat} {o : Oper} {st st' : St} {r : Rec} (h : stepI tt sp [] ops base i o st = some (r, st')) :
    (γ.lookup i = none → stepI tt sp γ ops base i o st = some (r, st')) ∧
    (wants ops o (TR st.T (o.looksAt ops)) ≠ some true → stepI tt sp γ ops base i o st = some (r, st')) ∧
    (∀ d dv q, γ.lookup i = some dv → o.dst = some d → dv.fix (st'.T.getD d .any) = some q → stepI tt sp γ ops base i o st = some ({ r with fx := some q.1 }, ⟨st'.T.set d q.2, st'.M⟩) ∨ wants ops o (TR st.T (o.looksAt ops)) ≠ some true) := by
  have eqn : ∀ γ : Gam, stepI tt sp γ ops base i o st = match wants ops o (TR st.T (o.looksAt ops)) with
      | none => none
      | some false => some (⟨i, none, none, [], []⟩, ⟨putT st.T o.dst .undef, st.M⟩)
      | some true => match core tt sp (fun n => if (reads (TR st.T (o.looksAt ops)) o.op).contains n then st.M.getD n none else none) (base + i) (TR st.T (o.looksAt ops)) o.op with
        | none => none
        | some out => if okW out.ws (writes sp (TR st.T (o.looksAt ops)) (base + i) o.op) o.op st.M (base + i) = true then
            match fixed γ i out.sv with
            | none => none
            | some (p, sv) => some (⟨i, out.pre, p, reads (TR st.T (o.looksAt ops)) o.op, writes sp (TR st.T (o.looksAt ops)) (base + i) o.op⟩, ⟨putT st.T o.dst sv, applyWs st.M out.ws⟩)
          else none := fun _ => rfl
  rw [eqn] at h ⊢
  cases hw : wants ops o (TR st.T (o.looksAt ops)) with
  | none => rw [hw] at h; cases h
  | some b =>
    rw [hw] at h
    cases b with
    | false => exact ⟨fun _ => h, fun _ => h, fun _ _ _ _ _ _ => .inr (by simp)⟩
    | true =>
      simp only at h
      split at h
      · cases h
      · rename_i out hout
        split at h
        · rename_i hcond
          simp only [hcond, if_true]
          rw [fixed_nil] at h
          simp only [Option.some.injEq, Prod.mk.injEq] at h
          obtain ⟨rfl, rfl⟩ := h
          refine ⟨fun hg => by simp only [fixed, hg], fun hne => absurd rfl hne, fun d dv q hg hd hT => .inl ?_⟩
          by_cases hlt : d < st.T.length
          · simp only [putT, hd, List.getD_eq_getElem?_getD, List.getElem?_set_self hlt, Option.getD_some] at hT
            simp only [fixed, hg, hT, putT, hd, List.set_set]
          · exfalso
            have hle : (st.T.set d out.sv).length ≤ d := by rw [List.length_set]; exact Nat.le_of_not_lt hlt
            simp only [putT, hd, List.getD_eq_getElem?_getD, List.getElem?_eq_none hle, Option.getD_none] at hT
            cases dv <;> cases hT
        · cases h

theorem lookup_append_none {l m : Gam} {i : Nat} (h : ∀ p ∈ l, p.1 ≠ i) : (l ++ m).lookup i = m.lookup i := by
  induction l with
  | nil => rfl
  | cons p l ih =>
    rw [List.cons_append, List.lookup_cons]
    have : (i == p.1) = false := by simpa using fun e => h p (by simp) e.symm
    rw [this]
    exact ih (fun q hq => h q (by simp [hq]))

theorem explore_ok {ops : Array Oper} {base : Nat} {J : List Nat} {D : Gam} {K : List Rec → St → Prop} : ∀ (l : List Nat) (acc : List Rec) (st : St), l.Nodup → explore tt sp ops base J D K l acc st →
    ∃ (γ : Gam) (rs : List Rec) (stf : St), (∀ p ∈ γ, p.1 ∈ l) ∧ (∀ γ' : Gam, (∀ i ∈ l, γ'.lookup i = γ.lookup i) → lexrun tt sp γ' ops base l st = some (rs, stf)) ∧ (∀ r ∈ rs, r.ok) ∧ K (acc.reverse ++ rs) stf
  | [], acc, st, _, h => ⟨[], [], st, by simp, fun _ _ => rfl, by simp, by simpa [explore] using h⟩
  | i :: l, acc, st, hnd, h => by
    simp only [explore] at h
    split at h
    · exact h.elim
    · rename_i o ho
      split at h
      · exact h.elim
      · rename_i r st' hs
        rw [List.nodup_cons] at hnd
        obtain ⟨hpre, h⟩ := conj_ok h
        -- without a decision
        have plain : explore tt sp ops base J D K l (r :: acc) st' → Ok r.fx → (∀ γ : Gam, γ.lookup i = none → stepI tt sp γ ops base i o st = some (r, st')) ∨ (∀ γ : Gam, stepI tt sp γ ops base i o st = some (r, st')) →
            ∃ (γ : Gam) (rs : List Rec) (stf : St), (∀ p ∈ γ, p.1 ∈ i :: l) ∧ (∀ γ' : Gam, (∀ j ∈ i :: l, γ'.lookup j = γ.lookup j) → lexrun tt sp γ' ops base (i :: l) st = some (rs, stf)) ∧ (∀ r ∈ rs, r.ok) ∧ K (acc.reverse ++ rs) stf := by
          intro h hfx hstep
          obtain ⟨γ, rs, stf, h1, h2, h3, h4⟩ := explore_ok l (r :: acc) st' hnd.2 h
          refine ⟨γ, r :: rs, stf, fun p hp => List.mem_cons_of_mem _ (h1 p hp), fun γ' hγ => ?_, fun x hx => ?_, by simpa using h4⟩
          · have hnone : γ'.lookup i = none := by
              rw [hγ i (by simp)]
              have := lookup_append_none (l := γ) (m := []) (i := i) (fun p hp e => hnd.1 (e ▸ h1 p hp))
              simpa using this
            have hs' : stepI tt sp γ' ops base i o st = some (r, st') := by
              rcases hstep with hstep | hstep
              · exact hstep _ hnone
              · exact hstep _
            simp only [lexrun, ho, hs', h2 γ' (fun j hj => hγ j (List.mem_cons_of_mem _ hj))]
          · rcases List.mem_cons.1 hx with rfl | hx
            · exact ⟨hpre, hfx⟩
            · exact h3 x hx
        have hfx0 : Ok r.fx := by
          unfold stepI at hs
          simp only at hs
          split at hs
          · cases hs
          · simp only [Option.some.injEq, Prod.mk.injEq] at hs; rw [← hs.1]; trivial
          · split at hs
            · cases hs
            · split at hs
              · rw [fixed_nil] at hs; simp only [Option.some.injEq, Prod.mk.injEq] at hs; rw [← hs.1]; trivial
              · cases hs
        have dec : ∀ (d : Tmp) (dv : DV) (q : Prop × SV), o.dst = some d → dv.fix (st'.T.getD d .any) = some q → wants ops o (TR st.T (o.looksAt ops)) = some true → q.1 → explore tt sp ops base J D K l ({ r with fx := some q.1 } :: acc) ⟨st'.T.set d q.2, st'.M⟩ →
            ∃ (γ : Gam) (rs : List Rec) (stf : St), (∀ p ∈ γ, p.1 ∈ i :: l) ∧ (∀ γ' : Gam, (∀ j ∈ i :: l, γ'.lookup j = γ.lookup j) → lexrun tt sp γ' ops base (i :: l) st = some (rs, stf)) ∧ (∀ r ∈ rs, r.ok) ∧ K (acc.reverse ++ rs) stf := by
          intro d dv q hd hb hw hc h
          obtain ⟨γ, rs, stf, h1, h2, h3, h4⟩ := explore_ok l _ _ hnd.2 h
          refine ⟨(i, dv) :: γ, { r with fx := some q.1 } :: rs, stf, fun p hp => ?_, fun γ' hγ => ?_, fun x hx => ?_, by simpa using h4⟩
          · rcases List.mem_cons.1 hp with rfl | hp
            · simp
            · exact List.mem_cons_of_mem _ (h1 p hp)
          · have hi : γ'.lookup i = some dv := by rw [hγ i (by simp)]; simp
            have hs' : stepI tt sp γ' ops base i o st = some ({ r with fx := some q.1 }, ⟨st'.T.set d q.2, st'.M⟩) := by
              rcases (stepI_gamma (γ := γ') hs).2.2 d dv q hi hd hb with h | h
              · exact h
              · exact absurd hw h
            have hl : lexrun tt sp γ' ops base l ⟨st'.T.set d q.2, st'.M⟩ = some (rs, stf) := h2 γ' (fun j hj => by
              rw [hγ j (List.mem_cons_of_mem _ hj), List.lookup_cons]
              have : (j == i) = false := by
                simp only [beq_eq_false_iff_ne, ne_eq]
                intro e; subst e; exact hnd.1 hj
              rw [this])
            simp only [lexrun, ho, hs', hl]
          · rcases List.mem_cons.1 hx with rfl | hx
            · exact ⟨hpre, hc⟩
            · exact h3 x hx
        split at h
        · split at h
          · rename_i hw
            split at h
            · rename_i d hd
              split at h
              · rename_i b hb
                obtain ⟨ht, hf⟩ := bcase_ok h
                cases hbv : b with
                | true => exact dec d (.b true) (b = true, .bool true) hd (by rw [hb]; rfl) hw hbv (ht hbv)
                | false => exact dec d (.b false) (b = false, .bool false) hd (by rw [hb]; rfl) hw hbv (hf hbv)
              · exact h.elim
            · exact h.elim
          · rename_i hw
            exact plain h hfx0 (.inr fun γ => (stepI_gamma (γ := γ) hs).2.1 (fun e => hw e))
        · split at h
          · exact plain h hfx0 (.inl fun γ hγ => (stepI_gamma (γ := γ) hs).1 hγ)
          · rename_i b _
            split at h
            · rename_i hw
              split at h
              · rename_i d hd
                split at h
                · rename_i q hb'
                  obtain ⟨h1, h2⟩ := conj_ok h
                  exact dec d b q hd hb' hw h1 h2
                · exact h.elim
              · exact h.elim
            · rename_i hw
              exact plain h hfx0 (.inr fun γ => (stepI_gamma (γ := γ) hs).2.1 (fun e => hw e))

theorem Reps.extend {ops : Array Oper} {st : St} {a : Act} {w : World} (h : Reps at0 w0 st a w) : Reps at0 w0 ⟨st.T, extend ops st.M⟩ a w := by
  obtain ⟨at_, h⟩ := h
  refine ⟨at_, h.later, ?_, h.tmp, h.defers⟩
  unfold Sym.extend
  split
  · have back : ∀ (n : Nat) (cs : Blk), (st.M ++ List.replicate ops.size none)[n]? = some (some cs) → st.M[n]? = some (some cs) := fun n cs e => by
      by_cases hn : n < st.M.length
      · rw [List.getElem?_append_left hn] at e; exact e
      · rw [List.getElem?_append_right (by omega), List.getElem?_replicate] at e
        split at e <;> cases e
    have forth : ∀ (n : Nat) (cs : Blk), st.M[n]? = some (some cs) → (st.M ++ List.replicate ops.size none)[n]? = some (some cs) := fun n cs e => by
      have hn : n < st.M.length := (List.getElem?_eq_some_iff.1 e).1
      rw [List.getElem?_append_left hn]; exact e
    refine ⟨fun n g cs e1 e => h.mem.blk n g cs e1 (back n cs e), h.mem.inj, fun n g e => ?_, h.mem.outlt, fun n l e => h.mem.glk n l (back n _ e), h.mem.ginj, h.mem.gap, fun n e => ?_, h.mem.gsz, h.mem.gout⟩
    · obtain ⟨h1, cs, h2⟩ := h.mem.dom n g e
      exact ⟨h1, cs, forth n cs h2⟩
    · obtain ⟨cs, h2⟩ := h.mem.gdom n e
      exact ⟨cs, forth n cs h2⟩
  · exact h.mem

theorem region_ok (hm : P.follows .mixedOrders = true) (hT : TTOK P tt) (hS : SpecsOK P sp) {id : Nat} {D : Gam} {ops : Array Oper} {draw : Bool} {K : St → Prop} {st : St} (h : regionVC tt sp D ops draw K st) {a : Act} {w : World} (hr : Reps at0 w0 st a w)
    {Q : Exit → Act → World → Prop} (hQ : ∀ st' a' w', K st' → Reps at0 w0 st' a' w' → Q .normal a' w') : (Code.region id ops draw).wp P Q a w := by
  obtain ⟨γ, rs, stf, _, h2, h3, h4⟩ := explore_ok _ _ _ List.nodup_range h
  have hrun := h2 γ (fun _ _ => rfl)
  simp only [List.reverse_nil, List.nil_append] at h4
  obtain ⟨h5, h6⟩ := bcase_ok h4
  cases hb : (!draw || (edgesDown ops && pairs ops rs)) with
  | false => exact (h6 hb).elim
  | true =>
    have hK := h5 hb
    cases draw with
    | false => exact plain_ok hT hS hrun h3 hr.extend (fun a' w' hr' => hQ stf a' w' hK hr')
    | true =>
      simp only [Bool.not_true, Bool.false_or, Bool.and_eq_true] at hb
      exact draw_ok hm hT hS hb.1 hrun hb.2 h3 hr.extend (fun a' w' hr' => hQ stf a' w' hK hr')

/-- No name from k on. -/
def Clean (k : Nat) (at_ : At) : Prop := ∀ n, k ≤ n → at_ n = none ∧ at_.gn n = .unborn
/-- The body, from any state that fits. -/
def AWp (P : Program) (at0 : At) (w0 : World) (c : Code) (st : St) (K : KT) : Prop := ∀ a w, Reps at0 w0 st a w → c.wp P (fun e a' w' => ∃ st', Reps at0 w0 st' a' w' ∧ K e st') a w

theorem AWp.mono {c : Code} {st : St} {K K' : KT} (h : AWp P at0 w0 c st K) (hk : ∀ e st, K e st → K' e st) : AWp P at0 w0 c st K' :=
  fun a w hr => Code.wp_mono (fun _ _ _ ⟨st', h1, h2⟩ => ⟨st', h1, hk _ _ h2⟩) (h a w hr)
theorem AWp.seq {x y : Code} {st : St} {K : KT} (h : AWp P at0 w0 x st fun e st' => match e with | .normal => AWp P at0 w0 y st' K | e => K e st') : AWp P at0 w0 (.seq x y) st K := by
  intro a w hr
  refine wp_seq (Code.wp_mono ?_ (h a w hr))
  rintro e a' w' ⟨st', h1, h2⟩
  cases e with
  | normal => exact h2 a' w' h1
  | _ => exact ⟨st', h1, h2⟩
theorem AWp.block {id : Nat} {c : Code} {st : St} {K : KT} (h : AWp P at0 w0 c st fun e st' => match e with | .exit id' => if id' = id then K .normal st' else K (.exit id') st' | e => K e st') : AWp P at0 w0 (.block id c) st K := by
  intro a w hr
  refine wp_block (Code.wp_mono ?_ (h a w hr))
  rintro e a' w' ⟨st', h1, h2⟩
  cases e with
  | exit id' =>
    simp only [Exit.inBlock]
    split
    · rename_i he; simp only [he, if_true] at h2; exact ⟨st', h1, h2⟩
    · rename_i he; simp only [he, if_false] at h2; exact ⟨st', h1, h2⟩
  | _ => exact ⟨st', h1, h2⟩
/-- A loop: what holds at each round's head, and a measure. -/
theorem AWp.loop {c : Code} {st : St} {K : KT} (I : Nat → St → Prop) (n : Nat) (h0 : I n st) (round : ∀ n st, I n st → AWp P at0 w0 c st fun e st' => match e with | .normal => ∃ m, m < n ∧ I m st' | e => K e st') : AWp P at0 w0 (.loop c) st K := by
  intro a w hr b k cs
  have key : ∀ n st a w, I n st → Reps at0 w0 st a w →
      ∃ e a' w', (∃ st', Reps at0 w0 st' a' w' ∧ K e st') ∧ Arrives P (lone (b.at a (.code c :: .inLoop c :: k)) cs w) b k cs e a' w' := by
    intro n
    induction n using Nat.strongRecOn with
    | _ n ih =>
      intro st a w hI hr
      obtain ⟨e, a1, w1, ⟨st1, hr1, hq⟩, harr⟩ := round n st hI a w hr b (.inLoop c :: k) cs
      cases e with
      | normal =>
        obtain ⟨m, hlt, hI1⟩ := hq
        obtain ⟨e2, a2, w2, hq2, harr2⟩ := ih m hlt st1 a1 w1 hI1 hr1
        exact ⟨e2, a2, w2, hq2, .of_steps (Steps.trans harr (.one step_inLoop)) harr2⟩
      | exit id => exact ⟨_, a1, w1, ⟨st1, hr1, hq⟩, .pass (x := .inLoop c) rfl (fun _ _ => .inl (by simp)) harr⟩
      | goto l => exact ⟨_, a1, w1, ⟨st1, hr1, hq⟩, .pass (x := .inLoop c) rfl (fun _ _ => .inl (by simp)) harr⟩
      | ret => exact ⟨_, a1, w1, ⟨st1, hr1, hq⟩, .pass (x := .inLoop c) rfl (fun _ _ => .inl (by simp)) harr⟩
      | panic ch => exact ⟨_, a1, w1, ⟨st1, hr1, hq⟩, .pass (x := .inLoop c) rfl (fun _ _ => .inl (by simp)) harr⟩
      | outgrown => exact ⟨_, a1, w1, ⟨st1, hr1, hq⟩, .pass (x := .inLoop c) rfl (fun _ _ => .inl (by simp)) harr⟩
  obtain ⟨e, a', w', hq, harr⟩ := key n st a w h0 hr
  exact ⟨e, a', w', hq, .of_steps (.one step_loop) harr⟩

theorem AWp.cond {c : Operand} {x y : Code} {st : St} {K : KT} {b : Bool} (hc : TR st.T (condTs c) c = .bool b)
    (ht : b = true → AWp P at0 w0 x ⟨setC st.T c true, st.M⟩ K) (hf : b = false → AWp P at0 w0 y ⟨setC st.T c false, st.M⟩ K) : AWp P at0 w0 (.cond c x y) st K := by
  intro a w hr
  obtain ⟨at_, h⟩ := hr
  have hrel := TR_ok (ts := condTs c) h.tmp c
  rw [hc] at hrel
  simp only [Rel] at hrel
  have hset : ∀ b', b = b' → RelL at_ w (setC st.T c b') a.tmps.toList := by
    intro b' hb
    subst hb
    cases c with
    | tmp t =>
      simp only [setC]
      have hev : a.eval (.tmp t) = a.tmps.getD t Go.undef := rfl
      rw [hev] at hrel
      have hs := h.tmp.set t (.bool b) (.bool b) (by simp only [Rel])
      have : a.tmps.toList.set t (.bool b) = a.tmps.toList := by
        apply List.ext_getElem?
        intro i
        by_cases hi : t = i
        · subst hi
          by_cases hlt : t < a.tmps.toList.length
          · rw [List.getElem?_set_self hlt, List.getElem?_eq_getElem hlt]
            have hlt' : t < a.tmps.size := by simpa using hlt
            rw [Array.getD_eq_getD_getElem?, Array.getElem?_eq_getElem hlt'] at hrel
            simp only [Option.getD_some] at hrel
            rw [← hrel]; simp
          · rw [List.getElem?_eq_none (by simpa using hlt), List.getElem?_eq_none (by simpa using hlt)]
        · rw [List.getElem?_set_ne hi]
      rw [this] at hs; exact hs
    | _ => exact h.tmp
  refine wp_cond hrel ?_
  cases b with
  | true => exact ht rfl a w ⟨at_, h.later, h.mem, hset true rfl, h.defers⟩
  | false => exact hf rfl a w ⟨at_, h.later, h.mem, hset false rfl, h.defers⟩

theorem vc_ok (hm : P.follows .mixedOrders = true) (hT : TTOK P tt) (hS : SpecsOK P sp) {fuel : Nat} {D : Dec} : ∀ (c : Code) (st : St) (K : KT), vc tt sp fuel D c st K → AWp P at0 w0 c st K
  | .skip, st, K, h => fun a w hr => wp_skip ⟨st, hr, h⟩
  | .label _, st, K, h => fun a w hr => wp_label ⟨st, hr, h⟩
  | .exit id, st, K, h => fun a w hr => wp_exit ⟨st, hr, h⟩
  | .ret, st, K, h => fun a w hr => wp_ret ⟨st, hr, h⟩
  | .region _ _ _, st, K, h => fun a w hr => region_ok hm hT hS h hr (fun st' a' w' hK hr' => ⟨st', hr', hK⟩)
  | .seq x y, st, K, h => by
    refine AWp.seq (AWp.mono (vc_ok hm hT hS x st _ h) ?_)
    intro e st' hk
    cases e with
    | normal => exact vc_ok hm hT hS y st' K hk
    | _ => exact hk
  | .cond c x y, st, K, h => by
    simp only [vc] at h
    split at h
    · rename_i b hb
      obtain ⟨h1, h2⟩ := bcase_ok h
      exact AWp.cond hb (fun e => vc_ok hm hT hS x _ K (h1 e)) (fun e => vc_ok hm hT hS y _ K (h2 e))
    · exact h.elim
  | .block id c, st, K, h => AWp.block (vc_ok hm hT hS c st _ h)
  | .loop c, st, K, h => by
    refine AWp.loop (fun n st => loopVC (vc tt sp fuel D c) K n st) fuel h (fun n st hI => ?_)
    cases n with
    | zero => exact hI.elim
    | succ n =>
      refine AWp.mono (vc_ok hm hT hS c st _ hI) ?_
      intro e st' hk
      cases e with
      | normal => exact ⟨n, Nat.lt_succ_self n, hk⟩
      | _ => exact hk
  | .rangeFunc _ _ _ _, _, _, h => h.elim
  | .scope _, _, _, h => h.elim
  | .goto _, _, _, h => h.elim
  | .refuse _, _, _, h => h.elim

end

/-! Functions. -/
def resOne (tt : TT) (st : St) : ResultVar → Option SV
  | .tmp t => st.T[t]?
  | .cell t ty => match st.T[t]?, tt.lookup ty with
    | some (.ptr b 0), some i => match st.M[b]? with
      | some (some cs) => if i.d.agg = true ∧ cs.length = i.size then some (.agg cs) else none
      | _ => none
    | _, _ => none
def resAll (tt : TT) (st : St) : List ResultVar → Option (List SV)
  | [] => some []
  | r :: rs => match resOne tt st r, resAll tt st rs with
    | some v, some vs => some (v :: vs)
    | _, _ => none
def retSV : List SV → SV
  | [v] => v
  | vs => .tup vs
mutual
/-- A result, as the caller sees it. -/
def freeze (M : List (Option Blk)) : SV → Option SV
  | .ptr b off => match M[b]? with
    | some (some cs) => if noNameL cs = true then some (.ro cs off) else none
    | _ => none
  | .slc b off len cap => match M[b]? with
    | some (some cs) => if off + len ≤ cs.length ∧ 0 < len ∧ len ≤ cap then (asLV ((cs.drop off).take len)).map .lst else none
    | _ => none
  | .sl b lo len => match M[b]? with
    | some (some [.own l]) => some (.lst (l.cut lo (lo + len)))
    | _ => none
  | .lp _ _ | .own _ => none
  | .agg cs => match freezeL M cs with
    | some ds => some (.agg ds)
    | none => none
  | .tup cs => match freezeL M cs with
    | some ds => some (.tup ds)
    | none => none
  | .lel x => if x.noName = true then some (.lel x) else none
  | .ro cs off => if noNameL cs = true then some (.ro cs off) else none
  | .fn f cs => if noNameL cs = true then some (.fn f cs) else none
  | v => some v
def freezeL (M : List (Option Blk)) : List SV → Option (List SV)
  | [] => some []
  | c :: cs => match freeze M c, freezeL M cs with
    | some d, some ds => some (d :: ds)
    | _, _ => none
end
def finK (tt : TT) (fr : List ResultVar) (Q : SV → Prop) : KT := fun e st =>
  match e with
  | .normal | .ret => match resAll tt st fr with
    | some vs => match freeze st.M (retSV vs) with
      | some r => Q r
      | none => False
    | none => False
  | _ => False
def init (args : List SV) (n : Nat) : St := ⟨args ++ List.replicate (n - args.length) .any, []⟩

section
variable {at_ at' : At} {w : World} {M : List (Option Blk)}
/-- What was the machine's own is nobody's to write behind the return. -/
theorem freeze_own (hM : MemOK at_ M w) (hfix : ∀ g, Fix at_ g → Fix at' g) (hown : ∀ n g, at_ n = some g → Fix at' g) {s r : SV} {v : Value} (hs : (∃ b off, s = .ptr b off) ∨ (∃ b off len cap, s = .slc b off len cap)) (h : freeze M s = some r)
    (hr : Rel at_ w s v) : Rel at' w r v := by
  rcases hs with ⟨b, off, rfl⟩ | ⟨b, off, len, cap, rfl⟩
  · simp only [freeze] at h
    split at h
    · rename_i cs hc
      split at h
      · rename_i hn
        simp only [Option.some.injEq] at h; subst h
        simp only [Rel] at hr ⊢
        obtain ⟨g, h1, h2⟩ := hr
        obtain ⟨ty, vs, h4, h5⟩ := hM.blk _ _ _ h1 hc
        exact ⟨g, ty, (0, 0), vs, h2, hown _ _ h1, h4, RelL.noName hfix _ _ hn h5⟩
      · cases h
    · cases h
  · simp only [freeze] at h
    split at h
    · rename_i cs hc
      split at h
      · rename_i hcond
        obtain ⟨c1, c2, c3⟩ := hcond
        obtain ⟨l, hl, e⟩ := Option.map_eq_some_iff.1 h
        subst e
        simp only [Rel] at hr ⊢
        obtain ⟨g, h1, h2⟩ := hr
        obtain ⟨ty, vs, h4, h5⟩ := hM.blk _ _ _ h1 hc
        have h6 := asLV_ok hl ((h5.drop off).take len)
        have hlen := h5.length
        have hll : l.len = len := by rw [← LV.len_vals, ← h6]; simp; omega
        refine ⟨_, _, by rw [hll]; exact h2, by omega, fun j u hj => ⟨_, rfl, hown _ _ h1, ?_⟩⟩
        rw [addr_add, cell_of_row w g _ _ ty (0, 0) h4]
        rw [← h6, List.getElem?_take] at hj
        split at hj
        · simpa using hj
        · cases hj
      · cases h
    · cases h
mutual
theorem freeze_ok (hM : MemOK at_ M w) (hfix : ∀ g, Fix at_ g → Fix at' g) (hown : ∀ n g, at_ n = some g → Fix at' g) (hgown : ∀ n g b c k, at_.gn n = .live g b c k → Fix at' g) : ∀ (s r : SV) (v : Value), freeze M s = some r → Rel at_ w s v → Rel at' w r v
  | .i64 _, _, _, h, r => by simp only [freeze, Option.some.injEq] at h; subst h; simpa only [Rel] using r
  | .u64 _, _, _, h, r => by simp only [freeze, Option.some.injEq] at h; subst h; simpa only [Rel] using r
  | .u32 _, _, _, h, r => by simp only [freeze, Option.some.injEq] at h; subst h; simpa only [Rel] using r
  | .u8 _, _, _, h, r => by simp only [freeze, Option.some.injEq] at h; subst h; simpa only [Rel] using r
  | .bool _, _, _, h, r => by simp only [freeze, Option.some.injEq] at h; subst h; simpa only [Rel] using r
  | .val _, _, _, h, r => by simp only [freeze, Option.some.injEq] at h; subst h; simpa only [Rel] using r
  | .undef, _, _, h, r => by simp only [freeze, Option.some.injEq] at h; subst h; simpa only [Rel] using r
  | .any, _, _, h, _ => by simp only [freeze, Option.some.injEq] at h; subst h; simp only [Rel]
  | .lst l, _, _, h, r => by
    simp only [freeze, Option.some.injEq] at h; subst h
    exact Rel.noName hfix (.lst l) _ rfl r
  | .ptr b off, _, _, h, r => freeze_own hM hfix hown (.inl ⟨b, off, rfl⟩) h r
  | .slc b off len cap, _, _, h, r => freeze_own hM hfix hown (.inr ⟨b, off, len, cap, rfl⟩) h r
  | .sl b lo len, _, _, h, r => by
    simp only [freeze] at h
    split at h
    · rename_i l hl
      simp only [Option.some.injEq] at h; subst h
      exact (sl_lst hM hl r (fun g b' c k e => hgown b g b' c k e)).1
    · cases h
  | .lp _ _, _, _, h, _ => by simp [freeze] at h
  | .own _, _, _, h, _ => by simp [freeze] at h
  | .lel x, _, _, h, r => by
    simp only [freeze] at h
    split at h
    · rename_i hn; simp only [Option.some.injEq] at h; subst h; exact Rel.noName hfix (.lel x) _ (by simpa only [SV.noName] using hn) r
    · cases h
  | .ro cs off, _, _, h, r => by
    simp only [freeze] at h
    split at h
    · rename_i hn; simp only [Option.some.injEq] at h; subst h; exact Rel.noName hfix (.ro cs off) _ (by simpa only [SV.noName] using hn) r
    · cases h
  | .fn f cs, _, _, h, r => by
    simp only [freeze] at h
    split at h
    · rename_i hn; simp only [Option.some.injEq] at h; subst h; exact Rel.noName hfix (.fn f cs) _ (by simpa only [SV.noName] using hn) r
    · cases h
  | .agg cs, _, _, h, r => by
    simp only [freeze] at h
    split at h
    · rename_i ds hd
      simp only [Option.some.injEq] at h; subst h
      simp only [Rel] at r ⊢
      obtain ⟨vs, h1, h2⟩ := r
      exact ⟨vs, h1, freezeL_ok hM hfix hown hgown cs ds vs hd h2⟩
    · cases h
  | .tup cs, _, _, h, r => by
    simp only [freeze] at h
    split at h
    · rename_i ds hd
      simp only [Option.some.injEq] at h; subst h
      simp only [Rel] at r ⊢
      obtain ⟨vs, h1, h2⟩ := r
      exact ⟨vs, h1, freezeL_ok hM hfix hown hgown cs ds vs hd h2⟩
    · cases h
theorem freezeL_ok (hM : MemOK at_ M w) (hfix : ∀ g, Fix at_ g → Fix at' g) (hown : ∀ n g, at_ n = some g → Fix at' g) (hgown : ∀ n g b c k, at_.gn n = .live g b c k → Fix at' g) : ∀ (s r : List SV) (v : List Value), freezeL M s = some r → RelL at_ w s v → RelL at' w r v
  | [], _, _, h, r => by simp only [freezeL, Option.some.injEq] at h; subst h; simpa only [RelL] using r
  | c :: cs, _, _, h, r => by
    simp only [freezeL] at h
    simp only [RelL] at r
    obtain ⟨u, us, rfl, h2, h3⟩ := r
    split at h
    · rename_i d ds hd hds
      simp only [Option.some.injEq] at h; subst h
      exact RelL.cons (freeze_ok hM hfix hown hgown c d u hd h2) (freezeL_ok hM hfix hown hgown cs ds us hds h3)
    · cases h
end

variable {P : Program}
def resSem (a : Act) : ResultVar → Sem Value
  | .tmp t => pure (a.tmps.getD t Go.undef)
  | .cell b t => do loadVar t (← asAddr (a.tmps.getD b Go.undef))
theorem resAll_ok {tt : TT} (hT : TTOK P tt) {st : St} {a : Act} (hM : MemOK at_ st.M w) (hr : RelL at_ w st.T a.tmps.toList) :
    ∀ (l : List ResultVar) (vs : List SV), resAll tt st l = some vs → ∃ us, (l.mapM (resSem a)).run P w = .ok us w ∧ RelL at_ w vs us
  | [], vs, h => by simp only [resAll, Option.some.injEq] at h; subst h; exact ⟨[], by simp, RelL.nil⟩
  | r :: l, vs, h => by
    simp only [resAll] at h
    split at h
    · rename_i v vs' hv hvs
      simp only [Option.some.injEq] at h; subst h
      obtain ⟨us, h1, h2⟩ := resAll_ok hT hM hr l vs' hvs
      have get : ∀ t s, st.T[t]? = some s → Rel at_ w s (a.tmps.getD t Go.undef) := by
        intro t s e
        obtain ⟨u, e1, e2⟩ := hr.get t s e
        rw [Array.getElem?_toList] at e1
        rw [Array.getD_eq_getD_getElem?, e1]; exact e2
      have fin : ∀ u, (resSem a r).run P w = .ok u w → Rel at_ w v u → ∃ us, ((r :: l).mapM (resSem a)).run P w = .ok us w ∧ RelL at_ w (v :: vs') us := by
        intro u e1 e2
        exact ⟨u :: us, by simp only [List.mapM_cons, Sem.run_bind, e1, Sem.run_pure, Result.andThen_ok, h1], RelL.cons e2 h2⟩
      cases r with
      | tmp t =>
        simp only [resOne] at hv
        exact fin _ rfl (get t v hv)
      | cell t ty =>
        simp only [resOne] at hv
        split at hv
        · rename_i b i hb hi
          split at hv
          · rename_i cs hcs
            split at hv
            · rename_i hcond
              simp only [Option.some.injEq] at hv; subst hv
              have hg := get t _ hb
              simp only [Rel] at hg
              obtain ⟨g, g1, g2⟩ := hg
              obtain ⟨ty', us', g4, g5⟩ := hM.blk _ _ _ g1 hcs
              have hll := g5.length
              have hrun := run_loadVar_cells (P := P) (hT _ _ hi) (off := 0) g4 hcond.1 (by omega)
              have : (us'.drop 0).take i.size = us' := by rw [List.drop_zero, List.take_of_length_le (by omega)]
              rw [this] at hrun
              refine fin (.agg (List.toArray us')) ?_ (by simp only [Rel]; exact ⟨us', rfl, g5⟩)
              simp only [resSem, Sem.run_bind, g2, asAddr, Sem.run_pure, Result.andThen_ok, hrun]
            · cases hv
          · cases hv
        · cases hv
    · cases h
def retV : List Value → Value
  | [v] => v
  | us => .tuple (List.toArray us)
theorem results_run {fn : Func} {a : Act} {us : List Value} (h : (fn.results.toList.mapM (resSem a)).run P w = .ok us w) :
    (results fn a.tmps).run P w = .ok (retV us) w := by
  have e : results fn a.tmps = (do let vs ← fn.results.mapM (resSem a); pure (if h : vs.size = 1 then vs[0] else .tuple vs)) := rfl
  rw [e, Array.mapM_eq_mapM_toList]
  simp only [Sem.run_bind, Sem.run_map, h, Result.andThen_ok, Sem.run_pure]
  rcases us with _ | ⟨u, _ | ⟨u', us⟩⟩ <;> simp [retV]

/-- **A function, from what its body's proposition says.** -/
theorem calls_of_awp (_hm : P.follows .mixedOrders = true) {tt : TT} {sp : Specs} (hT : TTOK P tt) (_hS : SpecsOK P sp) {f : FuncId} {fn : Func} {c : Code} (hf : P.funcs[f]? = some fn) (hb : fn.body = some c) {svs : List SV} {Q : SV → Prop}
    (hvc : ∀ at0 w0, Clean 0 at0 → AWp P at0 w0 c (init svs fn.ntmps) (finK tt fn.results.toList Q)) (hn : noNameL svs = true) {vs : List Value} {w : World} (hat : ∀ n g, at_ n = some g → g < w.heap.size) (hout : ∀ g, (at_.out g ∨ ∃ n b c k, at_.gn n = .live g b c k) → g < w.heap.size) (hr : RelL at_ w svs vs) :
    Calls P f (List.toArray vs) w fun e w' => ∃ v, e = .returned v ∧ ∃ r, Q r ∧ Rel at_ w' r v ∧ Below w.heap.size w w' := by
  refine calls_of_wp hf hb ?_
  let at0 : At := ⟨fun _ => none, fun g => (∃ n, at_ n = some g) ∨ at_.out g ∨ ∃ n b c k, at_.gn n = .live g b c k, fun _ => .unborn⟩
  have fixA : ∀ g, Fix at_ g → Fix at0 g := fun g h => ⟨fun n e => by simp [at0] at e, fun e => by
    rcases e with ⟨n, e⟩ | e | ⟨n, b, c, k, e⟩
    · exact h.1 n e
    · exact h.2.1 e
    · exact h.2.2 n b c k e, fun _ _ _ _ e => by simp [at0] at e⟩
  have fixB : ∀ g, ¬ at0.out g → Fix at_ g := fun g h => ⟨fun n e => h (.inl ⟨n, e⟩), fun e => h (.inr (.inl e)), fun n b c k e => h (.inr (.inr ⟨n, b, c, k, e⟩))⟩
  have hlen := hr.length
  have hstart : Reps at0 w (init svs fn.ntmps) { tmps := List.toArray vs ++ Array.replicate (fn.ntmps - (List.toArray vs).size) Go.undef, defers := [] } w := by
    refine ⟨at0, Later.refl _ _, ⟨fun n g cs e1 e => by simp [init] at e, fun n m g e => by simp [at0] at e, fun n g e => by simp [at0] at e, fun g h => ?_, fun n l e => by simp [init] at e, fun n m g b c k b' c' k' e => by simp [at0] at e, fun n m g b c k e => by simp [at0] at e, fun n e => by simp [at0] at e, fun n g b c k e => by simp [at0] at e, fun n g b c k e => by simp [at0] at e⟩, ?_, rfl⟩
    · rcases h with ⟨n, h⟩ | h
      · exact hat n g h
      · exact hout g h
    · simp only [init, Array.toList_append, Array.toList_replicate, List.size_toArray, hlen]
      exact RelL.append (RelL.noName fixA _ _ hn hr) (RelL.replicate _ (by simp only [Rel]))
  refine Code.wp_mono ?_ (hvc _ _ (fun _ _ => ⟨rfl, rfl⟩) _ _ hstart)
  rintro e a' w' ⟨st', ⟨at', hl, hM, hT', hd⟩, hk⟩
  have fin : finK tt fn.results.toList Q .ret st' →
      a'.defers = [] ∧ ∃ v, (results fn a'.tmps).run P w' = .ok v w' ∧ ∃ u, Ending.returned v = .returned u ∧ ∃ r, Q r ∧ Rel at_ w' r u ∧ Below w.heap.size w w' := by
    intro hk
    refine ⟨hd, ?_⟩
    simp only [finK] at hk
    split at hk
    · rename_i svs' hres
      split at hk
      · rename_i r hfr
        obtain ⟨us, h1, h2⟩ := resAll_ok hT hM hT' _ _ hres
        have hrun := results_run h1
        refine ⟨_, hrun, _, rfl, r, hk, ?_, ?_⟩
        · have hrel : Rel at' w' (retSV svs') (retV us) := by
            rcases svs' with _ | ⟨s, _ | ⟨s', ss⟩⟩
            · simp only [RelL] at h2; subst h2; simp only [retSV, Rel]; exact ⟨[], rfl, RelL.nil⟩
            · simp only [RelL] at h2
              obtain ⟨v, vs', rfl, h3, rfl⟩ := h2
              exact h3
            · have h2' := h2
              simp only [RelL] at h2
              obtain ⟨v, vs', rfl, h3, v', vs'', rfl, h4, h5⟩ := h2
              simp only [retSV, Rel]
              exact ⟨_, rfl, h2'⟩
          refine freeze_ok hM (fun g hg => fixB g (fun ho => hg.2.1 (by rw [hl.out]; exact ho))) (fun n g e => ?_) (fun n g b c k e => ?_) _ _ _ hfr hrel
          · rcases hl.new n g e with e' | e'
            · simp [at0] at e'
            · exact ⟨fun m h => by have := hat m g h; omega, fun h => by have := hout g (.inl h); omega, fun n b c k h => by have := hout g (.inr ⟨n, b, c, k, h⟩); omega⟩
          · rcases hl.gnew n g b c k e with ⟨m, b', c', k', e'⟩ | e'
            · simp [at0] at e'
            · exact ⟨fun m h => by have := hat m g h; omega, fun h => by have := hout g (.inl h); omega, fun n b c k h => by have := hout g (.inr ⟨n, b, c, k, h⟩); omega⟩
        · refine ⟨hl.os, hl.tape, hl.output, hl.size, fun k hk' => ?_⟩
          exact (hl.keep k (fun n e => by simp [at0] at e) (fun n b c k e => by simp [at0] at e) hk').2.2
      · exact hk.elim
    · exact hk.elim
  cases e with
  | normal => exact fin hk
  | ret => exact fin hk
  | exit id => exact hk.elim
  | goto l => exact hk.elim
  | panic ch => exact hk.elim
  | outgrown => exact hk.elim
theorem calls_of_vc (hm : P.follows .mixedOrders = true) {tt : TT} {sp : Specs} (hT : TTOK P tt) (hS : SpecsOK P sp) {fuel : Nat} {D : Dec} {f : FuncId} {fn : Func} {c : Code} (hf : P.funcs[f]? = some fn) (hb : fn.body = some c) {svs : List SV} {Q : SV → Prop}
    (hvc : vc tt sp fuel D c (init svs fn.ntmps) (finK tt fn.results.toList Q)) (hn : noNameL svs = true) {vs : List Value} {w : World} (hat : ∀ n g, at_ n = some g → g < w.heap.size) (hout : ∀ g, (at_.out g ∨ ∃ n b c k, at_.gn n = .live g b c k) → g < w.heap.size) (hr : RelL at_ w svs vs) :
    Calls P f (List.toArray vs) w fun e w' => ∃ v, e = .returned v ∧ ∃ r, Q r ∧ Rel at_ w' r v ∧ Below w.heap.size w w' :=
  calls_of_awp hm hT hS hf hb (fun _ _ _ => vc_ok hm hT hS c _ _ hvc) hn hat hout hr
end
end Go.Sym
