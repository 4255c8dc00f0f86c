/- Regions whose order the model draws: if two operations that do not wait for each other do not meet, one run in the text's order stands for all. -/
import Derived.Test.YthechjccpljljaaSym9
namespace Go.Sym
open Go.RowKit

/-- Does i wait for q? -/
def dep (ops : Array Oper) : Nat → Nat → Nat → Bool
  | 0, _, _ => false
  | f + 1, q, i => match ops[i]? with
    | some o => o.after.toList.any fun e => Region.binds .any e && (e.on == q || dep ops f q e.on)
    | none => false
def apartB (ops : Array Oper) (q i : Nat) : Bool :=
  match ops[q]?, ops[i]? with
  | some a, some b => a.apart ops b
  | _, _ => false
def disj (q i : Rec) : Bool := (q.W.all fun n => !i.R.contains n && !i.W.contains n) && (i.W.all fun n => !q.R.contains n)
def pairOK (ops : Array Oper) (q i : Rec) : Bool := dep ops ops.size q.i i.i || (apartB ops q.i i.i && disj q i)
def pairs (ops : Array Oper) : List Rec → Bool
  | [] => true
  | q :: rest => (rest.all (pairOK ops q)) && pairs ops rest
def edgesDown (ops : Array Oper) : Bool := ops.toList.zipIdx.all fun (o, i) => o.after.toList.all fun e => !Region.binds .any e || decide (e.on < i)

def Down (ops : Array Oper) (listed : Array Bool) : Prop := ∀ (i : Nat) (o : Oper), ops[i]? = some o → listed.getD i true = true → ∀ e ∈ o.after, Region.binds .any e = true → listed.getD e.on false = true

theorem getD_false_true {l : Array Bool} {i : Nat} (h : l.getD i false = true) : l.getD i true = true := by
  rw [Array.getD_eq_getD_getElem?] at *
  cases hx : l[i]? with
  | none => rw [hx] at h; cases h
  | some b => rw [hx] at h; simpa using h

theorem dep_listed {ops : Array Oper} {listed : Array Bool} (hd : Down ops listed) : ∀ (f q i : Nat) (o : Oper), ops[i]? = some o → (∀ e ∈ o.after, Region.binds .any e = true → listed.getD e.on false = true) → dep ops f q i = true → listed.getD q false = true
  | 0, _, _, _, _, _, h => by simp [dep] at h
  | f + 1, q, i, o, ho, hr, h => by
    simp only [dep, ho, List.any_eq_true, Bool.and_eq_true, Bool.or_eq_true, beq_iff_eq] at h
    obtain ⟨e, he, hb, h⟩ := h
    have he' : e ∈ o.after := by simpa using he
    have h1 := hr e he' hb
    rcases h with h | h
    · rw [← h]; exact h1
    · cases hx : ops[e.on]? with
      | none =>
        cases f with
        | zero => simp [dep] at h
        | succ f => simp [dep, hx] at h
      | some o' => exact dep_listed hd f q e.on o' hx (fun e' h2 h3 => hd e.on o' hx (getD_false_true h1) e' h2 h3) h

section
variable {tt : TT} {sp : Specs} {γ : Gam} {ops : Array Oper} {base : Nat}

theorem TR_put {T : List SV} {ts : List Tmp} {dst : Option Tmp} {v : SV} (h : ∀ d, dst = some d → d ∉ ts) : TR (putT T dst v) ts = TR T ts := by
  funext x
  cases x with
  | tmp t =>
    simp only [TR]
    split
    · rename_i hc
      cases dst with
      | none => rfl
      | some d =>
        have hne : d ≠ t := by rintro rfl; exact h d rfl (by simpa using hc)
        simp only [putT, List.getD_eq_getElem?_getD, List.getElem?_set_ne hne]
    · rfl
  | _ => rfl
theorem putT_comm {T : List SV} {d e : Option Tmp} {v u : SV} (h : ∀ x, d = some x → e ≠ some x) : putT (putT T d v) e u = putT (putT T e u) d v := by
  cases d with
  | none => rfl
  | some d =>
    cases e with
    | none => rfl
    | some e =>
      have hne : d ≠ e := fun h' => h d rfl (by rw [h'])
      simp only [putT, List.set_comm _ _ hne]
theorem applyWs_get : ∀ (ws : List (Nat × Blk)) (M : List (Option Blk)) (n : Nat), (∀ p ∈ ws, p.1 ≠ n) → (applyWs M ws)[n]? = M[n]?
  | [], _, _, _ => rfl
  | p :: ws, M, n, h => by
    have h1 : p.1 ≠ n := h p (by simp)
    show (applyWs (M.set p.1 (some p.2)) ws)[n]? = _
    rw [applyWs_get ws _ n (fun q hq => h q (by simp [hq])), List.getElem?_set_ne h1]
theorem applyWs_set : ∀ (ws : List (Nat × Blk)) (M : List (Option Blk)) (n : Nat) (b : Blk), (∀ p ∈ ws, p.1 ≠ n) → applyWs (M.set n (some b)) ws = (applyWs M ws).set n (some b)
  | [], _, _, _, _ => rfl
  | p :: ws, M, n, b, h => by
    have h1 : p.1 ≠ n := h p (by simp)
    show applyWs ((M.set n (some b)).set p.1 (some p.2)) ws = (applyWs (M.set p.1 (some p.2)) ws).set n (some b)
    rw [List.set_comm _ _ (Ne.symm h1), applyWs_set ws _ n b (fun q hq => h q (by simp [hq]))]
theorem applyWs_comm : ∀ (ws vs : List (Nat × Blk)) (M : List (Option Blk)), (∀ p ∈ ws, ∀ q ∈ vs, p.1 ≠ q.1) → applyWs (applyWs M ws) vs = applyWs (applyWs M vs) ws
  | [], _, _, _ => rfl
  | p :: ws, vs, M, h => by
    show applyWs (applyWs (M.set p.1 (some p.2)) ws) vs = applyWs ((applyWs M vs).set p.1 (some p.2)) ws
    rw [applyWs_comm ws vs _ (fun x hx q hq => h x (by simp [hx]) q hq), applyWs_set vs M p.1 p.2 (fun q hq => Ne.symm (h p (by simp) q hq))]

/-- A step's parts: what it sees, and what it does. -/
theorem stepI_cases {i : Nat} {o : Oper} {st st' : St} {r : Rec} (h : stepI tt sp γ ops base i o st = some (r, st')) :
    ∃ (ws : List (Nat × Blk)) (sv : SV), st' = ⟨putT st.T o.dst sv, applyWs st.M ws⟩ ∧ r.i = i ∧ (∀ p ∈ ws, p.1 ∈ r.W) ∧
      ∀ st1 : St, TR st1.T (o.looksAt ops) = TR st.T (o.looksAt ops) → (∀ n ∈ r.R, st1.M[n]? = st.M[n]?) → (∀ n ∈ r.W, st1.M[n]? = st.M[n]?) →
        stepI tt sp γ ops base i o st1 = some (r, ⟨putT st1.T o.dst sv, applyWs st1.M ws⟩) := by
  unfold stepI at h
  simp only at h
  split at h
  · cases h
  · rename_i hw
    simp only [Option.some.injEq, Prod.mk.injEq] at h
    obtain ⟨rfl, rfl⟩ := h
    refine ⟨[], .undef, rfl, rfl, by simp, fun st1 h1 _ _ => ?_⟩
    unfold stepI
    simp only [h1, hw]
    rfl
  · rename_i hw
    split at h
    · cases h
    · rename_i out hout
      split at h
      · rename_i hcond
        split at h
        · cases h
        · rename_i p sv hfix
          simp only [Option.some.injEq, Prod.mk.injEq] at h
          obtain ⟨rfl, rfl⟩ := h
          refine ⟨out.ws, sv, rfl, rfl, (okW_ok hcond).1, fun st1 h1 h2 h3 => ?_⟩
          unfold stepI
          simp only [h1, hw]
          have hl : (fun n => if (reads (TR st.T (o.looksAt ops)) o.op).contains n then st1.M.getD n none else none) = (fun n => if (reads (TR st.T (o.looksAt ops)) o.op).contains n then st.M.getD n none else none) := by
            funext n
            split
            · rename_i hc
              have := h2 n (by simpa using hc)
              rw [List.getD_eq_getElem?_getD, List.getD_eq_getElem?_getD, this]
            · rfl
          have hmk : makes o.op = true → st1.M[base + i]? = st.M[base + i]? := by
            intro hm
            refine h3 _ ?_
            cases hop : o.op <;> rw [hop] at hm <;> simp only [makes] at hm <;> first | (cases hm; done) | (simp [writes]; done) | (simp only [writes, callW]; split at hm <;> first | (rename_i hc; rw [hc]; simp) | cases hm)
          rw [hl, hout]
          simp only [okW_congr hmk, hcond, if_true, hfix]
      · cases h

/-- Two operations that do not meet may change places. -/
theorem swap {q i : Nat} {oq oi : Oper} {st s1 s2 : St} {rq ri : Rec} (hq : stepI tt sp γ ops base q oq st = some (rq, s1)) (hi : stepI tt sp γ ops base i oi s1 = some (ri, s2)) (hap : oq.apart ops oi = true) (hd : disj rq ri = true) :
    ∃ s1', stepI tt sp γ ops base i oi st = some (ri, s1') ∧ stepI tt sp γ ops base q oq s1' = some (rq, s2) := by
  obtain ⟨a1, a2, a3⟩ := Oper.apart_spec hap
  obtain ⟨wq, svq, rfl, _, hwq, Hq⟩ := stepI_cases hq
  obtain ⟨wi, svi, rfl, _, hwi, Hi⟩ := stepI_cases hi
  unfold disj at hd
  simp only [Bool.and_eq_true, List.all_eq_true, Bool.not_eq_true'] at hd
  obtain ⟨d1, d2⟩ := hd
  have e1 : ∀ n ∈ ri.R, ∀ p ∈ wq, p.1 ≠ n := fun n hn p hp e => by
    have := (d1 p.1 (hwq p hp)).1; rw [e] at this; rw [List.contains_iff_mem.2 hn] at this; cases this
  have e2 : ∀ n ∈ ri.W, ∀ p ∈ wq, p.1 ≠ n := fun n hn p hp e => by
    have := (d1 p.1 (hwq p hp)).2; rw [e] at this; rw [List.contains_iff_mem.2 hn] at this; cases this
  have e3 : ∀ n ∈ rq.R, ∀ p ∈ wi, p.1 ≠ n := fun n hn p hp e => by
    have := d2 p.1 (hwi p hp); rw [e] at this; rw [List.contains_iff_mem.2 hn] at this; cases this
  have e4 : ∀ n ∈ rq.W, ∀ p ∈ wi, p.1 ≠ n := fun n hn p hp e => by
    have := (d1 n hn).2; rw [← e] at this; rw [List.contains_iff_mem.2 (hwi p hp)] at this; cases this
  have H1 := Hi st (TR_put a1).symm (fun n hn => (applyWs_get wq st.M n (e1 n hn)).symm) (fun n hn => (applyWs_get wq st.M n (e2 n hn)).symm)
  have H2 := Hq ⟨putT st.T oi.dst svi, applyWs st.M wi⟩ (TR_put a3) (fun n hn => applyWs_get wi st.M n (e3 n hn)) (fun n hn => applyWs_get wi st.M n (e4 n hn))
  refine ⟨_, H1, ?_⟩
  rw [H2]
  congr 3
  · rw [putT_comm (fun x hx => fun h => a2 x h hx)]
  · exact (applyWs_comm wq wi st.M (fun p hp x hx => fun e => e4 p.1 (hwq p hp) x hx e.symm)).symm

/-- One that waits for nothing that is left may be taken first. -/
theorem pull {listed : Array Bool} (hdn : Down ops listed) {i : Nat} {oi : Oper} (hoi : ops[i]? = some oi) (hready : ∀ e ∈ oi.after, Region.binds .any e = true → listed.getD e.on false = true) :
    ∀ (pre post : List Nat) (st stf : St) (rs : List Rec), lexrun tt sp γ ops base (pre ++ i :: post) st = some (rs, stf) → (∀ q ∈ pre, listed.getD q true = false) → pairs ops rs = true →
      ∃ r s1 rs', stepI tt sp γ ops base i oi st = some (r, s1) ∧ lexrun tt sp γ ops base (pre ++ post) s1 = some (rs', stf) ∧ pairs ops rs' = true ∧ (∀ x, x ∈ rs ↔ x = r ∨ x ∈ rs')
  | [], post, st, stf, rs, h, _, hpr => by
    simp only [List.nil_append, lexrun, hoi] at h
    split at h
    · cases h
    · rename_i r s1 hs
      split at h
      · cases h
      · rename_i rs' stf' hl
        simp only [Option.some.injEq, Prod.mk.injEq] at h
        obtain ⟨rfl, rfl⟩ := h
        simp only [pairs, Bool.and_eq_true] at hpr
        exact ⟨r, s1, rs', hs, hl, hpr.2, fun x => by simp⟩
  | q :: pre, post, st, stf, rs, h, hun, hpr => by
    simp only [List.cons_append, lexrun] at h
    split at h
    · cases h
    · rename_i oq hoq
      split at h
      · cases h
      · rename_i rq s1 hs
        split at h
        · cases h
        · rename_i rs0 stf' hl
          simp only [Option.some.injEq, Prod.mk.injEq] at h
          obtain ⟨rfl, rfl⟩ := h
          simp only [pairs, Bool.and_eq_true, List.all_eq_true] at hpr
          obtain ⟨hp1, hp2⟩ := hpr
          obtain ⟨ri, s2, rs', h1, h2, h3, h4⟩ := pull hdn hoi hready pre post s1 stf' rs0 hl (fun x hx => hun x (by simp [hx])) hp2
          have hok := hp1 ri ((h4 ri).2 (.inl rfl))
          obtain ⟨_, _, _, eq1, _, _⟩ := stepI_cases hs
          obtain ⟨_, _, _, ei1, _, _⟩ := stepI_cases h1
          unfold pairOK at hok
          rw [eq1, ei1] at hok
          have hnd : dep ops ops.size q i = false := by
            cases hx : dep ops ops.size q i with
            | false => rfl
            | true =>
              have := getD_false_true (dep_listed hdn _ _ _ _ hoi hready hx)
              rw [hun q (by simp)] at this; cases this
          rw [hnd, Bool.false_or, Bool.and_eq_true] at hok
          have hap : oq.apart ops oi = true := by have := hok.1; unfold apartB at this; rw [hoq, hoi] at this; exact this
          obtain ⟨s1', g1, g2⟩ := swap hs h1 hap hok.2
          refine ⟨ri, s1', rq :: rs', g1, ?_, ?_, ?_⟩
          · simp only [List.cons_append, lexrun, hoq, g2, h2]
          · simp only [pairs, Bool.and_eq_true, List.all_eq_true]
            exact ⟨fun x hx => hp1 x ((h4 x).2 (.inr hx)), h3⟩
          · intro x
            simp only [List.mem_cons, h4 x]
            constructor
            · rintro (h | h | h)
              · exact .inr (.inl h)
              · exact .inl h
              · exact .inr (.inr h)
            · rintro (h | h | h)
              · exact .inr (.inl h)
              · exact .inl h
              · exact .inr (.inr h)
end

section
variable {P : Program} {tt : TT} {sp : Specs} {γ : Gam} {ops : Array Oper} {base : Nat} {at0 : At} {w0 : World}

theorem edgesDown_ok (h : edgesDown ops = true) {i : Nat} {o : Oper} (ho : ops[i]? = some o) : ∀ e ∈ o.after, Region.binds .any e = true → e.on < i := by
  intro e he hb
  unfold edgesDown at h
  simp only [List.all_eq_true] at h
  have hm : (o, i) ∈ ops.toList.zipIdx := by
    rw [List.mem_zipIdx_iff_getElem?]; simpa using ho
  have := h (o, i) hm
  simp only at this
  have := this e (by simpa using he)
  rw [hb] at this
  simpa using this

theorem min_mem : ∀ (l : List Nat), l ≠ [] → ∃ m ∈ l, ∀ x ∈ l, m ≤ x
  | [], h => absurd rfl h
  | [a], _ => ⟨a, by simp, by simp⟩
  | a :: b :: l, _ => by
    obtain ⟨m, h1, h2⟩ := min_mem (b :: l) (by simp)
    by_cases h : a ≤ m
    · exact ⟨a, by simp, fun x hx => by
        rcases List.mem_cons.1 hx with rfl | hx
        · exact Nat.le_refl _
        · exact Nat.le_trans h (h2 x hx)⟩
    · exact ⟨m, List.mem_cons_of_mem _ h1, fun x hx => by
        rcases List.mem_cons.1 hx with rfl | hx
        · omega
        · exact h2 x hx⟩

theorem any_ok (hT : TTOK P tt) (hS : SpecsOK P sp) (hE : edgesDown ops = true) {Q : Exit → Act → World → Prop} {stf : St} (hQ : ∀ a w, Reps at0 w0 stf a w → Q .normal a w) :
    ∀ (n : Nat) (l : List Nat) (listed : Array Bool) (st : St) (rs : List Rec), l.length = n → l.Nodup → (∀ i, i ∈ l ↔ i < ops.size ∧ listed.getD i true = false) → listed.size = ops.size → Down ops listed →
      lexrun tt sp γ ops base l st = some (rs, stf) → pairs ops rs = true → (∀ r ∈ rs, r.ok) → ∀ a w, Reps at0 w0 st a w → wpAny P .any ops Q n listed a w
  | 0, l, listed, st, rs, hn, _, hl, _, _, hrun, _, _, a, w, hr => by
    have : l = [] := List.eq_nil_of_length_eq_zero hn
    subst this
    simp only [lexrun, Option.some.injEq, Prod.mk.injEq] at hrun
    obtain ⟨_, rfl⟩ := hrun
    refine ⟨?_, hQ a w hr⟩
    rw [List.eq_nil_iff_forall_not_mem]
    intro j hj
    obtain ⟨h1, o, h2, _⟩ := mem_ready.1 hj
    have := (hl j).2 ⟨(Array.getElem?_eq_some_iff.1 h2).1, h1⟩
    cases this
  | n + 1, l, listed, st, rs, hn, hnd, hl, hsz, hdn, hrun, hpr, hpre, a, w, hr => by
    refine ⟨fun hnil => ?_, fun i hi => ?_⟩
    · exfalso
      obtain ⟨m, hm1, hm2⟩ := min_mem l (by intro e; rw [e] at hn; cases hn)
      obtain ⟨hm3, hm4⟩ := (hl m).1 hm1
      have : m ∈ Region.ready .any ops listed := by
        rw [mem_ready]
        refine ⟨hm4, ops[m], Array.getElem?_eq_getElem hm3, fun e he hb => ?_⟩
        have hlt := edgesDown_ok hE (Array.getElem?_eq_getElem hm3) e he hb
        have hno : e.on ∉ l := fun h => by have := hm2 _ h; omega
        have hx : ¬ (listed.getD e.on true = false) := fun h => hno ((hl e.on).2 ⟨by omega, h⟩)
        rw [Array.getD_eq_getD_getElem?] at hx ⊢
        have hlt' : e.on < listed.size := by omega
        simp only [Array.getElem?_eq_getElem hlt', Option.getD_some, Bool.not_eq_false] at hx ⊢
        exact hx
      rw [hnil] at this; cases this
    · obtain ⟨h1, o, h2, h3⟩ := mem_ready.1 hi
      have hil : i ∈ l := (hl i).2 ⟨(Array.getElem?_eq_some_iff.1 h2).1, h1⟩
      obtain ⟨pre, post, rfl⟩ := List.append_of_mem hil
      have hnp := List.nodup_append.1 hnd
      obtain ⟨r, s1, rs', g1, g2, g3, g4⟩ := pull hdn h2 h3 pre post st stf rs hrun (fun q hq => ((hl q).1 (by simp [hq])).2) hpr
      have hni : i ∉ pre ++ post := by
        have h := hnd
        rw [List.nodup_append] at h
        obtain ⟨_, h5, h6⟩ := h
        rw [List.nodup_cons] at h5
        intro hx
        rcases List.mem_append.1 hx with hx | hx
        · exact h6 i hx i (by simp) rfl
        · exact h5.1 hx
      have hlt : i < listed.size := by have := (Array.getElem?_eq_some_iff.1 h2).1; omega
      unfold wpOp
      rw [h2]
      simp only
      have hstep := step_ok (P := P) hT hS g1 (hpre r ((g4 r).2 (.inl rfl))) hr (K := wpAny P .any ops Q n (listed.setIfInBounds i true)) (Q := Q) (fun a' w' hr' => by
        refine any_ok hT hS hE hQ n (pre ++ post) (listed.setIfInBounds i true) s1 rs' ?_ ?_ ?_ (by simpa using hsz) ?_ g2 g3 (fun x hx => hpre x ((g4 x).2 (.inr hx))) a' w' hr'
        · simp at hn ⊢; omega
        · have h := hnd
          rw [List.nodup_append] at h ⊢
          obtain ⟨h5, h6, h7⟩ := h
          rw [List.nodup_cons] at h6
          exact ⟨h5, h6.2, fun x hx y hy => h7 x hx y (by simp [hy])⟩
        · intro j
          by_cases hj : i = j
          · subst hj
            constructor
            · intro h; exact absurd h hni
            · rintro ⟨_, h⟩
              rw [Array.getD_eq_getD_getElem?, Array.getElem?_setIfInBounds_self_of_lt hlt] at h
              cases h
          · rw [getD_set_ne true hj]
            have := hl j
            simp only [List.mem_append, List.mem_cons] at this ⊢
            rw [← this]
            constructor
            · rintro (h | h)
              · exact .inl h
              · exact .inr (.inr h)
            · rintro (h | h | h)
              · exact .inl h
              · exact absurd h.symm hj
              · exact .inr h
        · intro j oj hoj hlj e he hb
          by_cases hj : i = j
          · subst hj
            rw [h2] at hoj; cases hoj
            exact getD_set_true (h3 e he hb)
          · rw [getD_set_ne true hj] at hlj
            exact getD_set_true (hdn j oj hoj hlj e he hb))
      split
      · rename_i hw; rw [if_pos hw] at hstep; exact .inl hstep
      · rename_i hw; rw [if_neg hw] at hstep; exact hstep

/-- A region whose order is drawn. -/
theorem draw_ok (hm : P.follows .mixedOrders = true) (hT : TTOK P tt) (hS : SpecsOK P sp) {id : Nat} {Q : Exit → Act → World → Prop} {st stf : St} {rs : List Rec} (hE : edgesDown ops = true) (hrun : lexrun tt sp γ ops base (List.range ops.size) st = some (rs, stf))
    (hpr : pairs ops rs = true) (hpre : ∀ r ∈ rs, r.ok) {a : Act} {w : World} (hr : Reps at0 w0 st a w) (hQ : ∀ a w, Reps at0 w0 stf a w → Q .normal a w) : (Code.region id ops true).wp P Q a w := by
  refine wp_region_any hm ?_
  refine any_ok hT hS hE hQ ops.size (List.range ops.size) _ st rs (by simp) List.nodup_range ?_ (by simp) ?_ hrun hpr hpre a _ ?_
  · intro i
    rw [List.mem_range]
    constructor
    · intro h; exact ⟨h, by rw [Array.getD_eq_getD_getElem?]; simp [h]⟩
    · exact fun h => h.1
  · intro i o ho hl
    have hlt := (Array.getElem?_eq_some_iff.1 ho).1
    rw [Array.getD_eq_getD_getElem?] at hl
    simp [hlt] at hl
  · obtain ⟨at_, h⟩ := hr
    have hl := Later.drew at_ w
    exact ⟨at_, h.later.trans hl, h.mem.later_free (fun _ _ => rfl) (Nat.le_refl _) hl, RelL.later hl _ _ h.tmp, h.defers⟩
/-- A region in the text's order. -/
theorem plain_ok (hT : TTOK P tt) (hS : SpecsOK P sp) {id : Nat} {Q : Exit → Act → World → Prop} {st stf : St} {rs : List Rec} (hrun : lexrun tt sp γ ops base (List.range ops.size) st = some (rs, stf))
    (hpre : ∀ r ∈ rs, r.ok) {a : Act} {w : World} (hr : Reps at0 w0 st a w) (hQ : ∀ a w, Reps at0 w0 stf a w → Q .normal a w) : (Code.region id ops false).wp P Q a w :=
  wp_region (lexrun_ok hT hS hrun hpre hr hQ)
end
end Go.Sym
