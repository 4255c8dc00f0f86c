/- Regions of the symbolic machine: one operation after the other; and, where two operations that do not wait for each other do not meet, in any order. -/
import Derived.Test.YthechjccpljljaaSym8
namespace Go.Sym
open Go.RowKit

structure St where
  T : List SV
  M : List (Option Blk)

/-- What an operation sees of the frame. -/
def TR (T : List SV) (ts : List Tmp) : Operand → SV
  | .tmp t => if ts.contains t then T.getD t .any else .any
  | .const v => SV.ofV v
  | .global g => .val (.pointer (some ⟨g, 0, none⟩))
  | .func f => .fn f []
def putT (T : List SV) (dst : Option Tmp) (v : SV) : List SV :=
  match dst with
  | some d => T.set d v
  | none => T

mutual
def names : SV → List Nat
  | .ptr b _ | .slc b _ _ _ | .sl b _ _ | .lp b _ => [b]
  | .lel x => names x
  | .ro cs _ | .agg cs | .tup cs | .fn _ cs => namesL cs
  | _ => []
def namesL : List SV → List Nat
  | [] => []
  | c :: cs => names c ++ namesL cs
end
def slNames : List SV → List Nat
  | [] => []
  | .sl b _ _ :: l => b :: slNames l
  | _ :: l => slNames l
/-- The blocks that an operation reads, and those that it writes. -/
def reads (ρ : Operand → SV) : Op → List Nat
  | .load _ x => names (ρ x)
  | .store _ x _ => names (ρ x)
  | .call c => namesL (c.operands.toList.map ρ)
  | _ => []
def callW (sp : Specs) (ρ : Operand → SV) (fresh : Nat) (c : Call) : List Nat :=
  match c.callee with
  | .value f => match ρ f with
    | .fn f _ => match sp.lookup f with
      | some (.mem _) => namesL (c.operands.toList.map ρ)
      | some (.pure _) => slNames (c.operands.toList.map ρ)
      | none => []
    | _ => []
  | .builtin .append => fresh :: slNames (c.operands.toList.map ρ)
  | _ => []
def writes (sp : Specs) (ρ : Operand → SV) (fresh : Nat) : Op → List Nat
  | .store _ x _ => names (ρ x)
  | .call c => callW sp ρ fresh c
  | .alloc _ | .box _ _ | .buildSlice _ _ _ | .makeSlice _ _ _ => [fresh]
  | _ => []

/-- What was decided of an operation's value. -/
inductive DV where
  | b (x : Bool)
  | i (x : Int)
def DV.fix : DV → SV → Option (Prop × SV)
  | .b x, .bool y => some (y = x, .bool x)
  | .i x, .i64 y => some (y = x, .i64 x)
  | _, _ => none
theorem DV.fix_ok {d : DV} {s s' : SV} {p : Prop} (h : d.fix s = some (p, s')) (hp : p) : s = s' := by
  unfold DV.fix at h
  split at h
  · simp only [Option.some.injEq, Prod.mk.injEq] at h; obtain ⟨rfl, rfl⟩ := h; rw [hp]
  · simp only [Option.some.injEq, Prod.mk.injEq] at h; obtain ⟨rfl, rfl⟩ := h; rw [hp]
  · cases h
abbrev Gam := List (Nat × DV)
def wants (ops : Array Oper) (o : Oper) (ρ : Operand → SV) : Option Bool :=
  match o.guard with
  | none => some true
  | some (j, want) => match (ops[j]?).bind (·.dst) with
    | some d => match ρ (.tmp d) with
      | .bool b => some (b == want)
      | .undef => some false
      | _ => none
    | none => none
def fixed (γ : Gam) (i : Nat) (sv : SV) : Option (Option Prop × SV) :=
  match γ.lookup i with
  | none => some (none, sv)
  | some d => match d.fix sv with
    | some q => some (some q.1, q.2)
    | none => none

structure Rec where
  i : Nat
  pre : Option Prop
  fx : Option Prop
  R : List Nat
  W : List Nat
def Rec.ok (r : Rec) : Prop := Ok r.pre ∧ Ok r.fx

def okW (ws : List (Nat × Blk)) (W : List Nat) (op : Op) (M : List (Option Blk)) (n : Nat) : Bool :=
  (ws.all fun p => W.contains p.1) && (!makes op || (match M[n]? with | some none => true | _ => false))
theorem okW_ok {ws : List (Nat × Blk)} {W : List Nat} {op : Op} {M : List (Option Blk)} {n : Nat} (h : okW ws W op M n = true) : (∀ p ∈ ws, p.1 ∈ W) ∧ (makes op = true → M[n]? = some none) := by
  unfold okW at h
  simp only [Bool.and_eq_true] at h
  refine ⟨fun p hp => by have := List.all_eq_true.1 h.1 p hp; simpa using this, fun hm => ?_⟩
  have := h.2
  rw [hm] at this
  simp only [Bool.not_true, Bool.false_or] at this
  split at this
  · assumption
  · cases this
theorem okW_congr {ws : List (Nat × Blk)} {W : List Nat} {op : Op} {M M' : List (Option Blk)} {n : Nat} (h : makes op = true → M'[n]? = M[n]?) : okW ws W op M' n = okW ws W op M n := by
  unfold okW
  cases hm : makes op
  · simp
  · rw [h hm]

def stepI (tt : TT) (sp : Specs) (γ : Gam) (ops : Array Oper) (base i : Nat) (o : Oper) (st : St) : Option (Rec × St) :=
  let ρ := TR st.T (o.looksAt ops)
  match wants ops o ρ with
  | none => none
  | some false => some (⟨i, none, none, [], []⟩, ⟨putT st.T o.dst .undef, st.M⟩)
  | some true =>
    let R := reads ρ o.op
    let W := writes sp ρ (base + i) o.op
    match core tt sp (fun n => if R.contains n then st.M.getD n none else none) (base + i) ρ o.op with
    | none => none
    | some out =>
      if okW out.ws W o.op st.M (base + i) = true then
        match fixed γ i out.sv with
        | none => none
        | some (p, sv) => some (⟨i, out.pre, p, R, W⟩, ⟨putT st.T o.dst sv, applyWs st.M out.ws⟩)
      else none

def lexrun (tt : TT) (sp : Specs) (γ : Gam) (ops : Array Oper) (base : Nat) : List Nat → St → Option (List Rec × St)
  | [], st => some ([], st)
  | i :: l, st => match ops[i]? with
    | none => none
    | some o => match stepI tt sp γ ops base i o st with
      | none => none
      | some (r, st') => match lexrun tt sp γ ops base l st' with
        | none => none
        | some (rs, stf) => some (r :: rs, stf)

structure Rep (at0 : At) (w0 : World) (st : St) (at_ : At) (a : Act) (w : World) : Prop where
  later : Later at0 w0 at_ w
  mem : MemOK at_ st.M w
  tmp : RelL at_ w st.T a.tmps.toList
  defers : a.defers = []
def Reps (at0 : At) (w0 : World) (st : St) (a : Act) (w : World) : Prop := ∃ at_, Rep at0 w0 st at_ a w

section
variable {at_ : At} {w : World} {a : Act} {T : List SV} {ts : List Tmp}
theorem TR_ok (h : RelL at_ w T a.tmps.toList) (x : Operand) : Rel at_ w (TR T ts x) (a.eval x) := by
  cases x with
  | tmp t =>
    simp only [TR, Act.eval]
    split
    · cases hc : T[t]? with
      | none => rw [List.getD_eq_getElem?_getD, hc]; simp only [Option.getD_none, Rel]
      | some c =>
        obtain ⟨u, h1, h2⟩ := h.get t c hc
        rw [List.getD_eq_getElem?_getD, hc]
        have : a.tmps.getD t Go.undef = u := by
          rw [Array.getElem?_toList] at h1
          rw [Array.getD_eq_getD_getElem?, h1]; rfl
        rw [this]; exact h2
    · simp only [Rel]
  | const v => exact Rel.ofV at_ w v
  | global g => simp only [TR, Act.eval, Rel]
  | func f => simp only [TR, Act.eval, Rel]; exact ⟨[], rfl, RelL.nil⟩
theorem put_ok (h : RelL at_ w T a.tmps.toList) {sv : SV} {v : Value} (hv : Rel at_ w sv v) (dst : Option Tmp) : RelL at_ w (putT T dst sv) (a.put dst v).tmps.toList := by
  cases dst with
  | none => exact h
  | some d => simp only [putT, Act.put, Array.toList_setIfInBounds]; exact h.set d sv v hv
theorem put_defers (dst : Option Tmp) (v : Value) : (a.put dst v).defers = a.defers := by cases dst <;> rfl

theorem wp_of_outcome {P : Program} {o : Oper} {K : Act → World → Prop} {Q : Exit → Act → World → Prop} (h : Outcome P ((execOp a.eval o).run P w) fun v w' => K (a.put o.dst v) w') : o.wp P a w K Q := by
  unfold Oper.wp
  generalize (execOp a.eval o).run P w = r at h
  unfold Outcome at h
  split at h
  · exact h
  · exact h
  · rw [Oper.upon_enter]
    exact h.mono fun e w'' ⟨v, h1, h2⟩ => by subst h1; exact h2
  · exact h.elim
end

section
variable {P : Program} {tt : TT} {sp : Specs} {γ : Gam} {ops : Array Oper} {base : Nat} {at0 : At} {w0 : World}

/-- One operation. -/
theorem step_ok (hT : TTOK P tt) (hS : SpecsOK P sp) {i : Nat} {o : Oper} {st st' : St} {r : Rec} (h : stepI tt sp γ ops base i o st = some (r, st')) (hp : r.ok) {a : Act} {w : World} (hr : Reps at0 w0 st a w)
    {K : Act → World → Prop} {Q : Exit → Act → World → Prop} (hK : ∀ a' w', Reps at0 w0 st' a' w' → K a' w') :
    if Region.wanted o (yielded ops a.tmps) then o.wp P a w K Q else K (a.put o.dst Go.undef) w := by
  obtain ⟨at_, hr⟩ := hr
  have hρ := fun x => TR_ok (ts := o.looksAt ops) hr.tmp x
  unfold stepI at h
  simp only at h
  have hwants : ∀ b, wants ops o (TR st.T (o.looksAt ops)) = some b → Region.wanted o (yielded ops a.tmps) = b := by
    intro b hb
    unfold wants at hb
    unfold Region.wanted
    cases hg : o.guard with
    | none => rw [hg] at hb; simpa using hb
    | some jw =>
      obtain ⟨j, want⟩ := jw
      rw [hg] at hb
      simp only at hb ⊢
      cases hd : (ops[j]?).bind (·.dst) with
      | none => rw [hd] at hb; cases hb
      | some d =>
        rw [hd] at hb
        simp only at hb
        have hrel := hρ (.tmp d)
        have hev : a.eval (.tmp d) = a.tmps.getD d Go.undef := rfl
        unfold yielded
        rw [hd]
        simp only [Option.bind_some]
        split at hb
        · rename_i c hc
          rw [hc, hev] at hrel
          simp only [Rel] at hrel
          have : a.tmps[d]? = some (.bool c) := by
            rw [Array.getD_eq_getD_getElem?] at hrel
            cases hx : a.tmps[d]? with
            | none => rw [hx] at hrel; simp [Go.undef] at hrel
            | some u => rw [hx] at hrel; simpa using hrel
          rw [this]
          simpa using hb
        · rename_i hc
          rw [hc, hev] at hrel
          simp only [Rel] at hrel
          have : ∀ c, a.tmps[d]? ≠ some (.bool c) := by
            intro c hx
            rw [Array.getD_eq_getD_getElem?, hx] at hrel
            simp [Go.undef] at hrel
          simp only [Option.some.injEq] at hb
          subst hb
          split
          · rename_i c hx; exact absurd hx (this c)
          · rfl
        · cases hb
  split at h
  · cases h
  · rename_i hw
    rw [hwants _ hw]
    simp only [Option.some.injEq, Prod.mk.injEq] at h
    obtain ⟨rfl, rfl⟩ := h
    exact hK _ _ ⟨at_, hr.later, hr.mem, put_ok hr.tmp (by simp only [Rel]) _, by rw [put_defers]; exact hr.defers⟩
  · rename_i hw
    rw [hwants _ hw]
    split at h
    · cases h
    · rename_i out hout
      split at h
      · rename_i hcond
        split at h
        · cases h
        · rename_i p sv hfix
          simp only [Option.some.injEq, Prod.mk.injEq] at h
          obtain ⟨rfl, rfl⟩ := h
          obtain ⟨hp1, hp2⟩ := hp
          have hlook : ∀ n cs, (if (reads (TR st.T (o.looksAt ops)) o.op).contains n then st.M.getD n none else none) = some cs → st.M[n]? = some (some cs) := by
            intro n cs e
            split at e
            · rw [List.getD_eq_getElem?_getD] at e
              cases hx : st.M[n]? with
              | none => rw [hx] at e; simp at e
              | some u => rw [hx] at e; simp at e; rw [e]
            · cases e
          have hmk := (okW_ok hcond).2
          have hout' := core_ok hT hS hr.mem hlook hρ o hmk hout hp1
          refine wp_of_outcome (Outcome.mono (fun v w' hpost => ?_) hout')
          obtain ⟨at', h1, h2, h3⟩ := hpost
          refine hK _ _ ⟨at', hr.later.trans h1, h2, put_ok (RelL.later h1 _ _ hr.tmp) ?_ _, by rw [put_defers]; exact hr.defers⟩
          unfold fixed at hfix
          split at hfix
          · simp only [Option.some.injEq, Prod.mk.injEq] at hfix; rw [← hfix.2]; exact h3
          · split at hfix
            · rename_i q hq
              simp only [Option.some.injEq, Prod.mk.injEq] at hfix
              obtain ⟨e1, e2⟩ := hfix
              subst e1
              simp only [Ok] at hp2; rw [← e2, ← DV.fix_ok hq hp2]; exact h3
            · cases hfix
      · cases h

/-- One after the other. -/
theorem lexrun_ok (hT : TTOK P tt) (hS : SpecsOK P sp) {Q : Exit → Act → World → Prop} : ∀ {l : List Nat} {st stf : St} {rs : List Rec}, lexrun tt sp γ ops base l st = some (rs, stf) → (∀ r ∈ rs, r.ok) → ∀ {a : Act} {w : World}, Reps at0 w0 st a w →
    (∀ a' w', Reps at0 w0 stf a' w' → Q .normal a' w') → wpOps P ops Q l a w
  | [], st, stf, rs, h, _, a, w, hr, hQ => by
    simp only [lexrun, Option.some.injEq, Prod.mk.injEq] at h
    obtain ⟨_, rfl⟩ := h
    exact hQ _ _ hr
  | i :: l, st, stf, rs, h, hp, a, w, hr, hQ => by
    simp only [lexrun] at h
    split at h
    · cases h
    · rename_i o ho
      split at h
      · cases h
      · rename_i r st' hs
        split at h
        · cases h
        · rename_i rs' stf' hl
          simp only [Option.some.injEq, Prod.mk.injEq] at h
          obtain ⟨rfl, rfl⟩ := h
          rw [wpOps_cons]
          unfold wpOp
          rw [ho]
          have := step_ok (P := P) hT hS hs (hp r (by simp)) hr (K := wpOps P ops Q l) (Q := Q) (fun a' w' hr' => lexrun_ok hT hS hl (fun x hx => hp x (by simp [hx])) hr' hQ)
          simp only
          split
          · rename_i hw; rw [if_pos hw] at this; exact .inl this
          · rename_i hw; rw [if_neg hw] at this; exact this
end
end Go.Sym
