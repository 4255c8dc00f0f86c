/- A symbolic machine for Go functions, and what the functions that the law reaches come to: Sym9, SymA, SymB, SymC, SymD, SymM, SymN. -/
import Derived.Test.YtficbeeoafiiaaaGreatDoorQ2
import Derived.OrdersIn
import Derived.RangeFuncCalls
/- Regions of the symbolic machine: one operation after the other; and, where two operations that do not wait for each other do not meet, in any order. -/
namespace Go.Sym
open Go.RowKit

structure St where
  T : List SV
  M : List (Option Blk)

/-- What an operation sees of the frame. -/
def TR (T : List SV) (ts : List Tmp) : Operand → SV
  | .tmp t => if ts.contains t then T.getD t .any else .any
  | .const v => SV.ofV v
  | .global g => .val (.pointer (some ⟨g, 0, none⟩))
  | .func f => .fn f []
def putT (T : List SV) (dst : Option Tmp) (v : SV) : List SV :=
  match dst with
  | some d => T.set d v
  | none => T

mutual
def names : SV → List Nat
  | .ptr b _ | .slc b _ _ _ | .sl b _ _ | .lp b _ | .ap b _ => [b]
  | .lel x => names x
  | .ro cs _ | .rsl cs _ _ | .agg cs | .tup cs | .fn _ cs | .roO _ cs | .win cs | .wsl cs _ _ => namesL cs
  | _ => []
def namesL : List SV → List Nat
  | [] => []
  | c :: cs => names c ++ namesL cs
end
/-- The blocks that an operation reads, and those that it writes. -/
def inner (M : List (Option Blk)) (ns : List Nat) : List Nat :=
  ns ++ ns.flatMap fun n => match M.getD n none with
    | some cs => namesL cs
    | none => []
def reads (M : List (Option Blk)) (ρ : Operand → SV) : Op → List Nat
  | .load _ x => names (ρ x)
  | .store _ x _ => names (ρ x)
  | .slice _ x _ _ (some _) => names (ρ x)
  | .call c => inner M (namesL (c.operands.toList.map ρ))
  | _ => []
def writes (sp : Specs) (ρ : Operand → SV) (fresh : Nat) (op : Op) (out : Out) : List Nat := (if makes sp ρ op = true then [fresh] else []) ++ out.ws.map (·.1)

/-- What was decided of an operation's value. -/
inductive DV where
  | b (x : Bool)
  | i (x : Int)
def DV.fix : DV → SV → Option (Prop × SV)
  | .b x, .bool y => some (y = x, .bool x)
  | .i x, .i64 y => some (y = x, .i64 x)
  | _, _ => none
theorem DV.fix_ok {d : DV} {s s' : SV} {p : Prop} (h : d.fix s = some (p, s')) (hp : p) : s = s' := by
  unfold DV.fix at h
  split at h
  · simp only [Option.some.injEq, Prod.mk.injEq] at h; obtain ⟨rfl, rfl⟩ := h; rw [hp]
  · simp only [Option.some.injEq, Prod.mk.injEq] at h; obtain ⟨rfl, rfl⟩ := h; rw [hp]
  · cases h
abbrev Gam := List (Nat × DV)
def wants (ops : Array Oper) (o : Oper) (ρ : Operand → SV) : Option Bool :=
  match o.guard with
  | none => some true
  | some (j, want) => match (ops[j]?).bind (·.dst) with
    | some d => match ρ (.tmp d) with
      | .bool b => some (b == want)
      | .undef => some false
      | _ => none
    | none => none
def fixed (γ : Gam) (i : Nat) (sv : SV) : Option (Option Prop × SV) :=
  match γ.lookup i with
  | none => some (none, sv)
  | some d => match d.fix sv with
    | some q => some (some q.1, q.2)
    | none => none

structure Rec where
  i : Nat
  pre : Option Prop
  fx : Option Prop
  R : List Nat
  W : List Nat
def Rec.ok (r : Rec) : Prop := Ok r.pre ∧ Ok r.fx

def okW (mk : Bool) (M : List (Option Blk)) (n : Nat) : Bool := !mk || (match M[n]? with | some none => true | _ => false)
theorem okW_ok {mk : Bool} {M : List (Option Blk)} {n : Nat} (h : okW mk M n = true) : mk = true → M[n]? = some none := by
  unfold okW at h
  intro hm
  rw [hm] at h
  simp only [Bool.not_true, Bool.false_or] at h
  split at h
  · assumption
  · cases h
theorem okW_congr {mk : Bool} {M M' : List (Option Blk)} {n : Nat} (h : mk = true → M'[n]? = M[n]?) : okW mk M' n = okW mk M n := by
  unfold okW
  cases hm : mk
  · simp
  · rw [h hm]
theorem mem_writes {sp : Specs} {ρ : Operand → SV} {fresh : Nat} {op : Op} {out : Out} : (∀ p ∈ out.ws, p.1 ∈ writes sp ρ fresh op out) ∧ (makes sp ρ op = true → fresh ∈ writes sp ρ fresh op out) := by
  unfold writes
  exact ⟨fun p hp => List.mem_append.2 (.inr (List.mem_map.2 ⟨p, hp, rfl⟩)), fun h => by rw [if_pos h]; simp⟩

def stepI [GLob] (tt : TT) (sp : Specs) (γ : Gam) (ops : Array Oper) (base i : Nat) (o : Oper) (st : St) : Option (Rec × St) :=
  let ρ := TR st.T (o.looksAt ops)
  match wants ops o ρ with
  | none => none
  | some false => some (⟨i, none, none, [], []⟩, ⟨putT st.T o.dst .undef, st.M⟩)
  | some true =>
    let R := reads st.M ρ o.op
    match core tt sp (fun n => if R.contains n then st.M.getD n none else none) (base + i) ρ o.op with
    | none => none
    | some out =>
      if okW (makes sp ρ o.op) st.M (base + i) = true then
        match fixed γ i out.sv with
        | none => none
        | some (p, sv) => some (⟨i, out.pre, p, R, writes sp ρ (base + i) o.op out⟩, ⟨putT st.T o.dst sv, applyWs st.M out.ws⟩)
      else none

def lexrun [GLob] (tt : TT) (sp : Specs) (γ : Gam) (ops : Array Oper) (base : Nat) : List Nat → St → Option (List Rec × St)
  | [], st => some ([], st)
  | i :: l, st => match ops[i]? with
    | none => none
    | some o => match stepI tt sp γ ops base i o st with
      | none => none
      | some (r, st') => match lexrun tt sp γ ops base l st' with
        | none => none
        | some (rs, stf) => some (r :: rs, stf)

/-- Nobody's: no own block, no own list lies there. -/
def Unn (at_ : At) (g : Nat) : Prop := (∀ m, at_ m ≠ some g) ∧ ∀ m b c k, at_.gn m ≠ .live g b c k
theorem Unn.later {at_ at' : At} {w w' : World} {g : Nat} (h : Unn at_ g) (hl : Later at_ w at' w') (hg : g < w.heap.size) : Unn at' g ∧ w'.heap[g]? = w.heap[g]? := by
  obtain ⟨h1, h2, h3⟩ := hl.keep g h.1 h.2 hg
  exact ⟨⟨h1, h2⟩, h3⟩
/-- Where a run began: names, world, what is deferred; objects that stay as they are. -/
structure Base where
  at0 : At
  w0 : World
  dfs : List Deferred := []
  obs : List (Nat × Obj) := []
def ObsOK (obs : List (Nat × Obj)) (at_ : At) (w : World) : Prop := ∀ p ∈ obs, w.heap[p.1]? = some p.2 ∧ Unn at_ p.1
theorem ObsOK.later {obs : List (Nat × Obj)} {at_ at' : At} {w w' : World} (h : ObsOK obs at_ w) (hl : Later at_ w at' w') : ObsOK obs at' w' := fun p hp => by
  obtain ⟨h1, h2⟩ := h p hp
  obtain ⟨h3, h4⟩ := h2.later hl (lt_of_heap h1)
  exact ⟨h4.trans h1, h3⟩
theorem ObsOK.sub {obs : List (Nat × Obj)} {at_ at' : At} {w : World} (h : ObsOK obs at_ w) (hu : ∀ g, Unn at_ g → Unn at' g) : ObsOK obs at' w := fun p hp => ⟨(h p hp).1, hu _ (h p hp).2⟩
theorem ObsOK.nil (at_ : At) (w : World) : ObsOK [] at_ w := fun p hp => by simp at hp
structure Rep [GLob] (B : Base) (st : St) (at_ : At) (a : Act) (w : World) : Prop where
  later : Later B.at0 B.w0 at_ w
  mem : MemOK at_ st.M w
  tmp : RelL at_ w st.T a.tmps.toList
  defers : a.defers = B.dfs
  obs : ObsOK B.obs at_ w
def Reps [GLob] (B : Base) (st : St) (a : Act) (w : World) : Prop := ∃ at_, Rep B st at_ a w

section
variable {at_ : At} {w : World} {a : Act} {T : List SV} {ts : List Tmp}
theorem TR_ok (h : RelL at_ w T a.tmps.toList) (x : Operand) : Rel at_ w (TR T ts x) (a.eval x) := by
  cases x with
  | tmp t =>
    simp only [TR, Act.eval]
    split
    · cases hc : T[t]? with
      | none => rw [List.getD_eq_getElem?_getD, hc]; simp only [Option.getD_none, Rel]
      | some c =>
        obtain ⟨u, h1, h2⟩ := h.get t c hc
        rw [List.getD_eq_getElem?_getD, hc]
        have : a.tmps.getD t Go.undef = u := by
          rw [Array.getElem?_toList] at h1
          rw [Array.getD_eq_getD_getElem?, h1]; rfl
        rw [this]; exact h2
    · simp only [Rel]
  | const v => exact Rel.ofV at_ w v
  | global g => simp only [TR, Act.eval, Rel]
  | func f => simp only [TR, Act.eval, Rel]; exact ⟨[], rfl, RelL.nil⟩
theorem put_ok (h : RelL at_ w T a.tmps.toList) {sv : SV} {v : Value} (hv : Rel at_ w sv v) (dst : Option Tmp) : RelL at_ w (putT T dst sv) (a.put dst v).tmps.toList := by
  cases dst with
  | none => exact h
  | some d => simp only [putT, Act.put, Array.toList_setIfInBounds]; exact h.set d sv v hv
theorem put_defers (dst : Option Tmp) (v : Value) : (a.put dst v).defers = a.defers := by cases dst <;> rfl

/-- Frames of functions (none), and of a loop's rounds (the loop's record). -/
def Fr (ρ : Option Nat) : Fence := { Fence.wide with round := ρ }
theorem callsIn_fr {P : Program} {ρ : Option Nat} {n : Nat} {f : FuncId} {args : Array Value} {w : World} {R : Ending → World → Prop} (h : Calls P f args w R) : CallsIn (Fr ρ) n P f args w R := by
  cases ρ with
  | none => exact callsIn_wide.2 h
  | some l => exact CallsIn.inRound l (callsIn_wide.2 h)
theorem wpR_mono {P : Program} {ρ : Option Nat} {c : Code} {Q Q' : Exit → Act → World → Prop} {w : World} (hq : ∀ e a w, Q e a w → Q' e a w) (h : c.wpIn (Fr ρ) 0 P Q a w) : c.wpIn (Fr ρ) 0 P Q' a w := wpIn_mono h hq
theorem wp_of_outcome {P : Program} {ρ : Option Nat} {o : Oper} {K : Act → World → Prop} {Q : Exit → Act → World → Prop} (hd : ∀ c, o.op ≠ .defer c) (h : Outcome P ((execOp a.eval o).run P w) fun v w' => K (a.put o.dst v) w') : o.wpIn (Fr ρ) 0 P a w K Q := by
  refine ⟨fun _ _ => trivial, ?_⟩
  rw [Oper.semAt_eq _ _ _ hd]
  generalize (execOp a.eval o).run P w = r at h
  unfold Outcome at h
  split at h
  · exact h
  · exact h
  · rw [Oper.uponIn_enter]
    refine ⟨fun h => by simp [Fr, Fence.wide] at h, callsIn_fr ?_⟩
    exact h.mono fun e w'' ⟨v, h1, h2⟩ => by subst h1; exact h2
  · exact h.elim
end

section
variable [GLob] {P : Program} {tt : TT} {sp : Specs} {γ : Gam} {ops : Array Oper} {base : Nat} {B : Base}

/-- One operation. -/
theorem step_ok {ρ : Option Nat} (hT : TTOK P tt) (hS : SpecsOK P sp) {i : Nat} {o : Oper} {st st' : St} {r : Rec} (h : stepI tt sp γ ops base i o st = some (r, st')) (hp : r.ok) {a : Act} {w : World} (hr : Reps B st a w)
    {K : Act → World → Prop} {Q : Exit → Act → World → Prop} (hK : ∀ a' w', Reps B st' a' w' → K a' w') :
    if Region.wanted o (yielded ops a.tmps) then o.wpIn (Fr ρ) 0 P a w K Q else K (a.put o.dst Go.undef) w := by
  obtain ⟨at_, hr⟩ := hr
  have hρ := fun x => TR_ok (ts := o.looksAt ops) hr.tmp x
  unfold stepI at h
  simp only at h
  have hwants : ∀ b, wants ops o (TR st.T (o.looksAt ops)) = some b → Region.wanted o (yielded ops a.tmps) = b := by
    intro b hb
    unfold wants at hb
    unfold Region.wanted
    cases hg : o.guard with
    | none => rw [hg] at hb; simpa using hb
    | some jw =>
      obtain ⟨j, want⟩ := jw
      rw [hg] at hb
      simp only at hb ⊢
      cases hd : (ops[j]?).bind (·.dst) with
      | none => rw [hd] at hb; cases hb
      | some d =>
        rw [hd] at hb
        simp only at hb
        have hrel := hρ (.tmp d)
        have hev : a.eval (.tmp d) = a.tmps.getD d Go.undef := rfl
        unfold yielded
        rw [hd]
        simp only [Option.bind_some]
        split at hb
        · rename_i c hc
          rw [hc, hev] at hrel
          simp only [Rel] at hrel
          have : a.tmps[d]? = some (.bool c) := by
            rw [Array.getD_eq_getD_getElem?] at hrel
            cases hx : a.tmps[d]? with
            | none => rw [hx] at hrel; simp [Go.undef] at hrel
            | some u => rw [hx] at hrel; simpa using hrel
          rw [this]
          simpa using hb
        · rename_i hc
          rw [hc, hev] at hrel
          simp only [Rel] at hrel
          have : ∀ c, a.tmps[d]? ≠ some (.bool c) := by
            intro c hx
            rw [Array.getD_eq_getD_getElem?, hx] at hrel
            simp [Go.undef] at hrel
          simp only [Option.some.injEq] at hb
          subst hb
          split
          · rename_i c hx; exact absurd hx (this c)
          · rfl
        · cases hb
  split at h
  · cases h
  · rename_i hw
    rw [hwants _ hw]
    simp only [Option.some.injEq, Prod.mk.injEq] at h
    obtain ⟨rfl, rfl⟩ := h
    exact hK _ _ ⟨at_, hr.later, hr.mem, put_ok hr.tmp (by simp only [Rel]) _, by rw [put_defers]; exact hr.defers, hr.obs⟩
  · rename_i hw
    rw [hwants _ hw]
    split at h
    · cases h
    · rename_i out hout
      split at h
      · rename_i hcond
        split at h
        · cases h
        · rename_i p sv hfix
          simp only [Option.some.injEq, Prod.mk.injEq] at h
          obtain ⟨rfl, rfl⟩ := h
          obtain ⟨hp1, hp2⟩ := hp
          have hlook : ∀ n cs, (if (reads st.M (TR st.T (o.looksAt ops)) o.op).contains n then st.M.getD n none else none) = some cs → st.M[n]? = some (some cs) := by
            intro n cs e
            split at e
            · rw [List.getD_eq_getElem?_getD] at e
              cases hx : st.M[n]? with
              | none => rw [hx] at e; simp at e
              | some u => rw [hx] at e; simp at e; rw [e]
            · cases e
          have hmk := okW_ok hcond
          have hout' := core_ok hT hS hr.mem hlook hρ o hmk hout hp1
          refine wp_of_outcome (fun c e => by rw [e] at hout; simp [core] at hout) (Outcome.mono (fun v w' hpost => ?_) hout')
          obtain ⟨at', h1, h2, h3⟩ := hpost
          refine hK _ _ ⟨at', hr.later.trans h1, h2, put_ok (RelL.later h1 _ _ hr.tmp) ?_ _, by rw [put_defers]; exact hr.defers, hr.obs.later h1⟩
          unfold fixed at hfix
          split at hfix
          · simp only [Option.some.injEq, Prod.mk.injEq] at hfix; rw [← hfix.2]; exact h3
          · split at hfix
            · rename_i q hq
              simp only [Option.some.injEq, Prod.mk.injEq] at hfix
              obtain ⟨e1, e2⟩ := hfix
              subst e1
              simp only [Ok] at hp2; rw [← e2, ← DV.fix_ok hq hp2]; exact h3
            · cases hfix
      · cases h

/-- One after the other. -/
theorem lexrun_ok {ρ : Option Nat} (hT : TTOK P tt) (hS : SpecsOK P sp) {Q : Exit → Act → World → Prop} : ∀ {l : List Nat} {st stf : St} {rs : List Rec}, lexrun tt sp γ ops base l st = some (rs, stf) → (∀ r ∈ rs, r.ok) → ∀ {a : Act} {w : World}, Reps B st a w →
    (∀ a' w', Reps B stf a' w' → Q .normal a' w') → wpOpsIn (Fr ρ) 0 P ops Q l a w
  | [], st, stf, rs, h, _, a, w, hr, hQ => by
    simp only [lexrun, Option.some.injEq, Prod.mk.injEq] at h
    obtain ⟨_, rfl⟩ := h
    exact hQ _ _ hr
  | i :: l, st, stf, rs, h, hp, a, w, hr, hQ => by
    simp only [lexrun] at h
    split at h
    · cases h
    · rename_i o ho
      split at h
      · cases h
      · rename_i r st' hs
        split at h
        · cases h
        · rename_i rs' stf' hl
          simp only [Option.some.injEq, Prod.mk.injEq] at h
          obtain ⟨rfl, rfl⟩ := h
          rw [wpOpsIn_cons]
          unfold wpOpIn
          rw [ho]
          have := step_ok (P := P) hT hS hs (hp r (by simp)) hr (ρ := ρ) (K := wpOpsIn (Fr ρ) 0 P ops Q l) (Q := Q) (fun a' w' hr' => lexrun_ok hT hS hl (fun x hx => hp x (by simp [hx])) hr' hQ)
          simp only
          split
          · rename_i hw; rw [if_pos hw] at this; exact this
          · rename_i hw; rw [if_neg hw] at this; exact ⟨fun _ _ => trivial, this⟩
end
end Go.Sym
/- Regions whose order the model draws: if two operations that do not wait for each other do not meet, one run in the text's order stands for all. -/
namespace Go.Sym
open Go.RowKit

/-- Does i wait for q? -/
def dep (ops : Array Oper) : Nat → Nat → Nat → Bool
  | 0, _, _ => false
  | f + 1, q, i => match ops[i]? with
    | some o => o.after.toList.any fun e => Region.binds .any e && (e.on == q || dep ops f q e.on)
    | none => false
def apartB (ops : Array Oper) (q i : Nat) : Bool :=
  match ops[q]?, ops[i]? with
  | some a, some b => a.apart ops b
  | _, _ => false
def disj (q i : Rec) : Bool := (q.W.all fun n => !i.R.contains n && !i.W.contains n) && (i.W.all fun n => !q.R.contains n)
def pairOK (ops : Array Oper) (q i : Rec) : Bool := dep ops ops.size q.i i.i || (apartB ops q.i i.i && disj q i)
def pairs (ops : Array Oper) : List Rec → Bool
  | [] => true
  | q :: rest => (rest.all (pairOK ops q)) && pairs ops rest
def edgesDown (ops : Array Oper) : Bool := ops.toList.zipIdx.all fun (o, i) => o.after.toList.all fun e => !Region.binds .any e || decide (e.on < i)

def Down (ops : Array Oper) (listed : Array Bool) : Prop := ∀ (i : Nat) (o : Oper), ops[i]? = some o → listed.getD i true = true → ∀ e ∈ o.after, Region.binds .any e = true → listed.getD e.on false = true

theorem getD_false_true {l : Array Bool} {i : Nat} (h : l.getD i false = true) : l.getD i true = true := by
  rw [Array.getD_eq_getD_getElem?] at *
  cases hx : l[i]? with
  | none => rw [hx] at h; cases h
  | some b => rw [hx] at h; simpa using h

theorem dep_listed {ops : Array Oper} {listed : Array Bool} (hd : Down ops listed) : ∀ (f q i : Nat) (o : Oper), ops[i]? = some o → (∀ e ∈ o.after, Region.binds .any e = true → listed.getD e.on false = true) → dep ops f q i = true → listed.getD q false = true
  | 0, _, _, _, _, _, h => by simp [dep] at h
  | f + 1, q, i, o, ho, hr, h => by
    simp only [dep, ho, List.any_eq_true, Bool.and_eq_true, Bool.or_eq_true, beq_iff_eq] at h
    obtain ⟨e, he, hb, h⟩ := h
    have he' : e ∈ o.after := by simpa using he
    have h1 := hr e he' hb
    rcases h with h | h
    · rw [← h]; exact h1
    · cases hx : ops[e.on]? with
      | none =>
        cases f with
        | zero => simp [dep] at h
        | succ f => simp [dep, hx] at h
      | some o' => exact dep_listed hd f q e.on o' hx (fun e' h2 h3 => hd e.on o' hx (getD_false_true h1) e' h2 h3) h

section
variable [GLob] {tt : TT} {sp : Specs} {γ : Gam} {ops : Array Oper} {base : Nat}

theorem TR_put {T : List SV} {ts : List Tmp} {dst : Option Tmp} {v : SV} (h : ∀ d, dst = some d → d ∉ ts) : TR (putT T dst v) ts = TR T ts := by
  have _ := ‹GLob›
  funext x
  cases x with
  | tmp t =>
    simp only [TR]
    split
    · rename_i hc
      cases dst with
      | none => rfl
      | some d =>
        have hne : d ≠ t := by rintro rfl; exact h d rfl (by simpa using hc)
        simp only [putT, List.getD_eq_getElem?_getD, List.getElem?_set_ne hne]
    · rfl
  | _ => rfl
theorem putT_comm {T : List SV} {d e : Option Tmp} {v u : SV} (h : ∀ x, d = some x → e ≠ some x) : putT (putT T d v) e u = putT (putT T e u) d v := by
  have _ := ‹GLob›
  cases d with
  | none => rfl
  | some d =>
    cases e with
    | none => rfl
    | some e =>
      have hne : d ≠ e := fun h' => h d rfl (by rw [h'])
      simp only [putT, List.set_comm _ _ hne]
theorem applyWs_get : ∀ (ws : List (Nat × Blk)) (M : List (Option Blk)) (n : Nat), (∀ p ∈ ws, p.1 ≠ n) → (applyWs M ws)[n]? = M[n]?
  | [], _, _, _ => have _ := ‹GLob›; rfl
  | p :: ws, M, n, h => by
    have h1 : p.1 ≠ n := h p (by simp)
    show (applyWs (M.set p.1 (some p.2)) ws)[n]? = _
    rw [applyWs_get ws _ n (fun q hq => h q (by simp [hq])), List.getElem?_set_ne h1]
theorem applyWs_set : ∀ (ws : List (Nat × Blk)) (M : List (Option Blk)) (n : Nat) (b : Blk), (∀ p ∈ ws, p.1 ≠ n) → applyWs (M.set n (some b)) ws = (applyWs M ws).set n (some b)
  | [], _, _, _, _ => have _ := ‹GLob›; rfl
  | p :: ws, M, n, b, h => by
    have h1 : p.1 ≠ n := h p (by simp)
    show applyWs ((M.set n (some b)).set p.1 (some p.2)) ws = (applyWs (M.set p.1 (some p.2)) ws).set n (some b)
    rw [List.set_comm _ _ (Ne.symm h1), applyWs_set ws _ n b (fun q hq => h q (by simp [hq]))]
theorem applyWs_comm : ∀ (ws vs : List (Nat × Blk)) (M : List (Option Blk)), (∀ p ∈ ws, ∀ q ∈ vs, p.1 ≠ q.1) → applyWs (applyWs M ws) vs = applyWs (applyWs M vs) ws
  | [], _, _, _ => rfl
  | p :: ws, vs, M, h => by
    show applyWs (applyWs (M.set p.1 (some p.2)) ws) vs = applyWs ((applyWs M vs).set p.1 (some p.2)) ws
    rw [applyWs_comm ws vs _ (fun x hx q hq => h x (by simp [hx]) q hq), applyWs_set vs M p.1 p.2 (fun q hq => Ne.symm (h p (by simp) q hq))]

theorem reads_congr {M M' : List (Option Blk)} {ρ : Operand → SV} {op : Op} (h : ∀ n ∈ reads M ρ op, M'.getD n none = M.getD n none) : reads M' ρ op = reads M ρ op := by
  have _ := ‹GLob›
  cases op <;> first | rfl | (rename_i mx; cases mx <;> rfl; done) | skip
  rename_i c
  simp only [reads, inner] at h ⊢
  congr 1
  have : ∀ n ∈ namesL (c.operands.toList.map ρ), M'.getD n none = M.getD n none := fun n hn => h n (List.mem_append.2 (.inl hn))
  generalize namesL (c.operands.toList.map ρ) = ns at this
  clear h
  induction ns with
  | nil => rfl
  | cons n ns ih => simp only [List.flatMap_cons, this n (by simp), ih (fun m hm => this m (by simp [hm]))]
/-- A step's parts: what it sees, and what it does. -/
theorem stepI_cases {i : Nat} {o : Oper} {st st' : St} {r : Rec} (h : stepI tt sp γ ops base i o st = some (r, st')) :
    ∃ (ws : List (Nat × Blk)) (sv : SV), st' = ⟨putT st.T o.dst sv, applyWs st.M ws⟩ ∧ r.i = i ∧ (∀ p ∈ ws, p.1 ∈ r.W) ∧
      ∀ st1 : St, TR st1.T (o.looksAt ops) = TR st.T (o.looksAt ops) → (∀ n ∈ r.R, st1.M[n]? = st.M[n]?) → (∀ n ∈ r.W, st1.M[n]? = st.M[n]?) →
        stepI tt sp γ ops base i o st1 = some (r, ⟨putT st1.T o.dst sv, applyWs st1.M ws⟩) := by
  unfold stepI at h
  simp only at h
  split at h
  · cases h
  · rename_i hw
    simp only [Option.some.injEq, Prod.mk.injEq] at h
    obtain ⟨rfl, rfl⟩ := h
    refine ⟨[], .undef, rfl, rfl, by simp, fun st1 h1 _ _ => ?_⟩
    unfold stepI
    simp only [h1, hw]
    rfl
  · rename_i hw
    split at h
    · cases h
    · rename_i out hout
      split at h
      · rename_i hcond
        split at h
        · cases h
        · rename_i p sv hfix
          simp only [Option.some.injEq, Prod.mk.injEq] at h
          obtain ⟨rfl, rfl⟩ := h
          refine ⟨out.ws, sv, rfl, rfl, mem_writes.1, fun st1 h1 h2 h3 => ?_⟩
          unfold stepI
          simp only [h1, hw]
          have hrd : reads st1.M (TR st.T (o.looksAt ops)) o.op = reads st.M (TR st.T (o.looksAt ops)) o.op := reads_congr fun n hn => by
            have := h2 n hn
            rw [List.getD_eq_getElem?_getD, List.getD_eq_getElem?_getD, this]
          have hl : (fun n => if (reads st1.M (TR st.T (o.looksAt ops)) o.op).contains n then st1.M.getD n none else none) = (fun n => if (reads st.M (TR st.T (o.looksAt ops)) o.op).contains n then st.M.getD n none else none) := by
            funext n
            rw [hrd]
            split
            · rename_i hc
              have := h2 n (by simpa using hc)
              rw [List.getD_eq_getElem?_getD, List.getD_eq_getElem?_getD, this]
            · rfl
          have hmk : makes sp (TR st.T (o.looksAt ops)) o.op = true → st1.M[base + i]? = st.M[base + i]? := fun hm => h3 _ (mem_writes.2 hm)
          rw [hl, hout]
          simp only [okW_congr hmk, hcond, if_true, hfix, hrd]
      · cases h

/-- Two operations that do not meet may change places. -/
theorem swap {q i : Nat} {oq oi : Oper} {st s1 s2 : St} {rq ri : Rec} (hq : stepI tt sp γ ops base q oq st = some (rq, s1)) (hi : stepI tt sp γ ops base i oi s1 = some (ri, s2)) (hap : oq.apart ops oi = true) (hd : disj rq ri = true) :
    ∃ s1', stepI tt sp γ ops base i oi st = some (ri, s1') ∧ stepI tt sp γ ops base q oq s1' = some (rq, s2) := by
  obtain ⟨a1, a2, a3⟩ := Oper.apart_spec hap
  obtain ⟨wq, svq, rfl, _, hwq, Hq⟩ := stepI_cases hq
  obtain ⟨wi, svi, rfl, _, hwi, Hi⟩ := stepI_cases hi
  unfold disj at hd
  simp only [Bool.and_eq_true, List.all_eq_true, Bool.not_eq_true'] at hd
  obtain ⟨d1, d2⟩ := hd
  have e1 : ∀ n ∈ ri.R, ∀ p ∈ wq, p.1 ≠ n := fun n hn p hp e => by
    have := (d1 p.1 (hwq p hp)).1; rw [e] at this; rw [List.contains_iff_mem.2 hn] at this; cases this
  have e2 : ∀ n ∈ ri.W, ∀ p ∈ wq, p.1 ≠ n := fun n hn p hp e => by
    have := (d1 p.1 (hwq p hp)).2; rw [e] at this; rw [List.contains_iff_mem.2 hn] at this; cases this
  have e3 : ∀ n ∈ rq.R, ∀ p ∈ wi, p.1 ≠ n := fun n hn p hp e => by
    have := d2 p.1 (hwi p hp); rw [e] at this; rw [List.contains_iff_mem.2 hn] at this; cases this
  have e4 : ∀ n ∈ rq.W, ∀ p ∈ wi, p.1 ≠ n := fun n hn p hp e => by
    have := (d1 n hn).2; rw [← e] at this; rw [List.contains_iff_mem.2 (hwi p hp)] at this; cases this
  have H1 := Hi st (TR_put a1).symm (fun n hn => (applyWs_get wq st.M n (e1 n hn)).symm) (fun n hn => (applyWs_get wq st.M n (e2 n hn)).symm)
  have H2 := Hq ⟨putT st.T oi.dst svi, applyWs st.M wi⟩ (TR_put a3) (fun n hn => applyWs_get wi st.M n (e3 n hn)) (fun n hn => applyWs_get wi st.M n (e4 n hn))
  refine ⟨_, H1, ?_⟩
  rw [H2]
  congr 3
  · rw [putT_comm (fun x hx => fun h => a2 x h hx)]
  · exact (applyWs_comm wq wi st.M (fun p hp x hx => fun e => e4 p.1 (hwq p hp) x hx e.symm)).symm

/-- One that waits for nothing that is left may be taken first. -/
theorem pull {listed : Array Bool} (hdn : Down ops listed) {i : Nat} {oi : Oper} (hoi : ops[i]? = some oi) (hready : ∀ e ∈ oi.after, Region.binds .any e = true → listed.getD e.on false = true) :
    ∀ (pre post : List Nat) (st stf : St) (rs : List Rec), lexrun tt sp γ ops base (pre ++ i :: post) st = some (rs, stf) → (∀ q ∈ pre, listed.getD q true = false) → pairs ops rs = true →
      ∃ r s1 rs', stepI tt sp γ ops base i oi st = some (r, s1) ∧ lexrun tt sp γ ops base (pre ++ post) s1 = some (rs', stf) ∧ pairs ops rs' = true ∧ (∀ x, x ∈ rs ↔ x = r ∨ x ∈ rs')
  | [], post, st, stf, rs, h, _, hpr => by
    simp only [List.nil_append, lexrun, hoi] at h
    split at h
    · cases h
    · rename_i r s1 hs
      split at h
      · cases h
      · rename_i rs' stf' hl
        simp only [Option.some.injEq, Prod.mk.injEq] at h
        obtain ⟨rfl, rfl⟩ := h
        simp only [pairs, Bool.and_eq_true] at hpr
        exact ⟨r, s1, rs', hs, hl, hpr.2, fun x => by simp⟩
  | q :: pre, post, st, stf, rs, h, hun, hpr => by
    simp only [List.cons_append, lexrun] at h
    split at h
    · cases h
    · rename_i oq hoq
      split at h
      · cases h
      · rename_i rq s1 hs
        split at h
        · cases h
        · rename_i rs0 stf' hl
          simp only [Option.some.injEq, Prod.mk.injEq] at h
          obtain ⟨rfl, rfl⟩ := h
          simp only [pairs, Bool.and_eq_true, List.all_eq_true] at hpr
          obtain ⟨hp1, hp2⟩ := hpr
          obtain ⟨ri, s2, rs', h1, h2, h3, h4⟩ := pull hdn hoi hready pre post s1 stf' rs0 hl (fun x hx => hun x (by simp [hx])) hp2
          have hok := hp1 ri ((h4 ri).2 (.inl rfl))
          obtain ⟨_, _, _, eq1, _, _⟩ := stepI_cases hs
          obtain ⟨_, _, _, ei1, _, _⟩ := stepI_cases h1
          unfold pairOK at hok
          rw [eq1, ei1] at hok
          have hnd : dep ops ops.size q i = false := by
            cases hx : dep ops ops.size q i with
            | false => rfl
            | true =>
              have := getD_false_true (dep_listed hdn _ _ _ _ hoi hready hx)
              rw [hun q (by simp)] at this; cases this
          rw [hnd, Bool.false_or, Bool.and_eq_true] at hok
          have hap : oq.apart ops oi = true := by have := hok.1; unfold apartB at this; rw [hoq, hoi] at this; exact this
          obtain ⟨s1', g1, g2⟩ := swap hs h1 hap hok.2
          refine ⟨ri, s1', rq :: rs', g1, ?_, ?_, ?_⟩
          · simp only [List.cons_append, lexrun, hoq, g2, h2]
          · simp only [pairs, Bool.and_eq_true, List.all_eq_true]
            exact ⟨fun x hx => hp1 x ((h4 x).2 (.inr hx)), h3⟩
          · intro x
            simp only [List.mem_cons, h4 x]
            constructor
            · rintro (h | h | h)
              · exact .inr (.inl h)
              · exact .inl h
              · exact .inr (.inr h)
            · rintro (h | h | h)
              · exact .inr (.inl h)
              · exact .inl h
              · exact .inr (.inr h)
end

section
variable [GLob] {P : Program} {tt : TT} {sp : Specs} {γ : Gam} {ops : Array Oper} {base : Nat} {B : Base}

theorem edgesDown_ok (h : edgesDown ops = true) {i : Nat} {o : Oper} (ho : ops[i]? = some o) : ∀ e ∈ o.after, Region.binds .any e = true → e.on < i := by
  have _ := ‹GLob›
  intro e he hb
  unfold edgesDown at h
  simp only [List.all_eq_true] at h
  have hm : (o, i) ∈ ops.toList.zipIdx := by
    rw [List.mem_zipIdx_iff_getElem?]; simpa using ho
  have := h (o, i) hm
  simp only at this
  have := this e (by simpa using he)
  rw [hb] at this
  simpa using this

theorem min_mem : ∀ (l : List Nat), l ≠ [] → ∃ m ∈ l, ∀ x ∈ l, m ≤ x
  | [], h => have _ := ‹GLob›; absurd rfl h
  | [a], _ => ⟨a, by simp, by simp⟩
  | a :: b :: l, _ => by
    obtain ⟨m, h1, h2⟩ := min_mem (b :: l) (by simp)
    by_cases h : a ≤ m
    · exact ⟨a, by simp, fun x hx => by
        rcases List.mem_cons.1 hx with rfl | hx
        · exact Nat.le_refl _
        · exact Nat.le_trans h (h2 x hx)⟩
    · exact ⟨m, List.mem_cons_of_mem _ h1, fun x hx => by
        rcases List.mem_cons.1 hx with rfl | hx
        · omega
        · exact h2 x hx⟩

theorem any_ok {ρ : Option Nat} (hT : TTOK P tt) (hS : SpecsOK P sp) (hE : edgesDown ops = true) {Q : Exit → Act → World → Prop} {stf : St} (hQ : ∀ a w, Reps B stf a w → Q .normal a w) :
    ∀ (n : Nat) (l : List Nat) (listed : Array Bool) (st : St) (rs : List Rec), l.length = n → l.Nodup → (∀ i, i ∈ l ↔ i < ops.size ∧ listed.getD i true = false) → listed.size = ops.size → Down ops listed →
      lexrun tt sp γ ops base l st = some (rs, stf) → pairs ops rs = true → (∀ r ∈ rs, r.ok) → ∀ a w, Reps B st a w → wpAnyIn (Fr ρ) 0 P .any ops Q n listed a w
  | 0, l, listed, st, rs, hn, _, hl, _, _, hrun, _, _, a, w, hr => by
    have : l = [] := List.eq_nil_of_length_eq_zero hn
    subst this
    simp only [lexrun, Option.some.injEq, Prod.mk.injEq] at hrun
    obtain ⟨_, rfl⟩ := hrun
    refine ⟨?_, hQ a w hr⟩
    rw [List.eq_nil_iff_forall_not_mem]
    intro j hj
    obtain ⟨h1, o, h2, _⟩ := mem_ready.1 hj
    have := (hl j).2 ⟨(Array.getElem?_eq_some_iff.1 h2).1, h1⟩
    cases this
  | n + 1, l, listed, st, rs, hn, hnd, hl, hsz, hdn, hrun, hpr, hpre, a, w, hr => by
    refine ⟨fun hnil => ?_, fun i hi => ?_⟩
    · exfalso
      obtain ⟨m, hm1, hm2⟩ := min_mem l (by intro e; rw [e] at hn; cases hn)
      obtain ⟨hm3, hm4⟩ := (hl m).1 hm1
      have : m ∈ Region.ready .any ops listed := by
        rw [mem_ready]
        refine ⟨hm4, ops[m], Array.getElem?_eq_getElem hm3, fun e he hb => ?_⟩
        have hlt := edgesDown_ok hE (Array.getElem?_eq_getElem hm3) e he hb
        have hno : e.on ∉ l := fun h => by have := hm2 _ h; omega
        have hx : ¬ (listed.getD e.on true = false) := fun h => hno ((hl e.on).2 ⟨by omega, h⟩)
        rw [Array.getD_eq_getD_getElem?] at hx ⊢
        have hlt' : e.on < listed.size := by omega
        simp only [Array.getElem?_eq_getElem hlt', Option.getD_some, Bool.not_eq_false] at hx ⊢
        exact hx
      rw [hnil] at this; cases this
    · obtain ⟨h1, o, h2, h3⟩ := mem_ready.1 hi
      have hil : i ∈ l := (hl i).2 ⟨(Array.getElem?_eq_some_iff.1 h2).1, h1⟩
      obtain ⟨pre, post, rfl⟩ := List.append_of_mem hil
      have hnp := List.nodup_append.1 hnd
      obtain ⟨r, s1, rs', g1, g2, g3, g4⟩ := pull hdn h2 h3 pre post st stf rs hrun (fun q hq => ((hl q).1 (by simp [hq])).2) hpr
      have hni : i ∉ pre ++ post := by
        have h := hnd
        rw [List.nodup_append] at h
        obtain ⟨_, h5, h6⟩ := h
        rw [List.nodup_cons] at h5
        intro hx
        rcases List.mem_append.1 hx with hx | hx
        · exact h6 i hx i (by simp) rfl
        · exact h5.1 hx
      have hlt : i < listed.size := by have := (Array.getElem?_eq_some_iff.1 h2).1; omega
      unfold wpOpIn
      rw [h2]
      simp only
      have hstep := step_ok (P := P) (ρ := ρ) hT hS g1 (hpre r ((g4 r).2 (.inl rfl))) hr (K := wpAnyIn (Fr ρ) 0 P .any ops Q n (listed.setIfInBounds i true)) (Q := Q) (fun a' w' hr' => by
        refine any_ok hT hS hE hQ n (pre ++ post) (listed.setIfInBounds i true) s1 rs' ?_ ?_ ?_ (by simpa using hsz) ?_ g2 g3 (fun x hx => hpre x ((g4 x).2 (.inr hx))) a' w' hr'
        · simp at hn ⊢; omega
        · have h := hnd
          rw [List.nodup_append] at h ⊢
          obtain ⟨h5, h6, h7⟩ := h
          rw [List.nodup_cons] at h6
          exact ⟨h5, h6.2, fun x hx y hy => h7 x hx y (by simp [hy])⟩
        · intro j
          by_cases hj : i = j
          · subst hj
            constructor
            · intro h; exact absurd h hni
            · rintro ⟨_, h⟩
              rw [Array.getD_eq_getD_getElem?, Array.getElem?_setIfInBounds_self_of_lt hlt] at h
              cases h
          · rw [getD_set_ne true hj]
            have := hl j
            simp only [List.mem_append, List.mem_cons] at this ⊢
            rw [← this]
            constructor
            · rintro (h | h)
              · exact .inl h
              · exact .inr (.inr h)
            · rintro (h | h | h)
              · exact .inl h
              · exact absurd h.symm hj
              · exact .inr h
        · intro j oj hoj hlj e he hb
          by_cases hj : i = j
          · subst hj
            rw [h2] at hoj; cases hoj
            exact getD_set_true (h3 e he hb)
          · rw [getD_set_ne true hj] at hlj
            exact getD_set_true (hdn j oj hoj hlj e he hb))
      split
      · rename_i hw; rw [if_pos hw] at hstep; exact hstep
      · rename_i hw; rw [if_neg hw] at hstep; exact ⟨fun _ _ => trivial, hstep⟩

/-- A region whose order is drawn. -/
theorem draw_ok {ρ : Option Nat} (hm : P.follows .mixedOrders = true) (hT : TTOK P tt) (hS : SpecsOK P sp) {id : Nat} {Q : Exit → Act → World → Prop} {st stf : St} {rs : List Rec} (hE : edgesDown ops = true) (hrun : lexrun tt sp γ ops base (List.range ops.size) st = some (rs, stf))
    (hpr : pairs ops rs = true) (hpre : ∀ r ∈ rs, r.ok) {a : Act} {w : World} (hr : Reps B st a w) (hQ : ∀ a w, Reps B stf a w → Q .normal a w) : (Code.region id ops true).wpIn (Fr ρ) 0 P Q a w := by
  refine wpIn_region_any hm ?_
  refine any_ok hT hS hE hQ ops.size (List.range ops.size) _ st rs (by simp) List.nodup_range ?_ (by simp) ?_ hrun hpr hpre a _ ?_
  · intro i
    rw [List.mem_range]
    constructor
    · intro h; exact ⟨h, by rw [Array.getD_eq_getD_getElem?]; simp [h]⟩
    · exact fun h => h.1
  · intro i o ho hl
    have hlt := (Array.getElem?_eq_some_iff.1 ho).1
    rw [Array.getD_eq_getD_getElem?] at hl
    simp [hlt] at hl
  · obtain ⟨at_, h⟩ := hr
    have hl := Later.drew at_ w
    exact ⟨at_, h.later.trans hl, h.mem.later_free (fun _ _ => rfl) (Nat.le_refl _) hl, RelL.later hl _ _ h.tmp, h.defers, h.obs.later hl⟩
/-- A region in the text's order. -/
theorem plain_ok {ρ : Option Nat} (hT : TTOK P tt) (hS : SpecsOK P sp) {id : Nat} {Q : Exit → Act → World → Prop} {st stf : St} {rs : List Rec} (hrun : lexrun tt sp γ ops base (List.range ops.size) st = some (rs, stf))
    (hpre : ∀ r ∈ rs, r.ok) {a : Act} {w : World} (hr : Reps B st a w) (hQ : ∀ a w, Reps B stf a w → Q .normal a w) : (Code.region id ops false).wpIn (Fr ρ) 0 P Q a w :=
  wpIn_region (lexrun_ok hT hS hrun hpre hr hQ)
end
end Go.Sym
/- Code of the symbolic machine: what is to be shown for a body, as one proposition that a machine can compute. -/
namespace Go.Sym
open Go.RowKit

abbrev KT := Exit → St → Prop

def conj (p : Option Prop) (q : Prop) : Prop :=
  match p with
  | none => q
  | some p => p ∧ q
def bcase (b : Bool) (x y : Prop) : Prop :=
  match b with
  | true => x
  | false => y

def condTs : Operand → List Tmp
  | .tmp t => [t]
  | _ => []
def setC (T : List SV) (c : Operand) (b : Bool) : List SV :=
  match c with
  | .tmp t => T.set t (.bool b)
  | _ => T
def guardsOf (ops : Array Oper) : List Nat := ops.toList.filterMap fun o => o.guard.map (·.1)

/-- One after the other; where an operation tells whether others run, both ways. -/
def explore [GLob] (tt : TT) (sp : Specs) (ops : Array Oper) (base : Nat) (J : List Nat) (D : Gam) (K : List Rec → St → Prop) : List Nat → List Rec → St → Prop
  | [], acc, st => K acc.reverse st
  | i :: l, acc, st => match ops[i]? with
    | none => False
    | some o => match stepI tt sp [] ops base i o st with
      | none => False
      | some (r, st') => conj r.pre (if J.contains i then
          match wants ops o (TR st.T (o.looksAt ops)) with
          | some true => match o.dst with
            | some d => match st'.T.getD d .any with
              | .bool b => bcase b (explore tt sp ops base J D K l ({ r with fx := some (b = true) } :: acc) ⟨st'.T.set d (.bool true), st'.M⟩) (explore tt sp ops base J D K l ({ r with fx := some (b = false) } :: acc) ⟨st'.T.set d (.bool false), st'.M⟩)
              | _ => False
            | none => False
          | _ => explore tt sp ops base J D K l (r :: acc) st'
        else match D.lookup i with
          | none => explore tt sp ops base J D K l (r :: acc) st'
          | some dv => match wants ops o (TR st.T (o.looksAt ops)) with
            | some true => match o.dst with
              | some d => match dv.fix (st'.T.getD d .any) with
                | some q => conj (some q.1) (explore tt sp ops base J D K l ({ r with fx := some q.1 } :: acc) ⟨st'.T.set d q.2, st'.M⟩)
                | none => False
              | none => False
            | _ => explore tt sp ops base J D K l (r :: acc) st')

def extend (sp : Specs) (ops : Array Oper) (M : List (Option Blk)) : List (Option Blk) := if (ops.toList.any fun o => mayMake sp o.op) then M ++ List.replicate ops.size none else M
/-- What is decided ahead of a region's tests. -/
abbrev Dec := List (Nat × Nat × DV)
def Dec.of : Dec → Nat → Gam
  | [], _ => []
  | d :: D, id => if d.1 = id then d.2 :: Dec.of D id else Dec.of D id
def regionVC [GLob] (tt : TT) (sp : Specs) (D : Gam) (ops : Array Oper) (draw : Bool) (K : St → Prop) (st : St) : Prop :=
  explore tt sp ops st.M.length (guardsOf ops) D (fun rs stf => bcase (!draw || (edgesDown ops && pairs ops rs)) (K stf) False) (List.range ops.size) [] ⟨st.T, extend sp ops st.M⟩

def loopVC (body : St → KT → Prop) (K : KT) : Nat → St → Prop
  | 0, _ => False
  | n + 1, st => body st fun e st' => match e with
    | .normal => loopVC body K n st'
    | e => K e st'

def vc [GLob] (tt : TT) (sp : Specs) (fuel : Nat) (D : Dec) : Code → St → KT → Prop
  | .skip, st, K => K .normal st
  | .region id ops draw, st, K => regionVC tt sp (D.of id) ops draw (K .normal) st
  | .seq a b, st, K => vc tt sp fuel D a st fun e st' => match e with
    | .normal => vc tt sp fuel D b st' K
    | e => K e st'
  | .cond c x y, st, K => match TR st.T (condTs c) c with
    | .bool b => bcase b (vc tt sp fuel D x ⟨setC st.T c true, st.M⟩ K) (vc tt sp fuel D y ⟨setC st.T c false, st.M⟩ K)
    | _ => False
  | .block id c, st, K => vc tt sp fuel D c st fun e st' => match e with
    | .exit id' => if id' = id then K .normal st' else K (.exit id') st'
    | e => K e st'
  | .loop c, st, K => loopVC (vc tt sp fuel D c) K fuel st
  | .exit id, st, K => K (.exit id) st
  | .label _, st, K => K .normal st
  | .ret, st, K => K .ret st
  | _, _, _ => False

/-! What it says of the model. -/
section
variable [GLob] {P : Program} {tt : TT} {sp : Specs} {B : Base}

theorem bcase_ok {b : Bool} {x y : Prop} (h : bcase b x y) : (b = true → x) ∧ (b = false → y) := by
  have _ := ‹GLob›
  cases b
  · exact ⟨fun e => (by cases e), fun _ => h⟩
  · exact ⟨fun _ => h, fun e => (by cases e)⟩
theorem conj_ok {p : Option Prop} {q : Prop} (h : conj p q) : Ok p ∧ q := by
  have _ := ‹GLob›
  cases p with
  | none => exact ⟨trivial, h⟩
  | some p => exact h

theorem fixed_nil (i : Nat) (sv : SV) : fixed [] i sv = some (none, sv) := have _ := ‹GLob›; rfl

/-- A step under decisions, from the step without. -/
theorem stepI_gamma {γ : Gam} {ops : Array Oper} {base i : Nat} {o : Oper} {st st' : St} {r : Rec} (h : stepI tt sp [] ops base i o st = some (r, st')) :
    (γ.lookup i = none → stepI tt sp γ ops base i o st = some (r, st')) ∧
    (wants ops o (TR st.T (o.looksAt ops)) ≠ some true → stepI tt sp γ ops base i o st = some (r, st')) ∧
    (∀ d dv q, γ.lookup i = some dv → o.dst = some d → dv.fix (st'.T.getD d .any) = some q → stepI tt sp γ ops base i o st = some ({ r with fx := some q.1 }, ⟨st'.T.set d q.2, st'.M⟩) ∨ wants ops o (TR st.T (o.looksAt ops)) ≠ some true) := by
  have eqn : ∀ γ : Gam, stepI tt sp γ ops base i o st = match wants ops o (TR st.T (o.looksAt ops)) with
      | none => none
      | some false => some (⟨i, none, none, [], []⟩, ⟨putT st.T o.dst .undef, st.M⟩)
      | some true => match core tt sp (fun n => if (reads st.M (TR st.T (o.looksAt ops)) o.op).contains n then st.M.getD n none else none) (base + i) (TR st.T (o.looksAt ops)) o.op with
        | none => none
        | some out => if okW (makes sp (TR st.T (o.looksAt ops)) o.op) st.M (base + i) = true then
            match fixed γ i out.sv with
            | none => none
            | some (p, sv) => some (⟨i, out.pre, p, reads st.M (TR st.T (o.looksAt ops)) o.op, writes sp (TR st.T (o.looksAt ops)) (base + i) o.op out⟩, ⟨putT st.T o.dst sv, applyWs st.M out.ws⟩)
          else none := fun _ => rfl
  rw [eqn] at h ⊢
  cases hw : wants ops o (TR st.T (o.looksAt ops)) with
  | none => rw [hw] at h; cases h
  | some b =>
    rw [hw] at h
    cases b with
    | false => exact ⟨fun _ => h, fun _ => h, fun _ _ _ _ _ _ => .inr (by simp)⟩
    | true =>
      simp only at h
      split at h
      · cases h
      · rename_i out hout
        split at h
        · rename_i hcond
          simp only [hcond, if_true]
          rw [fixed_nil] at h
          simp only [Option.some.injEq, Prod.mk.injEq] at h
          obtain ⟨rfl, rfl⟩ := h
          refine ⟨fun hg => by simp only [fixed, hg], fun hne => absurd rfl hne, fun d dv q hg hd hT => .inl ?_⟩
          by_cases hlt : d < st.T.length
          · simp only [putT, hd, List.getD_eq_getElem?_getD, List.getElem?_set_self hlt, Option.getD_some] at hT
            simp only [fixed, hg, hT, putT, hd, List.set_set]
          · exfalso
            have hle : (st.T.set d out.sv).length ≤ d := by rw [List.length_set]; exact Nat.le_of_not_lt hlt
            simp only [putT, hd, List.getD_eq_getElem?_getD, List.getElem?_eq_none hle, Option.getD_none] at hT
            cases dv <;> cases hT
        · cases h

theorem lookup_append_none {l m : Gam} {i : Nat} (h : ∀ p ∈ l, p.1 ≠ i) : (l ++ m).lookup i = m.lookup i := by
  have _ := ‹GLob›
  induction l with
  | nil => rfl
  | cons p l ih =>
    rw [List.cons_append, List.lookup_cons]
    have : (i == p.1) = false := by simpa using fun e => h p (by simp) e.symm
    rw [this]
    exact ih (fun q hq => h q (by simp [hq]))

theorem explore_ok {ops : Array Oper} {base : Nat} {J : List Nat} {D : Gam} {K : List Rec → St → Prop} : ∀ (l : List Nat) (acc : List Rec) (st : St), l.Nodup → explore tt sp ops base J D K l acc st →
    ∃ (γ : Gam) (rs : List Rec) (stf : St), (∀ p ∈ γ, p.1 ∈ l) ∧ (∀ γ' : Gam, (∀ i ∈ l, γ'.lookup i = γ.lookup i) → lexrun tt sp γ' ops base l st = some (rs, stf)) ∧ (∀ r ∈ rs, r.ok) ∧ K (acc.reverse ++ rs) stf
  | [], acc, st, _, h => ⟨[], [], st, by simp, fun _ _ => rfl, by simp, by simpa [explore] using h⟩
  | i :: l, acc, st, hnd, h => by
    simp only [explore] at h
    split at h
    · exact h.elim
    · rename_i o ho
      split at h
      · exact h.elim
      · rename_i r st' hs
        rw [List.nodup_cons] at hnd
        obtain ⟨hpre, h⟩ := conj_ok h
        -- without a decision
        have plain : explore tt sp ops base J D K l (r :: acc) st' → Ok r.fx → (∀ γ : Gam, γ.lookup i = none → stepI tt sp γ ops base i o st = some (r, st')) ∨ (∀ γ : Gam, stepI tt sp γ ops base i o st = some (r, st')) →
            ∃ (γ : Gam) (rs : List Rec) (stf : St), (∀ p ∈ γ, p.1 ∈ i :: l) ∧ (∀ γ' : Gam, (∀ j ∈ i :: l, γ'.lookup j = γ.lookup j) → lexrun tt sp γ' ops base (i :: l) st = some (rs, stf)) ∧ (∀ r ∈ rs, r.ok) ∧ K (acc.reverse ++ rs) stf := by
          intro h hfx hstep
          obtain ⟨γ, rs, stf, h1, h2, h3, h4⟩ := explore_ok l (r :: acc) st' hnd.2 h
          refine ⟨γ, r :: rs, stf, fun p hp => List.mem_cons_of_mem _ (h1 p hp), fun γ' hγ => ?_, fun x hx => ?_, by simpa using h4⟩
          · have hnone : γ'.lookup i = none := by
              rw [hγ i (by simp)]
              have := lookup_append_none (l := γ) (m := []) (i := i) (fun p hp e => hnd.1 (e ▸ h1 p hp))
              simpa using this
            have hs' : stepI tt sp γ' ops base i o st = some (r, st') := by
              rcases hstep with hstep | hstep
              · exact hstep _ hnone
              · exact hstep _
            simp only [lexrun, ho, hs', h2 γ' (fun j hj => hγ j (List.mem_cons_of_mem _ hj))]
          · rcases List.mem_cons.1 hx with rfl | hx
            · exact ⟨hpre, hfx⟩
            · exact h3 x hx
        have hfx0 : Ok r.fx := by
          unfold stepI at hs
          simp only at hs
          split at hs
          · cases hs
          · simp only [Option.some.injEq, Prod.mk.injEq] at hs; rw [← hs.1]; trivial
          · split at hs
            · cases hs
            · split at hs
              · rw [fixed_nil] at hs; simp only [Option.some.injEq, Prod.mk.injEq] at hs; rw [← hs.1]; trivial
              · cases hs
        have dec : ∀ (d : Tmp) (dv : DV) (q : Prop × SV), o.dst = some d → dv.fix (st'.T.getD d .any) = some q → wants ops o (TR st.T (o.looksAt ops)) = some true → q.1 → explore tt sp ops base J D K l ({ r with fx := some q.1 } :: acc) ⟨st'.T.set d q.2, st'.M⟩ →
            ∃ (γ : Gam) (rs : List Rec) (stf : St), (∀ p ∈ γ, p.1 ∈ i :: l) ∧ (∀ γ' : Gam, (∀ j ∈ i :: l, γ'.lookup j = γ.lookup j) → lexrun tt sp γ' ops base (i :: l) st = some (rs, stf)) ∧ (∀ r ∈ rs, r.ok) ∧ K (acc.reverse ++ rs) stf := by
          intro d dv q hd hb hw hc h
          obtain ⟨γ, rs, stf, h1, h2, h3, h4⟩ := explore_ok l _ _ hnd.2 h
          refine ⟨(i, dv) :: γ, { r with fx := some q.1 } :: rs, stf, fun p hp => ?_, fun γ' hγ => ?_, fun x hx => ?_, by simpa using h4⟩
          · rcases List.mem_cons.1 hp with rfl | hp
            · simp
            · exact List.mem_cons_of_mem _ (h1 p hp)
          · have hi : γ'.lookup i = some dv := by rw [hγ i (by simp)]; simp
            have hs' : stepI tt sp γ' ops base i o st = some ({ r with fx := some q.1 }, ⟨st'.T.set d q.2, st'.M⟩) := by
              rcases (stepI_gamma (γ := γ') hs).2.2 d dv q hi hd hb with h | h
              · exact h
              · exact absurd hw h
            have hl : lexrun tt sp γ' ops base l ⟨st'.T.set d q.2, st'.M⟩ = some (rs, stf) := h2 γ' (fun j hj => by
              rw [hγ j (List.mem_cons_of_mem _ hj), List.lookup_cons]
              have : (j == i) = false := by
                simp only [beq_eq_false_iff_ne, ne_eq]
                intro e; subst e; exact hnd.1 hj
              rw [this])
            simp only [lexrun, ho, hs', hl]
          · rcases List.mem_cons.1 hx with rfl | hx
            · exact ⟨hpre, hc⟩
            · exact h3 x hx
        split at h
        · split at h
          · rename_i hw
            split at h
            · rename_i d hd
              split at h
              · rename_i b hb
                obtain ⟨ht, hf⟩ := bcase_ok h
                cases hbv : b with
                | true => exact dec d (.b true) (b = true, .bool true) hd (by rw [hb]; rfl) hw hbv (ht hbv)
                | false => exact dec d (.b false) (b = false, .bool false) hd (by rw [hb]; rfl) hw hbv (hf hbv)
              · exact h.elim
            · exact h.elim
          · rename_i hw
            exact plain h hfx0 (.inr fun γ => (stepI_gamma (γ := γ) hs).2.1 (fun e => hw e))
        · split at h
          · exact plain h hfx0 (.inl fun γ hγ => (stepI_gamma (γ := γ) hs).1 hγ)
          · rename_i b _
            split at h
            · rename_i hw
              split at h
              · rename_i d hd
                split at h
                · rename_i q hb'
                  obtain ⟨h1, h2⟩ := conj_ok h
                  exact dec d b q hd hb' hw h1 h2
                · exact h.elim
              · exact h.elim
            · rename_i hw
              exact plain h hfx0 (.inr fun γ => (stepI_gamma (γ := γ) hs).2.1 (fun e => hw e))

theorem Reps.extend {ops : Array Oper} {st : St} {a : Act} {w : World} (h : Reps B st a w) : Reps B ⟨st.T, extend sp ops st.M⟩ a w := by
  obtain ⟨at_, h⟩ := h
  refine ⟨at_, h.later, ?_, h.tmp, h.defers, h.obs⟩
  unfold Sym.extend
  split
  · have back : ∀ (n : Nat) (cs : Blk), (st.M ++ List.replicate ops.size none)[n]? = some (some cs) → st.M[n]? = some (some cs) := fun n cs e => by
      by_cases hn : n < st.M.length
      · rw [List.getElem?_append_left hn] at e; exact e
      · rw [List.getElem?_append_right (by omega), List.getElem?_replicate] at e
        split at e <;> cases e
    have forth : ∀ (n : Nat) (cs : Blk), st.M[n]? = some (some cs) → (st.M ++ List.replicate ops.size none)[n]? = some (some cs) := fun n cs e => by
      have hn : n < st.M.length := (List.getElem?_eq_some_iff.1 e).1
      rw [List.getElem?_append_left hn]; exact e
    refine ⟨fun n g cs e1 e => h.mem.blk n g cs e1 (back n cs e), h.mem.inj, fun n g e => ?_, h.mem.outlt, fun n l e => h.mem.glk n l (back n _ e), h.mem.ginj, h.mem.gap, fun n e => ?_, h.mem.gsz, h.mem.gout, h.mem.nout, h.mem.glb⟩
    · obtain ⟨h1, cs, h2⟩ := h.mem.dom n g e
      exact ⟨h1, cs, forth n cs h2⟩
    · obtain ⟨cs, h2⟩ := h.mem.gdom n e
      exact ⟨cs, forth n cs h2⟩
  · exact h.mem

theorem region_ok {ρ : Option Nat} (hm : P.follows .mixedOrders = true) (hT : TTOK P tt) (hS : SpecsOK P sp) {id : Nat} {D : Gam} {ops : Array Oper} {draw : Bool} {K : St → Prop} {st : St} (h : regionVC tt sp D ops draw K st) {a : Act} {w : World} (hr : Reps B st a w)
    {Q : Exit → Act → World → Prop} (hQ : ∀ st' a' w', K st' → Reps B st' a' w' → Q .normal a' w') : (Code.region id ops draw).wpIn (Fr ρ) 0 P Q a w := by
  obtain ⟨γ, rs, stf, _, h2, h3, h4⟩ := explore_ok _ _ _ List.nodup_range h
  have hrun := h2 γ (fun _ _ => rfl)
  simp only [List.reverse_nil, List.nil_append] at h4
  obtain ⟨h5, h6⟩ := bcase_ok h4
  cases hb : (!draw || (edgesDown ops && pairs ops rs)) with
  | false => exact (h6 hb).elim
  | true =>
    have hK := h5 hb
    cases draw with
    | false => exact plain_ok hT hS hrun h3 hr.extend (fun a' w' hr' => hQ stf a' w' hK hr')
    | true =>
      simp only [Bool.not_true, Bool.false_or, Bool.and_eq_true] at hb
      exact draw_ok hm hT hS hb.1 hrun hb.2 h3 hr.extend (fun a' w' hr' => hQ stf a' w' hK hr')

/-- No name from k on. -/
def Clean (k : Nat) (at_ : At) : Prop := ∀ n, k ≤ n → at_ n = none ∧ at_.gn n = .unborn
/-- The body, from any state that fits. -/
def AWp (ρ : Option Nat) (P : Program) (B : Base) (c : Code) (st : St) (K : KT) : Prop := ∀ a w, Reps B st a w → c.wpIn (Fr ρ) 0 P (fun e a' w' => ∃ st', Reps B st' a' w' ∧ K e st') a w

theorem AWp.mono {ρ : Option Nat} {c : Code} {st : St} {K K' : KT} (h : AWp ρ P B c st K) (hk : ∀ e st, K e st → K' e st) : AWp ρ P B c st K' :=
  fun a w hr => wpR_mono (fun _ _ _ ⟨st', h1, h2⟩ => ⟨st', h1, hk _ _ h2⟩) (h a w hr)
theorem AWp.seq {ρ : Option Nat} {x y : Code} {st : St} {K : KT} (h : AWp ρ P B x st fun e st' => match e with | .normal => AWp ρ P B y st' K | e => K e st') : AWp ρ P B (.seq x y) st K := by
  intro a w hr
  refine wpIn_seq (wpR_mono ?_ (h a w hr))
  rintro e a' w' ⟨st', h1, h2⟩
  cases e with
  | normal => exact h2 a' w' h1
  | _ => exact ⟨st', h1, h2⟩
theorem AWp.block {ρ : Option Nat} {id : Nat} {c : Code} {st : St} {K : KT} (h : AWp ρ P B c st fun e st' => match e with | .exit id' => if id' = id then K .normal st' else K (.exit id') st' | e => K e st') : AWp ρ P B (.block id c) st K := by
  intro a w hr
  refine wpIn_block (wpR_mono ?_ (h a w hr))
  rintro e a' w' ⟨st', h1, h2⟩
  cases e with
  | exit id' =>
    simp only [Exit.inBlock]
    split
    · rename_i he; simp only [he, if_true] at h2; exact ⟨st', h1, h2⟩
    · rename_i he; simp only [he, if_false] at h2; exact ⟨st', h1, h2⟩
  | _ => exact ⟨st', h1, h2⟩
/-- A loop: what holds at each round's head, and a measure. -/
theorem AWp.loop {ρ : Option Nat} {c : Code} {st : St} {K : KT} (I : Nat → St → Prop) (n : Nat) (h0 : I n st) (round : ∀ n st, I n st → AWp ρ P B c st fun e st' => match e with | .normal => ∃ m, m < n ∧ I m st' | e => K e st') : AWp ρ P B (.loop c) st K := by
  intro a w hr b k cs hro hb hrm
  have key : ∀ n st a w, I n st → Reps B st a w →
      ∃ e a' w', (∃ st', Reps B st' a' w' ∧ K e st') ∧ ArrivesIn (Machine.fenced P (Fr ρ)) P (lone (b.atR a (.code c :: .inLoop c :: k)) cs w) b k cs e a' w' := by
    intro n
    induction n using Nat.strongRecOn with
    | _ n ih =>
      intro st a w hI hr
      obtain ⟨e, a1, w1, ⟨st1, hr1, hq⟩, harr⟩ := round n st hI a w hr b (.inLoop c :: k) cs hro hb hrm
      cases e with
      | normal =>
        obtain ⟨m, hlt, hI1⟩ := hq
        obtain ⟨e2, a2, w2, hq2, harr2⟩ := ih m hlt st1 a1 w1 hI1 hr1
        exact ⟨e2, a2, w2, hq2, .of_steps (StepsIn.trans harr (.one (fenced_calm hb hrm rfl) stepR_inLoop)) harr2⟩
      | exit id => exact ⟨_, a1, w1, ⟨st1, hr1, hq⟩, .pass (x := .inLoop c) rfl (fun _ _ => .inl (by simp)) harr⟩
      | goto l => exact ⟨_, a1, w1, ⟨st1, hr1, hq⟩, .pass (x := .inLoop c) rfl (fun _ _ => .inl (by simp)) harr⟩
      | ret => exact ⟨_, a1, w1, ⟨st1, hr1, hq⟩, .pass (x := .inLoop c) rfl (fun _ _ => .inl (by simp)) harr⟩
      | panic ch => exact ⟨_, a1, w1, ⟨st1, hr1, hq⟩, .pass (x := .inLoop c) rfl (fun _ _ => .inl (by simp)) harr⟩
      | outgrown => exact ⟨_, a1, w1, ⟨st1, hr1, hq⟩, .pass (x := .inLoop c) rfl (fun _ _ => .inl (by simp)) harr⟩
  obtain ⟨e, a', w', hq, harr⟩ := key n st a w h0 hr
  exact ⟨e, a', w', hq, .of_steps (.one (fenced_calm hb hrm rfl) stepR_loop) harr⟩

theorem AWp.cond {ρ : Option Nat} {c : Operand} {x y : Code} {st : St} {K : KT} {b : Bool} (hc : TR st.T (condTs c) c = .bool b)
    (ht : b = true → AWp ρ P B x ⟨setC st.T c true, st.M⟩ K) (hf : b = false → AWp ρ P B y ⟨setC st.T c false, st.M⟩ K) : AWp ρ P B (.cond c x y) st K := by
  intro a w hr
  obtain ⟨at_, h⟩ := hr
  have hrel := TR_ok (ts := condTs c) h.tmp c
  rw [hc] at hrel
  simp only [Rel] at hrel
  have hset : ∀ b', b = b' → RelL at_ w (setC st.T c b') a.tmps.toList := by
    intro b' hb
    subst hb
    cases c with
    | tmp t =>
      simp only [setC]
      have hev : a.eval (.tmp t) = a.tmps.getD t Go.undef := rfl
      rw [hev] at hrel
      have hs := h.tmp.set t (.bool b) (.bool b) (by simp only [Rel])
      have : a.tmps.toList.set t (.bool b) = a.tmps.toList := by
        apply List.ext_getElem?
        intro i
        by_cases hi : t = i
        · subst hi
          by_cases hlt : t < a.tmps.toList.length
          · rw [List.getElem?_set_self hlt, List.getElem?_eq_getElem hlt]
            have hlt' : t < a.tmps.size := by simpa using hlt
            rw [Array.getD_eq_getD_getElem?, Array.getElem?_eq_getElem hlt'] at hrel
            simp only [Option.getD_some] at hrel
            rw [← hrel]; simp
          · rw [List.getElem?_eq_none (by simpa using hlt), List.getElem?_eq_none (by simpa using hlt)]
        · rw [List.getElem?_set_ne hi]
      rw [this] at hs; exact hs
    | _ => exact h.tmp
  refine wpIn_cond hrel ?_
  cases b with
  | true => exact ht rfl a w ⟨at_, h.later, h.mem, hset true rfl, h.defers, h.obs⟩
  | false => exact hf rfl a w ⟨at_, h.later, h.mem, hset false rfl, h.defers, h.obs⟩

theorem vc_ok {ρ : Option Nat} (hm : P.follows .mixedOrders = true) (hT : TTOK P tt) (hS : SpecsOK P sp) {fuel : Nat} {D : Dec} : ∀ (c : Code) (st : St) (K : KT), vc tt sp fuel D c st K → AWp ρ P B c st K
  | .skip, st, K, h => fun a w hr => wpIn_skip ⟨st, hr, h⟩
  | .label _, st, K, h => fun a w hr => wpIn_label ⟨st, hr, h⟩
  | .exit id, st, K, h => fun a w hr => wpIn_exit ⟨st, hr, h⟩
  | .ret, st, K, h => fun a w hr => wpIn_ret ⟨st, hr, h⟩
  | .region _ _ _, st, K, h => fun a w hr => region_ok hm hT hS h hr (fun st' a' w' hK hr' => ⟨st', hr', hK⟩)
  | .seq x y, st, K, h => by
    refine AWp.seq (AWp.mono (vc_ok hm hT hS x st _ h) ?_)
    intro e st' hk
    cases e with
    | normal => exact vc_ok hm hT hS y st' K hk
    | _ => exact hk
  | .cond c x y, st, K, h => by
    simp only [vc] at h
    split at h
    · rename_i b hb
      obtain ⟨h1, h2⟩ := bcase_ok h
      exact AWp.cond hb (fun e => vc_ok hm hT hS x _ K (h1 e)) (fun e => vc_ok hm hT hS y _ K (h2 e))
    · exact h.elim
  | .block id c, st, K, h => AWp.block (vc_ok hm hT hS c st _ h)
  | .loop c, st, K, h => by
    refine AWp.loop (fun n st => loopVC (vc tt sp fuel D c) K n st) fuel h (fun n st hI => ?_)
    cases n with
    | zero => exact hI.elim
    | succ n =>
      refine AWp.mono (vc_ok hm hT hS c st _ hI) ?_
      intro e st' hk
      cases e with
      | normal => exact ⟨n, Nat.lt_succ_self n, hk⟩
      | _ => exact hk
  | .rangeFunc _ _ _ _, _, _, h => h.elim
  | .scope _, _, _, h => h.elim
  | .goto _, _, _, h => h.elim
  | .refuse _, _, _, h => h.elim

end

/-! Functions. -/
def resOne (tt : TT) (st : St) : ResultVar → Option SV
  | .tmp t => st.T[t]?
  | .cell t ty => match st.T[t]?, tt.lookup ty with
    | some (.ptr b 0), some i => match st.M[b]? with
      | some (some cs) => if i.d.agg = true ∧ cs.length = i.size then some (.agg cs) else none
      | _ => none
    | _, _ => none
def resAll (tt : TT) (st : St) : List ResultVar → Option (List SV)
  | [] => some []
  | r :: rs => match resOne tt st r, resAll tt st rs with
    | some v, some vs => some (v :: vs)
    | _, _ => none
def retSV : List SV → SV
  | [v] => v
  | vs => .tup vs
mutual
/-- A result, as the caller sees it. -/
def freeze (M : List (Option Blk)) : SV → Option SV
  | .ptr b off => match M[b]? with
    | some (some cs) => if noNameL cs = true then some (.ro cs off) else none
    | _ => none
  | .slc b off len cap => match M[b]? with
    | some (some cs) => if off + len ≤ cs.length ∧ 0 < len ∧ len ≤ cap then (asLV ((cs.drop off).take len)).map .lst else none
    | _ => none
  | .sl b lo len => match M[b]? with
    | some (some [.own l]) => some (.lst (l.cut lo (lo + len)))
    | _ => none
  | .lp _ _ | .ap _ _ | .own _ => none
  | .agg cs => match freezeL M cs with
    | some ds => some (.agg ds)
    | none => none
  | .tup cs => match freezeL M cs with
    | some ds => some (.tup ds)
    | none => none
  | .lel x => if x.noName = true then some (.lel x) else none
  | .ro cs off => if noNameL cs = true then some (.ro cs off) else none
  | .rsl cs off n => if noNameL cs = true then some (.rsl cs off n) else none
  | .roO b cs => if noNameL cs = true then some (.roO b cs) else none
  | .win cs => if noNameL cs = true then some (.win cs) else none
  | .wsl cs s n => if noNameL cs = true then some (.wsl cs s n) else none
  | .fn f cs => if noNameL cs = true then some (.fn f cs) else match freezeL M cs with
    | some ds => some (.fn f ds)
    | none => none
  | v => some v
def freezeL (M : List (Option Blk)) : List SV → Option (List SV)
  | [] => some []
  | c :: cs => match freeze M c, freezeL M cs with
    | some d, some ds => some (d :: ds)
    | _, _ => none
end
def finK (tt : TT) (fr : List ResultVar) (Q : SV → Prop) : KT := fun e st =>
  match e with
  | .normal | .ret => match resAll tt st fr with
    | some vs => match freeze st.M (retSV vs) with
      | some r => Q r
      | none => False
    | none => False
  | _ => False
def init (args : List SV) (n : Nat) : St := ⟨args ++ List.replicate (n - args.length) .any, []⟩

section
variable [GLob] {at_ at' : At} {w : World} {M : List (Option Blk)}
/-- What was the machine's own is nobody's to write behind the return. -/
theorem freeze_own (hM : MemOK at_ M w) (hfix : ∀ g, Fix at_ g → Fix at' g) (hown : ∀ n g, at_ n = some g → Fix at' g) {s r : SV} {v : Value} (hs : (∃ b off, s = .ptr b off) ∨ (∃ b off len cap, s = .slc b off len cap)) (h : freeze M s = some r)
    (hr : Rel at_ w s v) : Rel at' w r v := by
  rcases hs with ⟨b, off, rfl⟩ | ⟨b, off, len, cap, rfl⟩
  · simp only [freeze] at h
    split at h
    · rename_i cs hc
      split at h
      · rename_i hn
        simp only [Option.some.injEq] at h; subst h
        simp only [Rel] at hr ⊢
        obtain ⟨g, h1, h2⟩ := hr
        obtain ⟨ty, vs, h4, h5⟩ := hM.blk _ _ _ h1 hc
        exact ⟨g, ty, (0, 0), vs, h2, hown _ _ h1, h4, RelL.noName hfix _ _ hn h5⟩
      · cases h
    · cases h
  · simp only [freeze] at h
    split at h
    · rename_i cs hc
      split at h
      · rename_i hcond
        obtain ⟨c1, c2, c3⟩ := hcond
        obtain ⟨l, hl, e⟩ := Option.map_eq_some_iff.1 h
        subst e
        simp only [Rel] at hr ⊢
        obtain ⟨g, h1, h2⟩ := hr
        obtain ⟨ty, vs, h4, h5⟩ := hM.blk _ _ _ h1 hc
        have h6 := asLV_ok hl ((h5.drop off).take len)
        have hlen := h5.length
        have hll : l.len = len := by rw [← LV.len_vals, ← h6]; simp; omega
        refine ⟨_, _, by rw [hll]; exact h2, by omega, fun j u hj => ⟨_, rfl, hown _ _ h1, ?_⟩⟩
        rw [addr_add, cell_of_row w g _ _ ty (0, 0) h4]
        rw [← h6, List.getElem?_take] at hj
        split at hj
        · simpa using hj
        · cases hj
      · cases h
    · cases h
mutual
theorem freeze_ok (hM : MemOK at_ M w) (hfix : ∀ g, Fix at_ g → Fix at' g) (hown : ∀ n g, at_ n = some g → Fix at' g) (hgown : ∀ n g b c k, at_.gn n = .live g b c k → Fix at' g) : ∀ (s r : SV) (v : Value), freeze M s = some r → Rel at_ w s v → Rel at' w r v
  | .i64 _, _, _, h, r => by simp only [freeze, Option.some.injEq] at h; subst h; simpa only [Rel] using r
  | .u64 _, _, _, h, r => by simp only [freeze, Option.some.injEq] at h; subst h; simpa only [Rel] using r
  | .u32 _, _, _, h, r => by simp only [freeze, Option.some.injEq] at h; subst h; simpa only [Rel] using r
  | .u8 _, _, _, h, r => by simp only [freeze, Option.some.injEq] at h; subst h; simpa only [Rel] using r
  | .bool _, _, _, h, r => by simp only [freeze, Option.some.injEq] at h; subst h; simpa only [Rel] using r
  | .val _, _, _, h, r => by simp only [freeze, Option.some.injEq] at h; subst h; simpa only [Rel] using r
  | .undef, _, _, h, r => by simp only [freeze, Option.some.injEq] at h; subst h; simpa only [Rel] using r
  | .any, _, _, h, _ => by simp only [freeze, Option.some.injEq] at h; subst h; simp only [Rel]
  | .any1, _, _, h, r => by simp only [freeze, Option.some.injEq] at h; subst h; simpa only [Rel] using r
  | .lol ls, _, _, h, r => by
    simp only [freeze, Option.some.injEq] at h; subst h
    exact Rel.noName hfix (.lol ls) _ rfl r
  | .lst l, _, _, h, r => by
    simp only [freeze, Option.some.injEq] at h; subst h
    exact Rel.noName hfix (.lst l) _ rfl r
  | .ptr b off, _, _, h, r => freeze_own hM hfix hown (.inl ⟨b, off, rfl⟩) h r
  | .slc b off len cap, _, _, h, r => freeze_own hM hfix hown (.inr ⟨b, off, len, cap, rfl⟩) h r
  | .sl b lo len, _, _, h, r => by
    simp only [freeze] at h
    split at h
    · rename_i l hl
      simp only [Option.some.injEq] at h; subst h
      exact (sl_lst hM hl r (fun g b' c k e => hgown b g b' c k e)).1
    · cases h
  | .lp _ _, _, _, h, _ => by simp [freeze] at h
  | .ap _ _, _, _, h, _ => by simp [freeze] at h
  | .own _, _, _, h, _ => by simp [freeze] at h
  | .lel x, _, _, h, r => by
    simp only [freeze] at h
    split at h
    · rename_i hn; simp only [Option.some.injEq] at h; subst h; exact Rel.noName hfix (.lel x) _ (by simpa only [SV.noName] using hn) r
    · cases h
  | .ro cs off, _, _, h, r => by
    simp only [freeze] at h
    split at h
    · rename_i hn; simp only [Option.some.injEq] at h; subst h; exact Rel.noName hfix (.ro cs off) _ (by simpa only [SV.noName] using hn) r
    · cases h
  | .rsl cs off n, _, _, h, r => by
    simp only [freeze] at h
    split at h
    · rename_i hn; simp only [Option.some.injEq] at h; subst h; exact Rel.noName hfix (.rsl cs off n) _ (by simpa only [SV.noName] using hn) r
    · cases h
  | .roO b cs, _, _, h, r => by
    simp only [freeze] at h
    split at h
    · rename_i hn; simp only [Option.some.injEq] at h; subst h; exact Rel.noName hfix (.roO b cs) _ (by simpa only [SV.noName] using hn) r
    · cases h
  | .win cs, _, _, h, r => by
    simp only [freeze] at h
    split at h
    · rename_i hn; simp only [Option.some.injEq] at h; subst h; exact Rel.noName hfix (.win cs) _ (by simpa only [SV.noName] using hn) r
    · cases h
  | .wsl cs s n, _, _, h, r => by
    simp only [freeze] at h
    split at h
    · rename_i hn; simp only [Option.some.injEq] at h; subst h; exact Rel.noName hfix (.wsl cs s n) _ (by simpa only [SV.noName] using hn) r
    · cases h
  | .fn f cs, _, _, h, r => by
    simp only [freeze] at h
    split at h
    · rename_i hn; simp only [Option.some.injEq] at h; subst h; exact Rel.noName hfix (.fn f cs) _ (by simpa only [SV.noName] using hn) r
    · split at h
      · rename_i ds hd
        simp only [Option.some.injEq] at h; subst h
        simp only [Rel] at r ⊢
        obtain ⟨vs, h1, h2⟩ := r
        exact ⟨vs, h1, freezeL_ok hM hfix hown hgown cs ds vs hd h2⟩
      · cases h
  | .agg cs, _, _, h, r => by
    simp only [freeze] at h
    split at h
    · rename_i ds hd
      simp only [Option.some.injEq] at h; subst h
      simp only [Rel] at r ⊢
      obtain ⟨vs, h1, h2⟩ := r
      exact ⟨vs, h1, freezeL_ok hM hfix hown hgown cs ds vs hd h2⟩
    · cases h
  | .tup cs, _, _, h, r => by
    simp only [freeze] at h
    split at h
    · rename_i ds hd
      simp only [Option.some.injEq] at h; subst h
      simp only [Rel] at r ⊢
      obtain ⟨vs, h1, h2⟩ := r
      exact ⟨vs, h1, freezeL_ok hM hfix hown hgown cs ds vs hd h2⟩
    · cases h
theorem freezeL_ok (hM : MemOK at_ M w) (hfix : ∀ g, Fix at_ g → Fix at' g) (hown : ∀ n g, at_ n = some g → Fix at' g) (hgown : ∀ n g b c k, at_.gn n = .live g b c k → Fix at' g) : ∀ (s r : List SV) (v : List Value), freezeL M s = some r → RelL at_ w s v → RelL at' w r v
  | [], _, _, h, r => by simp only [freezeL, Option.some.injEq] at h; subst h; simpa only [RelL] using r
  | c :: cs, _, _, h, r => by
    simp only [freezeL] at h
    simp only [RelL] at r
    obtain ⟨u, us, rfl, h2, h3⟩ := r
    split at h
    · rename_i d ds hd hds
      simp only [Option.some.injEq] at h; subst h
      exact RelL.cons (freeze_ok hM hfix hown hgown c d u hd h2) (freezeL_ok hM hfix hown hgown cs ds us hds h3)
    · cases h
end

variable {P : Program}
def resSem (a : Act) : ResultVar → Sem Value
  | .tmp t => pure (a.tmps.getD t Go.undef)
  | .cell b t => do loadVar t (← asAddr (a.tmps.getD b Go.undef))
theorem resAll_ok {tt : TT} (hT : TTOK P tt) {st : St} {a : Act} (hM : MemOK at_ st.M w) (hr : RelL at_ w st.T a.tmps.toList) :
    ∀ (l : List ResultVar) (vs : List SV), resAll tt st l = some vs → ∃ us, (l.mapM (resSem a)).run P w = .ok us w ∧ RelL at_ w vs us
  | [], vs, h => by simp only [resAll, Option.some.injEq] at h; subst h; exact ⟨[], by simp, RelL.nil⟩
  | r :: l, vs, h => by
    simp only [resAll] at h
    split at h
    · rename_i v vs' hv hvs
      simp only [Option.some.injEq] at h; subst h
      obtain ⟨us, h1, h2⟩ := resAll_ok hT hM hr l vs' hvs
      have get : ∀ t s, st.T[t]? = some s → Rel at_ w s (a.tmps.getD t Go.undef) := by
        intro t s e
        obtain ⟨u, e1, e2⟩ := hr.get t s e
        rw [Array.getElem?_toList] at e1
        rw [Array.getD_eq_getD_getElem?, e1]; exact e2
      have fin : ∀ u, (resSem a r).run P w = .ok u w → Rel at_ w v u → ∃ us, ((r :: l).mapM (resSem a)).run P w = .ok us w ∧ RelL at_ w (v :: vs') us := by
        intro u e1 e2
        exact ⟨u :: us, by simp only [List.mapM_cons, Sem.run_bind, e1, Sem.run_pure, Result.andThen_ok, h1], RelL.cons e2 h2⟩
      cases r with
      | tmp t =>
        simp only [resOne] at hv
        exact fin _ rfl (get t v hv)
      | cell t ty =>
        simp only [resOne] at hv
        split at hv
        · rename_i b i hb hi
          split at hv
          · rename_i cs hcs
            split at hv
            · rename_i hcond
              simp only [Option.some.injEq] at hv; subst hv
              have hg := get t _ hb
              simp only [Rel] at hg
              obtain ⟨g, g1, g2⟩ := hg
              obtain ⟨ty', us', g4, g5⟩ := hM.blk _ _ _ g1 hcs
              have hll := g5.length
              have hrun := run_loadVar_cells (P := P) (hT _ _ hi) (off := 0) g4 hcond.1 (by omega)
              have : (us'.drop 0).take i.size = us' := by rw [List.drop_zero, List.take_of_length_le (by omega)]
              rw [this] at hrun
              refine fin (.agg (List.toArray us')) ?_ (by simp only [Rel]; exact ⟨us', rfl, g5⟩)
              simp only [resSem, Sem.run_bind, g2, asAddr, Sem.run_pure, Result.andThen_ok, hrun]
            · cases hv
          · cases hv
        · cases hv
    · cases h
def retV : List Value → Value
  | [v] => v
  | us => .tuple (List.toArray us)
theorem results_run {fn : Func} {a : Act} {us : List Value} (h : (fn.results.toList.mapM (resSem a)).run P w = .ok us w) :
    (results fn a.tmps).run P w = .ok (retV us) w := by
  have _ := ‹GLob›
  have e : results fn a.tmps = (do let vs ← fn.results.mapM (resSem a); pure (if h : vs.size = 1 then vs[0] else .tuple vs)) := rfl
  rw [e, Array.mapM_eq_mapM_toList]
  simp only [Sem.run_bind, Sem.run_map, h, Result.andThen_ok, Sem.run_pure]
  rcases us with _ | ⟨u, _ | ⟨u', us⟩⟩ <;> simp [retV]

/-- **A function, from what its body's proposition says.** -/
theorem calls_of_awp (_hm : P.follows .mixedOrders = true) {tt : TT} {sp : Specs} (hT : TTOK P tt) (_hS : SpecsOK P sp) {f : FuncId} {fn : Func} {c : Code} (hf : P.funcs[f]? = some fn) (hb : fn.body = some c) {svs : List SV} {Q : SV → Prop}
    (hvc : ∀ B : Base, B.dfs = [] → B.obs = [] → Clean 0 B.at0 → AWp none P B c (init svs fn.ntmps) (finK tt fn.results.toList Q)) (hn : noNameL svs = true) {vs : List Value} {w : World} (hat : ∀ n g, at_ n = some g → g < w.heap.size) (hout : ∀ g, (at_.out g ∨ ∃ n b c k, at_.gn n = .live g b c k) → g < w.heap.size) (hgl : GLOK at_ w) (hr : RelL at_ w svs vs) :
    Calls P f (List.toArray vs) w fun e w' => ∃ v, e = .returned v ∧ ∃ r, Q r ∧ Rel at_ w' r v ∧ Below w.heap.size w w' := by
  refine calls_of_wp hf hb ?_
  let at0 : At := ⟨fun _ => none, fun g => (∃ n, at_ n = some g) ∨ at_.out g ∨ ∃ n b c k, at_.gn n = .live g b c k, fun _ => .unborn⟩
  have fixA : ∀ g, Fix at_ g → Fix at0 g := fun g h => ⟨fun n e => by simp [at0] at e, fun e => by
    rcases e with ⟨n, e⟩ | e | ⟨n, b, c, k, e⟩
    · exact h.1 n e
    · exact h.2.1 e
    · exact h.2.2 n b c k e, fun _ _ _ _ e => by simp [at0] at e⟩
  have fixB : ∀ g, ¬ at0.out g → Fix at_ g := fun g h => ⟨fun n e => h (.inl ⟨n, e⟩), fun e => h (.inr (.inl e)), fun n b c k e => h (.inr (.inr ⟨n, b, c, k, e⟩))⟩
  have hlen := hr.length
  have hstart : Reps ⟨at0, w, [], []⟩ (init svs fn.ntmps) { tmps := List.toArray vs ++ Array.replicate (fn.ntmps - (List.toArray vs).size) Go.undef, defers := [] } w := by
    refine ⟨at0, Later.refl _ _, ⟨fun n g cs e1 e => by simp [init] at e, fun n m g e => by simp [at0] at e, fun n g e => by simp [at0] at e, fun g h => ?_, fun n l e => by simp [init] at e, fun n m g b c k b' c' k' e => by simp [at0] at e, fun n m g b c k e => by simp [at0] at e, fun n e => by simp [at0] at e, fun n g b c k e => by simp [at0] at e, fun n g b c k e => by simp [at0] at e, fun n g e => by simp [at0] at e, hgl.fixed fixA⟩, ?_, rfl, ObsOK.nil _ _⟩
    · rcases h with ⟨n, h⟩ | h
      · exact hat n g h
      · exact hout g h
    · simp only [init, Array.toList_append, Array.toList_replicate, List.size_toArray, hlen]
      exact RelL.append (RelL.noName fixA _ _ hn hr) (RelL.replicate _ (by simp only [Rel]))
  refine Code.wp_mono ?_ (wpIn_wide.1 (hvc ⟨at0, w, [], []⟩ rfl rfl (fun _ _ => ⟨rfl, rfl⟩) _ _ hstart))
  rintro e a' w' ⟨st', ⟨at', hl, hM, hT', hd, _⟩, hk⟩
  have fin : finK tt fn.results.toList Q .ret st' →
      a'.defers = [] ∧ ∃ v, (results fn a'.tmps).run P w' = .ok v w' ∧ ∃ u, Ending.returned v = .returned u ∧ ∃ r, Q r ∧ Rel at_ w' r u ∧ Below w.heap.size w w' := by
    intro hk
    refine ⟨hd, ?_⟩
    simp only [finK] at hk
    split at hk
    · rename_i svs' hres
      split at hk
      · rename_i r hfr
        obtain ⟨us, h1, h2⟩ := resAll_ok hT hM hT' _ _ hres
        have hrun := results_run h1
        refine ⟨_, hrun, _, rfl, r, hk, ?_, ?_⟩
        · have hrel : Rel at' w' (retSV svs') (retV us) := by
            rcases svs' with _ | ⟨s, _ | ⟨s', ss⟩⟩
            · simp only [RelL] at h2; subst h2; simp only [retSV, Rel]; exact ⟨[], rfl, RelL.nil⟩
            · simp only [RelL] at h2
              obtain ⟨v, vs', rfl, h3, rfl⟩ := h2
              exact h3
            · have h2' := h2
              simp only [RelL] at h2
              obtain ⟨v, vs', rfl, h3, v', vs'', rfl, h4, h5⟩ := h2
              simp only [retSV, Rel]
              exact ⟨_, rfl, h2'⟩
          refine freeze_ok hM (fun g hg => fixB g (fun ho => hg.2.1 (by rw [hl.out]; exact ho))) (fun n g e => ?_) (fun n g b c k e => ?_) _ _ _ hfr hrel
          · rcases hl.new n g e with e' | e'
            · simp [at0] at e'
            · replace e' : w.heap.size ≤ g := e'
              exact ⟨fun m h => by have := hat m g h; omega, fun h => by have := hout g (.inl h); omega, fun n b c k h => by have := hout g (.inr ⟨n, b, c, k, h⟩); omega⟩
          · rcases hl.gnew n g b c k e with ⟨m, b', c', k', e'⟩ | e'
            · simp [at0] at e'
            · replace e' : w.heap.size ≤ g := e'
              exact ⟨fun m h => by have := hat m g h; omega, fun h => by have := hout g (.inl h); omega, fun n b c k h => by have := hout g (.inr ⟨n, b, c, k, h⟩); omega⟩
        · refine ⟨hl.os, hl.tape, hl.output, hl.size, fun k hk' => ?_⟩
          exact (hl.keep k (fun n e => by simp [at0] at e) (fun n b c k e => by simp [at0] at e) hk').2.2
      · exact hk.elim
    · exact hk.elim
  cases e with
  | normal => exact fin hk
  | ret => exact fin hk
  | exit id => exact hk.elim
  | goto l => exact hk.elim
  | panic ch => exact hk.elim
  | outgrown => exact hk.elim
theorem calls_of_vc (hm : P.follows .mixedOrders = true) {tt : TT} {sp : Specs} (hT : TTOK P tt) (hS : SpecsOK P sp) {fuel : Nat} {D : Dec} {f : FuncId} {fn : Func} {c : Code} (hf : P.funcs[f]? = some fn) (hb : fn.body = some c) {svs : List SV} {Q : SV → Prop}
    (hvc : vc tt sp fuel D c (init svs fn.ntmps) (finK tt fn.results.toList Q)) (hn : noNameL svs = true) {vs : List Value} {w : World} (hat : ∀ n g, at_ n = some g → g < w.heap.size) (hout : ∀ g, (at_.out g ∨ ∃ n b c k, at_.gn n = .live g b c k) → g < w.heap.size) (hgl : GLOK at_ w) (hr : RelL at_ w svs vs) :
    Calls P f (List.toArray vs) w fun e w' => ∃ v, e = .returned v ∧ ∃ r, Q r ∧ Rel at_ w' r v ∧ Below w.heap.size w w' :=
  calls_of_awp hm hT hS hf hb (fun _ _ _ _ => vc_ok hm hT hS c _ _ hvc) hn hat hout hgl hr
end
end Go.Sym
/- Specifications out of propositions; what the model stands in for: sums with carries. -/
namespace Go.Sym
open Go.RowKit

section
variable [GLob] {P : Program} {tt : TT} {sp : Specs}

theorem spec_of_vc (hm : P.follows .mixedOrders = true) (hT : TTOK P tt) (hS : SpecsOK P sp) (fuel : Nat) {f : FuncId} {fn : Func} {c : Code} (hf : P.funcs[f]? = some fn) (hname : (fn.name == "runtime.NumGoroutine") = false) (hb : fn.body = some c) {s : SpecF}
    (H : ∀ svs pre r, s svs = some (pre, r) → Ok pre → noNameL svs = true ∧ ∃ Q : SV → Prop, (∀ x, Q x → x = r) ∧ vc tt sp fuel [] c (init svs fn.ntmps) (finK tt fn.results.toList Q)) : SpecOK P f s := by
  intro at_ w svs vs pre r hat hout hgl hs hp hr
  obtain ⟨hn, Q, hQ, hvc⟩ := H svs pre r hs hp
  have hrun : (callFunc f (List.toArray vs)).run P w = .ok (.enter f (List.toArray vs)) w := by
    have h1 : fn.name ≠ "runtime.NumGoroutine" := by simpa using hname
    simp [callFunc, hf, h1, hb]
  rw [hrun]
  refine (calls_of_vc hm hT hS hf hb hvc hn hat hout hgl hr).mono ?_
  rintro e w' ⟨v, h1, r', h2, h3, h4⟩
  rw [hQ r' h2] at h3
  exact ⟨v, h1, h3, h4⟩

theorem spec_of_extern {f : FuncId} {fn : Func} {e : Array Value → Sem Value} (hf : P.funcs[f]? = some fn) (hname : (fn.name == "runtime.NumGoroutine") = false) (hb : fn.body.isNone = true) (hn : Extern.findNext fn = none) (he : Extern.find fn = some e) {s : SpecF}
    (H : ∀ svs pre r, s svs = some (pre, r) → Ok pre → ∀ at_ w vs, RelL at_ w svs vs → ∃ v, (e (List.toArray vs)).run P w = .ok v w ∧ Rel at_ w r v) : SpecOK P f s := by
  intro at_ w svs vs pre r _ _ _ hs hp hr
  obtain ⟨v, h1, h2⟩ := H svs pre r hs hp at_ w vs hr
  rw [run_callFunc_extern hf hname hb hn he, h1]
  exact ⟨h2, Below.refl _ _⟩
/-- From a contract that is known. -/
theorem spec_of_calls {f : FuncId} {fn : Func} {c : Code} (hf : P.funcs[f]? = some fn) (hname : (fn.name == "runtime.NumGoroutine") = false) (hb : fn.body = some c) {s : SpecF}
    (H : ∀ svs pre r, s svs = some (pre, r) → Ok pre → ∀ at_ w vs, RelL at_ w svs vs → Calls P f (List.toArray vs) w fun e w' => ∃ v, e = .returned v ∧ Rel at_ w' r v ∧ Below w.heap.size w w') : SpecOK P f s := by
  intro at_ w svs vs pre r hat hout hgl hs hp hr
  have hrun : (callFunc f (List.toArray vs)).run P w = .ok (.enter f (List.toArray vs)) w := by
    have h1 : fn.name ≠ "runtime.NumGoroutine" := by simpa using hname
    simp [callFunc, hf, h1, hb]
  rw [hrun]
  exact (H svs pre r hs hp at_ w vs hr).mono fun e w' ⟨v, h1, h2, h3⟩ => ⟨v, h1, h2, h3⟩
end

/-! math/bits.Add64, Sub64. -/
def addLo (x y c : UInt64) : UInt64 := x + y + c
def addHi (x y c : UInt64) : UInt64 := UInt64.ofNat ((x.toNat + y.toNat + c.toNat) / 18446744073709551616)
def subLo (x y b : UInt64) : UInt64 := x - y - b
def subHi (x y b : UInt64) : UInt64 := if x.toNat < y.toNat + b.toNat then 1 else 0
/-- A carry is 0 or 1. -/
def cpre (c : UInt64) : Option Prop :=
  match c.toNat with
  | 0 => none
  | 1 => none
  | _ => some False
theorem cpre_ok {c : UInt64} (h : Ok (cpre c)) : c.toNat ≤ 1 := by
  unfold cpre at h
  split at h
  · omega
  · omega
  · exact h.elim
theorem cpre_conj {c : UInt64} {q : Prop} (h : c.toNat ≤ 1) (hq : q) : conj (cpre c) q := by
  unfold cpre
  split
  · exact hq
  · exact hq
  · rename_i h0 h1
    have : c.toNat = 0 ∨ c.toNat = 1 := by omega
    rcases this with e | e
    · exact (h0 e).elim
    · exact (h1 e).elim
def specAdd64 : SpecF
  | [.u64 x, .u64 y, .u64 c] => some (cpre c, .tup [.u64 (addLo x y c), .u64 (addHi x y c)])
  | _ => none
def specSub64 : SpecF
  | [.u64 x, .u64 y, .u64 c] => some (cpre c, .tup [.u64 (subLo x y c), .u64 (subHi x y c)])
  | _ => none
def sub64Entry : Array Value → Sem Value := fun args => do
  let (x, y, b) ← Extern.MathBitsCarry.three "Sub64" args
  pure (Extern.MathBitsCarry.pair ((x + Extern.MathBitsCarry.m64 - y - b) % Extern.MathBitsCarry.m64) (if x < y + b then 1 else 0))
theorem addHi_nat (x y c : UInt64) (hc : c.toNat ≤ 1) : (addHi x y c).toNat = (x.toNat + y.toNat + c.toNat) / 18446744073709551616 := by
  have := u64_lt x; have := u64_lt y
  simp only [addHi, UInt64.toNat_ofNat']
  omega
theorem addLo_nat (x y c : UInt64) : (addLo x y c).toNat = (x.toNat + y.toNat + c.toNat) % 18446744073709551616 := by
  simp only [addLo, UInt64.toNat_add]
  omega
theorem subLo_nat (x y c : UInt64) : (subLo x y c).toNat = (x.toNat + 2 * 18446744073709551616 - y.toNat - c.toNat) % 18446744073709551616 := by
  have := u64_lt x; have := u64_lt y; have := u64_lt c
  simp only [subLo, UInt64.toNat_sub]
  omega
theorem subHi_nat (x y c : UInt64) : (subHi x y c).toNat = if x.toNat < y.toNat + c.toNat then 1 else 0 := by
  unfold subHi; split <;> rfl

theorem run_three {P : Program} {w : World} (s : String) (x y c : UInt64) (hc : c.toNat ≤ 1) :
    (Extern.MathBitsCarry.three s #[.int .u64 (x.toNat : Int), .int .u64 (y.toNat : Int), .int .u64 (c.toNat : Int)]).run P w = .ok (x.toNat, y.toNat, c.toNat) w := by
  have key : ∀ k : Nat, k ≤ 1 → (Extern.MathBitsCarry.three s #[.int .u64 (x.toNat : Int), .int .u64 (y.toNat : Int), .int .u64 (k : Int)]).run P w = .ok (x.toNat, y.toNat, k) w := by
    intro k hk
    have : k = 0 ∨ k = 1 := by omega
    rcases this with rfl | rfl <;> rfl
  exact key _ hc

theorem specAdd64_ok [GLob] {P : Program} {f : FuncId} {fn : Func} (hf : P.funcs[f]? = some fn) (hname : (fn.name == "runtime.NumGoroutine") = false) (hb : fn.body.isNone = true) (hn : Extern.findNext fn = none) (he : Extern.find fn = some add64Entry) : SpecOK P f specAdd64 := by
  refine spec_of_extern hf hname hb hn he ?_
  intro svs pre r hs hp at_ w vs hr
  unfold specAdd64 at hs
  split at hs
  · rename_i x y c
    simp only [Option.some.injEq, Prod.mk.injEq] at hs
    obtain ⟨rfl, rfl⟩ := hs
    replace hp := cpre_ok hp
    simp only [RelL, Rel] at hr
    obtain ⟨_, _, rfl, rfl, _, _, rfl, rfl, _, _, rfl, rfl, rfl⟩ := hr
    refine ⟨Extern.MathBitsCarry.pair ((x.toNat + y.toNat + c.toNat) % Extern.MathBitsCarry.m64) ((x.toNat + y.toNat + c.toNat) / Extern.MathBitsCarry.m64), ?_, ?_⟩
    · simp only [add64Entry, Sem.run_bind, run_three _ x y c hp, Result.andThen_ok, Sem.run_pure]
    · simp only [Rel, RelL, addLo_nat, addHi_nat x y c hp]
      exact ⟨_, rfl, _, _, rfl, rfl, _, _, rfl, rfl, rfl⟩
  · cases hs
theorem specSub64_ok [GLob] {P : Program} {f : FuncId} {fn : Func} (hf : P.funcs[f]? = some fn) (hname : (fn.name == "runtime.NumGoroutine") = false) (hb : fn.body.isNone = true) (hn : Extern.findNext fn = none) (he : Extern.find fn = some sub64Entry) : SpecOK P f specSub64 := by
  refine spec_of_extern hf hname hb hn he ?_
  intro svs pre r hs hp at_ w vs hr
  unfold specSub64 at hs
  split at hs
  · rename_i x y c
    simp only [Option.some.injEq, Prod.mk.injEq] at hs
    obtain ⟨rfl, rfl⟩ := hs
    replace hp := cpre_ok hp
    simp only [RelL, Rel] at hr
    obtain ⟨_, _, rfl, rfl, _, _, rfl, rfl, _, _, rfl, rfl, rfl⟩ := hr
    have := u64_lt x; have := u64_lt y
    refine ⟨Extern.MathBitsCarry.pair ((x.toNat + Extern.MathBitsCarry.m64 - y.toNat - c.toNat) % Extern.MathBitsCarry.m64) (if x.toNat < y.toNat + c.toNat then 1 else 0), ?_, ?_⟩
    · simp only [sub64Entry, Sem.run_bind, run_three _ x y c hp, Result.andThen_ok, Sem.run_pure]
    · simp only [Rel, RelL, subLo_nat, subHi_nat]
      have e : (x.toNat + 2 * 18446744073709551616 - y.toNat - c.toNat) % 18446744073709551616 = (x.toNat + Extern.MathBitsCarry.m64 - y.toNat - c.toNat) % Extern.MathBitsCarry.m64 := by
        have : Extern.MathBitsCarry.m64 = 18446744073709551616 := by decide
        rw [this]; omega
      rw [e]
      exact ⟨_, rfl, _, _, rfl, rfl, _, _, rfl, rfl, rfl⟩
  · cases hs

/-! Numbers of four words. -/
structure Four where
  w0 : UInt64
  w1 : UInt64
  w2 : UInt64
  w3 : UInt64
def Four.sv (a : Four) : SV := .agg [.u64 a.w0, .u64 a.w1, .u64 a.w2, .u64 a.w3]
def dFour : SV → Option Four
  | .agg [.u64 a, .u64 b, .u64 c, .u64 d] => some ⟨a, b, c, d⟩
  | _ => none
theorem dFour_ok {s : SV} {f : Four} (h : dFour s = some f) : s = f.sv := by
  unfold dFour at h
  split at h
  · simp only [Option.some.injEq] at h; subst h; rfl
  · cases h
end Go.Sym
/- How arguments and results are told as data; a function's specification out of a Lean function on data. -/
namespace Go.Sym
open Go.RowKit

class Enc (α : Type) where
  enc : α → SV
  dec : SV → Option α
  ok : ∀ {s : SV} {a : α}, dec s = some a → ∀ {at_ : At} {w : World} {v : Value}, Rel at_ w s v → Rel at_ w (enc a) v
  nn : ∀ a : α, (enc a).noName = true
class Args (α : Type) where
  encL : α → List SV
  decL : List SV → Option α
  ok : ∀ {s : List SV} {a : α}, decL s = some a → ∀ {at_ : At} {w : World} {v : List Value}, RelL at_ w s v → RelL at_ w (encL a) v
  nn : ∀ a : α, noNameL (encL a) = true
class RetL (β : Type) where
  retL : β → List SV

instance : Args Unit where
  encL _ := []
  decL | [] => some ()
       | _ => none
  ok := by
    intro s a h at_ w v r
    cases s with
    | nil => exact r
    | cons _ _ => cases h
  nn _ := rfl
instance {α β : Type} [Enc α] [Args β] : Args (α × β) where
  encL p := Enc.enc p.1 :: Args.encL p.2
  decL
    | x :: l => match Enc.dec (α := α) x, Args.decL (α := β) l with
      | some a, some b => some (a, b)
      | _, _ => none
    | [] => none
  ok := by
    intro s a h at_ w v r
    cases s with
    | nil => cases h
    | cons x l =>
      simp only at h
      split at h
      · rename_i a' b' ha hb
        simp only [Option.some.injEq] at h
        subst h
        simp only [RelL] at r
        obtain ⟨u, us, rfl, h1, h2⟩ := r
        exact RelL.cons (Enc.ok ha h1) (Args.ok hb h2)
      · cases h
  nn p := by simp only [noNameL, Enc.nn, Args.nn, Bool.and_self]
instance (priority := low) {α : Type} [Enc α] : RetL α where
  retL a := [Enc.enc a]
instance {α β : Type} [Enc α] [RetL β] : RetL (α × β) where
  retL p := Enc.enc p.1 :: RetL.retL p.2
instance : RetL Unit where
  retL _ := []

instance : Enc UInt64 where
  enc := .u64
  dec | .u64 x => some x
      | _ => none
  ok := by
    intro s a h at_ w v r
    cases s <;> simp only at h <;> first | (cases h; done) | (simp only [Option.some.injEq] at h; subst h; exact r)
  nn _ := rfl
instance : Enc UInt32 where
  enc := .u32
  dec | .u32 x => some x
      | _ => none
  ok := by
    intro s a h at_ w v r
    cases s <;> simp only at h <;> first | (cases h; done) | (simp only [Option.some.injEq] at h; subst h; exact r)
  nn _ := rfl
instance : Enc UInt8 where
  enc := .u8
  dec | .u8 x => some x
      | _ => none
  ok := by
    intro s a h at_ w v r
    cases s <;> simp only at h <;> first | (cases h; done) | (simp only [Option.some.injEq] at h; subst h; exact r)
  nn _ := rfl
instance : Enc Int where
  enc := .i64
  dec | .i64 x => some x
      | _ => none
  ok := by
    intro s a h at_ w v r
    cases s <;> simp only at h <;> first | (cases h; done) | (simp only [Option.some.injEq] at h; subst h; exact r)
  nn _ := rfl
instance : Enc Bool where
  enc := .bool
  dec | .bool x => some x
      | _ => none
  ok := by
    intro s a h at_ w v r
    cases s <;> simp only at h <;> first | (cases h; done) | (simp only [Option.some.injEq] at h; subst h; exact r)
  nn _ := rfl
instance : Enc Four where
  enc := Four.sv
  dec := dFour
  ok := by
    intro s a h at_ w v r
    rw [dFour_ok h] at r; exact r
  nn _ := rfl
theorem nil_lst {at_ : At} {w : World} {s : SV} {v : Value} {l : LV} (hl : l.len = 0) (hs : ∃ c, s = .val (.slice none 0 c)) (r : Rel at_ w s v) : Rel at_ w (.lst l) v := by
  obtain ⟨c, rfl⟩ := hs
  simp only [Rel] at r ⊢
  refine ⟨none, c, by rw [hl]; exact r, by omega, fun j u hj => ?_⟩
  have : l.vals = [] := List.eq_nil_of_length_eq_zero (by rw [LV.len_vals, hl])
  rw [this] at hj; simp at hj
instance : Enc (List UInt8) where
  enc l := .lst (.bytes l)
  dec | .lst (.bytes l) => some l
      | .val (.slice none 0 _) => some []
      | _ => none
  ok := by
    intro s a h at_ w v r
    split at h
    · simp only [Option.some.injEq] at h; subst h; exact r
    · rename_i c
      simp only [Option.some.injEq] at h; subst h; exact nil_lst rfl ⟨c, rfl⟩ r
    · cases h
  nn _ := rfl
theorem num_ints {at_ : At} {w : World} {n : Nat} {v : Value} : Rel at_ w (.lst (.num n)) v ↔ Rel at_ w (.lst (.ints (Dig.dg n))) v := by simp only [Rel, LV.vals, LV.len]
instance : Enc (List Int) where
  enc l := .lst (.ints l)
  dec | .lst (.ints l) => some l
      | .lst (.num n) => some (Dig.dg n)
      | .val (.slice none 0 _) => some []
      | _ => none
  ok := by
    intro s a h at_ w v r
    split at h
    · simp only [Option.some.injEq] at h; subst h; exact r
    · simp only [Option.some.injEq] at h; subst h; exact num_ints.1 r
    · rename_i c
      simp only [Option.some.injEq] at h; subst h; exact nil_lst rfl ⟨c, rfl⟩ r
    · cases h
  nn _ := rfl
/-- A number, as its digits. -/
structure Num where
  n : Nat
theorem num_one {at_ : At} {w : World} {d : Int} {v : Value} (h : 0 < d ∧ d < 16777216) (r : Rel at_ w (.lst (.ints [d])) v) : Rel at_ w (.lst (.num d.toNat)) v := by
  have e : Dig.dg d.toNat = [d] := by
    rw [Dig.dg_pos (by omega), show d.toNat / 16777216 = 0 by omega, Dig.dg_zero]
    congr 1; omega
  exact num_ints.2 (e ▸ r)
instance : Enc Num where
  enc a := .lst (.num a.n)
  dec | .lst (.num n) => some ⟨n⟩
      | .lst (.ints [d]) => if 0 < d ∧ d < 16777216 then some ⟨d.toNat⟩ else none
      | .val (.slice none 0 _) => some ⟨0⟩
      | _ => none
  ok := by
    intro s a h at_ w v r
    split at h
    · simp only [Option.some.injEq] at h; subst h; exact r
    · split at h
      · rename_i hd
        simp only [Option.some.injEq] at h; subst h; exact num_one hd r
      · cases h
    · rename_i c
      simp only [Option.some.injEq] at h; subst h; exact nil_lst (by simp [LV.len, Dig.dg_zero]) ⟨c, rfl⟩ r
    · cases h
  nn _ := rfl
/-- It reads as a number. -/
def isNum (n : Nat) (x : SV) : Prop := x = .lst (.num n) ∨ x = .lst (.ints (Dig.dg n)) ∨ (n = 0 ∧ x = .val (.slice none 0 0))
theorem isNum_ok {n : Nat} {x : SV} (h : isNum n x) {at_ : At} {w : World} {v : Value} (r : Rel at_ w x v) : Rel at_ w (.lst (.num n)) v := by
  rcases h with rfl | rfl | ⟨rfl, rfl⟩
  · exact r
  · exact num_ints.2 r
  · exact nil_lst (by simp [LV.len, Dig.dg_zero]) ⟨0, rfl⟩ r
instance : Enc (List UInt64) where
  enc l := .lst (.words l)
  dec | .lst (.words l) => some l
      | .val (.slice none 0 _) => some []
      | _ => none
  ok := by
    intro s a h at_ w v r
    split at h
    · simp only [Option.some.injEq] at h; subst h; exact r
    · rename_i c
      simp only [Option.some.injEq] at h; subst h; exact nil_lst rfl ⟨c, rfl⟩ r
    · cases h
  nn _ := rfl

/-- A function's specification: under 'pre', its results are those of f. -/
def fspec {α β : Type} [Args α] [RetL β] (pre : α → Option Prop) (f : α → β) : SpecF := fun l =>
  match Args.decL l with
  | some a => some (pre a, retSV (RetL.retL (f a)))
  | none => none
def total {α : Type} : α → Option Prop := fun _ => none

theorem of_eq_prop {p q : Prop} (h : p = q) (hq : q) : p := h ▸ hq
/-- What a body's proposition comes to where nothing is left to show. -/
def Same (x : SV) : Prop := x = x
def times : Nat → Prop → Prop → Prop
  | 0, _, p => p
  | n + 1, c, p => c ∧ times n c p
theorem times_mk {c p : Prop} (hc : c) (hp : p) : ∀ n, times n c p
  | 0 => hp
  | n + 1 => ⟨hc, times_mk hc hp n⟩
theorem all_of_map {f g : Nat → Prop} (N : Nat) (h : (List.range N).map f = (List.range N).map g) (n : Nat) (hn : n < N) (hg : g n) : f n := by
  have := congrArg (fun l => l[n]?) h
  simp only [List.getElem?_map, List.getElem?_range hn, Option.map_some, Option.some.injEq] at this
  exact this ▸ hg
theorem Same.mk (x : SV) : Same x := rfl

section
variable [GLob] {P : Program} {tt : TT} {sp : Specs} {α β : Type} [Args α] [RetL β]

theorem fn_calls (hm : P.follows .mixedOrders = true) (hT : TTOK P tt) (hS : SpecsOK P sp) {f : FuncId} {fn : Func} {c : Code} (hf : P.funcs[f]? = some fn) (hb : fn.body = some c) {svs : List SV} {Q : SV → Prop}
    (H : ∀ B : Base, B.dfs = [] → B.obs = [] → Clean 0 B.at0 → AWp none P B c (init svs fn.ntmps) (finK tt fn.results.toList Q)) (hn : noNameL svs = true) {at_ : At} {vs : List Value} {w : World} (hat : ∀ n g, at_ n = some g → g < w.heap.size) (hout : ∀ g, (at_.out g ∨ ∃ n b c k, at_.gn n = .live g b c k) → g < w.heap.size) (hgl : GLOK at_ w) (hr : RelL at_ w svs vs) :
    Calls P f (List.toArray vs) w fun e w' => ∃ v, e = .returned v ∧ ∃ r, Q r ∧ Rel at_ w' r v ∧ Below w.heap.size w w' := calls_of_awp hm hT hS hf hb H hn hat hout hgl hr

/-- From the body, with loops met by hand. -/
theorem fn_awp (hm : P.follows .mixedOrders = true) (hT : TTOK P tt) (hS : SpecsOK P sp) {f : FuncId} {fn : Func} {c : Code} (hf : P.funcs[f]? = some fn) (hname : (fn.name == "runtime.NumGoroutine") = false) (hb : fn.body = some c) {pre : α → Option Prop} {g : α → β}
    (H : ∀ a, Ok (pre a) → ∀ B : Base, B.dfs = [] → B.obs = [] → Clean 0 B.at0 → AWp none P B c (init (Args.encL a) fn.ntmps) (finK tt fn.results.toList (fun x => x = retSV (RetL.retL (g a))))) : SpecOK P f (fspec pre g) := by
  intro at_ w svs vs pr r hat hout hgl hs hp hr
  unfold fspec at hs
  split at hs
  · rename_i a ha
    simp only [Option.some.injEq, Prod.mk.injEq] at hs
    obtain ⟨rfl, rfl⟩ := hs
    have hrun : (callFunc f (List.toArray vs)).run P w = .ok (.enter f (List.toArray vs)) w := by
      have h1 : fn.name ≠ "runtime.NumGoroutine" := by simpa using hname
      simp [callFunc, hf, h1, hb]
    rw [hrun]
    refine (calls_of_awp hm hT hS hf hb (H a hp) (Args.nn a) hat hout hgl (Args.ok ha hr)).mono ?_
    rintro e w' ⟨v, h1, r', h2, h3, h4⟩
    rw [h2] at h3
    exact ⟨v, h1, h3, h4⟩
  · cases hs
/-- The body's proposition under decisions. -/
def FnRaw (tt : TT) (sp : Specs) (fuel : Nat) (D : Dec) (fn : Func) (g : α → β) (a : α) : Prop := vc tt sp fuel D (fn.body.getD .skip) (init (Args.encL a) fn.ntmps) (finK tt fn.results.toList (fun x => x = retSV (RetL.retL (g a))))
structure FnVD (tt : TT) (sp : Specs) (fuel : Nat) (D : Dec) (fn : Func) (g : α → β) (a : α) : Prop where
  out : FnRaw tt sp fuel D fn g a
theorem FnVD.raw {tt : TT} {sp : Specs} {fuel : Nat} {D : Dec} {fn : Func} {g : α → β} {a : α} (t : β) (h : g a = t) (k : FnRaw tt sp fuel D fn (fun _ : α => t) a) : FnVD tt sp fuel D fn g a := by
  refine ⟨?_⟩
  unfold FnRaw at *; rw [h]; exact k
theorem FnVD.of {tt : TT} {sp : Specs} {fuel : Nat} {D : Dec} {fn : Func} {g : α → β} {a : α} (t : β) (h : g a = t) {E : Prop} (hE : FnRaw tt sp fuel D fn (fun _ : α => t) a = E) (k : E) : FnVD tt sp fuel D fn g a := FnVD.raw t h (by rw [hE]; exact k)
/-- From the body's proposition, under decisions that are the arguments' own. -/
theorem fn_okD (hm : P.follows .mixedOrders = true) (hT : TTOK P tt) (hS : SpecsOK P sp) (fuel : Nat) {f : FuncId} {fn : Func} (hf : P.funcs[f]? = some fn) (hname : (fn.name == "runtime.NumGoroutine") = false) (hb : fn.body.isSome = true) {pre : α → Option Prop} {g : α → β}
    (H : ∀ a, Ok (pre a) → ∃ D, FnVD tt sp fuel D fn g a) : SpecOK P f (fspec pre g) := by
  obtain ⟨c, hc⟩ := Option.isSome_iff_exists.1 hb
  refine fn_awp hm hT hS hf hname hc fun a hp _ _ _ _ => ?_
  obtain ⟨D, ⟨h⟩⟩ := H a hp
  refine vc_ok (fuel := fuel) (D := D) hm hT hS c _ _ ?_
  unfold FnRaw at h
  rw [hc] at h
  exact h
/-- The body's proposition. -/
def FnVC (tt : TT) (sp : Specs) (fuel : Nat) (fn : Func) (g : α → β) (a : α) : Prop := vc tt sp fuel [] (fn.body.getD .skip) (init (Args.encL a) fn.ntmps) (finK tt fn.results.toList (fun x => x = retSV (RetL.retL (g a))))
/-- From the body's proposition, as a machine computes it. -/
theorem fn_ok (hm : P.follows .mixedOrders = true) (hT : TTOK P tt) (hS : SpecsOK P sp) (fuel : Nat) {f : FuncId} {fn : Func} (hf : P.funcs[f]? = some fn) (hname : (fn.name == "runtime.NumGoroutine") = false) (hb : fn.body.isSome = true) {pre : α → Option Prop} {g : α → β}
    (E : α → Prop) (hE : ∀ a, FnVC tt sp fuel fn g a = E a) (H : ∀ a, Ok (pre a) → E a) : SpecOK P f (fspec pre g) := by
  obtain ⟨c, hc⟩ := Option.isSome_iff_exists.1 hb
  refine fn_awp hm hT hS hf hname hc fun a hp _ _ _ _ => vc_ok (fuel := fuel) (D := []) hm hT hS c _ _ ?_
  have := hE a ▸ H a hp
  unfold FnVC at this
  rw [hc] at this
  exact this
end
end Go.Sym
/- Functions that write what their arguments lead to. -/
namespace Go.Sym
open Go.RowKit

/-- The callee's name of a block told as the caller's. -/
def ren (bs : List Nat) : SV → Option SV
  | .ptr i off => (bs[i]?).map (.ptr · off)
  | .slc i off len cap => (bs[i]?).map (.slc · off len cap)
  | .sl i lo len => (bs[i]?).map (.sl · lo len)
  | .lp i j => (bs[i]?).map (.lp · j)
  | .ap i j => (bs[i]?).map (.ap · j)
  | s => if s.noName = true then some s else none
def renL (bs : List Nat) : List SV → Option (List SV)
  | [] => some []
  | s :: l => match ren bs s, renL bs l with
    | some r, some rs => some (r :: rs)
    | _, _ => none
def initM (args : List SV) (n : Nat) (M0 : List Blk) : St := ⟨args ++ List.replicate (n - args.length) .any, M0.map some⟩
def takeM : Nat → List (Option Blk) → Option (List Blk)
  | 0, _ => some []
  | k + 1, some b :: M => if noNameL b = true then (takeM k M).map (b :: ·) else none
  | _, _ => none
def finM (tt : TT) (fr : List ResultVar) (k : Nat) (Q : SV → List Blk → Prop) : KT := fun e st =>
  match e with
  | .normal | .ret => match resAll tt st fr with
    | some vs => match (retSV vs).noName with
      | true => match takeM k st.M with
        | some M1 => Q (retSV vs) M1
        | none => False
      | false => False
    | none => False
  | _ => False

theorem takeM_ok : ∀ {k : Nat} {M : List (Option Blk)} {M1 : List Blk}, takeM k M = some M1 → M1.length = k ∧ ∀ (i : Nat) (cs : Blk), M1[i]? = some cs → M[i]? = some (some cs) ∧ noNameL cs = true
  | 0, _, _, h => by simp only [takeM, Option.some.injEq] at h; subst h; exact ⟨rfl, fun i cs h => by simp at h⟩
  | k + 1, [], _, h => by simp [takeM] at h
  | k + 1, none :: M, _, h => by simp [takeM] at h
  | k + 1, some b :: M, M1, h => by
    simp only [takeM] at h
    split at h
    · rename_i hn
      obtain ⟨L, hL, e⟩ := Option.map_eq_some_iff.1 h
      subst e
      obtain ⟨h1, h2⟩ := takeM_ok hL
      refine ⟨by simp [h1], fun i cs hi => ?_⟩
      cases i with
      | zero => simp at hi; subst hi; exact ⟨rfl, hn⟩
      | succ i => simp at hi; simpa using h2 i cs hi
    · cases h
theorem applyWs_zip [GLob] : ∀ {bs : List Nat} {L : List Blk} (M : List (Option Blk)), bs.Nodup → bs.length = L.length → (∀ b ∈ bs, b < M.length) → ∀ (i b : Nat) (cs : Blk), bs[i]? = some b → L[i]? = some cs → (applyWs M (bs.zip L))[b]? = some (some cs)
  | [], _, _, _, _, _, i, b, cs, h, _ => by simp at h
  | b0 :: bs, [], _, _, h, _, _, _, _, _, _ => by simp at h
  | b0 :: bs, l0 :: L, M, hnd, hlen, hlt, i, b, cs, hb, hc => by
    rw [List.nodup_cons] at hnd
    simp only [List.zip_cons_cons, applyWs, List.foldl_cons]
    have hlen' : bs.length = L.length := by simpa using hlen
    cases i with
    | zero =>
      simp at hb hc
      subst hb; subst hc
      have : ∀ p ∈ bs.zip L, p.1 ≠ b0 := fun p hp e => hnd.1 (e ▸ (List.of_mem_zip hp).1)
      have h1 := applyWs_get (bs.zip L) (M.set b0 (some l0)) b0 this
      unfold applyWs at h1
      rw [h1, List.getElem?_set_self (hlt b0 (by simp))]
    | succ i =>
      simp at hb hc
      have := applyWs_zip (M.set b0 (some l0)) hnd.2 hlen' (fun b hb => by rw [List.length_set]; exact hlt b (by simp [hb])) i b cs hb hc
      exact this

section
variable [GLob] {P : Program} {tt : TT} {sp : Specs}
theorem ren_ok {at_ at0 : At} {w : World} {bs : List Nat} (hnm : ∀ (i b : Nat), bs[i]? = some b → at0 i = at_ b) (hgn : ∀ (i b : Nat), bs[i]? = some b → at0.gn i = at_.gn b) (hfix : ∀ g, Fix at_ g → Fix at0 g) : ∀ (s s1 : SV) (v : Value), ren bs s = some s1 → Rel at_ w s1 v → Rel at0 w s v := by
  have _ := ‹GLob›
  intro s s1 v h r
  have key : (if s.noName = true then some s else none) = some s1 → Rel at0 w s v := by
    intro h
    split at h
    · rename_i hn
      simp only [Option.some.injEq] at h; subst h
      exact Rel.noName hfix _ _ hn r
    · cases h
  cases s with
  | ptr i off =>
    simp only [ren] at h
    obtain ⟨b, hb, e⟩ := Option.map_eq_some_iff.1 h
    subst e
    simp only [Rel] at r ⊢
    rw [hnm i b hb]; exact r
  | slc i off len cap =>
    simp only [ren] at h
    obtain ⟨b, hb, e⟩ := Option.map_eq_some_iff.1 h
    subst e
    simp only [Rel] at r ⊢
    rw [hnm i b hb]; exact r
  | sl i lo len =>
    simp only [ren] at h
    obtain ⟨b, hb, e⟩ := Option.map_eq_some_iff.1 h
    subst e
    simp only [Rel] at r ⊢
    rw [hgn i b hb]; exact r
  | lp i j =>
    simp only [ren] at h
    obtain ⟨b, hb, e⟩ := Option.map_eq_some_iff.1 h
    subst e
    simp only [Rel] at r ⊢
    rw [hgn i b hb]; exact r
  | ap i j =>
    simp only [ren] at h
    obtain ⟨b, hb, e⟩ := Option.map_eq_some_iff.1 h
    subst e
    simp only [Rel] at r ⊢
    rw [hgn i b hb]; exact r
  | _ => exact key h
theorem renL_ok {at_ at0 : At} {w : World} {bs : List Nat} (hnm : ∀ (i b : Nat), bs[i]? = some b → at0 i = at_ b) (hgn : ∀ (i b : Nat), bs[i]? = some b → at0.gn i = at_.gn b) (hfix : ∀ g, Fix at_ g → Fix at0 g) : ∀ (s s1 : List SV) (v : List Value), renL bs s = some s1 → RelL at_ w s1 v → RelL at0 w s v
  | [], _, _, h, r => by simp only [renL, Option.some.injEq] at h; subst h; simpa only [RelL] using r
  | s :: l, _, _, h, r => by
    simp only [renL] at h
    split at h
    · rename_i s1 l1 h1 h2
      simp only [Option.some.injEq] at h; subst h
      simp only [RelL] at r
      obtain ⟨u, us, rfl, r1, r2⟩ := r
      exact RelL.cons (ren_ok hnm hgn hfix _ _ _ h1 r1) (renL_ok hnm hgn hfix _ _ _ h2 r2)
    · cases h

/-- A function that writes what its arguments lead to. -/
theorem mspec_of_awp (hT : TTOK P tt) {f : FuncId} {fn : Func} {c : Code} (hf : P.funcs[f]? = some fn) (hname : (fn.name == "runtime.NumGoroutine") = false) (hb : fn.body = some c) {s : MSpecF}
    (H : ∀ look svs out, s look svs = some out → Ok out.pre → ∃ (bs : List Nat) (M0 M1 : List Blk) (svs0 svs1 : List SV),
      bs.Nodup ∧ bs.length = M0.length ∧ (∀ (i b : Nat), bs[i]? = some b → ∃ cs : Blk, M0[i]? = some cs ∧ look b = some cs) ∧ (∀ cs ∈ M0, noNameL cs = true) ∧
      (∀ (at_ : At) w vs, RelL at_ w svs vs → RelL at_ w svs1 vs) ∧ renL bs svs0 = some svs1 ∧ out.ws = bs.zip M1 ∧
      (∀ B : Base, B.dfs = [] → B.obs = [] → Clean M0.length B.at0 → AWp none P B c (initM svs0 fn.ntmps M0) (finM tt fn.results.toList M0.length (fun r M => r = out.sv ∧ M = M1)))) : MSpecOK P f s := by
  intro at_ M w look svs vs out hM hlook hs hp hr
  obtain ⟨bs, M0, M1, svs0, svs1, hnd, hlen, hbs, hn0, hrel, hren, hws, H⟩ := H look svs out hs hp
  have hrun : (callFunc f (List.toArray vs)).run P w = .ok (.enter f (List.toArray vs)) w := by
    have h1 : fn.name ≠ "runtime.NumGoroutine" := by simpa using hname
    simp [callFunc, hf, h1, hb]
  rw [hrun]
  have hr1 := hrel _ _ _ hr
  have hMb : ∀ (i b : Nat), bs[i]? = some b → ∃ cs : Blk, M0[i]? = some cs ∧ M[b]? = some (some cs) := fun i b h => by
    obtain ⟨cs, h1, h2⟩ := hbs i b h; exact ⟨cs, h1, hlook _ _ h2⟩
  let at0 : At := ⟨fun i => (bs[i]?).bind at_, fun g => (∃ n, at_ n = some g ∧ n ∉ bs) ∨ at_.out g ∨ ∃ n b c k, n ∉ bs ∧ at_.gn n = .live g b c k, fun i => match bs[i]? with | some b => at_.gn b | none => .unborn⟩
  have nm0 : ∀ (i g : Nat), at0 i = some g → ∃ b, bs[i]? = some b ∧ at_ b = some g := fun i g h => by
    simp only [at0] at h
    obtain ⟨b, h1, h2⟩ := Option.bind_eq_some_iff.1 h
    exact ⟨b, h1, h2⟩
  have nm1 : ∀ (i b : Nat), bs[i]? = some b → at0 i = at_ b := fun i b h => by simp only [at0, h, Option.bind_some]
  have gn1 : ∀ (i b : Nat), bs[i]? = some b → at0.gn i = at_.gn b := fun i b h => by simp only [at0, h]
  have gn0 : ∀ (i : Nat), at0.gn i ≠ .unborn → ∃ b, bs[i]? = some b ∧ at0.gn i = at_.gn b := fun i h => by
    cases hb : bs[i]? with
    | none => simp only [at0, hb] at h; exact absurd rfl h
    | some b => exact ⟨b, rfl, gn1 i b hb⟩
  have gl0 : ∀ (i g b c k : Nat), at0.gn i = .live g b c k → ∃ n, bs[i]? = some n ∧ at_.gn n = .live g b c k := fun i g b c k h => by
    obtain ⟨n, h1, h2⟩ := gn0 i (by rw [h]; simp)
    exact ⟨n, h1, by rw [← h2, h]⟩
  have fixA : ∀ g, Fix at_ g → Fix at0 g := fun g h => ⟨fun n e => by obtain ⟨b, _, h2⟩ := nm0 _ _ e; exact h.1 b h2, fun e => by
    rcases e with ⟨n, e, _⟩ | e | ⟨n, b, c, k, _, e⟩
    · exact h.1 n e
    · exact h.2.1 e
    · exact h.2.2 n b c k e, fun i b c k e => by obtain ⟨n, _, e'⟩ := gl0 _ _ _ _ _ e; exact h.2.2 n b c k e'⟩
  have idx : ∀ n m b, bs[n]? = some b → bs[m]? = some b → n = m := fun n m b h h' => by
    obtain ⟨l1, l2⟩ := List.getElem?_eq_some_iff.1 h
    obtain ⟨l1', l2'⟩ := List.getElem?_eq_some_iff.1 h'
    have hpw := List.pairwise_iff_getElem.1 hnd
    rcases Nat.lt_trichotomy n m with h | h | h
    · exact absurd (l2.trans l2'.symm) (hpw n m l1 l1' h)
    · exact h
    · exact absurd (l2'.trans l2.symm) (hpw m n l1' l1 h)
  have hmem0 : MemOK at0 (M0.map some) w := by
    have find : ∀ (i : Nat) (cs : Blk), (M0.map some)[i]? = some (some cs) → ∃ h : i < bs.length, M0[i]? = some cs ∧ M[bs[i]]? = some (some cs) := fun i cs e => by
      rw [List.getElem?_map] at e
      obtain ⟨cs', h1, h2⟩ := Option.map_eq_some_iff.1 e
      simp only [Option.some.injEq] at h2; subst h2
      have hi : i < bs.length := by rw [hlen]; exact (List.getElem?_eq_some_iff.1 h1).1
      obtain ⟨cs'', h3, h4⟩ := hMb i bs[i] (List.getElem?_eq_getElem hi)
      rw [h1] at h3; cases h3
      exact ⟨hi, h1, h4⟩
    refine ⟨fun i g cs e0 e => ?_, fun n m g e e' => ?_, fun i g e => ?_, fun g h => ?_, fun n l e => ?_, fun n m g b c k b' c' k' e e' => ?_, fun n m g b c k e e' => ?_, fun n e => ?_, fun n g b c k e => ?_, fun n g b c k e => ?_, fun n g e => ?_, hM.glb.fixed fixA⟩
    · obtain ⟨hi, h1, h4⟩ := find i cs e
      rw [nm1 i bs[i] (List.getElem?_eq_getElem hi)] at e0
      obtain ⟨ty, us, k2, k3⟩ := hM.blk _ _ _ e0 h4
      exact ⟨ty, us, k2, RelL.noName fixA _ _ (hn0 _ (List.mem_of_getElem? h1)) k3⟩
    · obtain ⟨b, h1, h2⟩ := nm0 _ _ e
      obtain ⟨b', h1', h2'⟩ := nm0 _ _ e'
      have := hM.inj _ _ _ h2 h2'; subst this
      exact idx _ _ _ h1 h1'
    · obtain ⟨b, h1, h2⟩ := nm0 _ _ e
      obtain ⟨cs, h3, h4⟩ := hMb _ _ h1
      exact ⟨(hM.dom _ _ h2).1, cs, by rw [List.getElem?_map, h3]; rfl⟩
    · rcases h with ⟨n, h, _⟩ | h | ⟨n, b, c, k, _, h⟩
      · exact (hM.dom _ _ h).1
      · exact hM.outlt g h
      · exact hM.gsz _ _ _ _ _ h
    · obtain ⟨hi, h1, h4⟩ := find n _ e
      rw [gn1 n bs[n] (List.getElem?_eq_getElem hi)]
      exact hM.glk _ _ h4
    · obtain ⟨a1, h1, h2⟩ := gl0 _ _ _ _ _ e
      obtain ⟨a2, h1', h2'⟩ := gl0 _ _ _ _ _ e'
      have := hM.ginj _ _ _ _ _ _ _ _ _ h2 h2'; subst this
      exact idx _ _ _ h1 h1'
    · obtain ⟨a1, h1, h2⟩ := nm0 _ _ e
      obtain ⟨a2, h1', h2'⟩ := gl0 _ _ _ _ _ e'
      exact hM.gap _ _ _ _ _ _ h2 h2'
    · obtain ⟨b, h1, h2⟩ := gn0 _ e
      obtain ⟨cs, h3, h4⟩ := hMb _ _ h1
      exact ⟨cs, by rw [List.getElem?_map, h3]; rfl⟩
    · obtain ⟨a2, h1', h2'⟩ := gl0 _ _ _ _ _ e
      exact hM.gsz _ _ _ _ _ h2'
    · obtain ⟨a2, h1', h2'⟩ := gl0 _ _ _ _ _ e
      rintro (⟨m, h, _⟩ | h | ⟨m, b', c', k', hm, h⟩)
      · exact hM.gap _ _ _ _ _ _ h h2'
      · exact hM.gout _ _ _ _ _ h2' h
      · have := hM.ginj _ _ _ _ _ _ _ _ _ h h2'; subst this
        exact hm (List.mem_of_getElem? h1')
    · obtain ⟨b, h1, h2⟩ := nm0 _ _ e
      rintro (⟨m, h, hm⟩ | h | ⟨m, b', c', k', _, h⟩)
      · have := hM.inj _ _ _ h h2; subst this
        exact hm (List.mem_of_getElem? h1)
      · exact hM.nout _ _ h2 h
      · exact hM.gap _ _ _ _ _ _ h2 h
  have hlenv := hr1.length
  have hrel0 : RelL at0 w svs0 vs := renL_ok nm1 gn1 fixA _ _ _ hren hr1
  have hlen0 := hrel0.length
  have hstart : Reps ⟨at0, w, [], []⟩ (initM svs0 fn.ntmps M0) { tmps := List.toArray vs ++ Array.replicate (fn.ntmps - (List.toArray vs).size) Go.undef, defers := [] } w := by
    refine ⟨at0, Later.refl _ _, hmem0, ?_, rfl, ObsOK.nil _ _⟩
    simp only [initM, Array.toList_append, Array.toList_replicate, List.size_toArray, hlen0]
    exact RelL.append hrel0 (RelL.replicate _ (by simp only [Rel]))
  have hcalls : Calls P f (List.toArray vs) w fun e w' => ∃ v, e = .returned v ∧ Post at_ w M out.ws out.sv v w' := by
    refine calls_of_wp hf hb ?_
    refine Code.wp_mono ?_ (wpIn_wide.1 (H ⟨at0, w, [], []⟩ rfl rfl (fun n hn => by have e : bs[n]? = none := List.getElem?_eq_none (by omega); simp [at0, e]) _ _ hstart))
    rintro e a' w' ⟨st', ⟨at', hl, hM', hT', hd⟩, hk⟩
    have fin : finM tt fn.results.toList M0.length (fun r M => r = out.sv ∧ M = M1) .ret st' →
        a'.defers = [] ∧ ∃ v, (results fn a'.tmps).run P w' = .ok v w' ∧ ∃ u, Ending.returned v = .returned u ∧ Post at_ w M out.ws out.sv u w' := by
      intro hk
      refine ⟨hd, ?_⟩
      simp only [finM] at hk
      split at hk
      · rename_i svs' hres
        split at hk
        · rename_i hnn
          split at hk
          · rename_i M1' htake
            obtain ⟨hk1, hk2⟩ := hk
            subst hk2
            obtain ⟨us, h1, h2⟩ := resAll_ok hT hM' hT' _ _ hres
            have hrun := results_run h1
            refine ⟨_, hrun, _, rfl, ?_⟩
            have hrelr : Rel at' w' (retSV svs') (retV us) := by
              rcases svs' with _ | ⟨s, _ | ⟨s', ss⟩⟩
              · simp only [RelL] at h2; subst h2; simp only [retSV, Rel]; exact ⟨[], rfl, RelL.nil⟩
              · simp only [RelL] at h2
                obtain ⟨v, vs', rfl, h3, rfl⟩ := h2
                exact h3
              · have h2' := h2
                simp only [RelL] at h2
                obtain ⟨v, vs', rfl, h3, v', vs'', rfl, h4, h5⟩ := h2
                simp only [retSV, Rel]
                exact ⟨_, rfl, h2'⟩
            obtain ⟨t1, t2⟩ := takeM_ok htake
            let atF : At := ⟨at_.nm, at_.out, fun n => if n ∈ bs then at'.gn (bs.idxOf n) else at_.gn n⟩
            have hidx : ∀ n, n ∈ bs → bs[bs.idxOf n]? = some n := fun n hn => by
              have hlt := List.idxOf_lt_length_iff.2 hn
              rw [List.getElem?_eq_getElem hlt, List.getElem_idxOf]
            have gF : ∀ n g b c k, atF.gn n = .live g b c k → (n ∈ bs ∧ at'.gn (bs.idxOf n) = .live g b c k) ∨ (n ∉ bs ∧ at_.gn n = .live g b c k) := fun n g b c k h => by
              simp only [atF] at h
              split at h
              · exact .inl ⟨by assumption, h⟩
              · exact .inr ⟨by assumption, h⟩
            have fixB : ∀ g, Fix at' g → Fix atF g := fun g h => ⟨fun n e => by
              by_cases hn : n ∈ bs
              · exact h.1 _ (hl.name _ _ (by rw [nm1 _ n (hidx n hn)]; exact e))
              · exact h.2.1 (by rw [hl.out]; exact .inl ⟨n, e, hn⟩), fun e => h.2.1 (by rw [hl.out]; exact .inr (.inl e)), fun n b c k e => by
              rcases gF _ _ _ _ _ e with ⟨_, e⟩ | ⟨hn, e⟩
              · exact h.2.2 _ _ _ _ e
              · exact h.2.1 (by rw [hl.out]; exact .inr (.inr ⟨n, b, c, k, hn, e⟩))⟩
            have keepF : ∀ g, (∀ n, at_ n ≠ some g ∨ n ∉ bs) → (∀ n b c k, at_.gn n ≠ .live g b c k ∨ n ∉ bs) → g < w.heap.size → (∀ n b c k, at'.gn n ≠ .live g b c k) ∧ w'.heap[g]? = w.heap[g]? := fun g hg hg' hlt =>
              (hl.keep g (fun n e => by
                obtain ⟨b, h1, h2⟩ := nm0 _ _ e
                rcases hg b with h | h
                · exact h h2
                · exact h (List.mem_of_getElem? h1)) (fun n b c k e => by
                obtain ⟨m, h1, h2⟩ := gl0 _ _ _ _ _ e
                rcases hg' m b c k with h | h
                · exact h h2
                · exact h (List.mem_of_getElem? h1)) hlt).2
            have hl' : Later at_ w atF w' := by
              refine ⟨hl.os, hl.tape, hl.output, hl.size, fun _ _ h => h, fun g hg hg' hlt => ?_, rfl, fun _ _ h => .inl h, fun n => ?_, fun n g b c k e => ?_⟩
              · obtain ⟨h1, h2⟩ := keepF g (fun n => .inl (hg n)) (fun n b c k => .inl (hg' n b c k)) hlt
                exact ⟨hg, fun n b c k e => by
                  rcases gF _ _ _ _ _ e with ⟨_, e⟩ | ⟨_, e⟩
                  · exact h1 _ _ _ _ e
                  · exact hg' _ _ _ _ e, h2⟩
              · by_cases hn : n ∈ bs
                · simp only [atF, hn, if_true]
                  have := hl.gname (bs.idxOf n)
                  rw [gn1 _ n (hidx n hn)] at this
                  exact this
                · simp only [atF, hn, if_false]; exact .inr (.inl trivial)
              · rcases gF _ _ _ _ _ e with ⟨_, e⟩ | ⟨_, e⟩
                · rcases hl.gnew _ _ _ _ _ e with ⟨m, b', c', k', e'⟩ | e'
                  · obtain ⟨q, _, e2⟩ := gl0 _ _ _ _ _ e'
                    exact .inl ⟨q, _, _, _, e2⟩
                  · exact .inr e'
                · exact .inl ⟨n, b, c, k, e⟩
            have hblt : ∀ b ∈ bs, b < M.length := fun b hb => by
              obtain ⟨i, hi⟩ := List.getElem?_of_mem hb
              obtain ⟨cs, _, h4⟩ := hMb i b hi
              exact (List.getElem?_eq_some_iff.1 h4).1
            have some1 : ∀ n, n ∈ bs → ∃ h : bs.idxOf n < M1'.length, (applyWs M out.ws)[n]? = some (some M1'[bs.idxOf n]) := fun n hn => by
              have hil : bs.idxOf n < M1'.length := by rw [t1, ← hlen]; exact List.idxOf_lt_length_iff.2 hn
              refine ⟨hil, ?_⟩
              rw [hws]
              exact applyWs_zip M hnd (by rw [t1, hlen]) hblt _ n _ (hidx n hn) (List.getElem?_eq_getElem hil)
            have none1 : ∀ n, n ∉ bs → (applyWs M out.ws)[n]? = M[n]? := fun n hn => by
              rw [hws]
              exact applyWs_get _ _ _ (fun p hp e => hn (e ▸ (List.of_mem_zip hp).1))
            have outF : ∀ g, at0.out g → at'.out g := fun g h => by rw [hl.out]; exact h
            refine ⟨atF, hl', ⟨fun n g cs e1 e => ?_, hM.inj, fun n g e => ⟨Nat.lt_of_lt_of_le (hM.dom n g e).1 hl.size, ?_⟩, fun g h => Nat.lt_of_lt_of_le (hM.outlt g h) hl.size, fun n l e => ?_, fun n m g b c k b' c' k' e e' => ?_, fun n m g b c k e e' => ?_, fun n e => ?_, fun n g b c k e => ?_, fun n g b c k e => ?_, hM.nout, hM.glb.later hl'⟩, by rw [← hk1]; exact Rel.noName fixB _ _ hnn hrelr⟩
            · have e1' : at_ n = some g := e1
              by_cases hn : n ∈ bs
              · obtain ⟨hil, e2⟩ := some1 n hn
                rw [e2] at e
                simp only [Option.some.injEq] at e
                obtain ⟨k1, k2⟩ := t2 _ _ (List.getElem?_eq_getElem hil)
                have hnm := hl.name _ g (by rw [nm1 _ n (hidx n hn)]; exact e1')
                obtain ⟨ty, us', m2, m3⟩ := hM'.blk _ _ _ hnm k1
                exact ⟨ty, us', m2, by rw [← e]; exact RelL.noName fixB _ _ k2 m3⟩
              · rw [none1 n hn] at e
                obtain ⟨ty, us', m2, m3⟩ := hM.blk _ _ _ e1' e
                refine ⟨ty, us', ?_, RelL.later hl' _ _ m3⟩
                rw [(keepF g (fun m => ?_) (fun m b c k => .inl (hM.gap n m g b c k e1')) (lt_of_heap m2)).2]
                · exact m2
                · by_cases hm : at_ m = some g
                  · have := hM.inj _ _ _ hm e1'; subst this; exact .inr hn
                  · exact .inl hm
            · by_cases hn : n ∈ bs
              · obtain ⟨hil, e2⟩ := some1 n hn
                exact ⟨_, e2⟩
              · rw [none1 n hn]; exact (hM.dom n g e).2
            · by_cases hn : n ∈ bs
              · obtain ⟨hil, e2⟩ := some1 n hn
                rw [e2] at e
                simp only [Option.some.injEq] at e
                obtain ⟨k1, k2⟩ := t2 _ _ (List.getElem?_eq_getElem hil)
                rw [e] at k1
                have hg : atF.gn n = at'.gn (bs.idxOf n) := by simp only [atF, hn, if_true]
                rw [hg]; exact hM'.glk _ _ k1
              · rw [none1 n hn] at e
                have hg : atF.gn n = at_.gn n := by simp only [atF, hn, if_false]
                rw [hg]
                rcases hM.glk n l e with k | ⟨g, b, c, k1, k2⟩
                · exact .inl k
                · refine .inr ⟨g, b, c, k1, k2.mono (keepF g (fun m => .inl (fun e' => hM.gap m n g b c l.len e' k1)) (fun m b' c' k' => ?_) (hM.gsz _ _ _ _ _ k1)).2⟩
                  by_cases hm : at_.gn m = .live g b' c' k'
                  · have := hM.ginj _ _ _ _ _ _ _ _ _ hm k1; subst this; exact .inr hn
                  · exact .inl hm
            · rcases gF _ _ _ _ _ e with ⟨h1, h2⟩ | ⟨h1, h2⟩ <;> rcases gF _ _ _ _ _ e' with ⟨h1', h2'⟩ | ⟨h1', h2'⟩
              · have := hM'.ginj _ _ _ _ _ _ _ _ _ h2 h2'
                have q1 := hidx n h1
                rw [this, hidx m h1'] at q1
                simpa using q1.symm
              · exact (hM'.gout _ _ _ _ _ h2 (outF g (.inr (.inr ⟨m, _, _, _, h1', h2'⟩)))).elim
              · exact (hM'.gout _ _ _ _ _ h2' (outF g (.inr (.inr ⟨n, _, _, _, h1, h2⟩)))).elim
              · exact hM.ginj _ _ _ _ _ _ _ _ _ h2 h2'
            · have e1' : at_ n = some g := e
              rcases gF _ _ _ _ _ e' with ⟨h1', h2'⟩ | ⟨h1', h2'⟩
              · by_cases hn : n ∈ bs
                · exact hM'.gap _ _ _ _ _ _ (hl.name _ g (by rw [nm1 _ n (hidx n hn)]; exact e1')) h2'
                · exact hM'.gout _ _ _ _ _ h2' (outF g (.inl ⟨n, e1', hn⟩))
              · exact hM.gap _ _ _ _ _ _ e1' h2'
            · by_cases hn : n ∈ bs
              · obtain ⟨hil, e2⟩ := some1 n hn
                exact ⟨_, e2⟩
              · rw [none1 n hn]
                have hg : atF.gn n = at_.gn n := by simp only [atF, hn, if_false]
                rw [hg] at e
                exact hM.gdom n e
            · rcases gF _ _ _ _ _ e with ⟨_, h2⟩ | ⟨_, h2⟩
              · exact hM'.gsz _ _ _ _ _ h2
              · exact Nat.lt_of_lt_of_le (hM.gsz _ _ _ _ _ h2) hl.size
            · rcases gF _ _ _ _ _ e with ⟨_, h2⟩ | ⟨_, h2⟩
              · exact fun h => hM'.gout _ _ _ _ _ h2 (outF g (.inr (.inl h)))
              · exact hM.gout _ _ _ _ _ h2
          · exact hk.elim
        · exact hk.elim
      · exact hk.elim
    cases e with
    | normal => exact fin hk
    | ret => exact fin hk
    | exit id => exact hk.elim
    | goto l => exact hk.elim
    | panic ch => exact hk.elim
    | outgrown => exact hk.elim
  exact hcalls
end
end Go.Sym
/- Loops, met by what holds at their heads. -/
namespace Go.Sym
open Go.RowKit

/-- A name at a loop's head: that of a block that there was, or that of a list of no cells (in a slot). -/
inductive NM where
  | old (b : Nat)
  | nil (slot : Nat) (k : IntKind)
def NM.same : NM → NM → Bool
  | .old a, .old b => a == b
  | .nil a _, .nil b _ => a == b
  | _, _ => false
def NM.idx (x : NM) : List NM → Option Nat
  | [] => none
  | y :: l => if x.same y = true then some 0 else (NM.idx x l).map (· + 1)
def NM.nodup : List NM → Bool
  | [] => true
  | x :: l => (NM.idx x l).isNone && NM.nodup l
/-- How a slot is told: a list of that kind may be none; so may, of a block, the cells at those places; a block is told as a list. -/
structure LK where
  nil : Option IntKind := none
  ins : List (Nat × IntKind) := []
  arr : Bool := false
  frz : Bool := false
/-- The name that a slot's value leads to. -/
def nameOf (k slot : Nat) (kind : Option IntKind) : SV → Option NM
  | .ptr b _ | .slc b _ _ _ | .sl b _ _ | .lp b _ | .ap b _ => if b < k then none else some (.old b)
  | .val (.slice none 0 0) => match kind with
    | some kd => some (.nil slot kd)
    | none => none
  | _ => none
def addN (names : List NM) : Option NM → List NM
  | some x => match NM.idx x names with
    | some _ => names
    | none => names ++ [x]
  | none => names
def addNs : List NM → List NM → List NM
  | names, [] => names
  | names, x :: xs => addNs (addN names (some x)) xs
abbrev IK := List (Nat × List (Nat × IntKind))
def ik (iks : IK) (b j : Nat) : Option IntKind :=
  match iks.lookup b with
  | some l => l.lookup j
  | none => none
def ic (b j : Nat) : Nat := 1000000 + 1000 * b + j
def cellNames (k : Nat) (iks : IK) (b : Nat) : Nat → List SV → List NM
  | _, [] => []
  | j, c :: cs => match nameOf k (ic b j) (ik iks b j) c with
    | some x => x :: cellNames k iks b (j + 1) cs
    | none => cellNames k iks b (j + 1) cs
def blkNames (k : Nat) (iks : IK) (M : List (Option Blk)) (b : Nat) : List NM :=
  match M.getD b none with
  | some cs => cellNames k iks b 0 cs
  | none => []
def collectA (k : Nat) (iks : IK) (M : List (Option Blk)) : List Nat → List NM → List NM
  | [], names => names
  | b :: bs, names => collectA k iks M bs (addNs names (blkNames k iks M b))
def collect (k : Nat) (iks : IK) (M : List (Option Blk)) (T : List SV) : List (Nat × LK) → List NM → List NM
  | [], names => names
  | s :: l, names => match nameOf k s.1 s.2.nil (T.getD s.1 .any) with
    | some (.old b) => collect k iks M T l (addNs (addN names (some (.old b))) (blkNames k iks M b))
    | x => collect k iks M T l (addN names x)
def iksOf (T : List SV) : List (Nat × LK) → IK
  | [] => []
  | s :: l => match T.getD s.1 .any, s.2.ins with
    | .ptr b _, x :: xs => (b, x :: xs) :: iksOf T l
    | _, _ => iksOf T l
def canonV (k : Nat) (names : List NM) (slot : Nat) (kind : Option IntKind) (v : SV) : Option SV :=
  match v with
  | .ptr b off => if b < k then some v else (NM.idx (.old b) names).map fun j => .ptr (k + j) off
  | .slc b off len cap => if b < k then some v else (NM.idx (.old b) names).map fun j => .slc (k + j) off len cap
  | .sl b lo len => if b < k then some v else (NM.idx (.old b) names).map fun j => .sl (k + j) lo len
  | .lp b i => if b < k then some v else (NM.idx (.old b) names).map fun j => .lp (k + j) i
  | .ap b n => if b < k then some v else (NM.idx (.old b) names).map fun j => .ap (k + j) n
  | .val (.slice none 0 0) => match kind with
    | some kd => (NM.idx (.nil slot kd) names).map fun j => .sl (k + j) 0 0
    | none => some v
  | v => if v.noName = true then some v else none
def canonL (k : Nat) (names : List NM) (T : List SV) : List (Nat × LK) → Option (List SV)
  | [] => some []
  | s :: l => match canonV k names s.1 s.2.nil (T.getD s.1 .any), canonL k names T l with
    | some v, some vs => some (v :: vs)
    | _, _ => none
def canonC (k : Nat) (names : List NM) (iks : IK) (b : Nat) : Nat → List SV → Option (List SV)
  | _, [] => some []
  | j, c :: cs => match canonV k names (ic b j) (ik iks b j) c, canonC k names iks b (j + 1) cs with
    | some v, some vs => some (v :: vs)
    | _, _ => none
def canonB (k : Nat) (names : List NM) (iks : IK) (M : List (Option Blk)) (b : Nat) : Option (Option Blk) :=
  match M.getD b none with
  | some cs => (canonC k names iks b 0 cs).map some
  | none => some none
def nmB (k : Nat) (names : List NM) (iks : IK) (M : List (Option Blk)) : NM → Option (Option Blk)
  | .old b => canonB k names iks M b
  | .nil _ kd => (LV.rep kd 0).map fun l => some [.own l]
def mapO {α β : Type} (f : α → Option β) : List α → Option (List β)
  | [] => some []
  | x :: xs => match f x, mapO f xs with
    | some y, some ys => some (y :: ys)
    | _, _ => none
def nmOK (k : Nat) : NM → Bool
  | .old b => decide (k ≤ b)
  | .nil _ _ => true
def namesOK (k : Nat) (names : List NM) : Bool := NM.nodup names && names.all (nmOK k)
/-- A state as a loop's head sees it: what stays, what changes, the blocks. -/
def normN (k : Nat) (same : List Nat) (keep : List (Nat × LK)) (st : St) (iks : IK) (names : List NM) : Option (List SV × List SV × List (Option Blk)) :=
  if namesOK k names = true then
    match canonL k names st.T keep, mapO (canonB k names iks st.M) (List.range k), mapO (nmB k names iks st.M) names with
    | some vals, some A, some B => if noNameL (same.map fun i => st.T.getD i .any) = true then some (same.map (fun i => st.T.getD i .any), vals, A ++ B) else none
    | _, _, _ => none
  else none
def norm (k : Nat) (same : List Nat) (keep : List (Nat × LK)) (n : Nat) (st : St) : Option (List SV × List SV × List (Option Blk)) :=
  if st.T.length = n ∧ k ≤ st.M.length then normN k same keep st (iksOf st.T keep) (collect k (iksOf st.T keep) st.M st.T keep (collectA k (iksOf st.T keep) st.M (List.range k) [])) else none
/-- A block of numbers is told as a list from here on. -/
def arrV (b n : Nat) : SV → SV
  | .ptr b' off => if b' = b then (match off with
    | 0 => .ap b n
    | _ => .any) else .ptr b' off
  | v => if (names v).contains b = true then .any else v
def noMention (b : Nat) : Option Blk → Bool
  | some cs => !(namesL cs).contains b
  | none => true
def arr1 (k slot : Nat) (st : St) : St :=
  match st.T.getD slot .any with
  | .ptr b 0 => if k ≤ b then match st.M.getD b none with
      | some cs => match asLV cs with
        | some l => if (decide (l.len ≤ 65536) && st.M.all (noMention b)) = true then ⟨st.T.map (arrV b l.len), st.M.set b (some [.own l])⟩ else st
        | none => st
      | none => st
    else st
  | _ => st
/-- An own list is given up: from here on it is read only. -/
def frzS (slot : Nat) (st : St) : St :=
  match st.T.getD slot .any with
  | .sl b lo len => match st.M.getD b none with
    | some [.own l] => ⟨st.T.set slot (.lst (l.cut lo (lo + len))), st.M.set b (some [])⟩
    | _ => st
  | _ => st
def frzs : List (Nat × LK) → St → St
  | [], st => st
  | s :: l, st => match s.2.frz with
    | true => frzs l (frzS s.1 st)
    | false => frzs l st
def frzAll : List Nat → St → St
  | [], st => st
  | s :: l, st => frzAll l (frzS s st)
def arrs (k : Nat) : List (Nat × LK) → St → St
  | [], st => st
  | s :: l, st => match s.2.arr with
    | true => arrs k l (arr1 k s.1 st)
    | false => arrs k l st
def lookS (i : Nat) : List Nat → List SV → Option SV
  | j :: js, v :: vs => if i == j then some v else lookS i js vs
  | _, _ => none
def place (n : Nat) (same : List Nat) (ss : List SV) (keep : List Nat) (vals : List SV) : List SV :=
  (List.range n).map fun i => match lookS i same ss with
    | some v => v
    | none => match lookS i keep vals with
      | some v => v
      | none => .any

/-! What it says of the model. -/
theorem NM.idx_ok {x : NM} : ∀ {l : List NM} {j : Nat}, NM.idx x l = some j → ∃ y, l[j]? = some y ∧ x.same y = true
  | [], _, h => by simp [NM.idx] at h
  | y :: l, j, h => by
    simp only [NM.idx] at h
    split at h
    · rename_i hs; simp only [Option.some.injEq] at h; subst h; exact ⟨y, rfl, hs⟩
    · obtain ⟨i, h1, h2⟩ := Option.map_eq_some_iff.1 h
      obtain ⟨z, h3, h4⟩ := NM.idx_ok h1
      subst h2
      exact ⟨z, by simpa using h3, h4⟩
theorem NM.idx_none {x : NM} : ∀ {l : List NM}, NM.idx x l = none → ∀ y ∈ l, x.same y = false
  | [], _, _, h => by simp at h
  | z :: l, h, y, hy => by
    simp only [NM.idx] at h
    split at h
    · cases h
    · rename_i hs
      rcases List.mem_cons.1 hy with rfl | hy
      · simpa using hs
      · exact NM.idx_none (by simpa using h) y hy
theorem NM.same_old {b : Nat} {y : NM} (h : (NM.old b).same y = true) : y = .old b := by
  cases y <;> simp [NM.same] at h
  subst h; rfl
theorem NM.nodup_ok : ∀ {l : List NM}, NM.nodup l = true → ∀ (i j b : Nat), l[i]? = some (.old b) → l[j]? = some (.old b) → i = j
  | [], _, i, _, _, h, _ => by simp at h
  | x :: l, h, i, j, b, hi, hj => by
    simp only [NM.nodup, Bool.and_eq_true] at h
    have hx : ∀ y ∈ l, x.same y = false := NM.idx_none (by simpa using h.1)
    cases i with
    | zero =>
      cases j with
      | zero => rfl
      | succ j =>
        simp at hi hj
        have := hx _ (List.mem_of_getElem? hj)
        subst hi
        simp [NM.same] at this
    | succ i =>
      cases j with
      | zero =>
        simp at hi hj
        have := hx _ (List.mem_of_getElem? hi)
        subst hj
        simp [NM.same] at this
      | succ j =>
        simp at hi hj
        rw [NM.nodup_ok h.2 i j b hi hj]

def und (k : Nat) (names : List NM) (n : Nat) : Option Nat :=
  if n < k then some n else match names[n - k]? with
    | some (.old b) => some b
    | _ => none
def atN (k : Nat) (names : List NM) (at_ : At) : At :=
  ⟨fun n => (und k names n).bind at_.nm, at_.out, fun n => if n < k then at_.gn n else match names[n - k]? with
    | some (.old b) => at_.gn b
    | some (.nil _ _) => .nil
    | none => .unborn⟩

section
variable [GLob] {B : Base} {at_ : At} {w : World} {k : Nat} {names : List NM} {M : List (Option Blk)}
theorem atN_nm {n g : Nat} (h : (atN k names at_) n = some g) : ∃ b, und k names n = some b ∧ at_ b = some g := have _ := ‹GLob›; Option.bind_eq_some_iff.1 h
theorem atN_live {n g b c m : Nat} (h : (atN k names at_).gn n = .live g b c m) : ∃ q, und k names n = some q ∧ at_.gn q = .live g b c m := by
  have _ := ‹GLob›
  simp only [atN] at h
  unfold und
  split at h
  · rename_i hk; rw [if_pos hk]; exact ⟨n, rfl, h⟩
  · rename_i hk
    rw [if_neg hk]
    split at h
    · rename_i b' hb; rw [hb]; exact ⟨b', rfl, h⟩
    · cases h
    · cases h
theorem und_inj (hn : NM.nodup names = true) (hk : ∀ b, NM.old b ∈ names → k ≤ b) {n m q : Nat} (h : und k names n = some q) (h' : und k names m = some q) : n = m := by
  have _ := ‹GLob›
  unfold und at h h'
  split at h <;> split at h'
  · simp at h h'; omega
  · rename_i h1 h2
    split at h'
    · rename_i b hb; simp at h h'; have := hk _ (List.mem_of_getElem? hb); omega
    · cases h'
  · rename_i h1 h2
    split at h
    · rename_i b hb; simp at h h'; have := hk _ (List.mem_of_getElem? hb); omega
    · cases h
  · rename_i h1 h2
    split at h
    · rename_i b hb
      split at h'
      · rename_i b' hb'
        simp at h h'
        subst h; subst h'
        have := NM.nodup_ok hn _ _ _ hb hb'
        omega
      · cases h'
    · cases h
theorem fixN (g : Nat) (h : Fix at_ g) : Fix (atN k names at_) g :=
  ⟨fun n e => by obtain ⟨b, _, h2⟩ := atN_nm e; exact h.1 b h2, h.2.1, fun n b c m e => by obtain ⟨q, _, h2⟩ := atN_live e; exact h.2.2 _ _ _ _ h2⟩
theorem laterN (hc : Clean k B.at0) (hk : ∀ b, NM.old b ∈ names → k ≤ b) (h : Later B.at0 B.w0 at_ w) : Later B.at0 B.w0 (atN k names at_) w := by
  refine ⟨h.os, h.tape, h.output, h.size, fun n g e => ?_, fun g h1 h2 h3 => ?_, h.out, fun n g e => ?_, fun n => ?_, fun n g b c m e => ?_⟩
  · by_cases hn : n < k
    · show (und k names n).bind at_.nm = some g
      unfold und; rw [if_pos hn]; exact h.name n g e
    · rw [(hc n (by omega)).1] at e; cases e
  · obtain ⟨k1, k2, k3⟩ := h.keep g h1 h2 h3
    exact ⟨fun n e => by obtain ⟨b, _, e2⟩ := atN_nm e; exact k1 b e2, fun n b c m e => by obtain ⟨q, _, e2⟩ := atN_live e; exact k2 _ _ _ _ e2, k3⟩
  · obtain ⟨b, h1, h2⟩ := atN_nm e
    rcases h.new b g h2 with h3 | h3
    · by_cases hb : b < k
      · unfold und at h1
        split at h1
        · simp at h1; subst h1; exact .inl h3
        · split at h1
          · rename_i b' hb'; simp at h1; subst h1; have := hk _ (List.mem_of_getElem? hb'); omega
          · cases h1
      · rw [(hc b (by omega)).1] at h3; cases h3
    · exact .inr h3
  · by_cases hn : n < k
    · have : (atN k names at_).gn n = at_.gn n := by simp only [atN, if_pos hn]
      rw [this]; exact h.gname n
    · exact .inl (hc n (by omega)).2
  · obtain ⟨q, _, h2⟩ := atN_live e
    exact h.gnew _ _ _ _ _ h2

theorem mapO_ok {α β : Type} {f : α → Option β} : ∀ {l : List α} {r : List β}, mapO f l = some r → r.length = l.length ∧ ∀ (i : Nat) (x : α), l[i]? = some x → ∃ y, r[i]? = some y ∧ f x = some y
  | [], r, h => by have _ := ‹GLob›; simp only [mapO, Option.some.injEq] at h; subst h; exact ⟨rfl, fun i x h => by simp at h⟩
  | x :: xs, r, h => by
    simp only [mapO] at h
    split at h
    · rename_i y ys h1 h2
      simp only [Option.some.injEq] at h; subst h
      obtain ⟨k1, k2⟩ := mapO_ok h2
      refine ⟨by simp [k1], fun i z hz => ?_⟩
      cases i with
      | zero => simp at hz; subst hz; exact ⟨y, rfl, h1⟩
      | succ i => simpa using k2 i z (by simpa using hz)
    · cases h
theorem canonV_own {slot : Nat} {kind : Option IntKind} {v : SV} {l : LV} (h : canonV k names slot kind v = some (.own l)) : v = .own l := by
  have _ := ‹GLob›
  unfold canonV at h
  split at h
  · split at h
    · simp at h
    · obtain ⟨j, _, e⟩ := Option.map_eq_some_iff.1 h; cases e
  · split at h
    · simp at h
    · obtain ⟨j, _, e⟩ := Option.map_eq_some_iff.1 h; cases e
  · split at h
    · simp at h
    · obtain ⟨j, _, e⟩ := Option.map_eq_some_iff.1 h; cases e
  · split at h
    · simp at h
    · obtain ⟨j, _, e⟩ := Option.map_eq_some_iff.1 h; cases e
  · split at h
    · simp at h
    · obtain ⟨j, _, e⟩ := Option.map_eq_some_iff.1 h; cases e
  · split at h
    · obtain ⟨j, _, e⟩ := Option.map_eq_some_iff.1 h; cases e
    · simp at h
  · split at h
    · simpa using h
    · cases h
theorem canonC_own {iks : IK} {b j : Nat} {cs : List SV} {l : LV} (h : canonC k names iks b j cs = some [.own l]) : cs = [.own l] := by
  cases cs with
  | nil => simp [canonC] at h
  | cons c cs =>
    simp only [canonC] at h
    split at h
    · rename_i v vs h1 h2
      simp only [Option.some.injEq, List.cons.injEq] at h
      obtain ⟨rfl, rfl⟩ := h
      rw [canonV_own h1]
      cases cs with
      | nil => rfl
      | cons d ds => simp only [canonC] at h2; split at h2 <;> simp at h2
    · cases h

theorem und_idx {x : NM} {j b : Nat} (h : NM.idx x names = some j) (hx : x = .old b) : und k names (k + j) = some b ∧ (atN k names at_).gn (k + j) = at_.gn b := by
  have _ := ‹GLob›
  subst hx
  obtain ⟨y, h1, h2⟩ := NM.idx_ok h
  have := NM.same_old h2
  subst this
  have hn : ¬ (k + j < k) := by omega
  have hj : k + j - k = j := by omega
  unfold und
  simp only [atN, if_neg hn, hj, h1, and_self]
theorem canonV_ok {slot : Nat} {kind : Option IntKind} {v v' : SV} {u : Value} (h : canonV k names slot kind v = some v') (r : Rel at_ w v u) : Rel (atN k names at_) w v' u := by
  have low : ∀ {b : Nat}, b < k → (atN k names at_) b = at_ b ∧ (atN k names at_).gn b = at_.gn b := fun {b} hb => by
    refine ⟨?_, by simp only [atN, if_pos hb]⟩
    show (und k names b).bind at_.nm = _
    unfold und; rw [if_pos hb]; rfl
  have high : ∀ {b j : Nat}, NM.idx (.old b) names = some j → (atN k names at_) (k + j) = at_ b ∧ (atN k names at_).gn (k + j) = at_.gn b := fun {b j} hj => by
    obtain ⟨h1, h2⟩ := und_idx (k := k) (at_ := at_) hj rfl
    refine ⟨?_, h2⟩
    show (und k names (k + j)).bind at_.nm = _
    rw [h1]; rfl
  have rest : (if v.noName = true then some v else none) = some v' → Rel (atN k names at_) w v' u := fun h => by
    split at h
    · rename_i hn; simp only [Option.some.injEq] at h; subst h; exact Rel.noName (fun g h => fixN g h) _ _ hn r
    · cases h
  unfold canonV at h
  split at h
  · split at h
    · rename_i hb
      simp only [Option.some.injEq] at h; subst h
      simp only [Rel] at r ⊢; rw [(low hb).1]; exact r
    · obtain ⟨j, h1, h2⟩ := Option.map_eq_some_iff.1 h
      subst h2
      simp only [Rel] at r ⊢; rw [(high h1).1]; exact r
  · split at h
    · rename_i hb
      simp only [Option.some.injEq] at h; subst h
      simp only [Rel] at r ⊢; rw [(low hb).1]; exact r
    · obtain ⟨j, h1, h2⟩ := Option.map_eq_some_iff.1 h
      subst h2
      simp only [Rel] at r ⊢; rw [(high h1).1]; exact r
  · split at h
    · rename_i hb
      simp only [Option.some.injEq] at h; subst h
      simp only [Rel] at r ⊢; rw [(low hb).2]; exact r
    · obtain ⟨j, h1, h2⟩ := Option.map_eq_some_iff.1 h
      subst h2
      simp only [Rel] at r ⊢; rw [(high h1).2]; exact r
  · split at h
    · rename_i hb
      simp only [Option.some.injEq] at h; subst h
      simp only [Rel] at r ⊢; rw [(low hb).2]; exact r
    · obtain ⟨j, h1, h2⟩ := Option.map_eq_some_iff.1 h
      subst h2
      simp only [Rel] at r ⊢; rw [(high h1).2]; exact r
  · split at h
    · rename_i hb
      simp only [Option.some.injEq] at h; subst h
      simp only [Rel] at r ⊢; rw [(low hb).2]; exact r
    · obtain ⟨j, h1, h2⟩ := Option.map_eq_some_iff.1 h
      subst h2
      simp only [Rel] at r ⊢; rw [(high h1).2]; exact r
  · split at h
    · rename_i kd
      obtain ⟨j, h1, h2⟩ := Option.map_eq_some_iff.1 h
      subst h2
      obtain ⟨y, h3, h4⟩ := NM.idx_ok h1
      cases y with
      | old b => simp [NM.same] at h4
      | nil s kd' =>
        simp only [Rel] at r ⊢
        subst r
        have hn : ¬ (k + j < k) := by omega
        have hj : k + j - k = j := by omega
        simp only [atN, if_neg hn, hj, h3]
        refine ⟨by simp, by simp, fun g b c n e => by simp [GN.shape] at e, rfl⟩
    · simp only [Option.some.injEq] at h; subst h
      simp only [Rel] at r ⊢; exact r
  · exact rest h
theorem canonC_ok {iks : IK} {b : Nat} : ∀ {j : Nat} {cs cs' : List SV} {vs : List Value}, canonC k names iks b j cs = some cs' → RelL at_ w cs vs → RelL (atN k names at_) w cs' vs
  | j, [], cs', vs, h, r => by simp only [canonC, Option.some.injEq] at h; subst h; simpa only [RelL] using r
  | j, c :: cs, cs', vs, h, r => by
    simp only [canonC] at h
    split at h
    · rename_i v vs' h1 h2
      simp only [Option.some.injEq] at h; subst h
      simp only [RelL] at r
      obtain ⟨u, us, rfl, r1, r2⟩ := r
      exact RelL.cons (canonV_ok h1 r1) (canonC_ok h2 r2)
    · cases h
theorem memN {iks : IK} {A B : List (Option Blk)} (hM : MemOK at_ M w) (_hkM : k ≤ M.length) (h2 : NM.nodup names = true) (hk : ∀ b, NM.old b ∈ names → k ≤ b) (hA : mapO (canonB k names iks M) (List.range k) = some A) (hB : mapO (nmB k names iks M) names = some B) :
    MemOK (atN k names at_) (A ++ B) w := by
  obtain ⟨lA, gA⟩ := mapO_ok hA
  obtain ⟨lB, gB⟩ := mapO_ok hB
  simp only [List.length_range] at lA
  have get : ∀ {n q : Nat}, und k names n = some q → ∃ x, (A ++ B)[n]? = some x ∧ canonB k names iks M q = some x := fun {n q} hu => by
    unfold und at hu
    split at hu
    · rename_i hn
      simp at hu; subst hu
      obtain ⟨y, e1, e2⟩ := gA n n (List.getElem?_range hn)
      exact ⟨y, by rw [List.getElem?_append_left (by omega)]; exact e1, e2⟩
    · rename_i hn
      split at hu
      · rename_i b hb
        simp at hu; subst hu
        obtain ⟨y, e1, e2⟩ := gB _ _ hb
        exact ⟨y, by rw [List.getElem?_append_right (by omega), lA]; exact e1, e2⟩
      · cases hu
  have back : ∀ {n q : Nat} {cs' : Blk}, und k names n = some q → (A ++ B)[n]? = some (some cs') → ∃ cs, M[q]? = some (some cs) ∧ canonC k names iks q 0 cs = some cs' := fun {n q cs'} hu e => by
    obtain ⟨x, e1, e2⟩ := get hu
    rw [e] at e1
    simp only [Option.some.injEq] at e1
    subst e1
    unfold canonB at e2
    rw [List.getD_eq_getElem?_getD] at e2
    cases hx : M[q]? with
    | none => rw [hx] at e2; simp at e2
    | some y =>
      rw [hx] at e2
      cases y with
      | none => simp at e2
      | some cs =>
        simp only [Option.getD_some] at e2
        obtain ⟨z, e3, e4⟩ := Option.map_eq_some_iff.1 e2
        simp only [Option.some.injEq] at e4
        subst e4
        exact ⟨cs, rfl, e3⟩
  have forth : ∀ {n q : Nat} {cs : Blk}, und k names n = some q → M[q]? = some (some cs) → ∃ cs', (A ++ B)[n]? = some (some cs') := fun {n q cs} hu e => by
    obtain ⟨x, e1, e2⟩ := get hu
    unfold canonB at e2
    rw [List.getD_eq_getElem?_getD, e] at e2
    simp only [Option.getD_some] at e2
    obtain ⟨z, e3, e4⟩ := Option.map_eq_some_iff.1 e2
    exact ⟨z, by rw [e1, e4]⟩
  have gnq : ∀ {n q : Nat}, und k names n = some q → (atN k names at_).gn n = at_.gn q := fun {n q} hu => by
    unfold und at hu
    simp only [atN]
    split at hu
    · rename_i hn; simp at hu; subst hu; rw [if_pos hn]
    · rename_i hn
      rw [if_neg hn]
      split at hu
      · rename_i b hb; simp at hu; subst hu; rw [hb]
      · cases hu
  refine ⟨fun n g cs e1 e => ?_, fun n m g e e' => ?_, fun n g e => ?_, hM.outlt, fun n l e => ?_, fun n m g b c j b' c' j' e e' => ?_, fun n m g b c j e e' => ?_, fun n e => ?_, fun n g b c j e => ?_, fun n g b c j e => ?_, fun n g e => ?_, hM.glb.fixed fixN⟩
  · obtain ⟨q, u1, u2⟩ := atN_nm e1
    obtain ⟨cs0, e2, e3⟩ := back u1 e
    obtain ⟨ty, vs, m1, m2⟩ := hM.blk q g cs0 u2 e2
    exact ⟨ty, vs, m1, canonC_ok e3 m2⟩
  · obtain ⟨q, u1, u2⟩ := atN_nm e
    obtain ⟨q', u1', u2'⟩ := atN_nm e'
    have := hM.inj _ _ _ u2 u2'
    subst this
    exact und_inj h2 hk u1 u1'
  · obtain ⟨q, u1, u2⟩ := atN_nm e
    obtain ⟨d1, cs, d2⟩ := hM.dom q g u2
    exact ⟨d1, forth u1 d2⟩
  · cases hu : und k names n with
    | some q =>
      obtain ⟨cs0, e2, e3⟩ := back hu e
      rw [canonC_own e3] at e2
      rw [gnq hu]; exact hM.glk q l e2
    | none =>
      unfold und at hu
      split at hu
      · cases hu
      · rename_i hn
        rw [List.getElem?_append_right (by omega), lA] at e
        cases hx : names[n - k]? with
        | none =>
          have : B[n - k]? = none := List.getElem?_eq_none (by rw [lB]; exact List.getElem?_eq_none_iff.1 hx)
          rw [this] at e; cases e
        | some x =>
          obtain ⟨y, e1, e2⟩ := gB _ _ hx
          rw [hx] at hu
          cases x with
          | old b => cases hu
          | nil s kd =>
            left
            simp only [atN, if_neg hn, hx]
            refine ⟨trivial, ?_⟩
            rw [e] at e1
            simp only [Option.some.injEq] at e1
            subst e1
            simp only [nmB] at e2
            obtain ⟨l', h4, h5⟩ := Option.map_eq_some_iff.1 e2
            simp only [Option.some.injEq, List.cons.injEq, SV.own.injEq, and_true] at h5
            subst h5
            cases kd <;> simp [LV.rep] at h4 <;> subst h4 <;> rfl
  · obtain ⟨q, u1, u2⟩ := atN_live e
    obtain ⟨q', u1', u2'⟩ := atN_live e'
    have := hM.ginj _ _ _ _ _ _ _ _ _ u2 u2'
    subst this
    exact und_inj h2 hk u1 u1'
  · obtain ⟨q, u1, u2⟩ := atN_nm e
    obtain ⟨q', u1', u2'⟩ := atN_live e'
    exact hM.gap _ _ _ _ _ _ u2 u2'
  · by_cases hn : n < k
    · have hg : (atN k names at_).gn n = at_.gn n := by simp only [atN, if_pos hn]
      rw [hg] at e
      obtain ⟨cs, h4⟩ := hM.gdom n e
      exact forth (q := n) (by unfold und; rw [if_pos hn]) h4
    · simp only [atN, if_neg hn] at e
      cases hx : names[n - k]? with
      | none => rw [hx] at e; exact absurd rfl e
      | some x =>
        rw [hx] at e
        cases x with
        | old b =>
          obtain ⟨cs, h4⟩ := hM.gdom b e
          exact forth (q := b) (by unfold und; rw [if_neg hn, hx]) h4
        | nil s kd =>
          obtain ⟨y, e1, e2⟩ := gB _ _ hx
          simp only [nmB] at e2
          obtain ⟨l', h4, h5⟩ := Option.map_eq_some_iff.1 e2
          exact ⟨[.own l'], by rw [List.getElem?_append_right (by omega), lA, e1, h5]⟩
  · obtain ⟨q, u1, u2⟩ := atN_live e
    exact hM.gsz _ _ _ _ _ u2
  · obtain ⟨q, u1, u2⟩ := atN_live e
    exact hM.gout _ _ _ _ _ u2
  · obtain ⟨q, u1, u2⟩ := atN_nm e
    exact hM.nout _ _ u2
theorem canonL_ok {T : List SV} {a : Act} (hT : RelL at_ w T a.tmps.toList) : ∀ {l : List (Nat × LK)} {vals : List SV}, canonL k names T l = some vals → RelL (atN k names at_) w vals ((l.map (·.1)).map fun i => a.tmps.getD i Go.undef)
  | [], vals, h => by simp only [canonL, Option.some.injEq] at h; subst h; exact RelL.nil
  | s :: l, vals, h => by
    simp only [canonL] at h
    split at h
    · rename_i v vs h1 h2
      simp only [Option.some.injEq] at h; subst h
      refine RelL.cons (canonV_ok h1 ?_) (canonL_ok hT h2)
      exact slot_ok hT s.1
    · cases h
where
  slot_ok {T : List SV} {a : Act} (hT : RelL at_ w T a.tmps.toList) (i : Nat) : Rel at_ w (T.getD i .any) (a.tmps.getD i Go.undef) := by
    rw [List.getD_eq_getElem?_getD]
    cases h : T[i]? with
    | none => simp only [Option.getD_none, Rel]
    | some c =>
      obtain ⟨u, h1, h2⟩ := hT.get i c h
      rw [Array.getElem?_toList] at h1
      rw [Array.getD_eq_getD_getElem?, h1]
      exact h2
theorem sameL_ok {T : List SV} {a : Act} (hT : RelL at_ w T a.tmps.toList) : ∀ (l : List Nat), RelL at_ w (l.map fun i => T.getD i .any) (l.map fun i => a.tmps.getD i Go.undef)
  | [] => have _ := ‹GLob›; RelL.nil
  | i :: l => RelL.cons (canonL_ok.slot_ok hT i) (sameL_ok hT l)
theorem RelL.of_get : ∀ {s : List SV} {v : List Value}, s.length = v.length → (∀ (i : Nat) (c : SV) (u : Value), s[i]? = some c → v[i]? = some u → Rel at_ w c u) → RelL at_ w s v
  | [], v, hl, _ => by have _ := ‹GLob›; have : v = [] := List.eq_nil_of_length_eq_zero hl.symm
                       subst this; exact RelL.nil
  | c :: s, v, hl, h => by
    cases v with
    | nil => cases hl
    | cons u v => exact RelL.cons (h 0 c u rfl rfl) (RelL.of_get (by simpa using hl) fun i c' u' h1 h2 => h (i + 1) c' u' (by simpa using h1) (by simpa using h2))
theorem lookS_ok {f : Nat → Value} {i : Nat} : ∀ {l : List Nat} {ss : List SV} {v : SV}, RelL at_ w ss (l.map f) → lookS i l ss = some v → Rel at_ w v (f i)
  | [], _, _, _, h => by have _ := ‹GLob›; simp [lookS] at h
  | j :: l, [], _, _, h => by simp [lookS] at h
  | j :: l, s :: ss, v, hr, h => by
    simp only [List.map_cons, RelL] at hr
    obtain ⟨u, us, e, h1, h2⟩ := hr
    simp only [List.cons.injEq] at e
    obtain ⟨rfl, rfl⟩ := e
    simp only [lookS] at h
    split at h
    · rename_i hij
      have := eq_of_beq hij
      subst this
      simp only [Option.some.injEq] at h; subst h; exact h1
    · exact lookS_ok h2 h
theorem place_ok {n : Nat} {same keep : List Nat} {ss vals : List SV} {a : Act} (hn : n = a.tmps.size) (h1 : RelL at_ w ss (same.map fun i => a.tmps.getD i Go.undef)) (h2 : RelL at_ w vals (keep.map fun i => a.tmps.getD i Go.undef)) : RelL at_ w (place n same ss keep vals) a.tmps.toList := by
  refine RelL.of_get (by simp [place, hn]) fun i c u e1 e2 => ?_
  rw [Array.getElem?_toList] at e2
  have hu : a.tmps.getD i Go.undef = u := by rw [Array.getD_eq_getD_getElem?, e2]; rfl
  have hi : i < n := by have := (Array.getElem?_eq_some_iff.1 e2).1; omega
  simp only [place, List.getElem?_map, List.getElem?_range hi, Option.map_some, Option.some.injEq] at e1
  split at e1
  · rename_i v hv; subst e1; have := lookS_ok h1 hv; rwa [hu] at this
  · split at e1
    · rename_i v hv; subst e1; have := lookS_ok h2 hv; rwa [hu] at this
    · subst e1; simp only [Rel]
end

/-! What a loop's head keeps, told as data. -/
def andP : Option Prop → Option Prop → Option Prop
  | none, q => q
  | p, none => p
  | some p, some q => some (p ∧ q)
theorem andP_ok {p q : Option Prop} (h : Ok (andP p q)) : Ok p ∧ Ok q := by
  cases p <;> cases q <;> simp only [andP, Ok] at h ⊢ <;> simp_all
class LEnc (α : Type) where
  kind : Option IntKind
  ins : List (Nat × IntKind) := []
  arr : Bool := false
  frz : Bool := false
  enc : Nat → α → SV × List Blk
  dec : Nat → SV → List (Option Blk) → Option (Option Prop × α × List (Option Blk))
  all : (α → Prop) → Prop
  all_ok : ∀ {P : α → Prop}, all P → ∀ a, P a
  ok : ∀ {nx : Nat} {s : SV} {M : List (Option Blk)} {p : Option Prop} {a : α} {M' : List (Option Blk)}, dec nx s M = some (p, a, M') → Ok p → M = (enc nx a).2.map some ++ M' ∧ ∀ {at_ : At} {w : World} {v : Value}, Rel at_ w s v → Rel at_ w (enc nx a).1 v
instance (priority := low) {α : Type} [Enc α] : LEnc α where
  kind := none
  frz := true
  enc _ a := (Enc.enc a, [])
  dec _ s M := match Enc.dec s with
    | some a => some (none, a, M)
    | none => none
  all P := ∀ a, P a
  all_ok h a := h a
  ok := by
    intro nx s M p a M' h _
    cases hd : Enc.dec (α := α) s with
    | none => simp only [hd] at h; cases h
    | some b =>
      simp only [hd, Option.some.injEq, Prod.mk.injEq] at h
      obtain ⟨_, rfl, rfl⟩ := h
      exact ⟨rfl, fun r => Enc.ok hd r⟩
/-- An own list, whole. -/
structure OwnI where
  l : List Int
structure OwnB where
  l : List UInt8
structure OwnW where
  l : List UInt64
structure OwnH where
  l : List UInt32
def ownDec (nx : Nat) (s : SV) (M : List (Option Blk)) : Option (Option Prop × LV × List (Option Blk)) :=
  match s, M with
  | .sl b lo len, some [.own l] :: M' => if b = nx then some (some (lo = 0 ∧ len = l.len), l, M') else none
  | _, _ => none
theorem ownDec_ok {nx : Nat} {s : SV} {M : List (Option Blk)} {p : Option Prop} {l : LV} {M' : List (Option Blk)} (h : ownDec nx s M = some (p, l, M')) (hp : Ok p) : s = .sl nx 0 l.len ∧ M = some [.own l] :: M' := by
  unfold ownDec at h
  split at h
  · split at h
    · rename_i hb
      simp only [Option.some.injEq, Prod.mk.injEq] at h
      obtain ⟨rfl, rfl, rfl⟩ := h
      obtain ⟨rfl, rfl⟩ := hp
      subst hb
      exact ⟨rfl, rfl⟩
    · cases h
  · cases h
instance : LEnc OwnI where
  kind := some .i64
  enc nx a := (.sl nx 0 a.l.length, [[.own (.ints a.l)]])
  dec nx s M := match ownDec nx s M with
    | some (p, .ints l, M') => some (p, ⟨l⟩, M')
    | _ => none
  all P := ∀ l, P ⟨l⟩
  all_ok h a := h a.l
  ok := by
    intro nx s M p a M' h hp
    split at h
    · rename_i p' l M1 hd
      simp only [Option.some.injEq, Prod.mk.injEq] at h
      obtain ⟨rfl, rfl, rfl⟩ := h
      obtain ⟨rfl, rfl⟩ := ownDec_ok hd hp
      exact ⟨rfl, fun r => r⟩
    · cases h
instance : LEnc OwnB where
  kind := some .u8
  enc nx a := (.sl nx 0 a.l.length, [[.own (.bytes a.l)]])
  dec nx s M := match ownDec nx s M with
    | some (p, .bytes l, M') => some (p, ⟨l⟩, M')
    | _ => none
  all P := ∀ l, P ⟨l⟩
  all_ok h a := h a.l
  ok := by
    intro nx s M p a M' h hp
    split at h
    · rename_i p' l M1 hd
      simp only [Option.some.injEq, Prod.mk.injEq] at h
      obtain ⟨rfl, rfl, rfl⟩ := h
      obtain ⟨rfl, rfl⟩ := ownDec_ok hd hp
      exact ⟨rfl, fun r => r⟩
    · cases h
instance : LEnc OwnW where
  kind := some .u64
  enc nx a := (.sl nx 0 a.l.length, [[.own (.words a.l)]])
  dec nx s M := match ownDec nx s M with
    | some (p, .words l, M') => some (p, ⟨l⟩, M')
    | _ => none
  all P := ∀ l, P ⟨l⟩
  all_ok h a := h a.l
  ok := by
    intro nx s M p a M' h hp
    split at h
    · rename_i p' l M1 hd
      simp only [Option.some.injEq, Prod.mk.injEq] at h
      obtain ⟨rfl, rfl, rfl⟩ := h
      obtain ⟨rfl, rfl⟩ := ownDec_ok hd hp
      exact ⟨rfl, fun r => r⟩
    · cases h
instance : LEnc OwnH where
  kind := some .u32
  enc nx a := (.sl nx 0 a.l.length, [[.own (.halfs a.l)]])
  dec nx s M := match ownDec nx s M with
    | some (p, .halfs l, M') => some (p, ⟨l⟩, M')
    | _ => none
  all P := ∀ l, P ⟨l⟩
  all_ok h a := h a.l
  ok := by
    intro nx s M p a M' h hp
    split at h
    · rename_i p' l M1 hd
      simp only [Option.some.injEq, Prod.mk.injEq] at h
      obtain ⟨rfl, rfl, rfl⟩ := h
      obtain ⟨rfl, rfl⟩ := ownDec_ok hd hp
      exact ⟨rfl, fun r => r⟩
    · cases h
/-- An own array of n cells, told as a list. -/
structure ArrW (n : Nat) where
  l : List UInt64
instance {n : Nat} : LEnc (ArrW n) where
  kind := none
  arr := true
  enc nx a := (.ap nx n, [[.own (.words a.l)]])
  dec nx s M := match s, M with
    | .ap b m, some [.own (.words l)] :: M' => if b = nx ∧ m = n then some (some (l.length = n), ⟨l⟩, M') else none
    | _, _ => none
  all P := ∀ l, P ⟨l⟩
  all_ok h a := h a.l
  ok := by
    intro nx s M p a M' h hp
    split at h
    · split at h
      · rename_i hb
        simp only [Option.some.injEq, Prod.mk.injEq] at h
        obtain ⟨rfl, rfl, rfl⟩ := h
        obtain ⟨rfl, rfl⟩ := hb
        exact ⟨rfl, fun r => r⟩
      · cases h
    · cases h
/-- An own array of n cells, told as a list. -/
structure ArrH (n : Nat) where
  l : List UInt32
instance {n : Nat} : LEnc (ArrH n) where
  kind := none
  arr := true
  enc nx a := (.ap nx n, [[.own (.halfs a.l)]])
  dec nx s M := match s, M with
    | .ap b m, some [.own (.halfs l)] :: M' => if b = nx ∧ m = n then some (some (l.length = n), ⟨l⟩, M') else none
    | _, _ => none
  all P := ∀ l, P ⟨l⟩
  all_ok h a := h a.l
  ok := by
    intro nx s M p a M' h hp
    split at h
    · split at h
      · rename_i hb
        simp only [Option.some.injEq, Prod.mk.injEq] at h
        obtain ⟨rfl, rfl, rfl⟩ := h
        obtain ⟨rfl, rfl⟩ := hb
        exact ⟨rfl, fun r => r⟩
      · cases h
    · cases h
/-- An own array of n cells, told as a list. -/
structure ArrB (n : Nat) where
  l : List UInt8
instance {n : Nat} : LEnc (ArrB n) where
  kind := none
  arr := true
  enc nx a := (.ap nx n, [[.own (.bytes a.l)]])
  dec nx s M := match s, M with
    | .ap b m, some [.own (.bytes l)] :: M' => if b = nx ∧ m = n then some (some (l.length = n), ⟨l⟩, M') else none
    | _, _ => none
  all P := ∀ l, P ⟨l⟩
  all_ok h a := h a.l
  ok := by
    intro nx s M p a M' h hp
    split at h
    · split at h
      · rename_i hb
        simp only [Option.some.injEq, Prod.mk.injEq] at h
        obtain ⟨rfl, rfl, rfl⟩ := h
        obtain ⟨rfl, rfl⟩ := hb
        exact ⟨rfl, fun r => r⟩
      · cases h
    · cases h
/-- An own array of n cells, told as a list. -/
structure ArrI (n : Nat) where
  l : List Int
instance {n : Nat} : LEnc (ArrI n) where
  kind := none
  arr := true
  enc nx a := (.ap nx n, [[.own (.ints a.l)]])
  dec nx s M := match s, M with
    | .ap b m, some [.own (.ints l)] :: M' => if b = nx ∧ m = n then some (some (l.length = n), ⟨l⟩, M') else none
    | _, _ => none
  all P := ∀ l, P ⟨l⟩
  all_ok h a := h a.l
  ok := by
    intro nx s M p a M' h hp
    split at h
    · split at h
      · rename_i hb
        simp only [Option.some.injEq, Prod.mk.injEq] at h
        obtain ⟨rfl, rfl, rfl⟩ := h
        obtain ⟨rfl, rfl⟩ := hb
        exact ⟨rfl, fun r => r⟩
      · cases h
    · cases h
/-- An own list of bytes, from some place on. -/
structure OwnBo where
  l : List UInt8
  lo : Nat
instance : LEnc OwnBo where
  kind := some .u8
  enc nx a := (.sl nx a.lo (a.l.length - a.lo), [[.own (.bytes a.l)]])
  dec nx s M := match s, M with
    | .sl b lo len, some [.own (.bytes l)] :: M' => if b = nx then some (some (len = l.length - lo), ⟨l, lo⟩, M') else none
    | _, _ => none
  all P := ∀ l lo, P ⟨l, lo⟩
  all_ok h a := h a.l a.lo
  ok := by
    intro nx s M p a M' h hp
    split at h
    · split at h
      · rename_i hb
        simp only [Option.some.injEq, Prod.mk.injEq] at h
        obtain ⟨rfl, rfl, rfl⟩ := h
        subst hb
        simp only [Ok] at hp
        subst hp
        exact ⟨rfl, fun r => r⟩
      · cases h
    · cases h
class LEncL (α : Type) where
  kinds : List LK
  enc : Nat → α → List SV × List Blk
  dec : Nat → List SV → List (Option Blk) → Option (Option Prop × α)
  all : (α → Prop) → Prop
  all_ok : ∀ {P : α → Prop}, all P → ∀ a, P a
  ok : ∀ {nx : Nat} {s : List SV} {M : List (Option Blk)} {p : Option Prop} {a : α}, dec nx s M = some (p, a) → Ok p → M = (enc nx a).2.map some ∧ ∀ {at_ : At} {w : World} {v : List Value}, RelL at_ w s v → RelL at_ w (enc nx a).1 v
instance : LEncL Unit where
  kinds := []
  enc _ _ := ([], [])
  dec _ s M := match s, M with
    | [], [] => some (none, ())
    | _, _ => none
  all P := P ()
  all_ok h a := h
  ok := by
    intro nx s M p a h _
    split at h
    · exact ⟨rfl, fun r => r⟩
    · cases h
instance {α β : Type} [LEnc α] [LEncL β] : LEncL (α × β) where
  kinds := ⟨LEnc.kind α, LEnc.ins α, LEnc.arr α, LEnc.frz α⟩ :: LEncL.kinds β
  enc nx p := ((LEnc.enc nx p.1).1 :: (LEncL.enc (nx + (LEnc.enc nx p.1).2.length) p.2).1, (LEnc.enc nx p.1).2 ++ (LEncL.enc (nx + (LEnc.enc nx p.1).2.length) p.2).2)
  dec nx s M := match s with
    | [] => none
    | v :: vs => match LEnc.dec (α := α) nx v M with
      | none => none
      | some (p, a, M') => match LEncL.dec (α := β) (nx + (LEnc.enc nx a).2.length) vs M' with
        | none => none
        | some (q, b) => some (andP p q, (a, b))
  all P := LEnc.all fun a : α => LEncL.all fun b : β => P (a, b)
  all_ok h a := LEncL.all_ok (LEnc.all_ok h a.1) a.2
  ok := by
    intro nx s M p a h hp
    split at h
    · cases h
    · split at h
      · cases h
      · rename_i p1 a1 M1 h1
        split at h
        · cases h
        · rename_i q b h2
          simp only [Option.some.injEq, Prod.mk.injEq] at h
          obtain ⟨rfl, rfl⟩ := h
          obtain ⟨hp1, hp2⟩ := andP_ok hp
          obtain ⟨k1, k2⟩ := LEnc.ok h1 hp1
          obtain ⟨k3, k4⟩ := LEncL.ok h2 hp2
          refine ⟨by rw [k1, k3, List.map_append], fun {at_ w v} r => ?_⟩
          simp only [RelL] at r
          obtain ⟨u, us, rfl, r1, r2⟩ := r
          exact RelL.cons (k2 r1) (k4 r2)

/-- A loop: the slots that stay, those that change, what holds at its head (of what stays, what was first, what is), a measure. -/
structure LSpec where
  {β α : Type}
  [eb : Args β]
  [ea : LEncL α]
  same : List Nat
  keep : List Nat
  inv : β → α → α → Prop
  meas : β → α → Nat
def headVC (k n : Nat) (S : LSpec) (st : St) (Q : S.β → S.α → Prop) : Prop :=
  if S.keep.length = S.ea.kinds.length then
    match norm k S.same (S.keep.zip S.ea.kinds) n (arrs k (S.keep.zip S.ea.kinds) (frzs (S.keep.zip S.ea.kinds) (frzAll S.same st))) with
    | none => False
    | some (ss, vals, M') => match S.eb.decL ss with
      | none => False
      | some b => match S.ea.dec 0 vals M' with
        | none => False
        | some (p, a) => conj p (Q b a)
  else False
def headSt (n : Nat) (S : LSpec) (b : S.β) (a : S.α) : St := ⟨place n S.same (S.eb.encL b) S.keep (S.ea.enc 0 a).1, (S.ea.enc 0 a).2.map some⟩
/-- A place where paths meet: what is known ahead of it (slots that stay, others), what is kept behind it, and what holds of these. -/
structure CSpec where
  {β γ α : Type}
  [eb : Args β]
  [eg : LEncL γ]
  [ea : LEncL α]
  same : List Nat
  pre : List Nat
  keep : List Nat
  inv : β → γ → α → Prop
def CSpec.a (S : CSpec) : LSpec := @LSpec.mk S.β S.γ S.eb S.eg S.same S.pre (fun _ _ _ => True) (fun _ _ => 0)
def CSpec.z (S : CSpec) : LSpec := @LSpec.mk S.β S.α S.eb S.ea S.same S.keep (fun _ _ _ => True) (fun _ _ => 0)
/-- Of loops, by their blocks; of places where paths meet: behind a region ('at', by the region), behind a region and the branching that follows it ('fork'). -/
structure Plan where
  loops : List (Nat × LSpec) := []
  cuts : List (Nat × CSpec) := []
  forks : List (Nat × CSpec) := []
def forkOf : Code → Code → Option Nat
  | .region id _ _, .cond _ _ _ => some id
  | _, _ => none
def cutVC (k n : Nat) (S : CSpec) (st : St) (run : (Exit → St → Prop) → Prop) (K : KT) : Prop :=
  headVC k n S.a st fun b g => run (fun e st' => match e with
    | .normal => headVC k n S.z st' fun b' a => b' = b ∧ S.inv b g a
    | e => K e st') ∧ S.ea.all fun a => S.inv b g a → K .normal (headSt n S.z b a)

def vcl [GLob] (tt : TT) (sp : Specs) (fuel : Nat) (D : Dec) (L : Plan) (k : Nat) : Code → Nat → St → KT → Prop
  | .skip, _, st, K => K .normal st
  | .region id ops draw, _, st, K => match L.cuts.lookup id with
    | none => regionVC tt sp (D.of id) ops draw (K .normal) st
    | some S => cutVC k st.T.length S st (fun K' => regionVC tt sp (D.of id) ops draw (K' .normal) st) K
  | .seq a b, i, st, K => match (forkOf a b).bind (fun id => L.forks.lookup id) with
    | none => vcl tt sp fuel D L k a i st fun e st' => match e with
      | .normal => vcl tt sp fuel D L k b i st' K
      | e => K e st'
    | some S => cutVC k st.T.length S st (fun K' => vcl tt sp fuel D L k a i st fun e st' => match e with
      | .normal => vcl tt sp fuel D L k b i st' K'
      | e => K' e st') K
  | .cond c x y, i, st, K => match TR st.T (condTs c) c with
    | .bool b => bcase b (vcl tt sp fuel D L k x i ⟨setC st.T c true, st.M⟩ K) (vcl tt sp fuel D L k y i ⟨setC st.T c false, st.M⟩ K)
    | _ => False
  | .block id c, _, st, K => vcl tt sp fuel D L k c id st fun e st' => match e with
    | .exit id' => if id' = id then K .normal st' else K (.exit id') st'
    | e => K e st'
  | .loop c, i, st, K => match L.loops.lookup i with
    | none => loopVC (vcl tt sp fuel D L k c i) K fuel st
    | some S => headVC k st.T.length S st fun b a0 => S.inv b a0 a0 ∧ S.ea.all fun a => S.inv b a0 a → vcl tt sp fuel D L k c i (headSt st.T.length S b a) fun e st' => match e with
      | .normal => headVC k st.T.length S st' fun b' a' => b' = b ∧ S.inv b a0 a' ∧ S.meas b a' < S.meas b a
      | e => K e st'
  | .exit id, _, st, K => K (.exit id) st
  | .label _, _, st, K => K .normal st
  | .scope c, i, st, K => vcl tt sp fuel D L k c i st fun e st' => match e with
    | .goto _ => False
    | e => K e st'
  | .ret, _, st, K => K .ret st
  | _, _, _, _ => False

section
variable [GLob] {P : Program} {tt : TT} {sp : Specs} {B : Base}
mutual
theorem Rel.agree {at_ at' : At} {w : World} (hf : ∀ g, Fix at_ g → Fix at' g) : ∀ (s : SV) (v : Value), (∀ m ∈ names s, at' m = at_ m ∧ at'.gn m = at_.gn m) → Rel at_ w s v → Rel at' w s v
  | .i64 _, _, _, r => by have _ := ‹GLob›; simpa only [Rel] using r
  | .u64 _, _, _, r => by simpa only [Rel] using r
  | .u32 _, _, _, r => by simpa only [Rel] using r
  | .u8 _, _, _, r => by simpa only [Rel] using r
  | .bool _, _, _, r => by simpa only [Rel] using r
  | .val _, _, _, r => by simpa only [Rel] using r
  | .undef, _, _, r => by simpa only [Rel] using r
  | .any, _, _, _ => by simp only [Rel]
  | .any1, _, _, r => by simpa only [Rel] using r
  | .lol _, _, _, r => by
    simp only [Rel] at r ⊢
    obtain ⟨a, c, h1, h2, h3⟩ := r
    refine ⟨a, c, h1, h2, fun j l hj => ?_⟩
    obtain ⟨ad, u, e1, e2, e3, e4⟩ := h3 j l hj
    exact ⟨ad, u, e1, hf _ e2, e3, e4.fix hf⟩
  | .ptr b _, _, h, r => by
    simp only [Rel] at r ⊢
    rw [(h b (by simp [names])).1]; exact r
  | .slc b _ _ _, _, h, r => by
    simp only [Rel] at r ⊢
    rw [(h b (by simp [names])).1]; exact r
  | .sl b _ _, _, h, r => by
    simp only [Rel] at r ⊢
    rw [(h b (by simp [names])).2]; exact r
  | .lp b _, _, h, r => by
    simp only [Rel] at r ⊢
    rw [(h b (by simp [names])).2]; exact r
  | .ap b _, _, h, r => by
    simp only [Rel] at r ⊢
    rw [(h b (by simp [names])).2]; exact r
  | .own _, _, _, r => by simp only [Rel] at r
  | .lst _, _, _, r => by
    simp only [Rel] at r ⊢
    obtain ⟨a, c, h1, h2, h3⟩ := r
    exact ⟨a, c, h1, h2, fun j u hj => by obtain ⟨ad, e1, e2, e3⟩ := h3 j u hj; exact ⟨ad, e1, hf _ e2, e3⟩⟩
  | .lel x, _, h, r => by
    simp only [Rel] at r ⊢
    obtain ⟨ad, u, h1, h2, h3, h4⟩ := r
    exact ⟨ad, u, h1, hf _ h2, h3, Rel.agree hf x u (fun m hm => h m (by simpa only [names] using hm)) h4⟩
  | .ro cs _, _, h, r => by
    simp only [Rel] at r ⊢
    obtain ⟨g, ty, fz, vs, h1, h2, h3, h4⟩ := r
    exact ⟨g, ty, fz, vs, h1, hf _ h2, h3, RelL.agree hf cs vs (fun m hm => h m (by simpa only [names] using hm)) h4⟩
  | .roO b cs, _, h, r => by
    simp only [Rel] at r ⊢
    refine ⟨fun hb => ?_, r.2⟩
    obtain ⟨g, ty, fz, vs, h1, h2, h3, h4⟩ := r.1 hb
    exact ⟨g, ty, fz, vs, h1, hf _ h2, h3, RelL.agree hf cs vs (fun m hm => h m (by simpa only [names] using hm)) h4⟩
  | .win cs, _, h, r => by
    simp only [Rel] at r ⊢
    obtain ⟨ad, vs, h1, h2, h3, h4, h5⟩ := r
    exact ⟨ad, vs, h1, hf _ h2, h3, RelL.agree hf cs vs (fun m hm => h m (by simpa only [names] using hm)) h4, h5⟩
  | .wsl cs _ _, _, h, r => by
    simp only [Rel] at r ⊢
    obtain ⟨ad, c, vs, h1, h0, h2, h3, h4, h6, h5⟩ := r
    exact ⟨ad, c, vs, h1, h0, hf _ h2, h3, RelL.agree hf cs vs (fun m hm => h m (by simpa only [names] using hm)) h4, h6, h5⟩
  | .rsl cs _ _, _, h, r => by
    simp only [Rel] at r ⊢
    obtain ⟨g, ty, fz, vs, cap, h1, h0, h2, h3, h4⟩ := r
    exact ⟨g, ty, fz, vs, cap, h1, h0, hf _ h2, h3, RelL.agree hf cs vs (fun m hm => h m (by simpa only [names] using hm)) h4⟩
  | .agg cs, _, h, r => by
    simp only [Rel] at r ⊢
    obtain ⟨vs, h1, h2⟩ := r
    exact ⟨vs, h1, RelL.agree hf cs vs (fun m hm => h m (by simpa only [names] using hm)) h2⟩
  | .tup cs, _, h, r => by
    simp only [Rel] at r ⊢
    obtain ⟨vs, h1, h2⟩ := r
    exact ⟨vs, h1, RelL.agree hf cs vs (fun m hm => h m (by simpa only [names] using hm)) h2⟩
  | .fn _ cs, _, h, r => by
    simp only [Rel] at r ⊢
    obtain ⟨vs, h1, h2⟩ := r
    exact ⟨vs, h1, RelL.agree hf cs vs (fun m hm => h m (by simpa only [names] using hm)) h2⟩
theorem RelL.agree {at_ at' : At} {w : World} (hf : ∀ g, Fix at_ g → Fix at' g) : ∀ (s : List SV) (v : List Value), (∀ m ∈ namesL s, at' m = at_ m ∧ at'.gn m = at_.gn m) → RelL at_ w s v → RelL at' w s v
  | [], _, _, r => by have _ := ‹GLob›; simpa only [RelL] using r
  | c :: cs, _, h, r => by
    simp only [RelL] at r ⊢
    obtain ⟨v, vs, h1, h2, h3⟩ := r
    exact ⟨v, vs, h1, Rel.agree hf c v (fun m hm => h m (by simp only [namesL, List.mem_append]; exact .inl hm)) h2, RelL.agree hf cs vs (fun m hm => h m (by simp only [namesL, List.mem_append]; exact .inr hm)) h3⟩
end
theorem RelL.mapV {at_ at' : At} {w : World} {f : SV → SV} (hf : ∀ s v, Rel at_ w s v → Rel at' w (f s) v) : ∀ {l : List SV} {vs : List Value}, RelL at_ w l vs → RelL at' w (l.map f) vs
  | [], _, r => by have _ := ‹GLob›; simpa only [RelL, List.map_nil] using r
  | c :: cs, _, r => by
    simp only [RelL] at r
    obtain ⟨v, vs, rfl, h1, h2⟩ := r
    exact RelL.cons (hf _ _ h1) (RelL.mapV hf h2)
theorem arr1_ok {k slot : Nat} {st : St} (hc : Clean k B.at0) {a : Act} {w : World} (hr : Reps B st a w) : Reps B (arr1 k slot st) a w := by
  unfold arr1
  split
  · rename_i b hb
    split
    · rename_i hkb
      split
      · rename_i cs hcs
        split
        · rename_i l hl
          split
          · rename_i hcond
            simp only [Bool.and_eq_true, decide_eq_true_eq, List.all_eq_true] at hcond
            obtain ⟨hlen, hall⟩ := hcond
            obtain ⟨at_, r⟩ := hr
            have hs := canonL_ok.slot_ok r.tmp slot
            rw [hb] at hs
            simp only [Rel] at hs
            obtain ⟨g, hg, _⟩ := hs
            have hM := r.mem
            have hMb : st.M[b]? = some (some cs) := by
              rw [List.getD_eq_getElem?_getD] at hcs
              cases hx : st.M[b]? with
              | none => rw [hx] at hcs; cases hcs
              | some y => rw [hx] at hcs; simp at hcs; rw [hcs]
            have hblt : b < st.M.length := (List.getElem?_eq_some_iff.1 hMb).1
            obtain ⟨ty, vs, h1, h2⟩ := hM.blk b g cs hg hMb
            have hv := asLV_ok hl h2
            have hgl : g < w.heap.size := lt_of_heap h1
            have hgnb : at_.gn b = .unborn ∨ True := .inr trivial
            let at' : At := ⟨fun m => if m = b then none else at_ m, at_.out, fun m => if m = b then .live g 0 l.len l.len else at_.gn m⟩
            have live' : ∀ {m x p c q}, at'.gn m = .live x p c q → (m = b ∧ x = g) ∨ (m ≠ b ∧ at_.gn m = .live x p c q) := fun {m x p c q} e => by
              simp only [at'] at e
              split at e
              · rename_i hm; simp at e; exact .inl ⟨hm, e.1.symm⟩
              · rename_i hm; exact .inr ⟨hm, e⟩
            have nm' : ∀ {m x}, at' m = some x → m ≠ b ∧ at_ m = some x := fun {m x} e => by
              simp only [at'] at e
              split at e
              · cases e
              · rename_i hm; exact ⟨hm, e⟩
            have hfix : ∀ x, Fix at_ x → Fix at' x := fun x h => ⟨fun m e => h.1 m (nm' e).2, h.2.1, fun m p c q e => by
              rcases live' e with ⟨_, rfl⟩ | ⟨_, e⟩
              · exact h.1 b hg
              · exact h.2.2 _ _ _ _ e⟩
            have agree : ∀ (s : SV) (v : Value), ¬ b ∈ names s → Rel at_ w s v → Rel at' w s v := fun s v hn r => Rel.agree hfix s v (fun m hm => by
              have : m ≠ b := fun e => hn (e ▸ hm)
              simp only [at', if_neg this, and_self]) r
            have hat0 : B.at0 b = none := (hc b hkb).1
            have hsz0 : B.w0.heap.size ≤ g := by
              rcases r.later.new b g hg with e | e
              · rw [hat0] at e; cases e
              · exact e
            have hlater : Later B.at0 B.w0 at' w := by
              have h := r.later
              refine ⟨h.os, h.tape, h.output, h.size, fun n x e => ?_, fun x e1 e2 e3 => ?_, h.out, fun n x e => ?_, fun n => ?_, fun n x p c q e => ?_⟩
              · have : n ≠ b := fun e' => by subst e'; rw [hat0] at e; cases e
                simp only [at', if_neg this]; exact h.name n x e
              · obtain ⟨k1, k2, k3⟩ := h.keep x e1 e2 e3
                exact ⟨fun n e => k1 n (nm' e).2, fun n p c q e => by
                  rcases live' e with ⟨_, rfl⟩ | ⟨_, e⟩
                  · exact k1 b hg
                  · exact k2 _ _ _ _ e, k3⟩
              · exact h.new n x (nm' e).2
              · by_cases hn : n = b
                · subst hn; exact .inl (hc n hkb).2
                · simp only [at', if_neg hn]; exact h.gname n
              · rcases live' e with ⟨_, rfl⟩ | ⟨_, e⟩
                · exact .inr hsz0
                · exact h.gnew _ _ _ _ _ e
            have getM : ∀ n, (st.M.set b (some [.own l]))[n]? = if n = b then some (some [.own l]) else st.M[n]? := fun n => by
              by_cases hn : n = b
              · subst hn; rw [List.getElem?_set_self hblt, if_pos rfl]
              · rw [List.getElem?_set_ne (fun h => hn h.symm), if_neg hn]
            have hGOK : GOK w g 0 l.len l := by
              have hvl : vs.length = l.len := by rw [hv, LV.len_vals]
              refine ⟨List.toArray vs, ty, h1, by simp [hvl], Nat.le_refl _, by unfold maxLen; omega, ?_⟩
              rw [List.drop_zero, List.take_of_length_le (by simp [hvl])]; exact hv
            refine ⟨at', hlater, ⟨fun n x ds e1 e => ?_, fun n m x e e' => hM.inj n m x (nm' e).2 (nm' e').2, fun n x e => ?_, hM.outlt, fun n l' e => ?_, fun n m x p c q p' c' q' e e' => ?_, fun n m x p c q e e' => ?_, fun n e => ?_, fun n x p c q e => ?_, fun n x p c q e => ?_, fun n x e => hM.nout n x (nm' e).2, hM.glb.fixed hfix⟩, RelL.mapV (fun s v h => ?_) r.tmp, r.defers, r.obs.sub fun x hx => ⟨fun m e => hx.1 m (nm' e).2, fun m p c q e => by
              rcases live' e with ⟨_, rfl⟩ | ⟨_, e⟩
              · exact hx.1 b hg
              · exact hx.2 _ _ _ _ e⟩⟩
            · obtain ⟨hn, e2⟩ := nm' e1
              rw [getM, if_neg hn] at e
              obtain ⟨ty', us, k1, k2⟩ := hM.blk n x ds e2 e
              refine ⟨ty', us, k1, RelL.agree hfix ds us (fun m hm => ?_) k2⟩
              have := hall _ (List.mem_of_getElem? e)
              simp only [noMention, Bool.not_eq_true'] at this
              have hmb : m ≠ b := fun e' => by subst e'; rw [List.contains_iff_mem.2 hm] at this; cases this
              simp only [at', if_neg hmb, and_self]
            · obtain ⟨hn, e2⟩ := nm' e
              obtain ⟨d1, ds, d2⟩ := hM.dom n x e2
              exact ⟨d1, ds, by rw [getM, if_neg hn]; exact d2⟩
            · rw [getM] at e
              split at e
              · rename_i hn
                simp only [Option.some.injEq, List.cons.injEq, SV.own.injEq, and_true] at e
                subst e
                right
                exact ⟨g, 0, l.len, by simp only [at', hn, if_true], hGOK⟩
              · rename_i hn
                have : at'.gn n = at_.gn n := by simp only [at', if_neg hn]
                rw [this]; exact hM.glk n l' e
            · rcases live' e with ⟨q1, q2⟩ | ⟨q1, q2⟩ <;> rcases live' e' with ⟨p1, p2⟩ | ⟨p1, p2⟩
              · rw [q1, p1]
              · rw [q2] at p2; exact absurd p2 (hM.gap _ _ _ _ _ _ hg)
              · rw [p2] at q2; exact absurd q2 (hM.gap _ _ _ _ _ _ hg)
              · exact hM.ginj _ _ _ _ _ _ _ _ _ q2 p2
            · obtain ⟨hn, e2⟩ := nm' e
              rcases live' e' with ⟨q1, q2⟩ | ⟨q1, q2⟩
              · subst q2; exact hn (hM.inj _ _ _ e2 hg)
              · exact hM.gap _ _ _ _ _ _ e2 q2
            · by_cases hn : n = b
              · exact ⟨[.own l], by rw [getM, if_pos hn]⟩
              · have : at'.gn n = at_.gn n := by simp only [at', if_neg hn]
                rw [this] at e
                obtain ⟨ds, h4⟩ := hM.gdom n e
                exact ⟨ds, by rw [getM, if_neg hn]; exact h4⟩
            · rcases live' e with ⟨_, rfl⟩ | ⟨_, e⟩
              · exact hgl
              · exact hM.gsz _ _ _ _ _ e
            · rcases live' e with ⟨_, rfl⟩ | ⟨_, e⟩
              · exact hM.nout _ _ hg
              · exact hM.gout _ _ _ _ _ e
            · unfold arrV
              split
              · rename_i b' off
                split
                · rename_i hbb
                  subst hbb
                  split
                  · simp only [Rel] at h ⊢
                    obtain ⟨g', e1, e2⟩ := h
                    rw [hg] at e1
                    simp only [Option.some.injEq] at e1
                    subst e1
                    refine ⟨by simp [at'], by simp [at'], fun g2 base cap m e => ?_, by rw [e2]; rfl⟩
                    simp only [at', if_true, GN.shape, Option.some.injEq, Prod.mk.injEq] at e
                    obtain ⟨rfl, rfl, _, rfl⟩ := e
                    exact ⟨rfl, e2⟩
                  · simp only [Rel]
                · rename_i hbb
                  exact agree _ _ (by simp only [names, List.mem_singleton]; exact fun e => hbb e.symm) h
              · split
                · simp only [Rel]
                · rename_i hn
                  exact agree _ _ (fun hm => hn (List.contains_iff_mem.2 hm)) h
          · exact hr
        · exact hr
      · exact hr
    · exact hr
  · exact hr
theorem RelL.set_same {at_ : At} {w : World} {s : List SV} {v : List Value} {i : Nat} {c : SV} (h : RelL at_ w s v) (hc : Rel at_ w c (v.getD i Go.undef)) : RelL at_ w (s.set i c) v := by
  have _ := ‹GLob›
  have h1 := h.set i c _ hc
  have : v.set i (v.getD i Go.undef) = v := by
    apply List.ext_getElem?
    intro j
    by_cases hj : i = j
    · subst hj
      by_cases hlt : i < v.length
      · rw [List.getElem?_set_self hlt, List.getD_eq_getElem?_getD, List.getElem?_eq_getElem hlt]; rfl
      · rw [List.getElem?_eq_none (by simpa using hlt), List.getElem?_eq_none (by simpa using hlt)]
    · rw [List.getElem?_set_ne hj]
  rwa [this] at h1
theorem frzS_ok {slot : Nat} {st : St} {a : Act} {w : World} (hr : Reps B st a w) : Reps B (frzS slot st) a w := by
  unfold frzS
  split
  · rename_i b lo len hb
    split
    · rename_i l hl
      obtain ⟨at_, r⟩ := hr
      have hs := canonL_ok.slot_ok r.tmp slot
      rw [hb] at hs
      have hMb : st.M[b]? = some (some [.own l]) := by
        rw [List.getD_eq_getElem?_getD] at hl
        cases hx : st.M[b]? with
        | none => rw [hx] at hl; cases hl
        | some y => rw [hx] at hl; simp at hl; rw [hl]
      have hk := r.mem.kill (K := [b]) (by simp [hMb])
      have e : applyWs st.M ([b].map fun k => (k, [])) = st.M.set b (some []) := rfl
      rw [e] at hk
      refine ⟨killAt at_ [b], r.later.trans (Later.kill _ _ _), hk, RelL.set_same (RelL.later (Later.kill _ _ _) _ _ r.tmp) ?_, r.defers, r.obs.later (Later.kill _ _ _)⟩
      have hd : a.tmps.toList.getD slot Go.undef = a.tmps.getD slot Go.undef := by
        rw [List.getD_eq_getElem?_getD, Array.getElem?_toList, Array.getD_eq_getD_getElem?]
      rw [hd]
      refine (sl_lst r.mem hMb hs (fun g b2 c k e => ?_)).1
      refine ⟨fun n e' => r.mem.gap n _ g _ _ _ e' e, r.mem.gout _ _ _ _ _ e, fun n b3 c3 k3 e' => ?_⟩
      obtain ⟨e1, e2⟩ := killAt_live e'
      have := r.mem.ginj _ _ _ _ _ _ _ _ _ e2 e
      subst this
      exact e1 (by simp)
    · exact hr
  · exact hr
theorem frzs_ok {a : Act} {w : World} : ∀ (l : List (Nat × LK)) {st : St}, Reps B st a w → Reps B (frzs l st) a w
  | [], _, h => h
  | s :: l, st, h => by
    unfold frzs
    split
    · exact frzs_ok l (frzS_ok h)
    · exact frzs_ok l h
theorem frzAll_ok {a : Act} {w : World} : ∀ (l : List Nat) {st : St}, Reps B st a w → Reps B (frzAll l st) a w
  | [], _, h => h
  | _ :: l, _, h => frzAll_ok l (frzS_ok h)
theorem arrs_ok {k : Nat} (hc : Clean k B.at0) {a : Act} {w : World} : ∀ (l : List (Nat × LK)) {st : St}, Reps B st a w → Reps B (arrs k l st) a w
  | [], _, h => h
  | s :: l, st, h => by
    unfold arrs
    split
    · exact arrs_ok hc l (arr1_ok hc h)
    · exact arrs_ok hc l h
theorem norm_ok {k n : Nat} {same keep : List Nat} {kinds : List LK} {st : St} {ss vals : List SV} {M' : List (Option Blk)} (hc : Clean k B.at0) (hl : keep.length ≤ kinds.length) (h : norm k same (keep.zip kinds) n st = some (ss, vals, M')) {a : Act} {w : World} {at_ : At} (r : Rep B st at_ a w) :
    ∃ at', (∀ g, Unn at_ g → Unn at' g) ∧ n = a.tmps.size ∧ Later B.at0 B.w0 at' w ∧ MemOK at' M' w ∧ RelL at' w ss (same.map fun i => a.tmps.getD i Go.undef) ∧ RelL at' w vals (keep.map fun i => a.tmps.getD i Go.undef) := by
  unfold norm at h
  split at h
  · rename_i hn
    generalize collect k _ st.M st.T (keep.zip kinds) _ = names at h
    generalize iksOf st.T (keep.zip kinds) = iks at h
    unfold normN at h
    split at h
    · rename_i hok
      unfold namesOK at hok
      simp only [Bool.and_eq_true, List.all_eq_true] at hok
      split at h
      · rename_i vals' A B hv hA hB
        split at h
        · rename_i hs
          simp only [Option.some.injEq, Prod.mk.injEq] at h
          obtain ⟨rfl, rfl, rfl⟩ := h
          have hk : ∀ b, NM.old b ∈ names → k ≤ b := fun b hb => by
            have := hok.2 _ hb
            simpa [nmOK] using this
          refine ⟨atN k names at_, fun g hg => ⟨fun m e => by obtain ⟨q, _, e2⟩ := atN_nm e; exact hg.1 q e2, fun m b c q e => by obtain ⟨p, _, e2⟩ := atN_live e; exact hg.2 p b c q e2⟩, ?_, laterN hc hk r.later, memN r.mem hn.2 hok.1 hk hA hB, RelL.noName (fun g h => fixN g h) _ _ hs (sameL_ok r.tmp same), ?_⟩
          · have := r.tmp.length
            simp only [Array.length_toList] at this
            omega
          · have := canonL_ok (k := k) r.tmp hv
            rwa [List.map_fst_zip hl] at this
        · cases h
      · cases h
    · cases h
  · cases h
theorem head_ok {k n : Nat} {S : LSpec} {st : St} {Q : S.β → S.α → Prop} (hc : Clean k B.at0) (h : headVC k n S st Q) : ∃ b x, Q b x ∧ ∀ a w, Reps B st a w → Reps B (headSt n S b x) a w := by
  unfold headVC at h
  split at h
  · rename_i hl
    split at h
    · exact h.elim
    · rename_i ss vals M' hnorm
      split at h
      · exact h.elim
      · rename_i b hb
        split at h
        · exact h.elim
        · rename_i p x hx
          obtain ⟨hp, hq⟩ := conj_ok h
          refine ⟨b, x, hq, fun a w ⟨at_, r⟩ => ?_⟩
          obtain ⟨at_, r⟩ := arrs_ok hc _ (frzs_ok _ (frzAll_ok _ ⟨at_, r⟩))
          obtain ⟨at', h0, h1, h2, h3, h4, h5⟩ := norm_ok hc (by omega) hnorm r
          obtain ⟨k1, k2⟩ := S.ea.ok hx hp
          exact ⟨at', h2, by rw [k1] at h3; exact h3, place_ok h1 (S.eb.ok hb h4) (k2 h5), r.defers, r.obs.sub h0⟩
  · exact h.elim

theorem cut_ok {ρ : Option Nat} {k n : Nat} {S : CSpec} {c : Code} {st : St} {K : KT} (hc : Clean k B.at0) (run : KT → Prop) (hrun : ∀ K', run K' → AWp ρ P B c st K') (h : cutVC k n S st run K) : AWp ρ P B c st K := by
  unfold cutVC at h
  obtain ⟨b, g, ⟨h1, h2⟩, _⟩ := head_ok (B := B) hc h
  have h2 := S.ea.all_ok h2
  intro a w hr
  refine wpR_mono ?_ (hrun _ h1 a w hr)
  rintro e a' w' ⟨st', hr', hk⟩
  cases e with
  | normal =>
    obtain ⟨b', x, ⟨hb, hi⟩, hrep⟩ := head_ok (B := B) hc hk
    subst hb
    exact ⟨_, hrep _ _ hr', h2 x hi⟩
  | _ => exact ⟨st', hr', hk⟩

section
variable {b : Frame} {a : Act} {k : List Item} {cs : List Frame} {w : World} {F : Fence} {n : Nat} {Q : Exit → Act → World → Prop}
theorem stepR_scope {c : Code} : step P (lone (b.atR a (.code (.scope c) :: k)) cs w) = .next (lone (b.atR a (.code c :: .inScope c :: k)) cs w) := by
  have _ := ‹GLob›
  exact step_lone_go (by simp [stepG, stepG.exec, Frame.atR])
theorem stepR_inScope {c : Code} : step P (lone (b.atR a (.inScope c :: k)) cs w) = .next (lone (b.atR a k) cs w) := by
  have _ := ‹GLob›
  exact step_lone_go (by simp [stepG, stepG.exec, Frame.atR])
/-- Code that may name labels, and jumps to none. -/
theorem wpIn_scope {c : Code} (h : c.wpIn F n P (fun e a w => match e with | .goto _ => False | e => Q e a w) a w) : (Code.scope c).wpIn F n P Q a w := by
  intro b k cs hro hb hr
  have h0 : (lone (b.atR a (.code (.scope c) :: k)) cs w).fenced P F := fenced_calm hb hr rfl
  obtain ⟨e, a₁, w₁, hq, harr⟩ := h b (.inScope c :: k) cs hro hb hr
  cases e with
  | normal => exact ⟨.normal, a₁, w₁, hq, .head h0 stepR_scope (StepsIn.trans harr (.one (fenced_calm hb hr rfl) stepR_inScope))⟩
  | exit id' =>
    have hx : exitTo id' (.inScope c :: k) = exitTo id' k := by simp [exitTo]
    exact ⟨.exit id', a₁, w₁, hq, fun k' hk => .head h0 stepR_scope (harr.1 k' (by rw [hx]; exact hk)),
      fun hr' hk => let ⟨k₁, h1, h2⟩ := harr.2 hr' (by rw [hx]; exact hk); ⟨k₁, h1, .head h0 stepR_scope h2⟩⟩
  | goto l => exact hq.elim
  | ret => exact ⟨_, a₁, w₁, hq, .of_steps (.one h0 stepR_scope) harr⟩
  | panic ch => exact ⟨_, a₁, w₁, hq, .of_steps (.one h0 stepR_scope) harr⟩
  | outgrown => exact ⟨_, a₁, w₁, hq, .of_steps (.one h0 stepR_scope) harr⟩
end
theorem vcl_ok {ρ : Option Nat} (hm : P.follows .mixedOrders = true) (hT : TTOK P tt) (hS : SpecsOK P sp) {fuel : Nat} {D : Dec} {L : Plan} {k : Nat} (hc : Clean k B.at0) : ∀ (c : Code) (i : Nat) (st : St) (K : KT), vcl tt sp fuel D L k c i st K → AWp ρ P B c st K
  | .skip, _, st, K, h => fun a w hr => wpIn_skip ⟨st, hr, h⟩
  | .label _, _, st, K, h => fun a w hr => wpIn_label ⟨st, hr, h⟩
  | .scope c, i, st, K, h => fun a w hr => by
    simp only [vcl] at h
    refine wpIn_scope (wpR_mono ?_ (vcl_ok hm hT hS hc c i st _ h a w hr))
    rintro e a' w' ⟨st', hr', hk⟩
    cases e with
    | goto l => exact hk
    | _ => exact ⟨st', hr', hk⟩
  | .exit id, _, st, K, h => fun a w hr => wpIn_exit ⟨st, hr, h⟩
  | .ret, _, st, K, h => fun a w hr => wpIn_ret ⟨st, hr, h⟩
  | .region id ops draw, _, st, K, h => by
    have run : ∀ K' : KT, regionVC tt sp (D.of id) ops draw (K' .normal) st → AWp ρ P B (.region id ops draw) st K' := fun K' h => fun a w hr => region_ok hm hT hS h hr (fun st' a' w' hK hr' => ⟨st', hr', hK⟩)
    simp only [vcl] at h
    split at h
    · exact run K h
    · exact cut_ok hc (fun K' => regionVC tt sp (D.of id) ops draw (K' .normal) st) run h
  | .seq x y, i, st, K, h => by
    have run : ∀ K' : KT, (vcl tt sp fuel D L k x i st fun e st' => match e with
      | .normal => vcl tt sp fuel D L k y i st' K'
      | e => K' e st') → AWp ρ P B (.seq x y) st K' := by
      intro K' h
      refine AWp.seq (AWp.mono (vcl_ok hm hT hS hc x i st _ h) ?_)
      intro e st' hk
      cases e with
      | normal => exact vcl_ok hm hT hS hc y i st' K' hk
      | _ => exact hk
    simp only [vcl] at h
    split at h
    · exact run K h
    · exact cut_ok hc _ run h
  | .cond c x y, i, st, K, h => by
    simp only [vcl] at h
    split at h
    · rename_i b hb
      obtain ⟨h1, h2⟩ := bcase_ok h
      exact AWp.cond hb (fun e => vcl_ok hm hT hS hc x i _ K (h1 e)) (fun e => vcl_ok hm hT hS hc y i _ K (h2 e))
    · exact h.elim
  | .block id c, _, st, K, h => AWp.block (vcl_ok hm hT hS hc c id st _ h)
  | .loop c, i, st, K, h => by
    simp only [vcl] at h
    split at h
    · refine AWp.loop (fun n st => loopVC (vcl tt sp fuel D L k c i) K n st) fuel h (fun n st hI => ?_)
      cases n with
      | zero => exact hI.elim
      | succ n =>
        refine AWp.mono (vcl_ok hm hT hS hc c i st _ hI) ?_
        intro e st' hk
        cases e with
        | normal => exact ⟨n, Nat.lt_succ_self n, hk⟩
        | _ => exact hk
    · rename_i S _
      obtain ⟨b, a0, ⟨h0, hbody⟩, hhead⟩ := head_ok (B := B) hc h
      have hbody := S.ea.all_ok hbody
      refine AWp.loop (fun m st' => ∃ x, S.inv b a0 x ∧ S.meas b x = m ∧ ∀ a w, Reps B st' a w → Reps B (headSt st.T.length S b x) a w) (S.meas b a0) ⟨a0, h0, rfl, hhead⟩ (fun m st' hI => ?_)
      obtain ⟨x, hx, hm', hrep⟩ := hI
      have hround := vcl_ok (ρ := ρ) hm hT hS hc c i _ _ (hbody x hx)
      refine AWp.mono (fun a w hr => hround a w (hrep a w hr)) ?_
      intro e st2 hk
      cases e with
      | normal =>
        obtain ⟨b', x', ⟨hb, h1, h2⟩, h3⟩ := head_ok (B := B) hc hk
        subst hb
        exact ⟨S.meas b' x', by omega, x', h1, rfl, h3⟩
      | _ => exact hk
  | .rangeFunc _ _ _ _, _, _, _, h => h.elim
  | .goto _, _, _, _, h => h.elim
  | .refuse _, _, _, _, h => h.elim

variable {α β : Type} [Args α] [RetL β]
/-- The body's proposition, with loops met by what holds at their heads. -/
def LnRaw (tt : TT) (sp : Specs) (fuel : Nat) (D : Dec) (L : Plan) (fn : Func) (Q : SV → Prop) (a : α) : Prop := vcl tt sp fuel D L 0 (fn.body.getD .skip) 0 (init (Args.encL a) fn.ntmps) (finK tt fn.results.toList Q)
structure LnVD (tt : TT) (sp : Specs) (fuel : Nat) (D : Dec) (L : Plan) (fn : Func) (Q : SV → Prop) (a : α) : Prop where
  out : LnRaw tt sp fuel D L fn Q a
theorem LnVD.of {tt : TT} {sp : Specs} {fuel : Nat} {D : Dec} {L : Plan} {fn : Func} {Q : SV → Prop} {a : α} {E : Prop} (hE : LnRaw tt sp fuel D L fn Q a = E) (k : E) : LnVD tt sp fuel D L fn Q a := ⟨by rw [hE]; exact k⟩
theorem fn_okL (hm : P.follows .mixedOrders = true) (hT : TTOK P tt) (hS : SpecsOK P sp) (fuel : Nat) {f : FuncId} {fn : Func} (hf : P.funcs[f]? = some fn) (hname : (fn.name == "runtime.NumGoroutine") = false) (hb : fn.body.isSome = true) {pre : α → Option Prop} {g : α → β}
    (H : ∀ a, Ok (pre a) → ∃ D L, ∃ Q : SV → Prop, LnVD tt sp fuel D L fn Q a ∧ ∀ x, Q x → ∀ (at_ : At) (w : World) (v : Value), Rel at_ w x v → Rel at_ w (retSV (RetL.retL (g a))) v) : SpecOK P f (fspec pre g) := by
  obtain ⟨c, hc⟩ := Option.isSome_iff_exists.1 hb
  intro at_ w svs vs pr r hat hout hgl hs hp hr
  unfold fspec at hs
  split at hs
  · rename_i a ha
    simp only [Option.some.injEq, Prod.mk.injEq] at hs
    obtain ⟨rfl, rfl⟩ := hs
    have hrun : (callFunc f (List.toArray vs)).run P w = .ok (.enter f (List.toArray vs)) w := by
      have h1 : fn.name ≠ "runtime.NumGoroutine" := by simpa using hname
      simp [callFunc, hf, h1, hc]
    rw [hrun]
    obtain ⟨D, L, Q, ⟨h⟩, hQ⟩ := H a hp
    unfold LnRaw at h
    rw [hc] at h
    refine (calls_of_awp hm hT hS hf hc (fun B _ _ hcl => vcl_ok hm hT hS hcl c 0 _ _ h) (Args.nn a) hat hout hgl (Args.ok ha hr)).mono ?_
    rintro e w' ⟨v, h1, r', h2, h3, h4⟩
    exact ⟨v, h1, hQ _ h2 _ _ _ h3, h4⟩
  · cases hs
end
end Go.Sym
