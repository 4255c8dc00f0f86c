/- A symbolic machine for Go functions, and what the functions that the law reaches come to: SymU, SymV. -/
import Derived.Test.YtficbeeoafiiaaaGreatDoorQ3
/- Functions that write what their arguments lead to, where blocks lead to lists; a list that they make is told the caller. -/
namespace Go.Sym
open Go.RowKit

/-- The caller's names of the callee's blocks; 'none': a list of no cells that has none. -/
abbrev Nm := List (Option Nat)
def nmOf (bs : Nm) (i : Nat) : Option Nat :=
  match bs[i]? with
  | some (some b) => some b
  | _ => none
/-- What the callee sees, as the caller has it. -/
def renN (bs : Nm) : SV → Option SV
  | .ptr i off => (nmOf bs i).map (.ptr · off)
  | .slc i off len cap => (nmOf bs i).map (.slc · off len cap)
  | .sl i lo len => match bs[i]? with
    | some (some b) => some (.sl b lo len)
    | some none => if lo = 0 ∧ len = 0 then some (.val (.slice none 0 0)) else none
    | none => none
  | .lp i j => (nmOf bs i).map (.lp · j)
  | .ap i j => (nmOf bs i).map (.ap · j)
  | s => if s.noName = true then some s else none
def renNL (bs : Nm) : List SV → Option (List SV)
  | [] => some []
  | s :: l => match renN bs s, renNL bs l with
    | some r, some rs => some (r :: rs)
    | _, _ => none
/-- What the caller sees of what the callee leaves: 'jf', from its cell 'lo0' on, is the list that is new. -/
def back1 (bs : Nm) (fresh jf lo0 : Nat) (M : List (Option Blk)) : SV → Option SV
  | .sl j lo len => if j = jf then (if lo0 ≤ lo then some (.sl fresh (lo - lo0) len) else none) else match bs[j]? with
    | some (some b) => some (.sl b lo len)
    | _ => match M[j]? with
      | some (some [.own l]) => some (.lst (l.cut lo (lo + len)))
      | _ => none
  | .ptr _ _ | .slc _ _ _ _ | .lp _ _ | .ap _ _ => none
  | s => if s.noName = true then some s else none
def backL (bs : Nm) (fresh jf lo0 : Nat) (M : List (Option Blk)) : List SV → Option (List SV)
  | [] => some []
  | s :: l => match back1 bs fresh jf lo0 M s, backL bs fresh jf lo0 M l with
    | some r, some rs => some (r :: rs)
    | _, _ => none
/-- The blocks that the caller knows, as they are left. -/
def backM (bs0 : Nm) (fresh jf lo0 : Nat) (M : List (Option Blk)) : Nat → Nm → Option (List (Nat × Blk))
  | _, [] => some []
  | i, none :: bs => backM bs0 fresh jf lo0 M (i + 1) bs
  | i, some b :: bs => match M[i]? with
    | some (some cs) => match backL bs0 fresh jf lo0 M cs, backM bs0 fresh jf lo0 M (i + 1) bs with
      | some ds, some r => some ((b, ds) :: r)
      | _, _ => none
    | _ => none
/-- The list that is new. -/
def newL (bs : Nm) (fresh jf lo0 : Nat) (M : List (Option Blk)) : Option (List (Nat × Blk)) :=
  match M[jf]? with
  | some (some [.own l]) => if lo0 ≤ l.len ∧ nmOf bs jf = none then some [(fresh, [.own (l.cut lo0 l.len)])] else none
  | none => some []
  | _ => none
/-- All that is left. -/
def backAll (bs : Nm) (fresh jf lo0 : Nat) (M : List (Option Blk)) (r : SV) : Option (SV × List (Nat × Blk)) :=
  match back1 bs fresh jf lo0 M r, backM bs fresh jf lo0 M 0 bs, newL bs fresh jf lo0 M with
  | some sv, some ws, some fw => some (sv, ws ++ fw)
  | _, _, _ => none
def finN (tt : TT) (fr : List ResultVar) (Q : SV → List (Option Blk) → Prop) : KT := fun e st =>
  match e with
  | .normal | .ret => match resAll tt st fr with
    | some vs => Q (retSV vs) st.M
    | none => False
  | _ => False

theorem take_drop_cut' {α : Type} (xs : List α) (base n lo : Nat) : (xs.drop (base + lo)).take (n - lo) = (((xs.drop base).take n).take n).drop lo := by
  apply List.ext_getElem?
  intro i
  simp only [List.getElem?_take, List.getElem?_drop]
  by_cases hi : i < n - lo
  · rw [if_pos hi, if_pos (by omega), if_pos (by omega)]; congr 1; omega
  · rw [if_neg hi, if_neg (by omega)]
theorem nmOf_some {bs : Nm} {i b : Nat} : nmOf bs i = some b ↔ bs[i]? = some (some b) := by
  unfold nmOf
  constructor
  · intro h
    split at h
    · rename_i hb; simp only [Option.some.injEq] at h; subst h; exact hb
    · cases h
  · intro h; rw [h]
section
variable [GLob] {P : Program} {tt : TT} {sp : Specs}
theorem renN_ok {at_ at0 : At} {w : World} {bs : Nm} (hnm : ∀ (i b : Nat), bs[i]? = some (some b) → at0 i = at_ b) (hgn : ∀ (i b : Nat), bs[i]? = some (some b) → at0.gn i = at_.gn b) (hnil : ∀ i, bs[i]? = some none → at0.gn i = .nil) (hfix : ∀ g, Fix at_ g → Fix at0 g) :
    ∀ (s s1 : SV) (v : Value), renN bs s = some s1 → Rel at_ w s1 v → Rel at0 w s v := by
  have _ := ‹GLob›
  intro s s1 v h r
  have key : (if s.noName = true then some s else none) = some s1 → Rel at0 w s v := by
    intro h
    split at h
    · rename_i hn
      simp only [Option.some.injEq] at h; subst h
      exact Rel.noName hfix _ _ hn r
    · cases h
  cases s with
  | ptr i off =>
    simp only [renN] at h
    obtain ⟨b, hb, e⟩ := Option.map_eq_some_iff.1 h
    subst e
    simp only [Rel] at r ⊢
    rw [hnm i b (nmOf_some.1 hb)]; exact r
  | slc i off len cap =>
    simp only [renN] at h
    obtain ⟨b, hb, e⟩ := Option.map_eq_some_iff.1 h
    subst e
    simp only [Rel] at r ⊢
    rw [hnm i b (nmOf_some.1 hb)]; exact r
  | sl i lo len =>
    simp only [renN] at h
    split at h
    · rename_i b hb
      simp only [Option.some.injEq] at h; subst h
      simp only [Rel] at r ⊢
      rw [hgn i b hb]; exact r
    · rename_i hb
      split at h
      · rename_i hc
        obtain ⟨rfl, rfl⟩ := hc
        simp only [Option.some.injEq] at h; subst h
        simp only [Rel] at r ⊢
        rw [hnil i hb, r]
        exact ⟨by simp, fun _ => by simp, by simp [GN.shape], rfl⟩
      · cases h
    · cases h
  | lp i j =>
    simp only [renN] at h
    obtain ⟨b, hb, e⟩ := Option.map_eq_some_iff.1 h
    subst e
    simp only [Rel] at r ⊢
    rw [hgn i b (nmOf_some.1 hb)]; exact r
  | ap i j =>
    simp only [renN] at h
    obtain ⟨b, hb, e⟩ := Option.map_eq_some_iff.1 h
    subst e
    simp only [Rel] at r ⊢
    rw [hgn i b (nmOf_some.1 hb)]; exact r
  | _ => exact key h
theorem renNL_ok {at_ at0 : At} {w : World} {bs : Nm} (hnm : ∀ (i b : Nat), bs[i]? = some (some b) → at0 i = at_ b) (hgn : ∀ (i b : Nat), bs[i]? = some (some b) → at0.gn i = at_.gn b) (hnil : ∀ i, bs[i]? = some none → at0.gn i = .nil) (hfix : ∀ g, Fix at_ g → Fix at0 g) :
    ∀ (s s1 : List SV) (v : List Value), renNL bs s = some s1 → RelL at_ w s1 v → RelL at0 w s v
  | [], _, _, h, r => by simp only [renNL, Option.some.injEq] at h; subst h; simpa only [RelL] using r
  | s :: l, _, _, h, r => by
    simp only [renNL] at h
    split at h
    · rename_i s1 l1 h1 h2
      simp only [Option.some.injEq] at h; subst h
      simp only [RelL] at r
      obtain ⟨u, us, rfl, r1, r2⟩ := r
      exact RelL.cons (renN_ok hnm hgn hnil hfix _ _ _ h1 r1) (renNL_ok hnm hgn hnil hfix _ _ _ h2 r2)
    · cases h
/-- A list's name, from some cell on. -/
def GN.from (lo0 : Nat) : GN → GN
  | .live g b c n => .live g (b + lo0) (c - lo0) (n - lo0)
  | .dead g b c n => .dead g (b + lo0) (c - lo0) (n - lo0)
  | x => x
theorem GN.from_live {lo0 : Nat} {x : GN} {g b c n : Nat} (h : x.from lo0 = .live g b c n) : ∃ b' c' n', x = .live g b' c' n' := by
  have _ := ‹GLob›
  cases x with
  | live g' b' c' n' => simp only [GN.from, GN.live.injEq] at h; obtain ⟨rfl, _, _, _⟩ := h; exact ⟨_, _, _, rfl⟩
  | dead g' b' c' n' => simp [GN.from] at h
  | nil => simp [GN.from] at h
  | unborn => simp [GN.from] at h
theorem GN.from_unborn {lo0 : Nat} {x : GN} : x.from lo0 = .unborn ↔ x = .unborn := by
  have _ := ‹GLob›
  cases x <;> simp [GN.from]

theorem back1_ok {at' atF : At} {w : World} {bs : Nm} {fresh jf lo0 : Nat} {M : List (Option Blk)} (hM : MemOK at' M w) (hgn : ∀ (i b : Nat), bs[i]? = some (some b) → atF.gn b = at'.gn i)
    (hjf : atF.gn fresh = (at'.gn jf).from lo0) (hlo : ∀ g b c n, (at'.gn jf).shape = some (g, b, c, n) → lo0 ≤ n) (hfix : ∀ g, Fix at' g → Fix atF g)
    (hfix2 : ∀ j g b c n, j ≠ jf → (∀ b, bs[j]? ≠ some (some b)) → at'.gn j = .live g b c n → Fix atF g) :
    ∀ (s s1 : SV) (v : Value), back1 bs fresh jf lo0 M s = some s1 → Rel at' w s v → Rel atF w s1 v := by
  intro s s1 v h r
  have key : (if s.noName = true then some s else none) = some s1 → Rel atF w s1 v := by
    intro h
    split at h
    · rename_i hn
      simp only [Option.some.injEq] at h; subst h
      exact Rel.noName hfix _ _ hn r
    · cases h
  cases s with
  | ptr i off => simp only [back1] at h; cases h
  | sl j lo len =>
    simp only [back1] at h
    split at h
    · rename_i hj
      subst hj
      split at h
      · rename_i hle
        simp only [Option.some.injEq] at h; subst h
        simp only [Rel] at r ⊢
        obtain ⟨r1, r2, r3, r4⟩ := r
        rw [hjf]
        refine ⟨fun e => r1 (GN.from_unborn.1 e), fun e => ?_, fun g base cap n e => ?_, r4⟩
        · have e' : at'.gn j = .nil := by cases hx : at'.gn j <;> rw [hx] at e <;> simp [GN.from] at e ⊢
          obtain ⟨h1, h2, h3⟩ := r2 e'
          exact ⟨by omega, h2, h3⟩
        · have hs : ∃ b' c' n', (at'.gn j).shape = some (g, b', c', n') ∧ base = b' + lo0 ∧ cap = c' - lo0 ∧ n = n' - lo0 := by
            cases hx : at'.gn j with
            | live g' b' c' n' => rw [hx] at e; simp only [GN.from, GN.shape, Option.some.injEq, Prod.mk.injEq] at e; obtain ⟨rfl, rfl, rfl, rfl⟩ := e; exact ⟨_, _, _, rfl, rfl, rfl, rfl⟩
            | dead g' b' c' n' => rw [hx] at e; simp only [GN.from, GN.shape, Option.some.injEq, Prod.mk.injEq] at e; obtain ⟨rfl, rfl, rfl, rfl⟩ := e; exact ⟨_, _, _, rfl, rfl, rfl, rfl⟩
            | nil => rw [hx] at e; simp [GN.from, GN.shape] at e
            | unborn => rw [hx] at e; simp [GN.from, GN.shape] at e
          obtain ⟨b', c', n', hs, rfl, rfl, rfl⟩ := hs
          obtain ⟨k1, k2, ad, k3, k4⟩ := r3 _ _ _ _ hs
          have hl0 := hlo _ _ _ _ hs
          refine ⟨by omega, by omega, ad, ?_, fun hc => ?_⟩
          · rw [k3, show c' - lo0 - (lo - lo0) = c' - lo by omega]
          · rw [k4 (by omega), show b' + lo0 + (lo - lo0) = b' + lo by omega]
      · cases h
    · rename_i hj
      split at h
      · rename_i b hb
        simp only [Option.some.injEq] at h; subst h
        simp only [Rel] at r ⊢
        rw [hgn j b hb]; exact r
      · rename_i hb
        split at h
        · rename_i l hl
          simp only [Option.some.injEq] at h; subst h
          exact (sl_lst hM hl r (fun g b c n e => hfix2 j g b c n hj (fun b hb' => hb b hb') e)).1
        · cases h
  | slc i off len cap => simp only [back1] at h; cases h
  | lp i j => simp only [back1] at h; cases h
  | ap i j => simp only [back1] at h; cases h
  | _ => exact key h
theorem backL_ok {at' atF : At} {w : World} {bs : Nm} {fresh jf lo0 : Nat} {M : List (Option Blk)} (hM : MemOK at' M w) (hgn : ∀ (i b : Nat), bs[i]? = some (some b) → atF.gn b = at'.gn i)
    (hjf : atF.gn fresh = (at'.gn jf).from lo0) (hlo : ∀ g b c n, (at'.gn jf).shape = some (g, b, c, n) → lo0 ≤ n) (hfix : ∀ g, Fix at' g → Fix atF g)
    (hfix2 : ∀ j g b c n, j ≠ jf → (∀ b, bs[j]? ≠ some (some b)) → at'.gn j = .live g b c n → Fix atF g) :
    ∀ (s s1 : List SV) (v : List Value), backL bs fresh jf lo0 M s = some s1 → RelL at' w s v → RelL atF w s1 v
  | [], _, _, h, r => by simp only [backL, Option.some.injEq] at h; subst h; simpa only [RelL] using r
  | s :: l, _, _, h, r => by
    simp only [backL] at h
    split at h
    · rename_i s1 l1 h1 h2
      simp only [Option.some.injEq] at h; subst h
      simp only [RelL] at r
      obtain ⟨u, us, rfl, r1, r2⟩ := r
      exact RelL.cons (back1_ok hM hgn hjf hlo hfix hfix2 _ _ _ h1 r1) (backL_ok hM hgn hjf hlo hfix hfix2 _ _ _ h2 r2)
    · cases h
theorem backL_own {bs : Nm} {fresh jf lo0 : Nat} {M : List (Option Blk)} {cs : List SV} {l : LV} (h : backL bs fresh jf lo0 M cs = some [.own l]) : cs = [.own l] := by
  have _ := ‹GLob›
  cases cs with
  | nil => simp [backL] at h
  | cons s cs =>
    simp only [backL] at h
    split at h
    · rename_i s1 l1 h1 h2
      simp only [Option.some.injEq, List.cons.injEq] at h
      obtain ⟨rfl, rfl⟩ := h
      have e1 : s = .own l := by
        cases s <;> simp only [back1] at h1
        case sl j lo len =>
          split at h1
          · split at h1 <;> simp at h1
          · split at h1
            · simp at h1
            · split at h1 <;> simp at h1
        case own l' => simpa [SV.noName] using h1
        all_goals first | (cases h1; done) | (split at h1 <;> simp at h1)
      have e2 : cs = [] := by
        cases cs with
        | nil => rfl
        | cons s' cs' =>
          simp only [backL] at h2
          split at h2 <;> simp at h2
      rw [e1, e2]
    · cases h
/-- What the caller's blocks are left as. -/
theorem backM_get {bs0 : Nm} {fresh jf lo0 : Nat} {M : List (Option Blk)} : ∀ {bs : Nm} {i : Nat} {ws : List (Nat × Blk)}, backM bs0 fresh jf lo0 M i bs = some ws →
    (∀ p ∈ ws, ∃ j : Nat, bs[j]? = some (some p.1)) ∧ ∀ (j b : Nat), bs[j]? = some (some b) → ∃ cs ds, M[i + j]? = some (some cs) ∧ backL bs0 fresh jf lo0 M cs = some ds ∧ (b, ds) ∈ ws
  | [], i, ws, h => by
    have _ := ‹GLob›
    simp only [backM, Option.some.injEq] at h; subst h
    exact ⟨fun p hp => by simp at hp, fun j b hj => by simp at hj⟩
  | none :: bs, i, ws, h => by
    simp only [backM] at h
    obtain ⟨h1, h2⟩ := backM_get h
    refine ⟨fun p hp => ?_, fun j b hj => ?_⟩
    · obtain ⟨j, hj⟩ := h1 p hp
      exact ⟨j + 1, by simpa using hj⟩
    · cases j with
      | zero => simp at hj
      | succ j => simp at hj; obtain ⟨cs, ds, k1, k2, k3⟩ := h2 j b hj; exact ⟨cs, ds, by rw [show i + (j + 1) = i + 1 + j by omega]; exact k1, k2, k3⟩
  | some b0 :: bs, i, ws, h => by
    simp only [backM] at h
    split at h
    · rename_i cs hcs
      split at h
      · rename_i ds r hd hr
        simp only [Option.some.injEq] at h; subst h
        obtain ⟨h1, h2⟩ := backM_get hr
        refine ⟨fun p hp => ?_, fun j b hj => ?_⟩
        · rcases List.mem_cons.1 hp with rfl | hp
          · exact ⟨0, rfl⟩
          · obtain ⟨j, hj⟩ := h1 p hp
            exact ⟨j + 1, by simpa using hj⟩
        · cases j with
          | zero => simp at hj; subst hj; exact ⟨cs, ds, hcs, hd, by simp⟩
          | succ j => simp at hj; obtain ⟨cs', ds', k1, k2, k3⟩ := h2 j b hj; exact ⟨cs', ds', by rw [show i + (j + 1) = i + 1 + j by omega]; exact k1, k2, by simp [k3]⟩
      · cases h
    · cases h
/-- Writes to places of their own. -/
theorem applyWs_mem : ∀ {ws : List (Nat × Blk)} {M : List (Option Blk)} {b : Nat} {cs : Blk}, (ws.map (·.1)).Nodup → (b, cs) ∈ ws → b < M.length → (applyWs M ws)[b]? = some (some cs)
  | [], _, _, _, _, h, _ => by simp at h
  | p :: ws, M, b, cs, hn, h, hl => by
    have _ := ‹GLob›
    simp only [List.map_cons, List.nodup_cons] at hn
    simp only [applyWs, List.foldl_cons]
    rcases List.mem_cons.1 h with rfl | h
    · have : ∀ q ∈ ws, q.1 ≠ b := fun q hq e => hn.1 (List.mem_map.2 ⟨q, hq, e⟩)
      have h1 := applyWs_get ws (M.set b (some cs)) b this
      unfold applyWs at h1
      rw [h1, List.getElem?_set_self hl]
    · exact applyWs_mem (M := M.set p.1 (some p.2)) hn.2 h (by rw [List.length_set]; exact hl)
theorem backM_nodup {bs0 : Nm} {fresh jf lo0 : Nat} {M : List (Option Blk)} : ∀ {bs : Nm} {i : Nat} {ws : List (Nat × Blk)}, backM bs0 fresh jf lo0 M i bs = some ws → ws.map (·.1) = bs.filterMap id
  | [], i, ws, h => by have _ := ‹GLob›; simp only [backM, Option.some.injEq] at h; subst h; rfl
  | none :: bs, i, ws, h => by
    simp only [backM] at h
    simpa using backM_nodup h
  | some b0 :: bs, i, ws, h => by
    simp only [backM] at h
    split at h
    · split at h
      · rename_i hr
        simp only [Option.some.injEq] at h; subst h
        simp [backM_nodup hr]
      · cases h
    · cases h
/-- A function that writes what its arguments lead to, and may make a list. -/
theorem nspec_of_awp (hT : TTOK P tt) {f : FuncId} {fn : Func} {c : Code} (hf : P.funcs[f]? = some fn) (hname : (fn.name == "runtime.NumGoroutine") = false) (hb : fn.body = some c) {s : NSpecF}
    (H : ∀ look fresh svs out, s look fresh svs = some out → Ok out.pre → ∃ (bs : Nm) (M0 : List Blk) (svs0 svs1 : List SV) (Q : SV → List (Option Blk) → Prop),
      (bs.filterMap id).Nodup ∧ bs.length = M0.length ∧ (∀ (i b : Nat), bs[i]? = some (some b) → ∃ c0 cs : Blk, M0[i]? = some c0 ∧ look b = some cs ∧ renNL bs c0 = some cs) ∧
      (∀ (i : Nat), bs[i]? = some none → ∃ l : LV, M0[i]? = some [.own l] ∧ l.len = 0) ∧
      (∀ (at_ : At) w vs, RelL at_ w svs vs → RelL at_ w svs1 vs) ∧ renNL bs svs0 = some svs1 ∧
      (∀ B : Base, B.dfs = [] → B.obs = [] → Clean M0.length B.at0 → AWp none P B c (initM svs0 fn.ntmps M0) (finN tt fn.results.toList Q)) ∧
      (∀ r M', Q r M' → ∃ jf lo0, backAll bs fresh jf lo0 M' r = some (out.sv, out.ws))) : NSpecOK P f s := by
  intro at_ M w look fresh svs vs out hM hlook hfr hs hp hr
  obtain ⟨bs, M0, svs0, svs1, Q, hnd, hlen, hbs, hnil, hrel, hren, H, hQ⟩ := H look fresh svs out hs hp
  have hrun : (callFunc f (List.toArray vs)).run P w = .ok (.enter f (List.toArray vs)) w := by
    have h1 : fn.name ≠ "runtime.NumGoroutine" := by simpa using hname
    simp [callFunc, hf, h1, hb]
  rw [hrun]
  have hr1 := hrel _ _ _ hr
  obtain ⟨frN, frG⟩ := hM.fresh_none hfr
  have inb : ∀ n, n ∈ bs.filterMap id ↔ ∃ i, bs[i]? = some (some n) := fun n => by
    rw [List.mem_filterMap]
    constructor
    · rintro ⟨x, hx, e⟩
      obtain ⟨i, hi⟩ := List.getElem?_of_mem hx
      simp only [id] at e
      subst e
      exact ⟨i, hi⟩
    · rintro ⟨i, hi⟩
      exact ⟨some n, List.mem_of_getElem? hi, rfl⟩
  have hMb : ∀ (i b : Nat), bs[i]? = some (some b) → ∃ c0 cs : Blk, M0[i]? = some c0 ∧ M[b]? = some (some cs) ∧ renNL bs c0 = some cs := fun i b h => by
    obtain ⟨c0, cs, h1, h2, h3⟩ := hbs i b h; exact ⟨c0, cs, h1, hlook _ _ h2, h3⟩
  have frb : fresh ∉ bs.filterMap id := fun h => by
    obtain ⟨i, hi⟩ := (inb _).1 h
    obtain ⟨_, cs, _, h4, _⟩ := hMb i fresh hi
    rw [hfr] at h4; cases h4
  let at0 : At := ⟨fun i => (nmOf bs i).bind at_, fun g => (∃ n, at_ n = some g ∧ n ∉ bs.filterMap id) ∨ at_.out g ∨ ∃ n b c k, n ∉ bs.filterMap id ∧ at_.gn n = .live g b c k, fun i => match bs[i]? with | some (some b) => at_.gn b | some none => .nil | none => .unborn⟩
  have nm0 : ∀ (i g : Nat), at0 i = some g → ∃ b, bs[i]? = some (some b) ∧ at_ b = some g := fun i g h => by
    simp only [at0] at h
    obtain ⟨b, h1, h2⟩ := Option.bind_eq_some_iff.1 h
    exact ⟨b, nmOf_some.1 h1, h2⟩
  have nm1 : ∀ (i b : Nat), bs[i]? = some (some b) → at0 i = at_ b := fun i b h => by simp only [at0, nmOf_some.2 h, Option.bind_some]
  have gn1 : ∀ (i b : Nat), bs[i]? = some (some b) → at0.gn i = at_.gn b := fun i b h => by simp only [at0, h]
  have gn2 : ∀ (i : Nat), bs[i]? = some none → at0.gn i = .nil := fun i h => by simp only [at0, h]
  have gl0 : ∀ (i g b c k : Nat), at0.gn i = .live g b c k → ∃ n, bs[i]? = some (some n) ∧ at_.gn n = .live g b c k := fun i g b c k h => by
    simp only [at0] at h
    split at h
    · rename_i n hn; exact ⟨n, hn, h⟩
    · cases h
    · cases h
  have fixA : ∀ g, Fix at_ g → Fix at0 g := fun g h => ⟨fun n e => by obtain ⟨b, _, h2⟩ := nm0 _ _ e; exact h.1 b h2, fun e => by
    rcases e with ⟨n, e, _⟩ | e | ⟨n, b, c, k, _, e⟩
    · exact h.1 n e
    · exact h.2.1 e
    · exact h.2.2 n b c k e, fun i b c k e => by obtain ⟨n, _, e'⟩ := gl0 _ _ _ _ _ e; exact h.2.2 n b c k e'⟩
  have idx : ∀ (n m b : Nat), bs[n]? = some (some b) → bs[m]? = some (some b) → n = m := by
    have : ∀ (l : Nm), (l.filterMap id).Nodup → ∀ (n m b : Nat), l[n]? = some (some b) → l[m]? = some (some b) → n = m := by
      intro l
      induction l with
      | nil => intro _ n m b h; simp at h
      | cons x l ih =>
        intro hl n m b h h'
        have hl' : (l.filterMap id).Nodup := by
          cases x with
          | none => simpa using hl
          | some x => simp only [List.filterMap_cons, id, List.nodup_cons] at hl; exact hl.2
        have key : ∀ k, x = some b → l[k]? = some (some b) → False := fun k hx hk => by
          subst hx
          simp only [List.filterMap_cons, id, List.nodup_cons] at hl
          exact hl.1 (List.mem_filterMap.2 ⟨some b, List.mem_of_getElem? hk, rfl⟩)
        cases n with
        | zero => cases m with
          | zero => rfl
          | succ m => simp at h h'; exact (key m h h').elim
        | succ n => cases m with
          | zero => simp at h h'; exact (key n h' h).elim
          | succ m => simp at h h'; rw [ih hl' n m b h h']
    exact this bs hnd
  have hmem0 : MemOK at0 (M0.map some) w := by
    have find : ∀ (i : Nat) (cs : Blk), (M0.map some)[i]? = some (some cs) → M0[i]? = some cs := fun i cs e => by
      rw [List.getElem?_map] at e
      obtain ⟨cs', h1, h2⟩ := Option.map_eq_some_iff.1 e
      simp only [Option.some.injEq] at h2; subst h2
      exact h1
    refine ⟨fun i g cs e0 e => ?_, fun n m g e e' => ?_, fun i g e => ?_, fun g h => ?_, fun n l e => ?_, fun n m g b c k b' c' k' e e' => ?_, fun n m g b c k e e' => ?_, fun n e => ?_, fun n g b c k e => ?_, fun n g b c k e => ?_, fun n g e => ?_, hM.glb.fixed fixA⟩
    · obtain ⟨b, h1, h2⟩ := nm0 _ _ e0
      obtain ⟨c0, cs', h3, h4, h5⟩ := hMb i b h1
      rw [find i cs e] at h3; cases h3
      obtain ⟨ty, us, k2, k3⟩ := hM.blk _ _ _ h2 h4
      exact ⟨ty, us, k2, renNL_ok nm1 gn1 gn2 fixA _ _ _ h5 k3⟩
    · obtain ⟨b, h1, h2⟩ := nm0 _ _ e
      obtain ⟨b', h1', h2'⟩ := nm0 _ _ e'
      have := hM.inj _ _ _ h2 h2'; subst this
      exact idx _ _ _ h1 h1'
    · obtain ⟨b, h1, h2⟩ := nm0 _ _ e
      obtain ⟨c0, cs, h3, h4, _⟩ := hMb _ _ h1
      exact ⟨(hM.dom _ _ h2).1, c0, by rw [List.getElem?_map, h3]; rfl⟩
    · rcases h with ⟨n, h, _⟩ | h | ⟨n, b, c, k, _, h⟩
      · exact (hM.dom _ _ h).1
      · exact hM.outlt g h
      · exact hM.gsz _ _ _ _ _ h
    · have e1 := find n _ e
      have hi : n < bs.length := by rw [hlen]; exact (List.getElem?_eq_some_iff.1 e1).1
      cases hx : bs[n] with
      | none =>
        have hx' : bs[n]? = some none := by rw [List.getElem?_eq_getElem hi, hx]
        obtain ⟨l', k1, k2⟩ := hnil n hx'
        rw [e1] at k1
        simp only [Option.some.injEq, List.cons.injEq, SV.own.injEq, and_true] at k1
        subst k1
        exact .inl ⟨gn2 n hx', k2⟩
      | some b =>
        have hx' : bs[n]? = some (some b) := by rw [List.getElem?_eq_getElem hi, hx]
        obtain ⟨c0, cs, h3, h4, h5⟩ := hMb n b hx'
        rw [e1] at h3; cases h3
        have : cs = [.own l] := by simpa [renNL, renN, SV.noName] using h5.symm
        subst this
        rw [gn1 n b hx']
        exact hM.glk _ _ h4
    · obtain ⟨a1, h1, h2⟩ := gl0 _ _ _ _ _ e
      obtain ⟨a2, h1', h2'⟩ := gl0 _ _ _ _ _ e'
      have := hM.ginj _ _ _ _ _ _ _ _ _ h2 h2'; subst this
      exact idx _ _ _ h1 h1'
    · obtain ⟨a1, h1, h2⟩ := nm0 _ _ e
      obtain ⟨a2, h1', h2'⟩ := gl0 _ _ _ _ _ e'
      exact hM.gap _ _ _ _ _ _ h2 h2'
    · cases hx : bs[n]? with
      | none => simp only [at0, hx] at e; exact absurd rfl e
      | some x =>
        have hi : n < M0.length := by rw [← hlen]; exact (List.getElem?_eq_some_iff.1 hx).1
        exact ⟨M0[n], by rw [List.getElem?_map, List.getElem?_eq_getElem hi]; rfl⟩
    · obtain ⟨a2, h1', h2'⟩ := gl0 _ _ _ _ _ e
      exact hM.gsz _ _ _ _ _ h2'
    · obtain ⟨a2, h1', h2'⟩ := gl0 _ _ _ _ _ e
      rintro (⟨m, h, _⟩ | h | ⟨m, b', c', k', hm, h⟩)
      · exact hM.gap _ _ _ _ _ _ h h2'
      · exact hM.gout _ _ _ _ _ h2' h
      · have := hM.ginj _ _ _ _ _ _ _ _ _ h h2'; subst this
        exact hm ((inb _).2 ⟨_, h1'⟩)
    · obtain ⟨b, h1, h2⟩ := nm0 _ _ e
      rintro (⟨m, h, hm⟩ | h | ⟨m, b', c', k', _, h⟩)
      · have := hM.inj _ _ _ h h2; subst this
        exact hm ((inb _).2 ⟨_, h1⟩)
      · exact hM.nout _ _ h2 h
      · exact hM.gap _ _ _ _ _ _ h2 h
  have hrel0 : RelL at0 w svs0 vs := renNL_ok nm1 gn1 gn2 fixA _ _ _ hren hr1
  have hlen0 := hrel0.length
  have hstart : Reps ⟨at0, w, [], []⟩ (initM svs0 fn.ntmps M0) { tmps := List.toArray vs ++ Array.replicate (fn.ntmps - (List.toArray vs).size) Go.undef, defers := [] } w := by
    refine ⟨at0, Later.refl _ _, hmem0, ?_, rfl, ObsOK.nil _ _⟩
    simp only [initM, Array.toList_append, Array.toList_replicate, List.size_toArray, hlen0]
    exact RelL.append hrel0 (RelL.replicate _ (by simp only [Rel]))
  have hclean : Clean M0.length at0 := fun n hn => by
    have e : bs[n]? = none := List.getElem?_eq_none (by omega)
    have e2 : nmOf bs n = none := by unfold nmOf; rw [e]
    simp [at0, e, e2]
  have hcalls : Calls P f (List.toArray vs) w fun e w' => ∃ v, e = .returned v ∧ Post at_ w M out.ws out.sv v w' := by
    refine calls_of_wp hf hb ?_
    refine Code.wp_mono ?_ (wpIn_wide.1 (H ⟨at0, w, [], []⟩ rfl rfl hclean _ _ hstart))
    rintro e a' w' ⟨st', ⟨at', hl, hM', hT', hd, _⟩, hk⟩
    have fin : finN tt fn.results.toList Q .ret st' →
        a'.defers = [] ∧ ∃ v, (results fn a'.tmps).run P w' = .ok v w' ∧ ∃ u, Ending.returned v = .returned u ∧ Post at_ w M out.ws out.sv u w' := by
      intro hk
      refine ⟨hd, ?_⟩
      simp only [finN] at hk
      split at hk
      · rename_i svs' hres
        obtain ⟨us, h1, h2⟩ := resAll_ok hT hM' hT' _ _ hres
        have hrun := results_run h1
        refine ⟨_, hrun, _, rfl, ?_⟩
        have hrelr : Rel at' w' (retSV svs') (retV us) := by
          rcases svs' with _ | ⟨s, _ | ⟨s', ss⟩⟩
          · simp only [RelL] at h2; subst h2; simp only [retSV, Rel]; exact ⟨[], rfl, RelL.nil⟩
          · simp only [RelL] at h2
            obtain ⟨v, vs', rfl, h3, rfl⟩ := h2
            exact h3
          · have h2' := h2
            simp only [RelL] at h2
            obtain ⟨v, vs', rfl, h3, v', vs'', rfl, h4, h5⟩ := h2
            simp only [retSV, Rel]
            exact ⟨_, rfl, h2'⟩
        obtain ⟨jf, lo0, hback⟩ := hQ _ _ hk
        unfold backAll at hback
        split at hback
        · rename_i sv ws0 fw hb1 hb2 hb3
          simp only [Option.some.injEq, Prod.mk.injEq] at hback
          obtain ⟨rfl, hws⟩ := hback
          obtain ⟨wsA, wsB⟩ := backM_get hb2
          have wsN := backM_nodup hb2
          have fwc : (fw = [] ∧ st'.M[jf]? = none) ∨ ∃ l, st'.M[jf]? = some (some [.own l]) ∧ lo0 ≤ l.len ∧ nmOf bs jf = none ∧ fw = [(fresh, [.own (l.cut lo0 l.len)])] := by
            unfold newL at hb3
            split at hb3
            · rename_i l hl
              split at hb3
              · rename_i hc
                simp only [Option.some.injEq] at hb3; subst hb3
                exact .inr ⟨l, hl, hc.1, hc.2, rfl⟩
              · cases hb3
            · rename_i hl
              simp only [Option.some.injEq] at hb3; subst hb3
              exact .inl ⟨rfl, hl⟩
            · cases hb3
          have jfb : ∀ i b, bs[i]? = some (some b) → i ≠ jf := fun i b h e => by
            subst e
            rcases fwc with ⟨_, h'⟩ | ⟨_, _, _, h', _⟩
            · obtain ⟨cs, ds, k1, _, _⟩ := wsB i b h
              rw [Nat.zero_add, h'] at k1; cases k1
            · rw [nmOf_some.2 h] at h'; cases h'
          have frlt : fresh < M.length := (List.getElem?_eq_some_iff.1 hfr).1
          have hnd2 : (out.ws.map (·.1)).Nodup := by
            rw [← hws, List.map_append, wsN]
            rcases fwc with ⟨h, _⟩ | ⟨_, _, _, _, h⟩
            · rw [h]; simpa using hnd
            · rw [h, List.nodup_append]
              refine ⟨hnd, by simp, fun a ha b hb e => ?_⟩
              simp at hb
              subst hb; subst e; exact frb ha
          have some1 : ∀ n i, bs[i]? = some (some n) → ∃ cs ds, st'.M[i]? = some (some cs) ∧ backL bs fresh jf lo0 st'.M cs = some ds ∧ (applyWs M out.ws)[n]? = some (some ds) := fun n i hi => by
            obtain ⟨cs, ds, k1, k2, k3⟩ := wsB i n hi
            obtain ⟨_, cs0, _, h4, _⟩ := hMb i n hi
            rw [Nat.zero_add] at k1
            exact ⟨cs, ds, k1, k2, applyWs_mem hnd2 (by rw [← hws]; exact List.mem_append_left _ k3) (List.getElem?_eq_some_iff.1 h4).1⟩
          have none1 : ∀ n, n ∉ bs.filterMap id → n ≠ fresh → (applyWs M out.ws)[n]? = M[n]? := fun n hn hnf => by
            refine applyWs_get _ _ _ (fun p hp e => ?_)
            rw [← hws] at hp
            rcases List.mem_append.1 hp with hp | hp
            · obtain ⟨j, hj⟩ := wsA p hp
              exact hn (e ▸ (inb _).2 ⟨j, hj⟩)
            · rcases fwc with ⟨h, _⟩ | ⟨_, _, _, _, h⟩
              · rw [h] at hp; simp at hp
              · rw [h] at hp; simp at hp; subst hp; exact hnf e.symm
          have fresh1 : ∀ x, (applyWs M out.ws)[fresh]? = some (some x) → ∃ l, st'.M[jf]? = some (some [.own l]) ∧ lo0 ≤ l.len ∧ x = [.own (l.cut lo0 l.len)] := fun x hx => by
            rcases fwc with ⟨h, _⟩ | ⟨l, k1, k2, _, h⟩
            · exfalso
              have : (applyWs M out.ws)[fresh]? = M[fresh]? := applyWs_get _ _ _ (fun p hp e => by
                rw [← hws, h, List.append_nil] at hp
                obtain ⟨j, hj⟩ := wsA p hp
                exact frb ((inb _).2 ⟨j, e ▸ hj⟩))
              rw [this, hfr] at hx; cases hx
            · refine ⟨l, k1, k2, ?_⟩
              have := applyWs_mem (b := fresh) (cs := [.own (l.cut lo0 l.len)]) hnd2 (by rw [← hws, h]; simp) frlt
              rw [this] at hx
              simp only [Option.some.injEq] at hx
              exact hx.symm
          have gjf : at'.gn jf = .unborn ∨ ∃ l, st'.M[jf]? = some (some [.own l]) ∧ lo0 ≤ l.len := by
            rcases fwc with ⟨_, h⟩ | ⟨l, k1, k2, _, _⟩
            · left
              cases hx : at'.gn jf with
              | unborn => rfl
              | _ => obtain ⟨cs, e⟩ := hM'.gdom jf (by rw [hx]; simp); rw [h] at e; cases e
            · exact .inr ⟨l, k1, k2⟩
          let pos : Nat → Nat := fun n => bs.idxOf (some n)
          have hpos : ∀ n, n ∈ bs.filterMap id → bs[pos n]? = some (some n) := fun n hn => by
            obtain ⟨i, hi⟩ := (inb n).1 hn
            have hmem : some n ∈ bs := List.mem_of_getElem? hi
            have hlt := List.idxOf_lt_length_iff.2 hmem
            show bs[bs.idxOf (some n)]? = _
            rw [List.getElem?_eq_getElem hlt, List.getElem_idxOf]
          let atF : At := ⟨at_.nm, at_.out, fun n => if n = fresh then (at'.gn jf).from lo0 else if n ∈ bs.filterMap id then at'.gn (pos n) else at_.gn n⟩
          have gFf : atF.gn fresh = (at'.gn jf).from lo0 := by simp only [atF, if_true]
          have gFb : ∀ n, n ∈ bs.filterMap id → atF.gn n = at'.gn (pos n) := fun n hn => by
            have : n ≠ fresh := fun e => frb (e ▸ hn)
            simp only [atF, this, hn, if_false, if_true]
          have gFo : ∀ n, n ∉ bs.filterMap id → n ≠ fresh → atF.gn n = at_.gn n := fun n hn hnf => by simp only [atF, hnf, hn, if_false]
          have gF : ∀ n g b c k, atF.gn n = .live g b c k → (n = fresh ∧ ∃ b' c' k', at'.gn jf = .live g b' c' k') ∨ (n ∈ bs.filterMap id ∧ at'.gn (pos n) = .live g b c k) ∨ (n ∉ bs.filterMap id ∧ n ≠ fresh ∧ at_.gn n = .live g b c k) := fun n g b c k h => by
            by_cases hnf : n = fresh
            · subst hnf
              rw [gFf] at h
              exact .inl ⟨rfl, GN.from_live h⟩
            · by_cases hn : n ∈ bs.filterMap id
              · rw [gFb n hn] at h; exact .inr (.inl ⟨hn, h⟩)
              · rw [gFo n hn hnf] at h; exact .inr (.inr ⟨hn, hnf, h⟩)
          have outF : ∀ g, at0.out g → at'.out g := fun g h => by rw [hl.out]; exact h
          have fixB : ∀ g, Fix at' g → Fix atF g := fun g h => ⟨fun n e => by
            by_cases hn : n ∈ bs.filterMap id
            · exact h.1 _ (hl.name _ _ (by rw [nm1 _ n (hpos n hn)]; exact e))
            · exact h.2.1 (outF g (.inl ⟨n, e, hn⟩)), fun e => h.2.1 (outF g (.inr (.inl e))), fun n b c k e => by
            rcases gF _ _ _ _ _ e with ⟨_, b', c', k', e⟩ | ⟨_, e⟩ | ⟨hn, _, e⟩
            · exact h.2.2 _ _ _ _ e
            · exact h.2.2 _ _ _ _ e
            · exact h.2.1 (outF g (.inr (.inr ⟨n, b, c, k, hn, e⟩)))⟩
          have fixC : ∀ j g b c n, j ≠ jf → (∀ b, bs[j]? ≠ some (some b)) → at'.gn j = .live g b c n → Fix atF g := fun j g b c n hj hjb e => ⟨fun m em => by
            by_cases hm : m ∈ bs.filterMap id
            · exact hM'.gap _ _ _ _ _ _ (hl.name _ g (by rw [nm1 _ m (hpos m hm)]; exact em)) e
            · exact hM'.gout _ _ _ _ _ e (outF g (.inl ⟨m, em, hm⟩)), fun ho => hM'.gout _ _ _ _ _ e (outF g (.inr (.inl ho))), fun m b' c' k' em => by
            rcases gF _ _ _ _ _ em with ⟨_, b2, c2, k2, em⟩ | ⟨hm, em⟩ | ⟨hm, _, em⟩
            · exact hj (hM'.ginj _ _ _ _ _ _ _ _ _ e em)
            · have := hM'.ginj _ _ _ _ _ _ _ _ _ e em
              exact hjb m (this ▸ hpos m hm)
            · exact hM'.gout _ _ _ _ _ e (outF g (.inr (.inr ⟨m, b', c', k', hm, em⟩)))⟩
          have hlo : ∀ g b c n, (at'.gn jf).shape = some (g, b, c, n) → lo0 ≤ n := fun g b c n e => by
            rcases gjf with h | ⟨l, k1, k2⟩
            · rw [h] at e; simp [GN.shape] at e
            · rcases hM'.glk _ _ k1 with ⟨h, _⟩ | ⟨g2, b2, c2, h, _⟩
              · rw [h] at e; simp [GN.shape] at e
              · rw [h] at e
                simp only [GN.shape, Option.some.injEq, Prod.mk.injEq] at e
                omega
          have hgnB : ∀ (i b : Nat), bs[i]? = some (some b) → atF.gn b = at'.gn i := fun i b hi => by
            have hm : b ∈ bs.filterMap id := (inb b).2 ⟨i, hi⟩
            rw [gFb b hm, idx _ _ b (hpos b hm) hi]
          have keepF : ∀ g, (∀ n, at_ n ≠ some g ∨ n ∉ bs.filterMap id) → (∀ n b c k, at_.gn n ≠ .live g b c k ∨ n ∉ bs.filterMap id) → g < w.heap.size → (∀ n b c k, at'.gn n ≠ .live g b c k) ∧ w'.heap[g]? = w.heap[g]? := fun g hg hg' hlt =>
            (hl.keep g (fun n e => by
              obtain ⟨b, h1, h2⟩ := nm0 _ _ e
              rcases hg b with h | h
              · exact h h2
              · exact h ((inb b).2 ⟨n, h1⟩)) (fun n b c k e => by
              obtain ⟨m, h1, h2⟩ := gl0 _ _ _ _ _ e
              rcases hg' m b c k with h | h
              · exact h h2
              · exact h ((inb m).2 ⟨n, h1⟩)) hlt).2
          have hl' : Later at_ w atF w' := by
            refine ⟨hl.os, hl.tape, hl.output, hl.size, fun _ _ h => h, fun g hg hg' hlt => ?_, rfl, fun _ _ h => .inl h, fun n => ?_, fun n g b c k e => ?_⟩
            · obtain ⟨h1, h2⟩ := keepF g (fun n => .inl (hg n)) (fun n b c k => .inl (hg' n b c k)) hlt
              exact ⟨hg, fun n b c k e => by
                rcases gF _ _ _ _ _ e with ⟨_, b', c', k', e⟩ | ⟨_, e⟩ | ⟨_, _, e⟩
                · exact h1 _ _ _ _ e
                · exact h1 _ _ _ _ e
                · exact hg' _ _ _ _ e, h2⟩
            · by_cases hnf : n = fresh
              · subst hnf; exact .inl frG
              · by_cases hn : n ∈ bs.filterMap id
                · rw [gFb n hn]
                  have := hl.gname (pos n)
                  rw [gn1 _ n (hpos n hn)] at this
                  exact this
                · rw [gFo n hn hnf]; exact .inr (.inl rfl)
            · have key : ∀ j b c k, at'.gn j = .live g b c k → (∃ m b' c' k', at_.gn m = .live g b' c' k') ∨ w.heap.size ≤ g := fun j b c k e => by
                rcases hl.gnew _ _ _ _ _ e with ⟨m, b', c', k', e'⟩ | e'
                · obtain ⟨q, _, e2⟩ := gl0 _ _ _ _ _ e'
                  exact .inl ⟨q, _, _, _, e2⟩
                · exact .inr e'
              rcases gF _ _ _ _ _ e with ⟨_, b', c', k', e⟩ | ⟨_, e⟩ | ⟨_, _, e⟩
              · exact key _ _ _ _ e
              · exact key _ _ _ _ e
              · exact .inl ⟨n, b, c, k, e⟩
          refine ⟨atF, hl', ⟨fun n g cs e1 e => ?_, hM.inj, fun n g e => ⟨Nat.lt_of_lt_of_le (hM.dom n g e).1 hl.size, ?_⟩, fun g h => Nat.lt_of_lt_of_le (hM.outlt g h) hl.size, fun n l e => ?_, fun n m g b c k b' c' k' e e' => ?_, fun n m g b c k e e' => ?_, fun n e => ?_, fun n g b c k e => ?_, fun n g b c k e => ?_, hM.nout, hM.glb.later hl'⟩, back1_ok hM' hgnB gFf hlo fixB fixC _ _ _ hb1 hrelr⟩
          · have e1' : at_ n = some g := e1
            have hnf : n ≠ fresh := fun h => by subst h; rw [frN] at e1'; cases e1'
            by_cases hn : n ∈ bs.filterMap id
            · obtain ⟨c1, ds, k1, k2, k3⟩ := some1 n _ (hpos n hn)
              rw [k3] at e
              simp only [Option.some.injEq] at e
              have hnm := hl.name _ g (by rw [nm1 _ n (hpos n hn)]; exact e1')
              obtain ⟨ty, us', m2, m3⟩ := hM'.blk _ _ _ hnm k1
              exact ⟨ty, us', m2, by rw [← e]; exact backL_ok hM' hgnB gFf hlo fixB fixC _ _ _ k2 m3⟩
            · rw [none1 n hn hnf] at e
              obtain ⟨ty, us', m2, m3⟩ := hM.blk _ _ _ e1' e
              refine ⟨ty, us', ?_, RelL.later hl' _ _ m3⟩
              rw [(keepF g (fun m => ?_) (fun m b c k => .inl (hM.gap n m g b c k e1')) (lt_of_heap m2)).2]
              · exact m2
              · by_cases hm : at_ m = some g
                · have := hM.inj _ _ _ hm e1'; subst this; exact .inr hn
                · exact .inl hm
          · have hnf : n ≠ fresh := fun h => by subst h; rw [frN] at e; cases e
            by_cases hn : n ∈ bs.filterMap id
            · obtain ⟨c1, ds, k1, k2, k3⟩ := some1 n _ (hpos n hn)
              exact ⟨_, k3⟩
            · rw [none1 n hn hnf]; exact (hM.dom n g e).2
          · by_cases hnf : n = fresh
            · subst hnf
              obtain ⟨l0, k1, k2, k3⟩ := fresh1 _ e
              simp only [List.cons.injEq, SV.own.injEq, and_true] at k3
              subst k3
              rw [gFf]
              have hlen2 : (l0.cut lo0 l0.len).len = l0.len - lo0 := LV.len_cut _ _ _ (Nat.le_refl _)
              rcases hM'.glk _ _ k1 with ⟨h, h'⟩ | ⟨g, b, c, h, arr, ty, q1, q2, q3, q4, q5⟩
              · rw [h]; exact .inl ⟨rfl, by omega⟩
              · rw [h]
                refine .inr ⟨g, b + lo0, c - lo0, by simp only [GN.from, hlen2], arr, ty, q1, by omega, by omega, by omega, ?_⟩
                rw [hlen2, LV.vals_cut, ← q5, take_drop_cut' _ b l0.len lo0]
            · by_cases hn : n ∈ bs.filterMap id
              · obtain ⟨c1, ds, k1, k2, k3⟩ := some1 n _ (hpos n hn)
                rw [k3] at e
                simp only [Option.some.injEq] at e
                subst e
                have := backL_own k2
                subst this
                rw [gFb n hn]
                exact hM'.glk _ _ k1
              · rw [none1 n hn hnf] at e
                rw [gFo n hn hnf]
                rcases hM.glk n l e with k | ⟨g, b, c, k1, k2⟩
                · exact .inl k
                · refine .inr ⟨g, b, c, k1, k2.mono (keepF g (fun m => .inl (fun e' => hM.gap m n g b c l.len e' k1)) (fun m b' c' k' => ?_) (hM.gsz _ _ _ _ _ k1)).2⟩
                  by_cases hm : at_.gn m = .live g b' c' k'
                  · have := hM.ginj _ _ _ _ _ _ _ _ _ hm k1; subst this; exact .inr hn
                  · exact .inl hm
          · have jp : ∀ n, n ∈ bs.filterMap id → pos n ≠ jf := fun n hn => jfb _ n (hpos n hn)
            rcases gF _ _ _ _ _ e with ⟨h1, _, _, _, h2⟩ | ⟨h1, h2⟩ | ⟨h1, h0, h2⟩ <;> rcases gF _ _ _ _ _ e' with ⟨h1', _, _, _, h2'⟩ | ⟨h1', h2'⟩ | ⟨h1', h0', h2'⟩
            · rw [h1, h1']
            · exact absurd (hM'.ginj _ _ _ _ _ _ _ _ _ h2' h2) (jp m h1')
            · exact (hM'.gout _ _ _ _ _ h2 (outF g (.inr (.inr ⟨m, _, _, _, h1', h2'⟩)))).elim
            · exact absurd (hM'.ginj _ _ _ _ _ _ _ _ _ h2 h2') (jp n h1)
            · have := hM'.ginj _ _ _ _ _ _ _ _ _ h2 h2'
              have q1 := hpos n h1
              rw [this, hpos m h1'] at q1
              simpa using q1.symm
            · exact (hM'.gout _ _ _ _ _ h2 (outF g (.inr (.inr ⟨m, _, _, _, h1', h2'⟩)))).elim
            · exact (hM'.gout _ _ _ _ _ h2' (outF g (.inr (.inr ⟨n, _, _, _, h1, h2⟩)))).elim
            · exact (hM'.gout _ _ _ _ _ h2' (outF g (.inr (.inr ⟨n, _, _, _, h1, h2⟩)))).elim
            · exact hM.ginj _ _ _ _ _ _ _ _ _ h2 h2'
          · have e1' : at_ n = some g := e
            have key : ∀ j b c k, at'.gn j ≠ .live g b c k := fun j b c k h2' => by
              by_cases hn : n ∈ bs.filterMap id
              · exact hM'.gap _ _ _ _ _ _ (hl.name _ g (by rw [nm1 _ n (hpos n hn)]; exact e1')) h2'
              · exact hM'.gout _ _ _ _ _ h2' (outF g (.inl ⟨n, e1', hn⟩))
            rcases gF _ _ _ _ _ e' with ⟨h1', _, _, _, h2'⟩ | ⟨h1', h2'⟩ | ⟨h1', _, h2'⟩
            · exact key _ _ _ _ h2'
            · exact key _ _ _ _ h2'
            · exact hM.gap _ _ _ _ _ _ e1' h2'
          · by_cases hnf : n = fresh
            · subst hnf
              rw [gFf] at e
              rcases fwc with ⟨h1, h2⟩ | ⟨l, k1, k2, k3, h⟩
              · rcases gjf with h | ⟨l, k1, _⟩
                · rw [h] at e; exact absurd rfl e
                · rw [h2] at k1; cases k1
              · exact ⟨_, applyWs_mem (b := n) (cs := [.own (l.cut lo0 l.len)]) hnd2 (by rw [← hws, h]; simp) frlt⟩
            · by_cases hn : n ∈ bs.filterMap id
              · obtain ⟨c1, ds, k1, k2, k3⟩ := some1 n _ (hpos n hn)
                exact ⟨_, k3⟩
              · rw [none1 n hn hnf]
                rw [gFo n hn hnf] at e
                exact hM.gdom n e
          · rcases gF _ _ _ _ _ e with ⟨_, _, _, _, h2⟩ | ⟨_, h2⟩ | ⟨_, _, h2⟩
            · exact hM'.gsz _ _ _ _ _ h2
            · exact hM'.gsz _ _ _ _ _ h2
            · exact Nat.lt_of_lt_of_le (hM.gsz _ _ _ _ _ h2) hl.size
          · rcases gF _ _ _ _ _ e with ⟨_, _, _, _, h2⟩ | ⟨_, h2⟩ | ⟨_, _, h2⟩
            · exact fun h => hM'.gout _ _ _ _ _ h2 (outF g (.inr (.inl h)))
            · exact fun h => hM'.gout _ _ _ _ _ h2 (outF g (.inr (.inl h)))
            · exact hM.gout _ _ _ _ _ h2
        · cases hback
      · exact hk.elim
    cases e with
    | normal => exact fin hk
    | ret => exact fin hk
    | exit id => exact hk.elim
    | goto l => exact hk.elim
    | panic ch => exact hk.elim
    | outgrown => exact hk.elim
  exact hcalls
end
end Go.Sym
/- Functions that write what their arguments lead to: out of their bodies' propositions; views of lists that are told already. -/
namespace Go.Sym
open Go.RowKit

/-- The body's proposition, where blocks are handed in. -/
def NnRaw [GLob] (tt : TT) (sp : Specs) (fuel : Nat) (D : Dec) (L : Plan) (fn : Func) (args : List SV) (M0 : List Blk) (Q : SV → List (Option Blk) → Prop) : Prop :=
  vcl tt sp fuel D L M0.length (fn.body.getD .skip) 0 (initM args fn.ntmps M0) (finN tt fn.results.toList Q)
structure NnVD [GLob] (tt : TT) (sp : Specs) (fuel : Nat) (fn : Func) (args : List SV) (M0 : List Blk) (Q : SV → List (Option Blk) → Prop) : Prop where
  out : ∃ D L, NnRaw tt sp fuel D L fn args M0 Q
theorem NnVD.of [GLob] {tt : TT} {sp : Specs} {fuel : Nat} {D : Dec} {L : Plan} {fn : Func} {args : List SV} {M0 : List Blk} {Q : SV → List (Option Blk) → Prop} {E : Prop} (hE : NnRaw tt sp fuel D L fn args M0 Q = E) (k : E) : NnVD tt sp fuel fn args M0 Q := ⟨D, L, by rw [hE]; exact k⟩
theorem fn_okN [GLob] {P : Program} {tt : TT} (hm : P.follows .mixedOrders = true) (hT : TTOK P tt) {sp : Specs} (hS : SpecsOK P sp) (fuel : Nat) {f : FuncId} {fn : Func} (hf : P.funcs[f]? = some fn) (hname : (fn.name == "runtime.NumGoroutine") = false) (hb : fn.body.isSome = true) {s : NSpecF}
    (H : ∀ look fresh svs out, s look fresh svs = some out → Ok out.pre → ∃ (bs : Nm) (M0 : List Blk) (svs0 svs1 : List SV) (Q : SV → List (Option Blk) → Prop),
      (bs.filterMap id).Nodup ∧ bs.length = M0.length ∧ (∀ (i b : Nat), bs[i]? = some (some b) → ∃ c0 cs : Blk, M0[i]? = some c0 ∧ look b = some cs ∧ renNL bs c0 = some cs) ∧
      (∀ (i : Nat), bs[i]? = some none → ∃ l : LV, M0[i]? = some [.own l] ∧ l.len = 0) ∧
      (∀ (at_ : At) w vs, RelL at_ w svs vs → RelL at_ w svs1 vs) ∧ renNL bs svs0 = some svs1 ∧ NnVD tt sp fuel fn svs0 M0 Q ∧
      (∀ r M', Q r M' → ∃ jf lo0, backAll bs fresh jf lo0 M' r = some (out.sv, out.ws))) : NSpecOK P f s := by
  obtain ⟨c, hc⟩ := Option.isSome_iff_exists.1 hb
  refine nspec_of_awp hT hf hname hc (fun look fresh svs out hs hp => ?_)
  obtain ⟨bs, M0, svs0, svs1, Q, h1, h2, h3, h4, h5, h6, ⟨D, L, h7⟩, h8⟩ := H look fresh svs out hs hp
  refine ⟨bs, M0, svs0, svs1, Q, h1, h2, h3, h4, h5, h6, fun B _ _ hcl => ?_, h8⟩
  unfold NnRaw at h7
  rw [hc] at h7
  exact vcl_ok hm hT hS hcl c 0 _ _ h7

/-- A list in the block k, which is told already, from some cell on. -/
structure ViewK (k : Nat) where
  lo : Nat
  len : Nat
instance {k : Nat} : LEnc (ViewK k) where
  kind := none
  enc _ a := (.sl k a.lo a.len, [])
  dec _ s M := match s with
    | .sl b lo len => if b = k then some (none, ⟨lo, len⟩, M) else none
    | _ => none
  all P := ∀ lo len, P ⟨lo, len⟩
  all_ok h a := h a.lo a.len
  ok := by
    intro nx s M p a M' h hp
    split at h
    · split at h
      · rename_i hb
        simp only [Option.some.injEq, Prod.mk.injEq] at h
        obtain ⟨_, rfl, rfl⟩ := h
        subst hb
        exact ⟨rfl, fun r => r⟩
      · cases h
    · cases h
/-- A list of bytes of one's own, from some cell on, so long. -/
structure OwnV where
  l : List UInt8
  lo : Nat
  len : Nat
instance : LEnc OwnV where
  kind := none
  enc nx a := (.sl nx a.lo a.len, [[.own (.bytes a.l)]])
  dec nx s M := match s, M with
    | .sl b lo len, some [.own (.bytes l)] :: M' => if b = nx then some (none, ⟨l, lo, len⟩, M') else none
    | _, _ => none
  all P := ∀ l lo len, P ⟨l, lo, len⟩
  all_ok h a := h a.l a.lo a.len
  ok := by
    intro nx s M p a M' h hp
    split at h
    · split at h
      · rename_i hb
        simp only [Option.some.injEq, Prod.mk.injEq] at h
        obtain ⟨_, rfl, rfl⟩ := h
        subst hb
        exact ⟨rfl, fun r => r⟩
      · cases h
    · cases h
end Go.Sym
