/- Loops, met by what holds at their heads. -/
import Derived.Test.YthechjccpljljaaSymM
namespace Go.Sym
open Go.RowKit

/-- A name at a loop's head: that of a block that there was, or that of a list of no cells (in a slot). -/
inductive NM where
  | old (b : Nat)
  | nil (slot : Nat) (k : IntKind)
def NM.same : NM → NM → Bool
  | .old a, .old b => a == b
  | .nil a _, .nil b _ => a == b
  | _, _ => false
def NM.idx (x : NM) : List NM → Option Nat
  | [] => none
  | y :: l => if x.same y = true then some 0 else (NM.idx x l).map (· + 1)
def NM.nodup : List NM → Bool
  | [] => true
  | x :: l => (NM.idx x l).isNone && NM.nodup l
/-- The name that a slot's value leads to. -/
def nameOf (k slot : Nat) (kind : Option IntKind) : SV → Option NM
  | .ptr b _ | .slc b _ _ _ | .sl b _ _ | .lp b _ => if b < k then none else some (.old b)
  | .val (.slice none 0 0) => match kind with
    | some kd => some (.nil slot kd)
    | none => none
  | _ => none
def addN (names : List NM) : Option NM → List NM
  | some x => match NM.idx x names with
    | some _ => names
    | none => names ++ [x]
  | none => names
def collect (k : Nat) (T : List SV) : List (Nat × Option IntKind) → List NM → List NM
  | [], names => names
  | s :: l, names => collect k T l (addN names (nameOf k s.1 s.2 (T.getD s.1 .any)))
def canonV (k : Nat) (names : List NM) (slot : Nat) (kind : Option IntKind) (v : SV) : Option SV :=
  match v with
  | .ptr b off => if b < k then some v else (NM.idx (.old b) names).map fun j => .ptr (k + j) off
  | .slc b off len cap => if b < k then some v else (NM.idx (.old b) names).map fun j => .slc (k + j) off len cap
  | .sl b lo len => if b < k then some v else (NM.idx (.old b) names).map fun j => .sl (k + j) lo len
  | .lp b i => if b < k then some v else (NM.idx (.old b) names).map fun j => .lp (k + j) i
  | .val (.slice none 0 0) => match kind with
    | some kd => (NM.idx (.nil slot kd) names).map fun j => .sl (k + j) 0 0
    | none => some v
  | v => if v.noName = true then some v else none
def canonL (k : Nat) (names : List NM) (T : List SV) : List (Nat × Option IntKind) → Option (List SV)
  | [] => some []
  | s :: l => match canonV k names s.1 s.2 (T.getD s.1 .any), canonL k names T l with
    | some v, some vs => some (v :: vs)
    | _, _ => none
def nmBlk (M : List (Option Blk)) : NM → Option Blk
  | .old b => M.getD b none
  | .nil _ kd => (LV.rep kd 0).map fun l => [.own l]
def blkOK : Option Blk → Bool
  | some cs => noNameL cs
  | none => true
def nmOK (k : Nat) (M : List (Option Blk)) : NM → Bool
  | .old b => decide (k ≤ b) && blkOK (M.getD b none)
  | .nil _ kd => (LV.rep kd 0).isSome
def namesOK (k : Nat) (M : List (Option Blk)) (names : List NM) : Bool := (M.take k).all blkOK && (NM.nodup names && names.all (nmOK k M))
/-- A state as a loop's head sees it: what stays, what changes, the blocks. -/
def normN (k : Nat) (same : List Nat) (keep : List (Nat × Option IntKind)) (st : St) (names : List NM) : Option (List SV × List SV × List (Option Blk)) :=
  if namesOK k st.M names = true then
    match canonL k names st.T keep with
    | some vals => if noNameL (same.map fun i => st.T.getD i .any) = true then some (same.map (fun i => st.T.getD i .any), vals, st.M.take k ++ names.map (nmBlk st.M)) else none
    | none => none
  else none
def norm (k : Nat) (same : List Nat) (keep : List (Nat × Option IntKind)) (n : Nat) (st : St) : Option (List SV × List SV × List (Option Blk)) :=
  if st.T.length = n ∧ k ≤ st.M.length then normN k same keep st (collect k st.T keep []) else none
def lookS (i : Nat) : List Nat → List SV → Option SV
  | j :: js, v :: vs => if i == j then some v else lookS i js vs
  | _, _ => none
def place (n : Nat) (same : List Nat) (ss : List SV) (keep : List Nat) (vals : List SV) : List SV :=
  (List.range n).map fun i => match lookS i same ss with
    | some v => v
    | none => match lookS i keep vals with
      | some v => v
      | none => .any

/-! What it says of the model. -/
theorem NM.idx_ok {x : NM} : ∀ {l : List NM} {j : Nat}, NM.idx x l = some j → ∃ y, l[j]? = some y ∧ x.same y = true
  | [], _, h => by simp [NM.idx] at h
  | y :: l, j, h => by
    simp only [NM.idx] at h
    split at h
    · rename_i hs; simp only [Option.some.injEq] at h; subst h; exact ⟨y, rfl, hs⟩
    · obtain ⟨i, h1, h2⟩ := Option.map_eq_some_iff.1 h
      obtain ⟨z, h3, h4⟩ := NM.idx_ok h1
      subst h2
      exact ⟨z, by simpa using h3, h4⟩
theorem NM.idx_none {x : NM} : ∀ {l : List NM}, NM.idx x l = none → ∀ y ∈ l, x.same y = false
  | [], _, _, h => by simp at h
  | z :: l, h, y, hy => by
    simp only [NM.idx] at h
    split at h
    · cases h
    · rename_i hs
      rcases List.mem_cons.1 hy with rfl | hy
      · simpa using hs
      · exact NM.idx_none (by simpa using h) y hy
theorem NM.same_old {b : Nat} {y : NM} (h : (NM.old b).same y = true) : y = .old b := by
  cases y <;> simp [NM.same] at h
  subst h; rfl
theorem NM.nodup_ok : ∀ {l : List NM}, NM.nodup l = true → ∀ (i j b : Nat), l[i]? = some (.old b) → l[j]? = some (.old b) → i = j
  | [], _, i, _, _, h, _ => by simp at h
  | x :: l, h, i, j, b, hi, hj => by
    simp only [NM.nodup, Bool.and_eq_true] at h
    have hx : ∀ y ∈ l, x.same y = false := NM.idx_none (by simpa using h.1)
    cases i with
    | zero =>
      cases j with
      | zero => rfl
      | succ j =>
        simp at hi hj
        have := hx _ (List.mem_of_getElem? hj)
        subst hi
        simp [NM.same] at this
    | succ i =>
      cases j with
      | zero =>
        simp at hi hj
        have := hx _ (List.mem_of_getElem? hi)
        subst hj
        simp [NM.same] at this
      | succ j =>
        simp at hi hj
        rw [NM.nodup_ok h.2 i j b hi hj]

def und (k : Nat) (names : List NM) (n : Nat) : Option Nat :=
  if n < k then some n else match names[n - k]? with
    | some (.old b) => some b
    | _ => none
def atN (k : Nat) (names : List NM) (at_ : At) : At :=
  ⟨fun n => (und k names n).bind at_.nm, at_.out, fun n => if n < k then at_.gn n else match names[n - k]? with
    | some (.old b) => at_.gn b
    | some (.nil _ _) => .nil
    | none => .unborn⟩

section
variable {at0 at_ : At} {w0 w : World} {k : Nat} {names : List NM} {M : List (Option Blk)}
theorem atN_nm {n g : Nat} (h : (atN k names at_) n = some g) : ∃ b, und k names n = some b ∧ at_ b = some g := Option.bind_eq_some_iff.1 h
theorem atN_live {n g b c m : Nat} (h : (atN k names at_).gn n = .live g b c m) : ∃ q, und k names n = some q ∧ at_.gn q = .live g b c m := by
  simp only [atN] at h
  unfold und
  split at h
  · rename_i hk; rw [if_pos hk]; exact ⟨n, rfl, h⟩
  · rename_i hk
    rw [if_neg hk]
    split at h
    · rename_i b' hb; rw [hb]; exact ⟨b', rfl, h⟩
    · cases h
    · cases h
theorem und_inj (hn : NM.nodup names = true) (hk : ∀ b, NM.old b ∈ names → k ≤ b) {n m q : Nat} (h : und k names n = some q) (h' : und k names m = some q) : n = m := by
  unfold und at h h'
  split at h <;> split at h'
  · simp at h h'; omega
  · rename_i h1 h2
    split at h'
    · rename_i b hb; simp at h h'; have := hk _ (List.mem_of_getElem? hb); omega
    · cases h'
  · rename_i h1 h2
    split at h
    · rename_i b hb; simp at h h'; have := hk _ (List.mem_of_getElem? hb); omega
    · cases h
  · rename_i h1 h2
    split at h
    · rename_i b hb
      split at h'
      · rename_i b' hb'
        simp at h h'
        subst h; subst h'
        have := NM.nodup_ok hn _ _ _ hb hb'
        omega
      · cases h'
    · cases h
theorem fixN (g : Nat) (h : Fix at_ g) : Fix (atN k names at_) g :=
  ⟨fun n e => by obtain ⟨b, _, h2⟩ := atN_nm e; exact h.1 b h2, h.2.1, fun n b c m e => by obtain ⟨q, _, h2⟩ := atN_live e; exact h.2.2 _ _ _ _ h2⟩
theorem laterN (hc : Clean k at0) (hk : ∀ b, NM.old b ∈ names → k ≤ b) (h : Later at0 w0 at_ w) : Later at0 w0 (atN k names at_) w := by
  refine ⟨h.os, h.tape, h.output, h.size, fun n g e => ?_, fun g h1 h2 h3 => ?_, h.out, fun n g e => ?_, fun n => ?_, fun n g b c m e => ?_⟩
  · by_cases hn : n < k
    · show (und k names n).bind at_.nm = some g
      unfold und; rw [if_pos hn]; exact h.name n g e
    · rw [(hc n (by omega)).1] at e; cases e
  · obtain ⟨k1, k2, k3⟩ := h.keep g h1 h2 h3
    exact ⟨fun n e => by obtain ⟨b, _, e2⟩ := atN_nm e; exact k1 b e2, fun n b c m e => by obtain ⟨q, _, e2⟩ := atN_live e; exact k2 _ _ _ _ e2, k3⟩
  · obtain ⟨b, h1, h2⟩ := atN_nm e
    rcases h.new b g h2 with h3 | h3
    · by_cases hb : b < k
      · unfold und at h1
        split at h1
        · simp at h1; subst h1; exact .inl h3
        · split at h1
          · rename_i b' hb'; simp at h1; subst h1; have := hk _ (List.mem_of_getElem? hb'); omega
          · cases h1
      · rw [(hc b (by omega)).1] at h3; cases h3
    · exact .inr h3
  · by_cases hn : n < k
    · have : (atN k names at_).gn n = at_.gn n := by simp only [atN, if_pos hn]
      rw [this]; exact h.gname n
    · exact .inl (hc n (by omega)).2
  · obtain ⟨q, _, h2⟩ := atN_live e
    exact h.gnew _ _ _ _ _ h2

theorem memN_get (M : List (Option Blk)) (hkM : k ≤ M.length) {n q : Nat} (h : und k names n = some q) : (M.take k ++ names.map (nmBlk M))[n]? = if n < k then M[q]? else some (M.getD q none) := by
  unfold und at h
  have hl : (M.take k).length = k := by simp; omega
  split at h
  · rename_i hn
    simp at h; subst h
    rw [if_pos hn, List.getElem?_append_left (by omega), List.getElem?_take, if_pos hn]
  · rename_i hn
    split at h
    · rename_i b hb
      simp at h; subst h
      rw [if_neg hn, List.getElem?_append_right (by omega), hl, List.getElem?_map, hb]; rfl
    · cases h
theorem memN (hM : MemOK at_ M w) (hkM : k ≤ M.length) (hok : namesOK k M names = true) : MemOK (atN k names at_) (M.take k ++ names.map (nmBlk M)) w := by
  unfold namesOK at hok
  simp only [Bool.and_eq_true, List.all_eq_true] at hok
  obtain ⟨h1, h2, h3⟩ := hok
  have hk : ∀ b, NM.old b ∈ names → k ≤ b := fun b hb => by
    have := h3 _ hb
    simp only [nmOK, Bool.and_eq_true, decide_eq_true_eq] at this
    exact this.1
  have back : ∀ {n q : Nat} {cs : Blk}, und k names n = some q → (M.take k ++ names.map (nmBlk M))[n]? = some (some cs) → M[q]? = some (some cs) := fun {n q cs} hu e => by
    rw [memN_get M hkM hu] at e
    split at e
    · exact e
    · simp only [Option.some.injEq] at e
      rw [List.getD_eq_getElem?_getD] at e
      cases hx : M[q]? with
      | none => rw [hx] at e; cases e
      | some y => rw [hx] at e; simp at e; rw [e]
  have forth : ∀ {n q : Nat} {cs : Blk}, und k names n = some q → M[q]? = some (some cs) → (M.take k ++ names.map (nmBlk M))[n]? = some (some cs) := fun {n q cs} hu e => by
    rw [memN_get M hkM hu, e]
    split
    · rfl
    · rw [List.getD_eq_getElem?_getD, e]; rfl
  have nn : ∀ {n q : Nat} {cs : Blk}, und k names n = some q → M[q]? = some (some cs) → noNameL cs = true := fun {n q cs} hu e => by
    unfold und at hu
    split at hu
    · rename_i hn
      simp at hu; subst hu
      have : some cs ∈ M.take k := by
        refine List.mem_of_getElem? (i := n) ?_
        rw [List.getElem?_take, if_pos hn]; exact e
      exact h1 _ this
    · split at hu
      · rename_i b hb
        simp at hu; subst hu
        have := h3 _ (List.mem_of_getElem? hb)
        simp only [nmOK, Bool.and_eq_true] at this
        have h4 := this.2
        rw [List.getD_eq_getElem?_getD, e] at h4
        exact h4
      · cases hu
  refine ⟨fun n g cs e1 e => ?_, fun n m g e e' => ?_, fun n g e => ?_, hM.outlt, fun n l e => ?_, fun n m g b c j b' c' j' e e' => ?_, fun n m g b c j e e' => ?_, fun n e => ?_, fun n g b c j e => ?_, fun n g b c j e => ?_⟩
  · obtain ⟨q, u1, u2⟩ := atN_nm e1
    have e2 := back u1 e
    obtain ⟨ty, vs, m1, m2⟩ := hM.blk q g cs u2 e2
    exact ⟨ty, vs, m1, RelL.noName (fun g h => fixN g h) _ _ (nn u1 e2) m2⟩
  · obtain ⟨q, u1, u2⟩ := atN_nm e
    obtain ⟨q', u1', u2'⟩ := atN_nm e'
    have := hM.inj _ _ _ u2 u2'
    subst this
    exact und_inj h2 hk u1 u1'
  · obtain ⟨q, u1, u2⟩ := atN_nm e
    obtain ⟨d1, cs, d2⟩ := hM.dom q g u2
    exact ⟨d1, cs, forth u1 d2⟩
  · cases hu : und k names n with
    | some q =>
      have e2 := back hu e
      have hg : (atN k names at_).gn n = at_.gn q := by
        unfold und at hu
        simp only [atN]
        split at hu
        · rename_i hn; simp at hu; subst hu; rw [if_pos hn]
        · rename_i hn
          rw [if_neg hn]
          split at hu
          · rename_i b hb; simp at hu; subst hu; rw [hb]
          · cases hu
      rw [hg]; exact hM.glk q l e2
    | none =>
      unfold und at hu
      split at hu
      · cases hu
      · rename_i hn
        have hl : (M.take k).length = k := by simp; omega
        rw [List.getElem?_append_right (by omega), hl, List.getElem?_map] at e
        cases hx : names[n - k]? with
        | none => rw [hx] at e; cases e
        | some x =>
          rw [hx] at e hu
          cases x with
          | old b => cases hu
          | nil s kd =>
            left
            simp only [atN, if_neg hn, hx]
            refine ⟨trivial, ?_⟩
            simp only [Option.map_some, nmBlk, Option.some.injEq] at e
            obtain ⟨l', h4, h5⟩ := Option.map_eq_some_iff.1 e
            simp only [List.cons.injEq, SV.own.injEq, and_true] at h5
            subst h5
            cases kd <;> simp [LV.rep] at h4 <;> subst h4 <;> rfl
  · obtain ⟨q, u1, u2⟩ := atN_live e
    obtain ⟨q', u1', u2'⟩ := atN_live e'
    have := hM.ginj _ _ _ _ _ _ _ _ _ u2 u2'
    subst this
    exact und_inj h2 hk u1 u1'
  · obtain ⟨q, u1, u2⟩ := atN_nm e
    obtain ⟨q', u1', u2'⟩ := atN_live e'
    exact hM.gap _ _ _ _ _ _ u2 u2'
  · by_cases hn : n < k
    · have hg : (atN k names at_).gn n = at_.gn n := by simp only [atN, if_pos hn]
      rw [hg] at e
      obtain ⟨cs, h4⟩ := hM.gdom n e
      exact ⟨cs, forth (q := n) (by unfold und; rw [if_pos hn]) h4⟩
    · simp only [atN, if_neg hn] at e
      have hl : (M.take k).length = k := by simp; omega
      cases hx : names[n - k]? with
      | none => rw [hx] at e; exact absurd rfl e
      | some x =>
        rw [hx] at e
        cases x with
        | old b =>
          obtain ⟨cs, h4⟩ := hM.gdom b e
          exact ⟨cs, forth (q := b) (by unfold und; rw [if_neg hn, hx]) h4⟩
        | nil s kd =>
          have := h3 _ (List.mem_of_getElem? hx)
          simp only [nmOK] at this
          obtain ⟨l, h5⟩ := Option.isSome_iff_exists.1 this
          refine ⟨[.own l], ?_⟩
          rw [List.getElem?_append_right (by omega), hl, List.getElem?_map, hx]
          simp only [Option.map_some, nmBlk, h5]
  · obtain ⟨q, u1, u2⟩ := atN_live e
    exact hM.gsz _ _ _ _ _ u2
  · obtain ⟨q, u1, u2⟩ := atN_live e
    exact hM.gout _ _ _ _ _ u2

theorem und_idx {x : NM} {j b : Nat} (h : NM.idx x names = some j) (hx : x = .old b) : und k names (k + j) = some b ∧ (atN k names at_).gn (k + j) = at_.gn b := by
  subst hx
  obtain ⟨y, h1, h2⟩ := NM.idx_ok h
  have := NM.same_old h2
  subst this
  have hn : ¬ (k + j < k) := by omega
  have hj : k + j - k = j := by omega
  unfold und
  simp only [atN, if_neg hn, hj, h1, and_self]
theorem canonV_ok {slot : Nat} {kind : Option IntKind} {v v' : SV} {u : Value} (h : canonV k names slot kind v = some v') (r : Rel at_ w v u) : Rel (atN k names at_) w v' u := by
  have low : ∀ {b : Nat}, b < k → (atN k names at_) b = at_ b ∧ (atN k names at_).gn b = at_.gn b := fun {b} hb => by
    refine ⟨?_, by simp only [atN, if_pos hb]⟩
    show (und k names b).bind at_.nm = _
    unfold und; rw [if_pos hb]; rfl
  have high : ∀ {b j : Nat}, NM.idx (.old b) names = some j → (atN k names at_) (k + j) = at_ b ∧ (atN k names at_).gn (k + j) = at_.gn b := fun {b j} hj => by
    obtain ⟨h1, h2⟩ := und_idx (k := k) (at_ := at_) hj rfl
    refine ⟨?_, h2⟩
    show (und k names (k + j)).bind at_.nm = _
    rw [h1]; rfl
  have rest : (if v.noName = true then some v else none) = some v' → Rel (atN k names at_) w v' u := fun h => by
    split at h
    · rename_i hn; simp only [Option.some.injEq] at h; subst h; exact Rel.noName (fun g h => fixN g h) _ _ hn r
    · cases h
  unfold canonV at h
  split at h
  · split at h
    · rename_i hb
      simp only [Option.some.injEq] at h; subst h
      simp only [Rel] at r ⊢; rw [(low hb).1]; exact r
    · obtain ⟨j, h1, h2⟩ := Option.map_eq_some_iff.1 h
      subst h2
      simp only [Rel] at r ⊢; rw [(high h1).1]; exact r
  · split at h
    · rename_i hb
      simp only [Option.some.injEq] at h; subst h
      simp only [Rel] at r ⊢; rw [(low hb).1]; exact r
    · obtain ⟨j, h1, h2⟩ := Option.map_eq_some_iff.1 h
      subst h2
      simp only [Rel] at r ⊢; rw [(high h1).1]; exact r
  · split at h
    · rename_i hb
      simp only [Option.some.injEq] at h; subst h
      simp only [Rel] at r ⊢; rw [(low hb).2]; exact r
    · obtain ⟨j, h1, h2⟩ := Option.map_eq_some_iff.1 h
      subst h2
      simp only [Rel] at r ⊢; rw [(high h1).2]; exact r
  · split at h
    · rename_i hb
      simp only [Option.some.injEq] at h; subst h
      simp only [Rel] at r ⊢; rw [(low hb).2]; exact r
    · obtain ⟨j, h1, h2⟩ := Option.map_eq_some_iff.1 h
      subst h2
      simp only [Rel] at r ⊢; rw [(high h1).2]; exact r
  · split at h
    · rename_i kd
      obtain ⟨j, h1, h2⟩ := Option.map_eq_some_iff.1 h
      subst h2
      obtain ⟨y, h3, h4⟩ := NM.idx_ok h1
      cases y with
      | old b => simp [NM.same] at h4
      | nil s kd' =>
        simp only [Rel] at r ⊢
        subst r
        have hn : ¬ (k + j < k) := by omega
        have hj : k + j - k = j := by omega
        simp only [atN, if_neg hn, hj, h3]
        refine ⟨by simp, by simp, fun g b c n e => by simp [GN.shape] at e, rfl⟩
    · simp only [Option.some.injEq] at h; subst h
      simp only [Rel] at r ⊢; exact r
  · exact rest h
theorem canonL_ok {T : List SV} {a : Act} (hT : RelL at_ w T a.tmps.toList) : ∀ {l : List (Nat × Option IntKind)} {vals : List SV}, canonL k names T l = some vals → RelL (atN k names at_) w vals ((l.map (·.1)).map fun i => a.tmps.getD i Go.undef)
  | [], vals, h => by simp only [canonL, Option.some.injEq] at h; subst h; exact RelL.nil
  | s :: l, vals, h => by
    simp only [canonL] at h
    split at h
    · rename_i v vs h1 h2
      simp only [Option.some.injEq] at h; subst h
      refine RelL.cons (canonV_ok h1 ?_) (canonL_ok hT h2)
      exact slot_ok hT s.1
    · cases h
where
  slot_ok {T : List SV} {a : Act} (hT : RelL at_ w T a.tmps.toList) (i : Nat) : Rel at_ w (T.getD i .any) (a.tmps.getD i Go.undef) := by
    rw [List.getD_eq_getElem?_getD]
    cases h : T[i]? with
    | none => simp only [Option.getD_none, Rel]
    | some c =>
      obtain ⟨u, h1, h2⟩ := hT.get i c h
      rw [Array.getElem?_toList] at h1
      rw [Array.getD_eq_getD_getElem?, h1]
      exact h2
theorem sameL_ok {T : List SV} {a : Act} (hT : RelL at_ w T a.tmps.toList) : ∀ (l : List Nat), RelL at_ w (l.map fun i => T.getD i .any) (l.map fun i => a.tmps.getD i Go.undef)
  | [] => RelL.nil
  | i :: l => RelL.cons (canonL_ok.slot_ok hT i) (sameL_ok hT l)
theorem RelL.of_get : ∀ {s : List SV} {v : List Value}, s.length = v.length → (∀ (i : Nat) (c : SV) (u : Value), s[i]? = some c → v[i]? = some u → Rel at_ w c u) → RelL at_ w s v
  | [], v, hl, _ => by have : v = [] := List.eq_nil_of_length_eq_zero hl.symm
                       subst this; exact RelL.nil
  | c :: s, v, hl, h => by
    cases v with
    | nil => cases hl
    | cons u v => exact RelL.cons (h 0 c u rfl rfl) (RelL.of_get (by simpa using hl) fun i c' u' h1 h2 => h (i + 1) c' u' (by simpa using h1) (by simpa using h2))
theorem lookS_ok {f : Nat → Value} {i : Nat} : ∀ {l : List Nat} {ss : List SV} {v : SV}, RelL at_ w ss (l.map f) → lookS i l ss = some v → Rel at_ w v (f i)
  | [], _, _, _, h => by simp [lookS] at h
  | j :: l, [], _, _, h => by simp [lookS] at h
  | j :: l, s :: ss, v, hr, h => by
    simp only [List.map_cons, RelL] at hr
    obtain ⟨u, us, e, h1, h2⟩ := hr
    simp only [List.cons.injEq] at e
    obtain ⟨rfl, rfl⟩ := e
    simp only [lookS] at h
    split at h
    · rename_i hij
      have := eq_of_beq hij
      subst this
      simp only [Option.some.injEq] at h; subst h; exact h1
    · exact lookS_ok h2 h
theorem place_ok {n : Nat} {same keep : List Nat} {ss vals : List SV} {a : Act} (hn : n = a.tmps.size) (h1 : RelL at_ w ss (same.map fun i => a.tmps.getD i Go.undef)) (h2 : RelL at_ w vals (keep.map fun i => a.tmps.getD i Go.undef)) : RelL at_ w (place n same ss keep vals) a.tmps.toList := by
  refine RelL.of_get (by simp [place, hn]) fun i c u e1 e2 => ?_
  rw [Array.getElem?_toList] at e2
  have hu : a.tmps.getD i Go.undef = u := by rw [Array.getD_eq_getD_getElem?, e2]; rfl
  have hi : i < n := by have := (Array.getElem?_eq_some_iff.1 e2).1; omega
  simp only [place, List.getElem?_map, List.getElem?_range hi, Option.map_some, Option.some.injEq] at e1
  split at e1
  · rename_i v hv; subst e1; have := lookS_ok h1 hv; rwa [hu] at this
  · split at e1
    · rename_i v hv; subst e1; have := lookS_ok h2 hv; rwa [hu] at this
    · subst e1; simp only [Rel]
end

/-! What a loop's head keeps, told as data. -/
def andP : Option Prop → Option Prop → Option Prop
  | none, q => q
  | p, none => p
  | some p, some q => some (p ∧ q)
theorem andP_ok {p q : Option Prop} (h : Ok (andP p q)) : Ok p ∧ Ok q := by
  cases p <;> cases q <;> simp only [andP, Ok] at h ⊢ <;> simp_all
class LEnc (α : Type) where
  kind : Option IntKind
  enc : Nat → α → SV × List Blk
  dec : Nat → SV → List (Option Blk) → Option (Option Prop × α × List (Option Blk))
  all : (α → Prop) → Prop
  all_ok : ∀ {P : α → Prop}, all P → ∀ a, P a
  ok : ∀ {nx : Nat} {s : SV} {M : List (Option Blk)} {p : Option Prop} {a : α} {M' : List (Option Blk)}, dec nx s M = some (p, a, M') → Ok p → M = (enc nx a).2.map some ++ M' ∧ ∀ {at_ : At} {w : World} {v : Value}, Rel at_ w s v → Rel at_ w (enc nx a).1 v
instance (priority := low) {α : Type} [Enc α] : LEnc α where
  kind := none
  enc _ a := (Enc.enc a, [])
  dec _ s M := match Enc.dec s with
    | some a => some (none, a, M)
    | none => none
  all P := ∀ a, P a
  all_ok h a := h a
  ok := by
    intro nx s M p a M' h _
    cases hd : Enc.dec (α := α) s with
    | none => simp only [hd] at h; cases h
    | some b =>
      simp only [hd, Option.some.injEq, Prod.mk.injEq] at h
      obtain ⟨_, rfl, rfl⟩ := h
      exact ⟨rfl, fun r => Enc.ok hd r⟩
/-- An own list, whole. -/
structure OwnI where
  l : List Int
structure OwnB where
  l : List UInt8
structure OwnW where
  l : List UInt64
structure OwnH where
  l : List UInt32
def ownDec (nx : Nat) (s : SV) (M : List (Option Blk)) : Option (Option Prop × LV × List (Option Blk)) :=
  match s, M with
  | .sl b lo len, some [.own l] :: M' => if b = nx then some (some (lo = 0 ∧ len = l.len), l, M') else none
  | _, _ => none
theorem ownDec_ok {nx : Nat} {s : SV} {M : List (Option Blk)} {p : Option Prop} {l : LV} {M' : List (Option Blk)} (h : ownDec nx s M = some (p, l, M')) (hp : Ok p) : s = .sl nx 0 l.len ∧ M = some [.own l] :: M' := by
  unfold ownDec at h
  split at h
  · split at h
    · rename_i hb
      simp only [Option.some.injEq, Prod.mk.injEq] at h
      obtain ⟨rfl, rfl, rfl⟩ := h
      obtain ⟨rfl, rfl⟩ := hp
      subst hb
      exact ⟨rfl, rfl⟩
    · cases h
  · cases h
instance : LEnc OwnI where
  kind := some .i64
  enc nx a := (.sl nx 0 a.l.length, [[.own (.ints a.l)]])
  dec nx s M := match ownDec nx s M with
    | some (p, .ints l, M') => some (p, ⟨l⟩, M')
    | _ => none
  all P := ∀ l, P ⟨l⟩
  all_ok h a := h a.l
  ok := by
    intro nx s M p a M' h hp
    split at h
    · rename_i p' l M1 hd
      simp only [Option.some.injEq, Prod.mk.injEq] at h
      obtain ⟨rfl, rfl, rfl⟩ := h
      obtain ⟨rfl, rfl⟩ := ownDec_ok hd hp
      exact ⟨rfl, fun r => r⟩
    · cases h
instance : LEnc OwnB where
  kind := some .u8
  enc nx a := (.sl nx 0 a.l.length, [[.own (.bytes a.l)]])
  dec nx s M := match ownDec nx s M with
    | some (p, .bytes l, M') => some (p, ⟨l⟩, M')
    | _ => none
  all P := ∀ l, P ⟨l⟩
  all_ok h a := h a.l
  ok := by
    intro nx s M p a M' h hp
    split at h
    · rename_i p' l M1 hd
      simp only [Option.some.injEq, Prod.mk.injEq] at h
      obtain ⟨rfl, rfl, rfl⟩ := h
      obtain ⟨rfl, rfl⟩ := ownDec_ok hd hp
      exact ⟨rfl, fun r => r⟩
    · cases h
instance : LEnc OwnW where
  kind := some .u64
  enc nx a := (.sl nx 0 a.l.length, [[.own (.words a.l)]])
  dec nx s M := match ownDec nx s M with
    | some (p, .words l, M') => some (p, ⟨l⟩, M')
    | _ => none
  all P := ∀ l, P ⟨l⟩
  all_ok h a := h a.l
  ok := by
    intro nx s M p a M' h hp
    split at h
    · rename_i p' l M1 hd
      simp only [Option.some.injEq, Prod.mk.injEq] at h
      obtain ⟨rfl, rfl, rfl⟩ := h
      obtain ⟨rfl, rfl⟩ := ownDec_ok hd hp
      exact ⟨rfl, fun r => r⟩
    · cases h
instance : LEnc OwnH where
  kind := some .u32
  enc nx a := (.sl nx 0 a.l.length, [[.own (.halfs a.l)]])
  dec nx s M := match ownDec nx s M with
    | some (p, .halfs l, M') => some (p, ⟨l⟩, M')
    | _ => none
  all P := ∀ l, P ⟨l⟩
  all_ok h a := h a.l
  ok := by
    intro nx s M p a M' h hp
    split at h
    · rename_i p' l M1 hd
      simp only [Option.some.injEq, Prod.mk.injEq] at h
      obtain ⟨rfl, rfl, rfl⟩ := h
      obtain ⟨rfl, rfl⟩ := ownDec_ok hd hp
      exact ⟨rfl, fun r => r⟩
    · cases h
class LEncL (α : Type) where
  kinds : List (Option IntKind)
  enc : Nat → α → List SV × List Blk
  dec : Nat → List SV → List (Option Blk) → Option (Option Prop × α)
  all : (α → Prop) → Prop
  all_ok : ∀ {P : α → Prop}, all P → ∀ a, P a
  ok : ∀ {nx : Nat} {s : List SV} {M : List (Option Blk)} {p : Option Prop} {a : α}, dec nx s M = some (p, a) → Ok p → M = (enc nx a).2.map some ∧ ∀ {at_ : At} {w : World} {v : List Value}, RelL at_ w s v → RelL at_ w (enc nx a).1 v
instance : LEncL Unit where
  kinds := []
  enc _ _ := ([], [])
  dec _ s M := match s, M with
    | [], [] => some (none, ())
    | _, _ => none
  all P := P ()
  all_ok h a := h
  ok := by
    intro nx s M p a h _
    split at h
    · exact ⟨rfl, fun r => r⟩
    · cases h
instance {α β : Type} [LEnc α] [LEncL β] : LEncL (α × β) where
  kinds := LEnc.kind α :: LEncL.kinds β
  enc nx p := ((LEnc.enc nx p.1).1 :: (LEncL.enc (nx + (LEnc.enc nx p.1).2.length) p.2).1, (LEnc.enc nx p.1).2 ++ (LEncL.enc (nx + (LEnc.enc nx p.1).2.length) p.2).2)
  dec nx s M := match s with
    | [] => none
    | v :: vs => match LEnc.dec (α := α) nx v M with
      | none => none
      | some (p, a, M') => match LEncL.dec (α := β) (nx + (LEnc.enc nx a).2.length) vs M' with
        | none => none
        | some (q, b) => some (andP p q, (a, b))
  all P := LEnc.all fun a : α => LEncL.all fun b : β => P (a, b)
  all_ok h a := LEncL.all_ok (LEnc.all_ok h a.1) a.2
  ok := by
    intro nx s M p a h hp
    split at h
    · cases h
    · split at h
      · cases h
      · rename_i p1 a1 M1 h1
        split at h
        · cases h
        · rename_i q b h2
          simp only [Option.some.injEq, Prod.mk.injEq] at h
          obtain ⟨rfl, rfl⟩ := h
          obtain ⟨hp1, hp2⟩ := andP_ok hp
          obtain ⟨k1, k2⟩ := LEnc.ok h1 hp1
          obtain ⟨k3, k4⟩ := LEncL.ok h2 hp2
          refine ⟨by rw [k1, k3, List.map_append], fun {at_ w v} r => ?_⟩
          simp only [RelL] at r
          obtain ⟨u, us, rfl, r1, r2⟩ := r
          exact RelL.cons (k2 r1) (k4 r2)

/-- A loop: the slots that stay, those that change, what holds at its head (of what stays, what was first, what is), a measure. -/
structure LSpec where
  {β α : Type}
  [eb : Args β]
  [ea : LEncL α]
  same : List Nat
  keep : List Nat
  inv : β → α → α → Prop
  meas : β → α → Nat
def headVC (k n : Nat) (S : LSpec) (st : St) (Q : S.β → S.α → Prop) : Prop :=
  if S.keep.length = S.ea.kinds.length then
    match norm k S.same (S.keep.zip S.ea.kinds) n st with
    | none => False
    | some (ss, vals, M') => match S.eb.decL ss with
      | none => False
      | some b => match S.ea.dec 0 vals M' with
        | none => False
        | some (p, a) => conj p (Q b a)
  else False
def headSt (n : Nat) (S : LSpec) (b : S.β) (a : S.α) : St := ⟨place n S.same (S.eb.encL b) S.keep (S.ea.enc 0 a).1, (S.ea.enc 0 a).2.map some⟩
/-- A place where paths meet: what is known ahead of it (slots that stay, others), what is kept behind it, and what holds of these. -/
structure CSpec where
  {β γ α : Type}
  [eb : Args β]
  [eg : LEncL γ]
  [ea : LEncL α]
  same : List Nat
  pre : List Nat
  keep : List Nat
  inv : β → γ → α → Prop
def CSpec.a (S : CSpec) : LSpec := @LSpec.mk S.β S.γ S.eb S.eg S.same S.pre (fun _ _ _ => True) (fun _ _ => 0)
def CSpec.z (S : CSpec) : LSpec := @LSpec.mk S.β S.α S.eb S.ea S.same S.keep (fun _ _ _ => True) (fun _ _ => 0)
/-- Of loops, by their blocks; of places where paths meet: behind a region ('at', by the region), behind a region and the branching that follows it ('fork'). -/
structure Plan where
  loops : List (Nat × LSpec) := []
  cuts : List (Nat × CSpec) := []
  forks : List (Nat × CSpec) := []
def forkOf : Code → Code → Option Nat
  | .region id _ _, .cond _ _ _ => some id
  | _, _ => none
def cutVC (k n : Nat) (S : CSpec) (st : St) (run : (Exit → St → Prop) → Prop) (K : KT) : Prop :=
  headVC k n S.a st fun b g => run (fun e st' => match e with
    | .normal => headVC k n S.z st' fun b' a => b' = b ∧ S.inv b g a
    | e => K e st') ∧ S.ea.all fun a => S.inv b g a → K .normal (headSt n S.z b a)

def vcl (tt : TT) (sp : Specs) (fuel : Nat) (D : Dec) (L : Plan) (k : Nat) : Code → Nat → St → KT → Prop
  | .skip, _, st, K => K .normal st
  | .region id ops draw, _, st, K => match L.cuts.lookup id with
    | none => regionVC tt sp (D.of id) ops draw (K .normal) st
    | some S => cutVC k st.T.length S st (fun K' => regionVC tt sp (D.of id) ops draw (K' .normal) st) K
  | .seq a b, i, st, K => match (forkOf a b).bind (fun id => L.forks.lookup id) with
    | none => vcl tt sp fuel D L k a i st fun e st' => match e with
      | .normal => vcl tt sp fuel D L k b i st' K
      | e => K e st'
    | some S => cutVC k st.T.length S st (fun K' => vcl tt sp fuel D L k a i st fun e st' => match e with
      | .normal => vcl tt sp fuel D L k b i st' K'
      | e => K' e st') K
  | .cond c x y, i, st, K => match TR st.T (condTs c) c with
    | .bool b => bcase b (vcl tt sp fuel D L k x i ⟨setC st.T c true, st.M⟩ K) (vcl tt sp fuel D L k y i ⟨setC st.T c false, st.M⟩ K)
    | _ => False
  | .block id c, _, st, K => vcl tt sp fuel D L k c id st fun e st' => match e with
    | .exit id' => if id' = id then K .normal st' else K (.exit id') st'
    | e => K e st'
  | .loop c, i, st, K => match L.loops.lookup i with
    | none => loopVC (vcl tt sp fuel D L k c i) K fuel st
    | some S => headVC k st.T.length S st fun b a0 => S.inv b a0 a0 ∧ S.ea.all fun a => S.inv b a0 a → vcl tt sp fuel D L k c i (headSt st.T.length S b a) fun e st' => match e with
      | .normal => headVC k st.T.length S st' fun b' a' => b' = b ∧ S.inv b a0 a' ∧ S.meas b a' < S.meas b a
      | e => K e st'
  | .exit id, _, st, K => K (.exit id) st
  | .label _, _, st, K => K .normal st
  | .ret, _, st, K => K .ret st
  | _, _, _, _ => False

section
variable {P : Program} {tt : TT} {sp : Specs} {at0 : At} {w0 : World}
theorem norm_ok {k n : Nat} {same keep : List Nat} {kinds : List (Option IntKind)} {st : St} {ss vals : List SV} {M' : List (Option Blk)} (hc : Clean k at0) (hl : keep.length ≤ kinds.length) (h : norm k same (keep.zip kinds) n st = some (ss, vals, M')) {a : Act} {w : World} {at_ : At} (r : Rep at0 w0 st at_ a w) :
    ∃ at', n = a.tmps.size ∧ Later at0 w0 at' w ∧ MemOK at' M' w ∧ RelL at' w ss (same.map fun i => a.tmps.getD i Go.undef) ∧ RelL at' w vals (keep.map fun i => a.tmps.getD i Go.undef) := by
  unfold norm at h
  split at h
  · rename_i hn
    generalize collect k st.T (keep.zip kinds) [] = names at h
    unfold normN at h
    split at h
    · rename_i hok
      split at h
      · rename_i vals' hv
        split at h
        · rename_i hs
          simp only [Option.some.injEq, Prod.mk.injEq] at h
          obtain ⟨rfl, rfl, rfl⟩ := h
          have hk : ∀ b, NM.old b ∈ names → k ≤ b := fun b hb => by
            unfold namesOK at hok
            simp only [Bool.and_eq_true, List.all_eq_true] at hok
            have := hok.2.2 _ hb
            simp only [nmOK, Bool.and_eq_true, decide_eq_true_eq] at this
            exact this.1
          refine ⟨atN k names at_, ?_, laterN hc hk r.later, memN r.mem hn.2 hok, RelL.noName (fun g h => fixN g h) _ _ hs (sameL_ok r.tmp same), ?_⟩
          · have := r.tmp.length
            simp only [Array.length_toList] at this
            omega
          · have := canonL_ok (k := k) r.tmp hv
            rwa [List.map_fst_zip hl] at this
        · cases h
      · cases h
    · cases h
  · cases h
theorem head_ok {k n : Nat} {S : LSpec} {st : St} {Q : S.β → S.α → Prop} (hc : Clean k at0) (h : headVC k n S st Q) : ∃ b x, Q b x ∧ ∀ a w, Reps at0 w0 st a w → Reps at0 w0 (headSt n S b x) a w := by
  unfold headVC at h
  split at h
  · rename_i hl
    split at h
    · exact h.elim
    · rename_i ss vals M' hnorm
      split at h
      · exact h.elim
      · rename_i b hb
        split at h
        · exact h.elim
        · rename_i p x hx
          obtain ⟨hp, hq⟩ := conj_ok h
          refine ⟨b, x, hq, fun a w ⟨at_, r⟩ => ?_⟩
          obtain ⟨at', h1, h2, h3, h4, h5⟩ := norm_ok hc (by omega) hnorm r
          obtain ⟨k1, k2⟩ := S.ea.ok hx hp
          exact ⟨at', h2, by rw [k1] at h3; exact h3, place_ok h1 (S.eb.ok hb h4) (k2 h5), r.defers⟩
  · exact h.elim

theorem cut_ok {k n : Nat} {S : CSpec} {c : Code} {st : St} {K : KT} (hc : Clean k at0) (run : KT → Prop) (hrun : ∀ K', run K' → AWp P at0 w0 c st K') (h : cutVC k n S st run K) : AWp P at0 w0 c st K := by
  unfold cutVC at h
  obtain ⟨b, g, ⟨h1, h2⟩, _⟩ := head_ok (w0 := w0) hc h
  have h2 := S.ea.all_ok h2
  intro a w hr
  refine Code.wp_mono ?_ (hrun _ h1 a w hr)
  rintro e a' w' ⟨st', hr', hk⟩
  cases e with
  | normal =>
    obtain ⟨b', x, ⟨hb, hi⟩, hrep⟩ := head_ok (w0 := w0) hc hk
    subst hb
    exact ⟨_, hrep _ _ hr', h2 x hi⟩
  | _ => exact ⟨st', hr', hk⟩

theorem vcl_ok (hm : P.follows .mixedOrders = true) (hT : TTOK P tt) (hS : SpecsOK P sp) {fuel : Nat} {D : Dec} {L : Plan} {k : Nat} (hc : Clean k at0) : ∀ (c : Code) (i : Nat) (st : St) (K : KT), vcl tt sp fuel D L k c i st K → AWp P at0 w0 c st K
  | .skip, _, st, K, h => fun a w hr => wp_skip ⟨st, hr, h⟩
  | .label _, _, st, K, h => fun a w hr => wp_label ⟨st, hr, h⟩
  | .exit id, _, st, K, h => fun a w hr => wp_exit ⟨st, hr, h⟩
  | .ret, _, st, K, h => fun a w hr => wp_ret ⟨st, hr, h⟩
  | .region id ops draw, _, st, K, h => by
    have run : ∀ K' : KT, regionVC tt sp (D.of id) ops draw (K' .normal) st → AWp P at0 w0 (.region id ops draw) st K' := fun K' h => fun a w hr => region_ok hm hT hS h hr (fun st' a' w' hK hr' => ⟨st', hr', hK⟩)
    simp only [vcl] at h
    split at h
    · exact run K h
    · exact cut_ok hc (fun K' => regionVC tt sp (D.of id) ops draw (K' .normal) st) run h
  | .seq x y, i, st, K, h => by
    have run : ∀ K' : KT, (vcl tt sp fuel D L k x i st fun e st' => match e with
      | .normal => vcl tt sp fuel D L k y i st' K'
      | e => K' e st') → AWp P at0 w0 (.seq x y) st K' := by
      intro K' h
      refine AWp.seq (AWp.mono (vcl_ok hm hT hS hc x i st _ h) ?_)
      intro e st' hk
      cases e with
      | normal => exact vcl_ok hm hT hS hc y i st' K' hk
      | _ => exact hk
    simp only [vcl] at h
    split at h
    · exact run K h
    · exact cut_ok hc _ run h
  | .cond c x y, i, st, K, h => by
    simp only [vcl] at h
    split at h
    · rename_i b hb
      obtain ⟨h1, h2⟩ := bcase_ok h
      exact AWp.cond hb (fun e => vcl_ok hm hT hS hc x i _ K (h1 e)) (fun e => vcl_ok hm hT hS hc y i _ K (h2 e))
    · exact h.elim
  | .block id c, _, st, K, h => AWp.block (vcl_ok hm hT hS hc c id st _ h)
  | .loop c, i, st, K, h => by
    simp only [vcl] at h
    split at h
    · refine AWp.loop (fun n st => loopVC (vcl tt sp fuel D L k c i) K n st) fuel h (fun n st hI => ?_)
      cases n with
      | zero => exact hI.elim
      | succ n =>
        refine AWp.mono (vcl_ok hm hT hS hc c i st _ hI) ?_
        intro e st' hk
        cases e with
        | normal => exact ⟨n, Nat.lt_succ_self n, hk⟩
        | _ => exact hk
    · rename_i S _
      obtain ⟨b, a0, ⟨h0, hbody⟩, hhead⟩ := head_ok (w0 := w0) hc h
      have hbody := S.ea.all_ok hbody
      refine AWp.loop (fun m st' => ∃ x, S.inv b a0 x ∧ S.meas b x = m ∧ ∀ a w, Reps at0 w0 st' a w → Reps at0 w0 (headSt st.T.length S b x) a w) (S.meas b a0) ⟨a0, h0, rfl, hhead⟩ (fun m st' hI => ?_)
      obtain ⟨x, hx, hm', hrep⟩ := hI
      have hround := vcl_ok hm hT hS hc c i _ _ (hbody x hx)
      refine AWp.mono (fun a w hr => hround a w (hrep a w hr)) ?_
      intro e st2 hk
      cases e with
      | normal =>
        obtain ⟨b', x', ⟨hb, h1, h2⟩, h3⟩ := head_ok (w0 := w0) hc hk
        subst hb
        exact ⟨S.meas b' x', by omega, x', h1, rfl, h3⟩
      | _ => exact hk
  | .rangeFunc _ _ _ _, _, _, _, h => h.elim
  | .scope _, _, _, _, h => h.elim
  | .goto _, _, _, _, h => h.elim
  | .refuse _, _, _, _, h => h.elim

variable {α β : Type} [Args α] [RetL β]
/-- The body's proposition, with loops met by what holds at their heads. -/
def LnRaw (tt : TT) (sp : Specs) (fuel : Nat) (D : Dec) (L : Plan) (fn : Func) (Q : SV → Prop) (a : α) : Prop := vcl tt sp fuel D L 0 (fn.body.getD .skip) 0 (init (Args.encL a) fn.ntmps) (finK tt fn.results.toList Q)
structure LnVD (tt : TT) (sp : Specs) (fuel : Nat) (D : Dec) (L : Plan) (fn : Func) (Q : SV → Prop) (a : α) : Prop where
  out : LnRaw tt sp fuel D L fn Q a
theorem LnVD.of {tt : TT} {sp : Specs} {fuel : Nat} {D : Dec} {L : Plan} {fn : Func} {Q : SV → Prop} {a : α} {E : Prop} (hE : LnRaw tt sp fuel D L fn Q a = E) (k : E) : LnVD tt sp fuel D L fn Q a := ⟨by rw [hE]; exact k⟩
theorem fn_okL (hm : P.follows .mixedOrders = true) (hT : TTOK P tt) (hS : SpecsOK P sp) (fuel : Nat) {f : FuncId} {fn : Func} (hf : P.funcs[f]? = some fn) (hname : (fn.name == "runtime.NumGoroutine") = false) (hb : fn.body.isSome = true) {pre : α → Option Prop} {g : α → β}
    (H : ∀ a, Ok (pre a) → ∃ D L, ∃ Q : SV → Prop, LnVD tt sp fuel D L fn Q a ∧ ∀ x, Q x → ∀ (at_ : At) (w : World) (v : Value), Rel at_ w x v → Rel at_ w (retSV (RetL.retL (g a))) v) : SpecOK P f (fspec pre g) := by
  obtain ⟨c, hc⟩ := Option.isSome_iff_exists.1 hb
  intro at_ w svs vs pr r hat hout hs hp hr
  unfold fspec at hs
  split at hs
  · rename_i a ha
    simp only [Option.some.injEq, Prod.mk.injEq] at hs
    obtain ⟨rfl, rfl⟩ := hs
    have hrun : (callFunc f (List.toArray vs)).run P w = .ok (.enter f (List.toArray vs)) w := by
      have h1 : fn.name ≠ "runtime.NumGoroutine" := by simpa using hname
      simp [callFunc, hf, h1, hc]
    rw [hrun]
    obtain ⟨D, L, Q, ⟨h⟩, hQ⟩ := H a hp
    unfold LnRaw at h
    rw [hc] at h
    refine (calls_of_awp hm hT hS hf hc (fun at0 w0 hcl => vcl_ok hm hT hS hcl c 0 _ _ h) (Args.nn a) hat hout (Args.ok ha hr)).mono ?_
    rintro e w' ⟨v, h1, r', h2, h3, h4⟩
    exact ⟨v, h1, hQ _ h2 _ _ _ h3, h4⟩
  · cases hs
end
end Go.Sym
