/- Functions that write what their arguments lead to. -/
import Derived.Test.YthechjccpljljaaSymD
namespace Go.Sym
open Go.RowKit

/-- The callee's name of a block told as the caller's. -/
def ren (bs : List Nat) : SV → Option SV
  | .ptr i off => (bs[i]?).map (.ptr · off)
  | .slc i off len cap => (bs[i]?).map (.slc · off len cap)
  | .sl i lo len => (bs[i]?).map (.sl · lo len)
  | .lp i j => (bs[i]?).map (.lp · j)
  | s => if s.noName = true then some s else none
def renL (bs : List Nat) : List SV → Option (List SV)
  | [] => some []
  | s :: l => match ren bs s, renL bs l with
    | some r, some rs => some (r :: rs)
    | _, _ => none
def initM (args : List SV) (n : Nat) (M0 : List Blk) : St := ⟨args ++ List.replicate (n - args.length) .any, M0.map some⟩
def takeM : Nat → List (Option Blk) → Option (List Blk)
  | 0, _ => some []
  | k + 1, some b :: M => if noNameL b = true then (takeM k M).map (b :: ·) else none
  | _, _ => none
def finM (tt : TT) (fr : List ResultVar) (k : Nat) (Q : SV → List Blk → Prop) : KT := fun e st =>
  match e with
  | .normal | .ret => match resAll tt st fr with
    | some vs => match (retSV vs).noName with
      | true => match takeM k st.M with
        | some M1 => Q (retSV vs) M1
        | none => False
      | false => False
    | none => False
  | _ => False

theorem takeM_ok : ∀ {k : Nat} {M : List (Option Blk)} {M1 : List Blk}, takeM k M = some M1 → M1.length = k ∧ ∀ (i : Nat) (cs : Blk), M1[i]? = some cs → M[i]? = some (some cs) ∧ noNameL cs = true
  | 0, _, _, h => by simp only [takeM, Option.some.injEq] at h; subst h; exact ⟨rfl, fun i cs h => by simp at h⟩
  | k + 1, [], _, h => by simp [takeM] at h
  | k + 1, none :: M, _, h => by simp [takeM] at h
  | k + 1, some b :: M, M1, h => by
    simp only [takeM] at h
    split at h
    · rename_i hn
      obtain ⟨L, hL, e⟩ := Option.map_eq_some_iff.1 h
      subst e
      obtain ⟨h1, h2⟩ := takeM_ok hL
      refine ⟨by simp [h1], fun i cs hi => ?_⟩
      cases i with
      | zero => simp at hi; subst hi; exact ⟨rfl, hn⟩
      | succ i => simp at hi; simpa using h2 i cs hi
    · cases h
theorem applyWs_zip : ∀ {bs : List Nat} {L : List Blk} (M : List (Option Blk)), bs.Nodup → bs.length = L.length → (∀ b ∈ bs, b < M.length) → ∀ (i b : Nat) (cs : Blk), bs[i]? = some b → L[i]? = some cs → (applyWs M (bs.zip L))[b]? = some (some cs)
  | [], _, _, _, _, _, i, b, cs, h, _ => by simp at h
  | b0 :: bs, [], _, _, h, _, _, _, _, _, _ => by simp at h
  | b0 :: bs, l0 :: L, M, hnd, hlen, hlt, i, b, cs, hb, hc => by
    rw [List.nodup_cons] at hnd
    simp only [List.zip_cons_cons, applyWs, List.foldl_cons]
    have hlen' : bs.length = L.length := by simpa using hlen
    cases i with
    | zero =>
      simp at hb hc
      subst hb; subst hc
      have : ∀ p ∈ bs.zip L, p.1 ≠ b0 := fun p hp e => hnd.1 (e ▸ (List.of_mem_zip hp).1)
      have h1 := applyWs_get (bs.zip L) (M.set b0 (some l0)) b0 this
      unfold applyWs at h1
      rw [h1, List.getElem?_set_self (hlt b0 (by simp))]
    | succ i =>
      simp at hb hc
      have := applyWs_zip (M.set b0 (some l0)) hnd.2 hlen' (fun b hb => by rw [List.length_set]; exact hlt b (by simp [hb])) i b cs hb hc
      exact this

section
variable {P : Program} {tt : TT} {sp : Specs}
theorem ren_ok {at_ at0 : At} {w : World} {bs : List Nat} (hnm : ∀ (i b : Nat), bs[i]? = some b → at0 i = at_ b) (hgn : ∀ (i b : Nat), bs[i]? = some b → at0.gn i = at_.gn b) (hfix : ∀ g, Fix at_ g → Fix at0 g) : ∀ (s s1 : SV) (v : Value), ren bs s = some s1 → Rel at_ w s1 v → Rel at0 w s v := by
  intro s s1 v h r
  have key : (if s.noName = true then some s else none) = some s1 → Rel at0 w s v := by
    intro h
    split at h
    · rename_i hn
      simp only [Option.some.injEq] at h; subst h
      exact Rel.noName hfix _ _ hn r
    · cases h
  cases s with
  | ptr i off =>
    simp only [ren] at h
    obtain ⟨b, hb, e⟩ := Option.map_eq_some_iff.1 h
    subst e
    simp only [Rel] at r ⊢
    rw [hnm i b hb]; exact r
  | slc i off len cap =>
    simp only [ren] at h
    obtain ⟨b, hb, e⟩ := Option.map_eq_some_iff.1 h
    subst e
    simp only [Rel] at r ⊢
    rw [hnm i b hb]; exact r
  | sl i lo len =>
    simp only [ren] at h
    obtain ⟨b, hb, e⟩ := Option.map_eq_some_iff.1 h
    subst e
    simp only [Rel] at r ⊢
    rw [hgn i b hb]; exact r
  | lp i j =>
    simp only [ren] at h
    obtain ⟨b, hb, e⟩ := Option.map_eq_some_iff.1 h
    subst e
    simp only [Rel] at r ⊢
    rw [hgn i b hb]; exact r
  | _ => exact key h
theorem renL_ok {at_ at0 : At} {w : World} {bs : List Nat} (hnm : ∀ (i b : Nat), bs[i]? = some b → at0 i = at_ b) (hgn : ∀ (i b : Nat), bs[i]? = some b → at0.gn i = at_.gn b) (hfix : ∀ g, Fix at_ g → Fix at0 g) : ∀ (s s1 : List SV) (v : List Value), renL bs s = some s1 → RelL at_ w s1 v → RelL at0 w s v
  | [], _, _, h, r => by simp only [renL, Option.some.injEq] at h; subst h; simpa only [RelL] using r
  | s :: l, _, _, h, r => by
    simp only [renL] at h
    split at h
    · rename_i s1 l1 h1 h2
      simp only [Option.some.injEq] at h; subst h
      simp only [RelL] at r
      obtain ⟨u, us, rfl, r1, r2⟩ := r
      exact RelL.cons (ren_ok hnm hgn hfix _ _ _ h1 r1) (renL_ok hnm hgn hfix _ _ _ h2 r2)
    · cases h

/-- A function that writes what its arguments lead to. -/
theorem mspec_of_awp (hT : TTOK P tt) {f : FuncId} {fn : Func} {c : Code} (hf : P.funcs[f]? = some fn) (hname : (fn.name == "runtime.NumGoroutine") = false) (hb : fn.body = some c) {s : MSpecF}
    (H : ∀ look svs out, s look svs = some out → Ok out.pre → ∃ (bs : List Nat) (M0 M1 : List Blk) (svs0 svs1 : List SV),
      bs.Nodup ∧ bs.length = M0.length ∧ (∀ (i b : Nat), bs[i]? = some b → ∃ cs : Blk, M0[i]? = some cs ∧ look b = some cs) ∧ (∀ cs ∈ M0, noNameL cs = true) ∧
      (∀ (at_ : At) w vs, RelL at_ w svs vs → RelL at_ w svs1 vs) ∧ renL bs svs0 = some svs1 ∧ out.ws = bs.zip M1 ∧
      (∀ at0 w0, Clean M0.length at0 → AWp P at0 w0 c (initM svs0 fn.ntmps M0) (finM tt fn.results.toList M0.length (fun r M => r = out.sv ∧ M = M1)))) : MSpecOK P f s := by
  intro at_ M w look svs vs out hM hlook hs hp hr
  obtain ⟨bs, M0, M1, svs0, svs1, hnd, hlen, hbs, hn0, hrel, hren, hws, H⟩ := H look svs out hs hp
  have hrun : (callFunc f (List.toArray vs)).run P w = .ok (.enter f (List.toArray vs)) w := by
    have h1 : fn.name ≠ "runtime.NumGoroutine" := by simpa using hname
    simp [callFunc, hf, h1, hb]
  rw [hrun]
  have hr1 := hrel _ _ _ hr
  have hMb : ∀ (i b : Nat), bs[i]? = some b → ∃ cs : Blk, M0[i]? = some cs ∧ M[b]? = some (some cs) := fun i b h => by
    obtain ⟨cs, h1, h2⟩ := hbs i b h; exact ⟨cs, h1, hlook _ _ h2⟩
  let at0 : At := ⟨fun i => (bs[i]?).bind at_, fun g => (∃ n, at_ n = some g ∧ n ∉ bs) ∨ at_.out g ∨ ∃ n b c k, n ∉ bs ∧ at_.gn n = .live g b c k, fun i => match bs[i]? with | some b => at_.gn b | none => .unborn⟩
  have nm0 : ∀ (i g : Nat), at0 i = some g → ∃ b, bs[i]? = some b ∧ at_ b = some g := fun i g h => by
    simp only [at0] at h
    obtain ⟨b, h1, h2⟩ := Option.bind_eq_some_iff.1 h
    exact ⟨b, h1, h2⟩
  have nm1 : ∀ (i b : Nat), bs[i]? = some b → at0 i = at_ b := fun i b h => by simp only [at0, h, Option.bind_some]
  have gn1 : ∀ (i b : Nat), bs[i]? = some b → at0.gn i = at_.gn b := fun i b h => by simp only [at0, h]
  have gn0 : ∀ (i : Nat), at0.gn i ≠ .unborn → ∃ b, bs[i]? = some b ∧ at0.gn i = at_.gn b := fun i h => by
    cases hb : bs[i]? with
    | none => simp only [at0, hb] at h; exact absurd rfl h
    | some b => exact ⟨b, rfl, gn1 i b hb⟩
  have gl0 : ∀ (i g b c k : Nat), at0.gn i = .live g b c k → ∃ n, bs[i]? = some n ∧ at_.gn n = .live g b c k := fun i g b c k h => by
    obtain ⟨n, h1, h2⟩ := gn0 i (by rw [h]; simp)
    exact ⟨n, h1, by rw [← h2, h]⟩
  have fixA : ∀ g, Fix at_ g → Fix at0 g := fun g h => ⟨fun n e => by obtain ⟨b, _, h2⟩ := nm0 _ _ e; exact h.1 b h2, fun e => by
    rcases e with ⟨n, e, _⟩ | e | ⟨n, b, c, k, _, e⟩
    · exact h.1 n e
    · exact h.2.1 e
    · exact h.2.2 n b c k e, fun i b c k e => by obtain ⟨n, _, e'⟩ := gl0 _ _ _ _ _ e; exact h.2.2 n b c k e'⟩
  have idx : ∀ n m b, bs[n]? = some b → bs[m]? = some b → n = m := fun n m b h h' => by
    obtain ⟨l1, l2⟩ := List.getElem?_eq_some_iff.1 h
    obtain ⟨l1', l2'⟩ := List.getElem?_eq_some_iff.1 h'
    have hpw := List.pairwise_iff_getElem.1 hnd
    rcases Nat.lt_trichotomy n m with h | h | h
    · exact absurd (l2.trans l2'.symm) (hpw n m l1 l1' h)
    · exact h
    · exact absurd (l2'.trans l2.symm) (hpw m n l1' l1 h)
  have hmem0 : MemOK at0 (M0.map some) w := by
    have find : ∀ (i : Nat) (cs : Blk), (M0.map some)[i]? = some (some cs) → ∃ h : i < bs.length, M0[i]? = some cs ∧ M[bs[i]]? = some (some cs) := fun i cs e => by
      rw [List.getElem?_map] at e
      obtain ⟨cs', h1, h2⟩ := Option.map_eq_some_iff.1 e
      simp only [Option.some.injEq] at h2; subst h2
      have hi : i < bs.length := by rw [hlen]; exact (List.getElem?_eq_some_iff.1 h1).1
      obtain ⟨cs'', h3, h4⟩ := hMb i bs[i] (List.getElem?_eq_getElem hi)
      rw [h1] at h3; cases h3
      exact ⟨hi, h1, h4⟩
    refine ⟨fun i g cs e0 e => ?_, fun n m g e e' => ?_, fun i g e => ?_, fun g h => ?_, fun n l e => ?_, fun n m g b c k b' c' k' e e' => ?_, fun n m g b c k e e' => ?_, fun n e => ?_, fun n g b c k e => ?_, fun n g b c k e => ?_⟩
    · obtain ⟨hi, h1, h4⟩ := find i cs e
      rw [nm1 i bs[i] (List.getElem?_eq_getElem hi)] at e0
      obtain ⟨ty, us, k2, k3⟩ := hM.blk _ _ _ e0 h4
      exact ⟨ty, us, k2, RelL.noName fixA _ _ (hn0 _ (List.mem_of_getElem? h1)) k3⟩
    · obtain ⟨b, h1, h2⟩ := nm0 _ _ e
      obtain ⟨b', h1', h2'⟩ := nm0 _ _ e'
      have := hM.inj _ _ _ h2 h2'; subst this
      exact idx _ _ _ h1 h1'
    · obtain ⟨b, h1, h2⟩ := nm0 _ _ e
      obtain ⟨cs, h3, h4⟩ := hMb _ _ h1
      exact ⟨(hM.dom _ _ h2).1, cs, by rw [List.getElem?_map, h3]; rfl⟩
    · rcases h with ⟨n, h, _⟩ | h | ⟨n, b, c, k, _, h⟩
      · exact (hM.dom _ _ h).1
      · exact hM.outlt g h
      · exact hM.gsz _ _ _ _ _ h
    · obtain ⟨hi, h1, h4⟩ := find n _ e
      rw [gn1 n bs[n] (List.getElem?_eq_getElem hi)]
      exact hM.glk _ _ h4
    · obtain ⟨a1, h1, h2⟩ := gl0 _ _ _ _ _ e
      obtain ⟨a2, h1', h2'⟩ := gl0 _ _ _ _ _ e'
      have := hM.ginj _ _ _ _ _ _ _ _ _ h2 h2'; subst this
      exact idx _ _ _ h1 h1'
    · obtain ⟨a1, h1, h2⟩ := nm0 _ _ e
      obtain ⟨a2, h1', h2'⟩ := gl0 _ _ _ _ _ e'
      exact hM.gap _ _ _ _ _ _ h2 h2'
    · obtain ⟨b, h1, h2⟩ := gn0 _ e
      obtain ⟨cs, h3, h4⟩ := hMb _ _ h1
      exact ⟨cs, by rw [List.getElem?_map, h3]; rfl⟩
    · obtain ⟨a2, h1', h2'⟩ := gl0 _ _ _ _ _ e
      exact hM.gsz _ _ _ _ _ h2'
    · obtain ⟨a2, h1', h2'⟩ := gl0 _ _ _ _ _ e
      rintro (⟨m, h, _⟩ | h | ⟨m, b', c', k', hm, h⟩)
      · exact hM.gap _ _ _ _ _ _ h h2'
      · exact hM.gout _ _ _ _ _ h2' h
      · have := hM.ginj _ _ _ _ _ _ _ _ _ h h2'; subst this
        exact hm (List.mem_of_getElem? h1')
  have hlenv := hr1.length
  have hrel0 : RelL at0 w svs0 vs := renL_ok nm1 gn1 fixA _ _ _ hren hr1
  have hlen0 := hrel0.length
  have hstart : Reps at0 w (initM svs0 fn.ntmps M0) { tmps := List.toArray vs ++ Array.replicate (fn.ntmps - (List.toArray vs).size) Go.undef, defers := [] } w := by
    refine ⟨at0, Later.refl _ _, hmem0, ?_, rfl⟩
    simp only [initM, Array.toList_append, Array.toList_replicate, List.size_toArray, hlen0]
    exact RelL.append hrel0 (RelL.replicate _ (by simp only [Rel]))
  have hcalls : Calls P f (List.toArray vs) w fun e w' => ∃ v, e = .returned v ∧ Post at_ w M out.ws out.sv v w' := by
    refine calls_of_wp hf hb ?_
    refine Code.wp_mono ?_ (H at0 w (fun n hn => by have e : bs[n]? = none := List.getElem?_eq_none (by omega); simp [at0, e]) _ _ hstart)
    rintro e a' w' ⟨st', ⟨at', hl, hM', hT', hd⟩, hk⟩
    have fin : finM tt fn.results.toList M0.length (fun r M => r = out.sv ∧ M = M1) .ret st' →
        a'.defers = [] ∧ ∃ v, (results fn a'.tmps).run P w' = .ok v w' ∧ ∃ u, Ending.returned v = .returned u ∧ Post at_ w M out.ws out.sv u w' := by
      intro hk
      refine ⟨hd, ?_⟩
      simp only [finM] at hk
      split at hk
      · rename_i svs' hres
        split at hk
        · rename_i hnn
          split at hk
          · rename_i M1' htake
            obtain ⟨hk1, hk2⟩ := hk
            subst hk2
            obtain ⟨us, h1, h2⟩ := resAll_ok hT hM' hT' _ _ hres
            have hrun := results_run h1
            refine ⟨_, hrun, _, rfl, ?_⟩
            have hrelr : Rel at' w' (retSV svs') (retV us) := by
              rcases svs' with _ | ⟨s, _ | ⟨s', ss⟩⟩
              · simp only [RelL] at h2; subst h2; simp only [retSV, Rel]; exact ⟨[], rfl, RelL.nil⟩
              · simp only [RelL] at h2
                obtain ⟨v, vs', rfl, h3, rfl⟩ := h2
                exact h3
              · have h2' := h2
                simp only [RelL] at h2
                obtain ⟨v, vs', rfl, h3, v', vs'', rfl, h4, h5⟩ := h2
                simp only [retSV, Rel]
                exact ⟨_, rfl, h2'⟩
            obtain ⟨t1, t2⟩ := takeM_ok htake
            let atF : At := ⟨at_.nm, at_.out, fun n => if n ∈ bs then at'.gn (bs.idxOf n) else at_.gn n⟩
            have hidx : ∀ n, n ∈ bs → bs[bs.idxOf n]? = some n := fun n hn => by
              have hlt := List.idxOf_lt_length_iff.2 hn
              rw [List.getElem?_eq_getElem hlt, List.getElem_idxOf]
            have gF : ∀ n g b c k, atF.gn n = .live g b c k → (n ∈ bs ∧ at'.gn (bs.idxOf n) = .live g b c k) ∨ (n ∉ bs ∧ at_.gn n = .live g b c k) := fun n g b c k h => by
              simp only [atF] at h
              split at h
              · exact .inl ⟨by assumption, h⟩
              · exact .inr ⟨by assumption, h⟩
            have fixB : ∀ g, Fix at' g → Fix atF g := fun g h => ⟨fun n e => by
              by_cases hn : n ∈ bs
              · exact h.1 _ (hl.name _ _ (by rw [nm1 _ n (hidx n hn)]; exact e))
              · exact h.2.1 (by rw [hl.out]; exact .inl ⟨n, e, hn⟩), fun e => h.2.1 (by rw [hl.out]; exact .inr (.inl e)), fun n b c k e => by
              rcases gF _ _ _ _ _ e with ⟨_, e⟩ | ⟨hn, e⟩
              · exact h.2.2 _ _ _ _ e
              · exact h.2.1 (by rw [hl.out]; exact .inr (.inr ⟨n, b, c, k, hn, e⟩))⟩
            have keepF : ∀ g, (∀ n, at_ n ≠ some g ∨ n ∉ bs) → (∀ n b c k, at_.gn n ≠ .live g b c k ∨ n ∉ bs) → g < w.heap.size → (∀ n b c k, at'.gn n ≠ .live g b c k) ∧ w'.heap[g]? = w.heap[g]? := fun g hg hg' hlt =>
              (hl.keep g (fun n e => by
                obtain ⟨b, h1, h2⟩ := nm0 _ _ e
                rcases hg b with h | h
                · exact h h2
                · exact h (List.mem_of_getElem? h1)) (fun n b c k e => by
                obtain ⟨m, h1, h2⟩ := gl0 _ _ _ _ _ e
                rcases hg' m b c k with h | h
                · exact h h2
                · exact h (List.mem_of_getElem? h1)) hlt).2
            have hl' : Later at_ w atF w' := by
              refine ⟨hl.os, hl.tape, hl.output, hl.size, fun _ _ h => h, fun g hg hg' hlt => ?_, rfl, fun _ _ h => .inl h, fun n => ?_, fun n g b c k e => ?_⟩
              · obtain ⟨h1, h2⟩ := keepF g (fun n => .inl (hg n)) (fun n b c k => .inl (hg' n b c k)) hlt
                exact ⟨hg, fun n b c k e => by
                  rcases gF _ _ _ _ _ e with ⟨_, e⟩ | ⟨_, e⟩
                  · exact h1 _ _ _ _ e
                  · exact hg' _ _ _ _ e, h2⟩
              · by_cases hn : n ∈ bs
                · simp only [atF, hn, if_true]
                  have := hl.gname (bs.idxOf n)
                  rw [gn1 _ n (hidx n hn)] at this
                  exact this
                · simp only [atF, hn, if_false]; exact .inr (.inl trivial)
              · rcases gF _ _ _ _ _ e with ⟨_, e⟩ | ⟨_, e⟩
                · rcases hl.gnew _ _ _ _ _ e with ⟨m, b', c', k', e'⟩ | e'
                  · obtain ⟨q, _, e2⟩ := gl0 _ _ _ _ _ e'
                    exact .inl ⟨q, _, _, _, e2⟩
                  · exact .inr e'
                · exact .inl ⟨n, b, c, k, e⟩
            have hblt : ∀ b ∈ bs, b < M.length := fun b hb => by
              obtain ⟨i, hi⟩ := List.getElem?_of_mem hb
              obtain ⟨cs, _, h4⟩ := hMb i b hi
              exact (List.getElem?_eq_some_iff.1 h4).1
            have some1 : ∀ n, n ∈ bs → ∃ h : bs.idxOf n < M1'.length, (applyWs M out.ws)[n]? = some (some M1'[bs.idxOf n]) := fun n hn => by
              have hil : bs.idxOf n < M1'.length := by rw [t1, ← hlen]; exact List.idxOf_lt_length_iff.2 hn
              refine ⟨hil, ?_⟩
              rw [hws]
              exact applyWs_zip M hnd (by rw [t1, hlen]) hblt _ n _ (hidx n hn) (List.getElem?_eq_getElem hil)
            have none1 : ∀ n, n ∉ bs → (applyWs M out.ws)[n]? = M[n]? := fun n hn => by
              rw [hws]
              exact applyWs_get _ _ _ (fun p hp e => hn (e ▸ (List.of_mem_zip hp).1))
            have outF : ∀ g, at0.out g → at'.out g := fun g h => by rw [hl.out]; exact h
            refine ⟨atF, hl', ⟨fun n g cs e1 e => ?_, hM.inj, fun n g e => ⟨Nat.lt_of_lt_of_le (hM.dom n g e).1 hl.size, ?_⟩, fun g h => Nat.lt_of_lt_of_le (hM.outlt g h) hl.size, fun n l e => ?_, fun n m g b c k b' c' k' e e' => ?_, fun n m g b c k e e' => ?_, fun n e => ?_, fun n g b c k e => ?_, fun n g b c k e => ?_⟩, by rw [← hk1]; exact Rel.noName fixB _ _ hnn hrelr⟩
            · have e1' : at_ n = some g := e1
              by_cases hn : n ∈ bs
              · obtain ⟨hil, e2⟩ := some1 n hn
                rw [e2] at e
                simp only [Option.some.injEq] at e
                obtain ⟨k1, k2⟩ := t2 _ _ (List.getElem?_eq_getElem hil)
                have hnm := hl.name _ g (by rw [nm1 _ n (hidx n hn)]; exact e1')
                obtain ⟨ty, us', m2, m3⟩ := hM'.blk _ _ _ hnm k1
                exact ⟨ty, us', m2, by rw [← e]; exact RelL.noName fixB _ _ k2 m3⟩
              · rw [none1 n hn] at e
                obtain ⟨ty, us', m2, m3⟩ := hM.blk _ _ _ e1' e
                refine ⟨ty, us', ?_, RelL.later hl' _ _ m3⟩
                rw [(keepF g (fun m => ?_) (fun m b c k => .inl (hM.gap n m g b c k e1')) (lt_of_heap m2)).2]
                · exact m2
                · by_cases hm : at_ m = some g
                  · have := hM.inj _ _ _ hm e1'; subst this; exact .inr hn
                  · exact .inl hm
            · by_cases hn : n ∈ bs
              · obtain ⟨hil, e2⟩ := some1 n hn
                exact ⟨_, e2⟩
              · rw [none1 n hn]; exact (hM.dom n g e).2
            · by_cases hn : n ∈ bs
              · obtain ⟨hil, e2⟩ := some1 n hn
                rw [e2] at e
                simp only [Option.some.injEq] at e
                obtain ⟨k1, k2⟩ := t2 _ _ (List.getElem?_eq_getElem hil)
                rw [e] at k1
                have hg : atF.gn n = at'.gn (bs.idxOf n) := by simp only [atF, hn, if_true]
                rw [hg]; exact hM'.glk _ _ k1
              · rw [none1 n hn] at e
                have hg : atF.gn n = at_.gn n := by simp only [atF, hn, if_false]
                rw [hg]
                rcases hM.glk n l e with k | ⟨g, b, c, k1, k2⟩
                · exact .inl k
                · refine .inr ⟨g, b, c, k1, k2.mono (keepF g (fun m => .inl (fun e' => hM.gap m n g b c l.len e' k1)) (fun m b' c' k' => ?_) (hM.gsz _ _ _ _ _ k1)).2⟩
                  by_cases hm : at_.gn m = .live g b' c' k'
                  · have := hM.ginj _ _ _ _ _ _ _ _ _ hm k1; subst this; exact .inr hn
                  · exact .inl hm
            · rcases gF _ _ _ _ _ e with ⟨h1, h2⟩ | ⟨h1, h2⟩ <;> rcases gF _ _ _ _ _ e' with ⟨h1', h2'⟩ | ⟨h1', h2'⟩
              · have := hM'.ginj _ _ _ _ _ _ _ _ _ h2 h2'
                have q1 := hidx n h1
                rw [this, hidx m h1'] at q1
                simpa using q1.symm
              · exact (hM'.gout _ _ _ _ _ h2 (outF g (.inr (.inr ⟨m, _, _, _, h1', h2'⟩)))).elim
              · exact (hM'.gout _ _ _ _ _ h2' (outF g (.inr (.inr ⟨n, _, _, _, h1, h2⟩)))).elim
              · exact hM.ginj _ _ _ _ _ _ _ _ _ h2 h2'
            · have e1' : at_ n = some g := e
              rcases gF _ _ _ _ _ e' with ⟨h1', h2'⟩ | ⟨h1', h2'⟩
              · by_cases hn : n ∈ bs
                · exact hM'.gap _ _ _ _ _ _ (hl.name _ g (by rw [nm1 _ n (hidx n hn)]; exact e1')) h2'
                · exact hM'.gout _ _ _ _ _ h2' (outF g (.inl ⟨n, e1', hn⟩))
              · exact hM.gap _ _ _ _ _ _ e1' h2'
            · by_cases hn : n ∈ bs
              · obtain ⟨hil, e2⟩ := some1 n hn
                exact ⟨_, e2⟩
              · rw [none1 n hn]
                have hg : atF.gn n = at_.gn n := by simp only [atF, hn, if_false]
                rw [hg] at e
                exact hM.gdom n e
            · rcases gF _ _ _ _ _ e with ⟨_, h2⟩ | ⟨_, h2⟩
              · exact hM'.gsz _ _ _ _ _ h2
              · exact Nat.lt_of_lt_of_le (hM.gsz _ _ _ _ _ h2) hl.size
            · rcases gF _ _ _ _ _ e with ⟨_, h2⟩ | ⟨_, h2⟩
              · exact fun h => hM'.gout _ _ _ _ _ h2 (outF g (.inr (.inl h)))
              · exact hM.gout _ _ _ _ _ h2
          · exact hk.elim
        · exact hk.elim
      · exact hk.elim
    cases e with
    | normal => exact fin hk
    | ret => exact fin hk
    | exit id => exact hk.elim
    | goto l => exact hk.elim
    | panic ch => exact hk.elim
    | outgrown => exact hk.elim
  exact hcalls
end
end Go.Sym
