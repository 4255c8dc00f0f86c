/- How arguments and results are told as data; a function's specification out of a Lean function on data. -/
import Derived.Test.YthechjccpljljaaSymC
namespace Go.Sym
open Go.RowKit

class Enc (α : Type) where
  enc : α → SV
  dec : SV → Option α
  ok : ∀ {s : SV} {a : α}, dec s = some a → ∀ {at_ : At} {w : World} {v : Value}, Rel at_ w s v → Rel at_ w (enc a) v
  nn : ∀ a : α, (enc a).noName = true
class Args (α : Type) where
  encL : α → List SV
  decL : List SV → Option α
  ok : ∀ {s : List SV} {a : α}, decL s = some a → ∀ {at_ : At} {w : World} {v : List Value}, RelL at_ w s v → RelL at_ w (encL a) v
  nn : ∀ a : α, noNameL (encL a) = true
class RetL (β : Type) where
  retL : β → List SV

instance : Args Unit where
  encL _ := []
  decL | [] => some ()
       | _ => none
  ok := by
    intro s a h at_ w v r
    cases s with
    | nil => exact r
    | cons _ _ => cases h
  nn _ := rfl
instance {α β : Type} [Enc α] [Args β] : Args (α × β) where
  encL p := Enc.enc p.1 :: Args.encL p.2
  decL
    | x :: l => match Enc.dec (α := α) x, Args.decL (α := β) l with
      | some a, some b => some (a, b)
      | _, _ => none
    | [] => none
  ok := by
    intro s a h at_ w v r
    cases s with
    | nil => cases h
    | cons x l =>
      simp only at h
      split at h
      · rename_i a' b' ha hb
        simp only [Option.some.injEq] at h
        subst h
        simp only [RelL] at r
        obtain ⟨u, us, rfl, h1, h2⟩ := r
        exact RelL.cons (Enc.ok ha h1) (Args.ok hb h2)
      · cases h
  nn p := by simp only [noNameL, Enc.nn, Args.nn, Bool.and_self]
instance (priority := low) {α : Type} [Enc α] : RetL α where
  retL a := [Enc.enc a]
instance {α β : Type} [Enc α] [RetL β] : RetL (α × β) where
  retL p := Enc.enc p.1 :: RetL.retL p.2
instance : RetL Unit where
  retL _ := []

instance : Enc UInt64 where
  enc := .u64
  dec | .u64 x => some x
      | _ => none
  ok := by
    intro s a h at_ w v r
    cases s <;> simp only at h <;> first | (cases h; done) | (simp only [Option.some.injEq] at h; subst h; exact r)
  nn _ := rfl
instance : Enc UInt32 where
  enc := .u32
  dec | .u32 x => some x
      | _ => none
  ok := by
    intro s a h at_ w v r
    cases s <;> simp only at h <;> first | (cases h; done) | (simp only [Option.some.injEq] at h; subst h; exact r)
  nn _ := rfl
instance : Enc UInt8 where
  enc := .u8
  dec | .u8 x => some x
      | _ => none
  ok := by
    intro s a h at_ w v r
    cases s <;> simp only at h <;> first | (cases h; done) | (simp only [Option.some.injEq] at h; subst h; exact r)
  nn _ := rfl
instance : Enc Int where
  enc := .i64
  dec | .i64 x => some x
      | _ => none
  ok := by
    intro s a h at_ w v r
    cases s <;> simp only at h <;> first | (cases h; done) | (simp only [Option.some.injEq] at h; subst h; exact r)
  nn _ := rfl
instance : Enc Bool where
  enc := .bool
  dec | .bool x => some x
      | _ => none
  ok := by
    intro s a h at_ w v r
    cases s <;> simp only at h <;> first | (cases h; done) | (simp only [Option.some.injEq] at h; subst h; exact r)
  nn _ := rfl
instance : Enc Four where
  enc := Four.sv
  dec := dFour
  ok := by
    intro s a h at_ w v r
    rw [dFour_ok h] at r; exact r
  nn _ := rfl
theorem nil_lst {at_ : At} {w : World} {s : SV} {v : Value} {l : LV} (hl : l.len = 0) (hs : ∃ c, s = .val (.slice none 0 c)) (r : Rel at_ w s v) : Rel at_ w (.lst l) v := by
  obtain ⟨c, rfl⟩ := hs
  simp only [Rel] at r ⊢
  refine ⟨none, c, by rw [hl]; exact r, by omega, fun j u hj => ?_⟩
  have : l.vals = [] := List.eq_nil_of_length_eq_zero (by rw [LV.len_vals, hl])
  rw [this] at hj; simp at hj
instance : Enc (List UInt8) where
  enc l := .lst (.bytes l)
  dec | .lst (.bytes l) => some l
      | .val (.slice none 0 _) => some []
      | _ => none
  ok := by
    intro s a h at_ w v r
    split at h
    · simp only [Option.some.injEq] at h; subst h; exact r
    · rename_i c
      simp only [Option.some.injEq] at h; subst h; exact nil_lst rfl ⟨c, rfl⟩ r
    · cases h
  nn _ := rfl
theorem num_ints {at_ : At} {w : World} {n : Nat} {v : Value} : Rel at_ w (.lst (.num n)) v ↔ Rel at_ w (.lst (.ints (Dig.dg n))) v := by simp only [Rel, LV.vals, LV.len]
instance : Enc (List Int) where
  enc l := .lst (.ints l)
  dec | .lst (.ints l) => some l
      | .lst (.num n) => some (Dig.dg n)
      | .val (.slice none 0 _) => some []
      | _ => none
  ok := by
    intro s a h at_ w v r
    split at h
    · simp only [Option.some.injEq] at h; subst h; exact r
    · simp only [Option.some.injEq] at h; subst h; exact num_ints.1 r
    · rename_i c
      simp only [Option.some.injEq] at h; subst h; exact nil_lst rfl ⟨c, rfl⟩ r
    · cases h
  nn _ := rfl
/-- A number, as its digits. -/
structure Num where
  n : Nat
instance : Enc Num where
  enc a := .lst (.num a.n)
  dec | .lst (.num n) => some ⟨n⟩
      | .val (.slice none 0 _) => some ⟨0⟩
      | _ => none
  ok := by
    intro s a h at_ w v r
    split at h
    · simp only [Option.some.injEq] at h; subst h; exact r
    · rename_i c
      simp only [Option.some.injEq] at h; subst h; exact nil_lst (by simp [LV.len, Dig.dg_zero]) ⟨c, rfl⟩ r
    · cases h
  nn _ := rfl
/-- It reads as a number. -/
def isNum (n : Nat) (x : SV) : Prop := x = .lst (.num n) ∨ x = .lst (.ints (Dig.dg n)) ∨ (n = 0 ∧ x = .val (.slice none 0 0))
theorem isNum_ok {n : Nat} {x : SV} (h : isNum n x) {at_ : At} {w : World} {v : Value} (r : Rel at_ w x v) : Rel at_ w (.lst (.num n)) v := by
  rcases h with rfl | rfl | ⟨rfl, rfl⟩
  · exact r
  · exact num_ints.2 r
  · exact nil_lst (by simp [LV.len, Dig.dg_zero]) ⟨0, rfl⟩ r
instance : Enc (List UInt64) where
  enc l := .lst (.words l)
  dec | .lst (.words l) => some l
      | .val (.slice none 0 _) => some []
      | _ => none
  ok := by
    intro s a h at_ w v r
    split at h
    · simp only [Option.some.injEq] at h; subst h; exact r
    · rename_i c
      simp only [Option.some.injEq] at h; subst h; exact nil_lst rfl ⟨c, rfl⟩ r
    · cases h
  nn _ := rfl

/-- A function's specification: under 'pre', its results are those of f. -/
def fspec {α β : Type} [Args α] [RetL β] (pre : α → Option Prop) (f : α → β) : SpecF := fun l =>
  match Args.decL l with
  | some a => some (pre a, retSV (RetL.retL (f a)))
  | none => none
def total {α : Type} : α → Option Prop := fun _ => none

theorem of_eq_prop {p q : Prop} (h : p = q) (hq : q) : p := h ▸ hq
/-- What a body's proposition comes to where nothing is left to show. -/
def Same (x : SV) : Prop := x = x
def times : Nat → Prop → Prop → Prop
  | 0, _, p => p
  | n + 1, c, p => c ∧ times n c p
theorem times_mk {c p : Prop} (hc : c) (hp : p) : ∀ n, times n c p
  | 0 => hp
  | n + 1 => ⟨hc, times_mk hc hp n⟩
theorem all_of_map {f g : Nat → Prop} (N : Nat) (h : (List.range N).map f = (List.range N).map g) (n : Nat) (hn : n < N) (hg : g n) : f n := by
  have := congrArg (fun l => l[n]?) h
  simp only [List.getElem?_map, List.getElem?_range hn, Option.map_some, Option.some.injEq] at this
  exact this ▸ hg
theorem Same.mk (x : SV) : Same x := rfl

section
variable {P : Program} {tt : TT} {sp : Specs} {α β : Type} [Args α] [RetL β]

theorem fn_calls (hm : P.follows .mixedOrders = true) (hT : TTOK P tt) (hS : SpecsOK P sp) {f : FuncId} {fn : Func} {c : Code} (hf : P.funcs[f]? = some fn) (hb : fn.body = some c) {svs : List SV} {Q : SV → Prop}
    (H : ∀ at0 w0, Clean 0 at0 → AWp P at0 w0 c (init svs fn.ntmps) (finK tt fn.results.toList Q)) (hn : noNameL svs = true) {at_ : At} {vs : List Value} {w : World} (hat : ∀ n g, at_ n = some g → g < w.heap.size) (hout : ∀ g, (at_.out g ∨ ∃ n b c k, at_.gn n = .live g b c k) → g < w.heap.size) (hr : RelL at_ w svs vs) :
    Calls P f (List.toArray vs) w fun e w' => ∃ v, e = .returned v ∧ ∃ r, Q r ∧ Rel at_ w' r v ∧ Below w.heap.size w w' := calls_of_awp hm hT hS hf hb H hn hat hout hr

/-- From the body, with loops met by hand. -/
theorem fn_awp (hm : P.follows .mixedOrders = true) (hT : TTOK P tt) (hS : SpecsOK P sp) {f : FuncId} {fn : Func} {c : Code} (hf : P.funcs[f]? = some fn) (hname : (fn.name == "runtime.NumGoroutine") = false) (hb : fn.body = some c) {pre : α → Option Prop} {g : α → β}
    (H : ∀ a, Ok (pre a) → ∀ at0 w0, Clean 0 at0 → AWp P at0 w0 c (init (Args.encL a) fn.ntmps) (finK tt fn.results.toList (fun x => x = retSV (RetL.retL (g a))))) : SpecOK P f (fspec pre g) := by
  intro at_ w svs vs pr r hat hout hs hp hr
  unfold fspec at hs
  split at hs
  · rename_i a ha
    simp only [Option.some.injEq, Prod.mk.injEq] at hs
    obtain ⟨rfl, rfl⟩ := hs
    have hrun : (callFunc f (List.toArray vs)).run P w = .ok (.enter f (List.toArray vs)) w := by
      have h1 : fn.name ≠ "runtime.NumGoroutine" := by simpa using hname
      simp [callFunc, hf, h1, hb]
    rw [hrun]
    refine (calls_of_awp hm hT hS hf hb (H a hp) (Args.nn a) hat hout (Args.ok ha hr)).mono ?_
    rintro e w' ⟨v, h1, r', h2, h3, h4⟩
    rw [h2] at h3
    exact ⟨v, h1, h3, h4⟩
  · cases hs
/-- The body's proposition under decisions. -/
def FnRaw (tt : TT) (sp : Specs) (fuel : Nat) (D : Dec) (fn : Func) (g : α → β) (a : α) : Prop := vc tt sp fuel D (fn.body.getD .skip) (init (Args.encL a) fn.ntmps) (finK tt fn.results.toList (fun x => x = retSV (RetL.retL (g a))))
structure FnVD (tt : TT) (sp : Specs) (fuel : Nat) (D : Dec) (fn : Func) (g : α → β) (a : α) : Prop where
  out : FnRaw tt sp fuel D fn g a
theorem FnVD.raw {tt : TT} {sp : Specs} {fuel : Nat} {D : Dec} {fn : Func} {g : α → β} {a : α} (t : β) (h : g a = t) (k : FnRaw tt sp fuel D fn (fun _ : α => t) a) : FnVD tt sp fuel D fn g a := by
  refine ⟨?_⟩
  unfold FnRaw at *; rw [h]; exact k
theorem FnVD.of {tt : TT} {sp : Specs} {fuel : Nat} {D : Dec} {fn : Func} {g : α → β} {a : α} (t : β) (h : g a = t) {E : Prop} (hE : FnRaw tt sp fuel D fn (fun _ : α => t) a = E) (k : E) : FnVD tt sp fuel D fn g a := FnVD.raw t h (by rw [hE]; exact k)
/-- From the body's proposition, under decisions that are the arguments' own. -/
theorem fn_okD (hm : P.follows .mixedOrders = true) (hT : TTOK P tt) (hS : SpecsOK P sp) (fuel : Nat) {f : FuncId} {fn : Func} (hf : P.funcs[f]? = some fn) (hname : (fn.name == "runtime.NumGoroutine") = false) (hb : fn.body.isSome = true) {pre : α → Option Prop} {g : α → β}
    (H : ∀ a, Ok (pre a) → ∃ D, FnVD tt sp fuel D fn g a) : SpecOK P f (fspec pre g) := by
  obtain ⟨c, hc⟩ := Option.isSome_iff_exists.1 hb
  refine fn_awp hm hT hS hf hname hc fun a hp _ _ _ => ?_
  obtain ⟨D, ⟨h⟩⟩ := H a hp
  refine vc_ok (fuel := fuel) (D := D) hm hT hS c _ _ ?_
  unfold FnRaw at h
  rw [hc] at h
  exact h
/-- The body's proposition. -/
def FnVC (tt : TT) (sp : Specs) (fuel : Nat) (fn : Func) (g : α → β) (a : α) : Prop := vc tt sp fuel [] (fn.body.getD .skip) (init (Args.encL a) fn.ntmps) (finK tt fn.results.toList (fun x => x = retSV (RetL.retL (g a))))
/-- From the body's proposition, as a machine computes it. -/
theorem fn_ok (hm : P.follows .mixedOrders = true) (hT : TTOK P tt) (hS : SpecsOK P sp) (fuel : Nat) {f : FuncId} {fn : Func} (hf : P.funcs[f]? = some fn) (hname : (fn.name == "runtime.NumGoroutine") = false) (hb : fn.body.isSome = true) {pre : α → Option Prop} {g : α → β}
    (E : α → Prop) (hE : ∀ a, FnVC tt sp fuel fn g a = E a) (H : ∀ a, Ok (pre a) → E a) : SpecOK P f (fspec pre g) := by
  obtain ⟨c, hc⟩ := Option.isSome_iff_exists.1 hb
  refine fn_awp hm hT hS hf hname hc fun a hp _ _ _ => vc_ok (fuel := fuel) (D := []) hm hT hS c _ _ ?_
  have := hE a ▸ H a hp
  unfold FnVC at this
  rw [hc] at this
  exact this
end
end Go.Sym
