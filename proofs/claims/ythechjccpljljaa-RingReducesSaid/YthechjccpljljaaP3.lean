/- The symbolic machine: specifications, loops, what arguments read as; the table of types. -/
import Derived.Test.YthechjccpljljaaP2
import Derived.WalkKit
import Derived.ProofKit
import Derived.OpenShut
import Derived.ChangeOld
import Derived.SizedLaws
import Derived.ChangeSlices
import Derived.Test.YthechjccpljljaaProg
/- Specifications out of propositions; what the model stands in for: sums with carries. -/
namespace Go.Sym
open Go.RowKit

section
variable {P : Program} {tt : TT} {sp : Specs}

theorem spec_of_vc (hm : P.follows .mixedOrders = true) (hT : TTOK P tt) (hS : SpecsOK P sp) (fuel : Nat) {f : FuncId} {fn : Func} {c : Code} (hf : P.funcs[f]? = some fn) (hname : (fn.name == "runtime.NumGoroutine") = false) (hb : fn.body = some c) {s : SpecF}
    (H : ∀ svs pre r, s svs = some (pre, r) → Ok pre → noNameL svs = true ∧ ∃ Q : SV → Prop, (∀ x, Q x → x = r) ∧ vc tt sp fuel [] c (init svs fn.ntmps) (finK tt fn.results.toList Q)) : SpecOK P f s := by
  intro at_ w svs vs pre r hat hout hs hp hr
  obtain ⟨hn, Q, hQ, hvc⟩ := H svs pre r hs hp
  have hrun : (callFunc f (List.toArray vs)).run P w = .ok (.enter f (List.toArray vs)) w := by
    have h1 : fn.name ≠ "runtime.NumGoroutine" := by simpa using hname
    simp [callFunc, hf, h1, hb]
  rw [hrun]
  refine (calls_of_vc hm hT hS hf hb hvc hn hat hout hr).mono ?_
  rintro e w' ⟨v, h1, r', h2, h3, h4⟩
  rw [hQ r' h2] at h3
  exact ⟨v, h1, h3, h4⟩

theorem spec_of_extern {f : FuncId} {fn : Func} {e : Array Value → Sem Value} (hf : P.funcs[f]? = some fn) (hname : (fn.name == "runtime.NumGoroutine") = false) (hb : fn.body.isNone = true) (hn : Extern.findNext fn = none) (he : Extern.find fn = some e) {s : SpecF}
    (H : ∀ svs pre r, s svs = some (pre, r) → Ok pre → ∀ at_ w vs, RelL at_ w svs vs → ∃ v, (e (List.toArray vs)).run P w = .ok v w ∧ Rel at_ w r v) : SpecOK P f s := by
  intro at_ w svs vs pre r _ _ hs hp hr
  obtain ⟨v, h1, h2⟩ := H svs pre r hs hp at_ w vs hr
  rw [run_callFunc_extern hf hname hb hn he, h1]
  exact ⟨h2, Below.refl _ _⟩
/-- From a contract that is known. -/
theorem spec_of_calls {f : FuncId} {fn : Func} {c : Code} (hf : P.funcs[f]? = some fn) (hname : (fn.name == "runtime.NumGoroutine") = false) (hb : fn.body = some c) {s : SpecF}
    (H : ∀ svs pre r, s svs = some (pre, r) → Ok pre → ∀ at_ w vs, RelL at_ w svs vs → Calls P f (List.toArray vs) w fun e w' => ∃ v, e = .returned v ∧ Rel at_ w' r v ∧ Below w.heap.size w w') : SpecOK P f s := by
  intro at_ w svs vs pre r hat hout hs hp hr
  have hrun : (callFunc f (List.toArray vs)).run P w = .ok (.enter f (List.toArray vs)) w := by
    have h1 : fn.name ≠ "runtime.NumGoroutine" := by simpa using hname
    simp [callFunc, hf, h1, hb]
  rw [hrun]
  exact (H svs pre r hs hp at_ w vs hr).mono fun e w' ⟨v, h1, h2, h3⟩ => ⟨v, h1, h2, h3⟩
end

/-! math/bits.Add64, Sub64. -/
def addLo (x y c : UInt64) : UInt64 := x + y + c
def addHi (x y c : UInt64) : UInt64 := UInt64.ofNat ((x.toNat + y.toNat + c.toNat) / 18446744073709551616)
def subLo (x y b : UInt64) : UInt64 := x - y - b
def subHi (x y b : UInt64) : UInt64 := if x.toNat < y.toNat + b.toNat then 1 else 0
/-- A carry is 0 or 1. -/
def cpre (c : UInt64) : Option Prop :=
  match c.toNat with
  | 0 => none
  | 1 => none
  | _ => some False
theorem cpre_ok {c : UInt64} (h : Ok (cpre c)) : c.toNat ≤ 1 := by
  unfold cpre at h
  split at h
  · omega
  · omega
  · exact h.elim
theorem cpre_conj {c : UInt64} {q : Prop} (h : c.toNat ≤ 1) (hq : q) : conj (cpre c) q := by
  unfold cpre
  split
  · exact hq
  · exact hq
  · rename_i h0 h1
    have : c.toNat = 0 ∨ c.toNat = 1 := by omega
    rcases this with e | e
    · exact (h0 e).elim
    · exact (h1 e).elim
def specAdd64 : SpecF
  | [.u64 x, .u64 y, .u64 c] => some (cpre c, .tup [.u64 (addLo x y c), .u64 (addHi x y c)])
  | _ => none
def specSub64 : SpecF
  | [.u64 x, .u64 y, .u64 c] => some (cpre c, .tup [.u64 (subLo x y c), .u64 (subHi x y c)])
  | _ => none
def sub64Entry : Array Value → Sem Value := fun args => do
  let (x, y, b) ← Extern.MathBitsCarry.three "Sub64" args
  pure (Extern.MathBitsCarry.pair ((x + Extern.MathBitsCarry.m64 - y - b) % Extern.MathBitsCarry.m64) (if x < y + b then 1 else 0))
theorem addHi_nat (x y c : UInt64) (hc : c.toNat ≤ 1) : (addHi x y c).toNat = (x.toNat + y.toNat + c.toNat) / 18446744073709551616 := by
  have := u64_lt x; have := u64_lt y
  simp only [addHi, UInt64.toNat_ofNat']
  omega
theorem addLo_nat (x y c : UInt64) : (addLo x y c).toNat = (x.toNat + y.toNat + c.toNat) % 18446744073709551616 := by
  simp only [addLo, UInt64.toNat_add]
  omega
theorem subLo_nat (x y c : UInt64) : (subLo x y c).toNat = (x.toNat + 2 * 18446744073709551616 - y.toNat - c.toNat) % 18446744073709551616 := by
  have := u64_lt x; have := u64_lt y; have := u64_lt c
  simp only [subLo, UInt64.toNat_sub]
  omega
theorem subHi_nat (x y c : UInt64) : (subHi x y c).toNat = if x.toNat < y.toNat + c.toNat then 1 else 0 := by
  unfold subHi; split <;> rfl

theorem run_three {P : Program} {w : World} (s : String) (x y c : UInt64) (hc : c.toNat ≤ 1) :
    (Extern.MathBitsCarry.three s #[.int .u64 (x.toNat : Int), .int .u64 (y.toNat : Int), .int .u64 (c.toNat : Int)]).run P w = .ok (x.toNat, y.toNat, c.toNat) w := by
  have key : ∀ k : Nat, k ≤ 1 → (Extern.MathBitsCarry.three s #[.int .u64 (x.toNat : Int), .int .u64 (y.toNat : Int), .int .u64 (k : Int)]).run P w = .ok (x.toNat, y.toNat, k) w := by
    intro k hk
    have : k = 0 ∨ k = 1 := by omega
    rcases this with rfl | rfl <;> rfl
  exact key _ hc

theorem specAdd64_ok {P : Program} {f : FuncId} {fn : Func} (hf : P.funcs[f]? = some fn) (hname : (fn.name == "runtime.NumGoroutine") = false) (hb : fn.body.isNone = true) (hn : Extern.findNext fn = none) (he : Extern.find fn = some add64Entry) : SpecOK P f specAdd64 := by
  refine spec_of_extern hf hname hb hn he ?_
  intro svs pre r hs hp at_ w vs hr
  unfold specAdd64 at hs
  split at hs
  · rename_i x y c
    simp only [Option.some.injEq, Prod.mk.injEq] at hs
    obtain ⟨rfl, rfl⟩ := hs
    replace hp := cpre_ok hp
    simp only [RelL, Rel] at hr
    obtain ⟨_, _, rfl, rfl, _, _, rfl, rfl, _, _, rfl, rfl, rfl⟩ := hr
    refine ⟨Extern.MathBitsCarry.pair ((x.toNat + y.toNat + c.toNat) % Extern.MathBitsCarry.m64) ((x.toNat + y.toNat + c.toNat) / Extern.MathBitsCarry.m64), ?_, ?_⟩
    · simp only [add64Entry, Sem.run_bind, run_three _ x y c hp, Result.andThen_ok, Sem.run_pure]
    · simp only [Rel, RelL, addLo_nat, addHi_nat x y c hp]
      exact ⟨_, rfl, _, _, rfl, rfl, _, _, rfl, rfl, rfl⟩
  · cases hs
theorem specSub64_ok {P : Program} {f : FuncId} {fn : Func} (hf : P.funcs[f]? = some fn) (hname : (fn.name == "runtime.NumGoroutine") = false) (hb : fn.body.isNone = true) (hn : Extern.findNext fn = none) (he : Extern.find fn = some sub64Entry) : SpecOK P f specSub64 := by
  refine spec_of_extern hf hname hb hn he ?_
  intro svs pre r hs hp at_ w vs hr
  unfold specSub64 at hs
  split at hs
  · rename_i x y c
    simp only [Option.some.injEq, Prod.mk.injEq] at hs
    obtain ⟨rfl, rfl⟩ := hs
    replace hp := cpre_ok hp
    simp only [RelL, Rel] at hr
    obtain ⟨_, _, rfl, rfl, _, _, rfl, rfl, _, _, rfl, rfl, rfl⟩ := hr
    have := u64_lt x; have := u64_lt y
    refine ⟨Extern.MathBitsCarry.pair ((x.toNat + Extern.MathBitsCarry.m64 - y.toNat - c.toNat) % Extern.MathBitsCarry.m64) (if x.toNat < y.toNat + c.toNat then 1 else 0), ?_, ?_⟩
    · simp only [sub64Entry, Sem.run_bind, run_three _ x y c hp, Result.andThen_ok, Sem.run_pure]
    · simp only [Rel, RelL, subLo_nat, subHi_nat]
      have e : (x.toNat + 2 * 18446744073709551616 - y.toNat - c.toNat) % 18446744073709551616 = (x.toNat + Extern.MathBitsCarry.m64 - y.toNat - c.toNat) % Extern.MathBitsCarry.m64 := by
        have : Extern.MathBitsCarry.m64 = 18446744073709551616 := by decide
        rw [this]; omega
      rw [e]
      exact ⟨_, rfl, _, _, rfl, rfl, _, _, rfl, rfl, rfl⟩
  · cases hs

/-! Numbers of four words. -/
structure Four where
  w0 : UInt64
  w1 : UInt64
  w2 : UInt64
  w3 : UInt64
def Four.sv (a : Four) : SV := .agg [.u64 a.w0, .u64 a.w1, .u64 a.w2, .u64 a.w3]
def dFour : SV → Option Four
  | .agg [.u64 a, .u64 b, .u64 c, .u64 d] => some ⟨a, b, c, d⟩
  | _ => none
theorem dFour_ok {s : SV} {f : Four} (h : dFour s = some f) : s = f.sv := by
  unfold dFour at h
  split at h
  · simp only [Option.some.injEq] at h; subst h; rfl
  · cases h
end Go.Sym
/- How arguments and results are told as data; a function's specification out of a Lean function on data. -/
namespace Go.Sym
open Go.RowKit

class Enc (α : Type) where
  enc : α → SV
  dec : SV → Option α
  ok : ∀ {s : SV} {a : α}, dec s = some a → ∀ {at_ : At} {w : World} {v : Value}, Rel at_ w s v → Rel at_ w (enc a) v
  nn : ∀ a : α, (enc a).noName = true
class Args (α : Type) where
  encL : α → List SV
  decL : List SV → Option α
  ok : ∀ {s : List SV} {a : α}, decL s = some a → ∀ {at_ : At} {w : World} {v : List Value}, RelL at_ w s v → RelL at_ w (encL a) v
  nn : ∀ a : α, noNameL (encL a) = true
class RetL (β : Type) where
  retL : β → List SV

instance : Args Unit where
  encL _ := []
  decL | [] => some ()
       | _ => none
  ok := by
    intro s a h at_ w v r
    cases s with
    | nil => exact r
    | cons _ _ => cases h
  nn _ := rfl
instance {α β : Type} [Enc α] [Args β] : Args (α × β) where
  encL p := Enc.enc p.1 :: Args.encL p.2
  decL
    | x :: l => match Enc.dec (α := α) x, Args.decL (α := β) l with
      | some a, some b => some (a, b)
      | _, _ => none
    | [] => none
  ok := by
    intro s a h at_ w v r
    cases s with
    | nil => cases h
    | cons x l =>
      simp only at h
      split at h
      · rename_i a' b' ha hb
        simp only [Option.some.injEq] at h
        subst h
        simp only [RelL] at r
        obtain ⟨u, us, rfl, h1, h2⟩ := r
        exact RelL.cons (Enc.ok ha h1) (Args.ok hb h2)
      · cases h
  nn p := by simp only [noNameL, Enc.nn, Args.nn, Bool.and_self]
instance (priority := low) {α : Type} [Enc α] : RetL α where
  retL a := [Enc.enc a]
instance {α β : Type} [Enc α] [RetL β] : RetL (α × β) where
  retL p := Enc.enc p.1 :: RetL.retL p.2
instance : RetL Unit where
  retL _ := []

instance : Enc UInt64 where
  enc := .u64
  dec | .u64 x => some x
      | _ => none
  ok := by
    intro s a h at_ w v r
    cases s <;> simp only at h <;> first | (cases h; done) | (simp only [Option.some.injEq] at h; subst h; exact r)
  nn _ := rfl
instance : Enc UInt32 where
  enc := .u32
  dec | .u32 x => some x
      | _ => none
  ok := by
    intro s a h at_ w v r
    cases s <;> simp only at h <;> first | (cases h; done) | (simp only [Option.some.injEq] at h; subst h; exact r)
  nn _ := rfl
instance : Enc UInt8 where
  enc := .u8
  dec | .u8 x => some x
      | _ => none
  ok := by
    intro s a h at_ w v r
    cases s <;> simp only at h <;> first | (cases h; done) | (simp only [Option.some.injEq] at h; subst h; exact r)
  nn _ := rfl
instance : Enc Int where
  enc := .i64
  dec | .i64 x => some x
      | _ => none
  ok := by
    intro s a h at_ w v r
    cases s <;> simp only at h <;> first | (cases h; done) | (simp only [Option.some.injEq] at h; subst h; exact r)
  nn _ := rfl
instance : Enc Bool where
  enc := .bool
  dec | .bool x => some x
      | _ => none
  ok := by
    intro s a h at_ w v r
    cases s <;> simp only at h <;> first | (cases h; done) | (simp only [Option.some.injEq] at h; subst h; exact r)
  nn _ := rfl
instance : Enc Four where
  enc := Four.sv
  dec := dFour
  ok := by
    intro s a h at_ w v r
    rw [dFour_ok h] at r; exact r
  nn _ := rfl
theorem nil_lst {at_ : At} {w : World} {s : SV} {v : Value} {l : LV} (hl : l.len = 0) (hs : ∃ c, s = .val (.slice none 0 c)) (r : Rel at_ w s v) : Rel at_ w (.lst l) v := by
  obtain ⟨c, rfl⟩ := hs
  simp only [Rel] at r ⊢
  refine ⟨none, c, by rw [hl]; exact r, by omega, fun j u hj => ?_⟩
  have : l.vals = [] := List.eq_nil_of_length_eq_zero (by rw [LV.len_vals, hl])
  rw [this] at hj; simp at hj
instance : Enc (List UInt8) where
  enc l := .lst (.bytes l)
  dec | .lst (.bytes l) => some l
      | .val (.slice none 0 _) => some []
      | _ => none
  ok := by
    intro s a h at_ w v r
    split at h
    · simp only [Option.some.injEq] at h; subst h; exact r
    · rename_i c
      simp only [Option.some.injEq] at h; subst h; exact nil_lst rfl ⟨c, rfl⟩ r
    · cases h
  nn _ := rfl
theorem num_ints {at_ : At} {w : World} {n : Nat} {v : Value} : Rel at_ w (.lst (.num n)) v ↔ Rel at_ w (.lst (.ints (Dig.dg n))) v := by simp only [Rel, LV.vals, LV.len]
instance : Enc (List Int) where
  enc l := .lst (.ints l)
  dec | .lst (.ints l) => some l
      | .lst (.num n) => some (Dig.dg n)
      | .val (.slice none 0 _) => some []
      | _ => none
  ok := by
    intro s a h at_ w v r
    split at h
    · simp only [Option.some.injEq] at h; subst h; exact r
    · simp only [Option.some.injEq] at h; subst h; exact num_ints.1 r
    · rename_i c
      simp only [Option.some.injEq] at h; subst h; exact nil_lst rfl ⟨c, rfl⟩ r
    · cases h
  nn _ := rfl
/-- A number, as its digits. -/
structure Num where
  n : Nat
instance : Enc Num where
  enc a := .lst (.num a.n)
  dec | .lst (.num n) => some ⟨n⟩
      | .val (.slice none 0 _) => some ⟨0⟩
      | _ => none
  ok := by
    intro s a h at_ w v r
    split at h
    · simp only [Option.some.injEq] at h; subst h; exact r
    · rename_i c
      simp only [Option.some.injEq] at h; subst h; exact nil_lst (by simp [LV.len, Dig.dg_zero]) ⟨c, rfl⟩ r
    · cases h
  nn _ := rfl
/-- It reads as a number. -/
def isNum (n : Nat) (x : SV) : Prop := x = .lst (.num n) ∨ x = .lst (.ints (Dig.dg n)) ∨ (n = 0 ∧ x = .val (.slice none 0 0))
theorem isNum_ok {n : Nat} {x : SV} (h : isNum n x) {at_ : At} {w : World} {v : Value} (r : Rel at_ w x v) : Rel at_ w (.lst (.num n)) v := by
  rcases h with rfl | rfl | ⟨rfl, rfl⟩
  · exact r
  · exact num_ints.2 r
  · exact nil_lst (by simp [LV.len, Dig.dg_zero]) ⟨0, rfl⟩ r
instance : Enc (List UInt64) where
  enc l := .lst (.words l)
  dec | .lst (.words l) => some l
      | .val (.slice none 0 _) => some []
      | _ => none
  ok := by
    intro s a h at_ w v r
    split at h
    · simp only [Option.some.injEq] at h; subst h; exact r
    · rename_i c
      simp only [Option.some.injEq] at h; subst h; exact nil_lst rfl ⟨c, rfl⟩ r
    · cases h
  nn _ := rfl

/-- A function's specification: under 'pre', its results are those of f. -/
def fspec {α β : Type} [Args α] [RetL β] (pre : α → Option Prop) (f : α → β) : SpecF := fun l =>
  match Args.decL l with
  | some a => some (pre a, retSV (RetL.retL (f a)))
  | none => none
def total {α : Type} : α → Option Prop := fun _ => none

theorem of_eq_prop {p q : Prop} (h : p = q) (hq : q) : p := h ▸ hq
/-- What a body's proposition comes to where nothing is left to show. -/
def Same (x : SV) : Prop := x = x
def times : Nat → Prop → Prop → Prop
  | 0, _, p => p
  | n + 1, c, p => c ∧ times n c p
theorem times_mk {c p : Prop} (hc : c) (hp : p) : ∀ n, times n c p
  | 0 => hp
  | n + 1 => ⟨hc, times_mk hc hp n⟩
theorem all_of_map {f g : Nat → Prop} (N : Nat) (h : (List.range N).map f = (List.range N).map g) (n : Nat) (hn : n < N) (hg : g n) : f n := by
  have := congrArg (fun l => l[n]?) h
  simp only [List.getElem?_map, List.getElem?_range hn, Option.map_some, Option.some.injEq] at this
  exact this ▸ hg
theorem Same.mk (x : SV) : Same x := rfl

section
variable {P : Program} {tt : TT} {sp : Specs} {α β : Type} [Args α] [RetL β]

theorem fn_calls (hm : P.follows .mixedOrders = true) (hT : TTOK P tt) (hS : SpecsOK P sp) {f : FuncId} {fn : Func} {c : Code} (hf : P.funcs[f]? = some fn) (hb : fn.body = some c) {svs : List SV} {Q : SV → Prop}
    (H : ∀ at0 w0, Clean 0 at0 → AWp P at0 w0 c (init svs fn.ntmps) (finK tt fn.results.toList Q)) (hn : noNameL svs = true) {at_ : At} {vs : List Value} {w : World} (hat : ∀ n g, at_ n = some g → g < w.heap.size) (hout : ∀ g, (at_.out g ∨ ∃ n b c k, at_.gn n = .live g b c k) → g < w.heap.size) (hr : RelL at_ w svs vs) :
    Calls P f (List.toArray vs) w fun e w' => ∃ v, e = .returned v ∧ ∃ r, Q r ∧ Rel at_ w' r v ∧ Below w.heap.size w w' := calls_of_awp hm hT hS hf hb H hn hat hout hr

/-- From the body, with loops met by hand. -/
theorem fn_awp (hm : P.follows .mixedOrders = true) (hT : TTOK P tt) (hS : SpecsOK P sp) {f : FuncId} {fn : Func} {c : Code} (hf : P.funcs[f]? = some fn) (hname : (fn.name == "runtime.NumGoroutine") = false) (hb : fn.body = some c) {pre : α → Option Prop} {g : α → β}
    (H : ∀ a, Ok (pre a) → ∀ at0 w0, Clean 0 at0 → AWp P at0 w0 c (init (Args.encL a) fn.ntmps) (finK tt fn.results.toList (fun x => x = retSV (RetL.retL (g a))))) : SpecOK P f (fspec pre g) := by
  intro at_ w svs vs pr r hat hout hs hp hr
  unfold fspec at hs
  split at hs
  · rename_i a ha
    simp only [Option.some.injEq, Prod.mk.injEq] at hs
    obtain ⟨rfl, rfl⟩ := hs
    have hrun : (callFunc f (List.toArray vs)).run P w = .ok (.enter f (List.toArray vs)) w := by
      have h1 : fn.name ≠ "runtime.NumGoroutine" := by simpa using hname
      simp [callFunc, hf, h1, hb]
    rw [hrun]
    refine (calls_of_awp hm hT hS hf hb (H a hp) (Args.nn a) hat hout (Args.ok ha hr)).mono ?_
    rintro e w' ⟨v, h1, r', h2, h3, h4⟩
    rw [h2] at h3
    exact ⟨v, h1, h3, h4⟩
  · cases hs
/-- The body's proposition under decisions. -/
def FnRaw (tt : TT) (sp : Specs) (fuel : Nat) (D : Dec) (fn : Func) (g : α → β) (a : α) : Prop := vc tt sp fuel D (fn.body.getD .skip) (init (Args.encL a) fn.ntmps) (finK tt fn.results.toList (fun x => x = retSV (RetL.retL (g a))))
structure FnVD (tt : TT) (sp : Specs) (fuel : Nat) (D : Dec) (fn : Func) (g : α → β) (a : α) : Prop where
  out : FnRaw tt sp fuel D fn g a
theorem FnVD.raw {tt : TT} {sp : Specs} {fuel : Nat} {D : Dec} {fn : Func} {g : α → β} {a : α} (t : β) (h : g a = t) (k : FnRaw tt sp fuel D fn (fun _ : α => t) a) : FnVD tt sp fuel D fn g a := by
  refine ⟨?_⟩
  unfold FnRaw at *; rw [h]; exact k
theorem FnVD.of {tt : TT} {sp : Specs} {fuel : Nat} {D : Dec} {fn : Func} {g : α → β} {a : α} (t : β) (h : g a = t) {E : Prop} (hE : FnRaw tt sp fuel D fn (fun _ : α => t) a = E) (k : E) : FnVD tt sp fuel D fn g a := FnVD.raw t h (by rw [hE]; exact k)
/-- From the body's proposition, under decisions that are the arguments' own. -/
theorem fn_okD (hm : P.follows .mixedOrders = true) (hT : TTOK P tt) (hS : SpecsOK P sp) (fuel : Nat) {f : FuncId} {fn : Func} (hf : P.funcs[f]? = some fn) (hname : (fn.name == "runtime.NumGoroutine") = false) (hb : fn.body.isSome = true) {pre : α → Option Prop} {g : α → β}
    (H : ∀ a, Ok (pre a) → ∃ D, FnVD tt sp fuel D fn g a) : SpecOK P f (fspec pre g) := by
  obtain ⟨c, hc⟩ := Option.isSome_iff_exists.1 hb
  refine fn_awp hm hT hS hf hname hc fun a hp _ _ _ => ?_
  obtain ⟨D, ⟨h⟩⟩ := H a hp
  refine vc_ok (fuel := fuel) (D := D) hm hT hS c _ _ ?_
  unfold FnRaw at h
  rw [hc] at h
  exact h
/-- The body's proposition. -/
def FnVC (tt : TT) (sp : Specs) (fuel : Nat) (fn : Func) (g : α → β) (a : α) : Prop := vc tt sp fuel [] (fn.body.getD .skip) (init (Args.encL a) fn.ntmps) (finK tt fn.results.toList (fun x => x = retSV (RetL.retL (g a))))
/-- From the body's proposition, as a machine computes it. -/
theorem fn_ok (hm : P.follows .mixedOrders = true) (hT : TTOK P tt) (hS : SpecsOK P sp) (fuel : Nat) {f : FuncId} {fn : Func} (hf : P.funcs[f]? = some fn) (hname : (fn.name == "runtime.NumGoroutine") = false) (hb : fn.body.isSome = true) {pre : α → Option Prop} {g : α → β}
    (E : α → Prop) (hE : ∀ a, FnVC tt sp fuel fn g a = E a) (H : ∀ a, Ok (pre a) → E a) : SpecOK P f (fspec pre g) := by
  obtain ⟨c, hc⟩ := Option.isSome_iff_exists.1 hb
  refine fn_awp hm hT hS hf hname hc fun a hp _ _ _ => vc_ok (fuel := fuel) (D := []) hm hT hS c _ _ ?_
  have := hE a ▸ H a hp
  unfold FnVC at this
  rw [hc] at this
  exact this
end
end Go.Sym
/- Functions that write what their arguments lead to. -/
namespace Go.Sym
open Go.RowKit

/-- The callee's name of a block told as the caller's. -/
def ren (bs : List Nat) : SV → Option SV
  | .ptr i off => (bs[i]?).map (.ptr · off)
  | .slc i off len cap => (bs[i]?).map (.slc · off len cap)
  | .sl i lo len => (bs[i]?).map (.sl · lo len)
  | .lp i j => (bs[i]?).map (.lp · j)
  | s => if s.noName = true then some s else none
def renL (bs : List Nat) : List SV → Option (List SV)
  | [] => some []
  | s :: l => match ren bs s, renL bs l with
    | some r, some rs => some (r :: rs)
    | _, _ => none
def initM (args : List SV) (n : Nat) (M0 : List Blk) : St := ⟨args ++ List.replicate (n - args.length) .any, M0.map some⟩
def takeM : Nat → List (Option Blk) → Option (List Blk)
  | 0, _ => some []
  | k + 1, some b :: M => if noNameL b = true then (takeM k M).map (b :: ·) else none
  | _, _ => none
def finM (tt : TT) (fr : List ResultVar) (k : Nat) (Q : SV → List Blk → Prop) : KT := fun e st =>
  match e with
  | .normal | .ret => match resAll tt st fr with
    | some vs => match (retSV vs).noName with
      | true => match takeM k st.M with
        | some M1 => Q (retSV vs) M1
        | none => False
      | false => False
    | none => False
  | _ => False

theorem takeM_ok : ∀ {k : Nat} {M : List (Option Blk)} {M1 : List Blk}, takeM k M = some M1 → M1.length = k ∧ ∀ (i : Nat) (cs : Blk), M1[i]? = some cs → M[i]? = some (some cs) ∧ noNameL cs = true
  | 0, _, _, h => by simp only [takeM, Option.some.injEq] at h; subst h; exact ⟨rfl, fun i cs h => by simp at h⟩
  | k + 1, [], _, h => by simp [takeM] at h
  | k + 1, none :: M, _, h => by simp [takeM] at h
  | k + 1, some b :: M, M1, h => by
    simp only [takeM] at h
    split at h
    · rename_i hn
      obtain ⟨L, hL, e⟩ := Option.map_eq_some_iff.1 h
      subst e
      obtain ⟨h1, h2⟩ := takeM_ok hL
      refine ⟨by simp [h1], fun i cs hi => ?_⟩
      cases i with
      | zero => simp at hi; subst hi; exact ⟨rfl, hn⟩
      | succ i => simp at hi; simpa using h2 i cs hi
    · cases h
theorem applyWs_zip : ∀ {bs : List Nat} {L : List Blk} (M : List (Option Blk)), bs.Nodup → bs.length = L.length → (∀ b ∈ bs, b < M.length) → ∀ (i b : Nat) (cs : Blk), bs[i]? = some b → L[i]? = some cs → (applyWs M (bs.zip L))[b]? = some (some cs)
  | [], _, _, _, _, _, i, b, cs, h, _ => by simp at h
  | b0 :: bs, [], _, _, h, _, _, _, _, _, _ => by simp at h
  | b0 :: bs, l0 :: L, M, hnd, hlen, hlt, i, b, cs, hb, hc => by
    rw [List.nodup_cons] at hnd
    simp only [List.zip_cons_cons, applyWs, List.foldl_cons]
    have hlen' : bs.length = L.length := by simpa using hlen
    cases i with
    | zero =>
      simp at hb hc
      subst hb; subst hc
      have : ∀ p ∈ bs.zip L, p.1 ≠ b0 := fun p hp e => hnd.1 (e ▸ (List.of_mem_zip hp).1)
      have h1 := applyWs_get (bs.zip L) (M.set b0 (some l0)) b0 this
      unfold applyWs at h1
      rw [h1, List.getElem?_set_self (hlt b0 (by simp))]
    | succ i =>
      simp at hb hc
      have := applyWs_zip (M.set b0 (some l0)) hnd.2 hlen' (fun b hb => by rw [List.length_set]; exact hlt b (by simp [hb])) i b cs hb hc
      exact this

section
variable {P : Program} {tt : TT} {sp : Specs}
theorem ren_ok {at_ at0 : At} {w : World} {bs : List Nat} (hnm : ∀ (i b : Nat), bs[i]? = some b → at0 i = at_ b) (hgn : ∀ (i b : Nat), bs[i]? = some b → at0.gn i = at_.gn b) (hfix : ∀ g, Fix at_ g → Fix at0 g) : ∀ (s s1 : SV) (v : Value), ren bs s = some s1 → Rel at_ w s1 v → Rel at0 w s v := by
  intro s s1 v h r
  have key : (if s.noName = true then some s else none) = some s1 → Rel at0 w s v := by
    intro h
    split at h
    · rename_i hn
      simp only [Option.some.injEq] at h; subst h
      exact Rel.noName hfix _ _ hn r
    · cases h
  cases s with
  | ptr i off =>
    simp only [ren] at h
    obtain ⟨b, hb, e⟩ := Option.map_eq_some_iff.1 h
    subst e
    simp only [Rel] at r ⊢
    rw [hnm i b hb]; exact r
  | slc i off len cap =>
    simp only [ren] at h
    obtain ⟨b, hb, e⟩ := Option.map_eq_some_iff.1 h
    subst e
    simp only [Rel] at r ⊢
    rw [hnm i b hb]; exact r
  | sl i lo len =>
    simp only [ren] at h
    obtain ⟨b, hb, e⟩ := Option.map_eq_some_iff.1 h
    subst e
    simp only [Rel] at r ⊢
    rw [hgn i b hb]; exact r
  | lp i j =>
    simp only [ren] at h
    obtain ⟨b, hb, e⟩ := Option.map_eq_some_iff.1 h
    subst e
    simp only [Rel] at r ⊢
    rw [hgn i b hb]; exact r
  | _ => exact key h
theorem renL_ok {at_ at0 : At} {w : World} {bs : List Nat} (hnm : ∀ (i b : Nat), bs[i]? = some b → at0 i = at_ b) (hgn : ∀ (i b : Nat), bs[i]? = some b → at0.gn i = at_.gn b) (hfix : ∀ g, Fix at_ g → Fix at0 g) : ∀ (s s1 : List SV) (v : List Value), renL bs s = some s1 → RelL at_ w s1 v → RelL at0 w s v
  | [], _, _, h, r => by simp only [renL, Option.some.injEq] at h; subst h; simpa only [RelL] using r
  | s :: l, _, _, h, r => by
    simp only [renL] at h
    split at h
    · rename_i s1 l1 h1 h2
      simp only [Option.some.injEq] at h; subst h
      simp only [RelL] at r
      obtain ⟨u, us, rfl, r1, r2⟩ := r
      exact RelL.cons (ren_ok hnm hgn hfix _ _ _ h1 r1) (renL_ok hnm hgn hfix _ _ _ h2 r2)
    · cases h

/-- A function that writes what its arguments lead to. -/
theorem mspec_of_awp (hT : TTOK P tt) {f : FuncId} {fn : Func} {c : Code} (hf : P.funcs[f]? = some fn) (hname : (fn.name == "runtime.NumGoroutine") = false) (hb : fn.body = some c) {s : MSpecF}
    (H : ∀ look svs out, s look svs = some out → Ok out.pre → ∃ (bs : List Nat) (M0 M1 : List Blk) (svs0 svs1 : List SV),
      bs.Nodup ∧ bs.length = M0.length ∧ (∀ (i b : Nat), bs[i]? = some b → ∃ cs : Blk, M0[i]? = some cs ∧ look b = some cs) ∧ (∀ cs ∈ M0, noNameL cs = true) ∧
      (∀ (at_ : At) w vs, RelL at_ w svs vs → RelL at_ w svs1 vs) ∧ renL bs svs0 = some svs1 ∧ out.ws = bs.zip M1 ∧
      (∀ at0 w0, Clean M0.length at0 → AWp P at0 w0 c (initM svs0 fn.ntmps M0) (finM tt fn.results.toList M0.length (fun r M => r = out.sv ∧ M = M1)))) : MSpecOK P f s := by
  intro at_ M w look svs vs out hM hlook hs hp hr
  obtain ⟨bs, M0, M1, svs0, svs1, hnd, hlen, hbs, hn0, hrel, hren, hws, H⟩ := H look svs out hs hp
  have hrun : (callFunc f (List.toArray vs)).run P w = .ok (.enter f (List.toArray vs)) w := by
    have h1 : fn.name ≠ "runtime.NumGoroutine" := by simpa using hname
    simp [callFunc, hf, h1, hb]
  rw [hrun]
  have hr1 := hrel _ _ _ hr
  have hMb : ∀ (i b : Nat), bs[i]? = some b → ∃ cs : Blk, M0[i]? = some cs ∧ M[b]? = some (some cs) := fun i b h => by
    obtain ⟨cs, h1, h2⟩ := hbs i b h; exact ⟨cs, h1, hlook _ _ h2⟩
  let at0 : At := ⟨fun i => (bs[i]?).bind at_, fun g => (∃ n, at_ n = some g ∧ n ∉ bs) ∨ at_.out g ∨ ∃ n b c k, n ∉ bs ∧ at_.gn n = .live g b c k, fun i => match bs[i]? with | some b => at_.gn b | none => .unborn⟩
  have nm0 : ∀ (i g : Nat), at0 i = some g → ∃ b, bs[i]? = some b ∧ at_ b = some g := fun i g h => by
    simp only [at0] at h
    obtain ⟨b, h1, h2⟩ := Option.bind_eq_some_iff.1 h
    exact ⟨b, h1, h2⟩
  have nm1 : ∀ (i b : Nat), bs[i]? = some b → at0 i = at_ b := fun i b h => by simp only [at0, h, Option.bind_some]
  have gn1 : ∀ (i b : Nat), bs[i]? = some b → at0.gn i = at_.gn b := fun i b h => by simp only [at0, h]
  have gn0 : ∀ (i : Nat), at0.gn i ≠ .unborn → ∃ b, bs[i]? = some b ∧ at0.gn i = at_.gn b := fun i h => by
    cases hb : bs[i]? with
    | none => simp only [at0, hb] at h; exact absurd rfl h
    | some b => exact ⟨b, rfl, gn1 i b hb⟩
  have gl0 : ∀ (i g b c k : Nat), at0.gn i = .live g b c k → ∃ n, bs[i]? = some n ∧ at_.gn n = .live g b c k := fun i g b c k h => by
    obtain ⟨n, h1, h2⟩ := gn0 i (by rw [h]; simp)
    exact ⟨n, h1, by rw [← h2, h]⟩
  have fixA : ∀ g, Fix at_ g → Fix at0 g := fun g h => ⟨fun n e => by obtain ⟨b, _, h2⟩ := nm0 _ _ e; exact h.1 b h2, fun e => by
    rcases e with ⟨n, e, _⟩ | e | ⟨n, b, c, k, _, e⟩
    · exact h.1 n e
    · exact h.2.1 e
    · exact h.2.2 n b c k e, fun i b c k e => by obtain ⟨n, _, e'⟩ := gl0 _ _ _ _ _ e; exact h.2.2 n b c k e'⟩
  have idx : ∀ n m b, bs[n]? = some b → bs[m]? = some b → n = m := fun n m b h h' => by
    obtain ⟨l1, l2⟩ := List.getElem?_eq_some_iff.1 h
    obtain ⟨l1', l2'⟩ := List.getElem?_eq_some_iff.1 h'
    have hpw := List.pairwise_iff_getElem.1 hnd
    rcases Nat.lt_trichotomy n m with h | h | h
    · exact absurd (l2.trans l2'.symm) (hpw n m l1 l1' h)
    · exact h
    · exact absurd (l2'.trans l2.symm) (hpw m n l1' l1 h)
  have hmem0 : MemOK at0 (M0.map some) w := by
    have find : ∀ (i : Nat) (cs : Blk), (M0.map some)[i]? = some (some cs) → ∃ h : i < bs.length, M0[i]? = some cs ∧ M[bs[i]]? = some (some cs) := fun i cs e => by
      rw [List.getElem?_map] at e
      obtain ⟨cs', h1, h2⟩ := Option.map_eq_some_iff.1 e
      simp only [Option.some.injEq] at h2; subst h2
      have hi : i < bs.length := by rw [hlen]; exact (List.getElem?_eq_some_iff.1 h1).1
      obtain ⟨cs'', h3, h4⟩ := hMb i bs[i] (List.getElem?_eq_getElem hi)
      rw [h1] at h3; cases h3
      exact ⟨hi, h1, h4⟩
    refine ⟨fun i g cs e0 e => ?_, fun n m g e e' => ?_, fun i g e => ?_, fun g h => ?_, fun n l e => ?_, fun n m g b c k b' c' k' e e' => ?_, fun n m g b c k e e' => ?_, fun n e => ?_, fun n g b c k e => ?_, fun n g b c k e => ?_⟩
    · obtain ⟨hi, h1, h4⟩ := find i cs e
      rw [nm1 i bs[i] (List.getElem?_eq_getElem hi)] at e0
      obtain ⟨ty, us, k2, k3⟩ := hM.blk _ _ _ e0 h4
      exact ⟨ty, us, k2, RelL.noName fixA _ _ (hn0 _ (List.mem_of_getElem? h1)) k3⟩
    · obtain ⟨b, h1, h2⟩ := nm0 _ _ e
      obtain ⟨b', h1', h2'⟩ := nm0 _ _ e'
      have := hM.inj _ _ _ h2 h2'; subst this
      exact idx _ _ _ h1 h1'
    · obtain ⟨b, h1, h2⟩ := nm0 _ _ e
      obtain ⟨cs, h3, h4⟩ := hMb _ _ h1
      exact ⟨(hM.dom _ _ h2).1, cs, by rw [List.getElem?_map, h3]; rfl⟩
    · rcases h with ⟨n, h, _⟩ | h | ⟨n, b, c, k, _, h⟩
      · exact (hM.dom _ _ h).1
      · exact hM.outlt g h
      · exact hM.gsz _ _ _ _ _ h
    · obtain ⟨hi, h1, h4⟩ := find n _ e
      rw [gn1 n bs[n] (List.getElem?_eq_getElem hi)]
      exact hM.glk _ _ h4
    · obtain ⟨a1, h1, h2⟩ := gl0 _ _ _ _ _ e
      obtain ⟨a2, h1', h2'⟩ := gl0 _ _ _ _ _ e'
      have := hM.ginj _ _ _ _ _ _ _ _ _ h2 h2'; subst this
      exact idx _ _ _ h1 h1'
    · obtain ⟨a1, h1, h2⟩ := nm0 _ _ e
      obtain ⟨a2, h1', h2'⟩ := gl0 _ _ _ _ _ e'
      exact hM.gap _ _ _ _ _ _ h2 h2'
    · obtain ⟨b, h1, h2⟩ := gn0 _ e
      obtain ⟨cs, h3, h4⟩ := hMb _ _ h1
      exact ⟨cs, by rw [List.getElem?_map, h3]; rfl⟩
    · obtain ⟨a2, h1', h2'⟩ := gl0 _ _ _ _ _ e
      exact hM.gsz _ _ _ _ _ h2'
    · obtain ⟨a2, h1', h2'⟩ := gl0 _ _ _ _ _ e
      rintro (⟨m, h, _⟩ | h | ⟨m, b', c', k', hm, h⟩)
      · exact hM.gap _ _ _ _ _ _ h h2'
      · exact hM.gout _ _ _ _ _ h2' h
      · have := hM.ginj _ _ _ _ _ _ _ _ _ h h2'; subst this
        exact hm (List.mem_of_getElem? h1')
  have hlenv := hr1.length
  have hrel0 : RelL at0 w svs0 vs := renL_ok nm1 gn1 fixA _ _ _ hren hr1
  have hlen0 := hrel0.length
  have hstart : Reps at0 w (initM svs0 fn.ntmps M0) { tmps := List.toArray vs ++ Array.replicate (fn.ntmps - (List.toArray vs).size) Go.undef, defers := [] } w := by
    refine ⟨at0, Later.refl _ _, hmem0, ?_, rfl⟩
    simp only [initM, Array.toList_append, Array.toList_replicate, List.size_toArray, hlen0]
    exact RelL.append hrel0 (RelL.replicate _ (by simp only [Rel]))
  have hcalls : Calls P f (List.toArray vs) w fun e w' => ∃ v, e = .returned v ∧ Post at_ w M out.ws out.sv v w' := by
    refine calls_of_wp hf hb ?_
    refine Code.wp_mono ?_ (H at0 w (fun n hn => by have e : bs[n]? = none := List.getElem?_eq_none (by omega); simp [at0, e]) _ _ hstart)
    rintro e a' w' ⟨st', ⟨at', hl, hM', hT', hd⟩, hk⟩
    have fin : finM tt fn.results.toList M0.length (fun r M => r = out.sv ∧ M = M1) .ret st' →
        a'.defers = [] ∧ ∃ v, (results fn a'.tmps).run P w' = .ok v w' ∧ ∃ u, Ending.returned v = .returned u ∧ Post at_ w M out.ws out.sv u w' := by
      intro hk
      refine ⟨hd, ?_⟩
      simp only [finM] at hk
      split at hk
      · rename_i svs' hres
        split at hk
        · rename_i hnn
          split at hk
          · rename_i M1' htake
            obtain ⟨hk1, hk2⟩ := hk
            subst hk2
            obtain ⟨us, h1, h2⟩ := resAll_ok hT hM' hT' _ _ hres
            have hrun := results_run h1
            refine ⟨_, hrun, _, rfl, ?_⟩
            have hrelr : Rel at' w' (retSV svs') (retV us) := by
              rcases svs' with _ | ⟨s, _ | ⟨s', ss⟩⟩
              · simp only [RelL] at h2; subst h2; simp only [retSV, Rel]; exact ⟨[], rfl, RelL.nil⟩
              · simp only [RelL] at h2
                obtain ⟨v, vs', rfl, h3, rfl⟩ := h2
                exact h3
              · have h2' := h2
                simp only [RelL] at h2
                obtain ⟨v, vs', rfl, h3, v', vs'', rfl, h4, h5⟩ := h2
                simp only [retSV, Rel]
                exact ⟨_, rfl, h2'⟩
            obtain ⟨t1, t2⟩ := takeM_ok htake
            let atF : At := ⟨at_.nm, at_.out, fun n => if n ∈ bs then at'.gn (bs.idxOf n) else at_.gn n⟩
            have hidx : ∀ n, n ∈ bs → bs[bs.idxOf n]? = some n := fun n hn => by
              have hlt := List.idxOf_lt_length_iff.2 hn
              rw [List.getElem?_eq_getElem hlt, List.getElem_idxOf]
            have gF : ∀ n g b c k, atF.gn n = .live g b c k → (n ∈ bs ∧ at'.gn (bs.idxOf n) = .live g b c k) ∨ (n ∉ bs ∧ at_.gn n = .live g b c k) := fun n g b c k h => by
              simp only [atF] at h
              split at h
              · exact .inl ⟨by assumption, h⟩
              · exact .inr ⟨by assumption, h⟩
            have fixB : ∀ g, Fix at' g → Fix atF g := fun g h => ⟨fun n e => by
              by_cases hn : n ∈ bs
              · exact h.1 _ (hl.name _ _ (by rw [nm1 _ n (hidx n hn)]; exact e))
              · exact h.2.1 (by rw [hl.out]; exact .inl ⟨n, e, hn⟩), fun e => h.2.1 (by rw [hl.out]; exact .inr (.inl e)), fun n b c k e => by
              rcases gF _ _ _ _ _ e with ⟨_, e⟩ | ⟨hn, e⟩
              · exact h.2.2 _ _ _ _ e
              · exact h.2.1 (by rw [hl.out]; exact .inr (.inr ⟨n, b, c, k, hn, e⟩))⟩
            have keepF : ∀ g, (∀ n, at_ n ≠ some g ∨ n ∉ bs) → (∀ n b c k, at_.gn n ≠ .live g b c k ∨ n ∉ bs) → g < w.heap.size → (∀ n b c k, at'.gn n ≠ .live g b c k) ∧ w'.heap[g]? = w.heap[g]? := fun g hg hg' hlt =>
              (hl.keep g (fun n e => by
                obtain ⟨b, h1, h2⟩ := nm0 _ _ e
                rcases hg b with h | h
                · exact h h2
                · exact h (List.mem_of_getElem? h1)) (fun n b c k e => by
                obtain ⟨m, h1, h2⟩ := gl0 _ _ _ _ _ e
                rcases hg' m b c k with h | h
                · exact h h2
                · exact h (List.mem_of_getElem? h1)) hlt).2
            have hl' : Later at_ w atF w' := by
              refine ⟨hl.os, hl.tape, hl.output, hl.size, fun _ _ h => h, fun g hg hg' hlt => ?_, rfl, fun _ _ h => .inl h, fun n => ?_, fun n g b c k e => ?_⟩
              · obtain ⟨h1, h2⟩ := keepF g (fun n => .inl (hg n)) (fun n b c k => .inl (hg' n b c k)) hlt
                exact ⟨hg, fun n b c k e => by
                  rcases gF _ _ _ _ _ e with ⟨_, e⟩ | ⟨_, e⟩
                  · exact h1 _ _ _ _ e
                  · exact hg' _ _ _ _ e, h2⟩
              · by_cases hn : n ∈ bs
                · simp only [atF, hn, if_true]
                  have := hl.gname (bs.idxOf n)
                  rw [gn1 _ n (hidx n hn)] at this
                  exact this
                · simp only [atF, hn, if_false]; exact .inr (.inl trivial)
              · rcases gF _ _ _ _ _ e with ⟨_, e⟩ | ⟨_, e⟩
                · rcases hl.gnew _ _ _ _ _ e with ⟨m, b', c', k', e'⟩ | e'
                  · obtain ⟨q, _, e2⟩ := gl0 _ _ _ _ _ e'
                    exact .inl ⟨q, _, _, _, e2⟩
                  · exact .inr e'
                · exact .inl ⟨n, b, c, k, e⟩
            have hblt : ∀ b ∈ bs, b < M.length := fun b hb => by
              obtain ⟨i, hi⟩ := List.getElem?_of_mem hb
              obtain ⟨cs, _, h4⟩ := hMb i b hi
              exact (List.getElem?_eq_some_iff.1 h4).1
            have some1 : ∀ n, n ∈ bs → ∃ h : bs.idxOf n < M1'.length, (applyWs M out.ws)[n]? = some (some M1'[bs.idxOf n]) := fun n hn => by
              have hil : bs.idxOf n < M1'.length := by rw [t1, ← hlen]; exact List.idxOf_lt_length_iff.2 hn
              refine ⟨hil, ?_⟩
              rw [hws]
              exact applyWs_zip M hnd (by rw [t1, hlen]) hblt _ n _ (hidx n hn) (List.getElem?_eq_getElem hil)
            have none1 : ∀ n, n ∉ bs → (applyWs M out.ws)[n]? = M[n]? := fun n hn => by
              rw [hws]
              exact applyWs_get _ _ _ (fun p hp e => hn (e ▸ (List.of_mem_zip hp).1))
            have outF : ∀ g, at0.out g → at'.out g := fun g h => by rw [hl.out]; exact h
            refine ⟨atF, hl', ⟨fun n g cs e1 e => ?_, hM.inj, fun n g e => ⟨Nat.lt_of_lt_of_le (hM.dom n g e).1 hl.size, ?_⟩, fun g h => Nat.lt_of_lt_of_le (hM.outlt g h) hl.size, fun n l e => ?_, fun n m g b c k b' c' k' e e' => ?_, fun n m g b c k e e' => ?_, fun n e => ?_, fun n g b c k e => ?_, fun n g b c k e => ?_⟩, by rw [← hk1]; exact Rel.noName fixB _ _ hnn hrelr⟩
            · have e1' : at_ n = some g := e1
              by_cases hn : n ∈ bs
              · obtain ⟨hil, e2⟩ := some1 n hn
                rw [e2] at e
                simp only [Option.some.injEq] at e
                obtain ⟨k1, k2⟩ := t2 _ _ (List.getElem?_eq_getElem hil)
                have hnm := hl.name _ g (by rw [nm1 _ n (hidx n hn)]; exact e1')
                obtain ⟨ty, us', m2, m3⟩ := hM'.blk _ _ _ hnm k1
                exact ⟨ty, us', m2, by rw [← e]; exact RelL.noName fixB _ _ k2 m3⟩
              · rw [none1 n hn] at e
                obtain ⟨ty, us', m2, m3⟩ := hM.blk _ _ _ e1' e
                refine ⟨ty, us', ?_, RelL.later hl' _ _ m3⟩
                rw [(keepF g (fun m => ?_) (fun m b c k => .inl (hM.gap n m g b c k e1')) (lt_of_heap m2)).2]
                · exact m2
                · by_cases hm : at_ m = some g
                  · have := hM.inj _ _ _ hm e1'; subst this; exact .inr hn
                  · exact .inl hm
            · by_cases hn : n ∈ bs
              · obtain ⟨hil, e2⟩ := some1 n hn
                exact ⟨_, e2⟩
              · rw [none1 n hn]; exact (hM.dom n g e).2
            · by_cases hn : n ∈ bs
              · obtain ⟨hil, e2⟩ := some1 n hn
                rw [e2] at e
                simp only [Option.some.injEq] at e
                obtain ⟨k1, k2⟩ := t2 _ _ (List.getElem?_eq_getElem hil)
                rw [e] at k1
                have hg : atF.gn n = at'.gn (bs.idxOf n) := by simp only [atF, hn, if_true]
                rw [hg]; exact hM'.glk _ _ k1
              · rw [none1 n hn] at e
                have hg : atF.gn n = at_.gn n := by simp only [atF, hn, if_false]
                rw [hg]
                rcases hM.glk n l e with k | ⟨g, b, c, k1, k2⟩
                · exact .inl k
                · refine .inr ⟨g, b, c, k1, k2.mono (keepF g (fun m => .inl (fun e' => hM.gap m n g b c l.len e' k1)) (fun m b' c' k' => ?_) (hM.gsz _ _ _ _ _ k1)).2⟩
                  by_cases hm : at_.gn m = .live g b' c' k'
                  · have := hM.ginj _ _ _ _ _ _ _ _ _ hm k1; subst this; exact .inr hn
                  · exact .inl hm
            · rcases gF _ _ _ _ _ e with ⟨h1, h2⟩ | ⟨h1, h2⟩ <;> rcases gF _ _ _ _ _ e' with ⟨h1', h2'⟩ | ⟨h1', h2'⟩
              · have := hM'.ginj _ _ _ _ _ _ _ _ _ h2 h2'
                have q1 := hidx n h1
                rw [this, hidx m h1'] at q1
                simpa using q1.symm
              · exact (hM'.gout _ _ _ _ _ h2 (outF g (.inr (.inr ⟨m, _, _, _, h1', h2'⟩)))).elim
              · exact (hM'.gout _ _ _ _ _ h2' (outF g (.inr (.inr ⟨n, _, _, _, h1, h2⟩)))).elim
              · exact hM.ginj _ _ _ _ _ _ _ _ _ h2 h2'
            · have e1' : at_ n = some g := e
              rcases gF _ _ _ _ _ e' with ⟨h1', h2'⟩ | ⟨h1', h2'⟩
              · by_cases hn : n ∈ bs
                · exact hM'.gap _ _ _ _ _ _ (hl.name _ g (by rw [nm1 _ n (hidx n hn)]; exact e1')) h2'
                · exact hM'.gout _ _ _ _ _ h2' (outF g (.inl ⟨n, e1', hn⟩))
              · exact hM.gap _ _ _ _ _ _ e1' h2'
            · by_cases hn : n ∈ bs
              · obtain ⟨hil, e2⟩ := some1 n hn
                exact ⟨_, e2⟩
              · rw [none1 n hn]
                have hg : atF.gn n = at_.gn n := by simp only [atF, hn, if_false]
                rw [hg] at e
                exact hM.gdom n e
            · rcases gF _ _ _ _ _ e with ⟨_, h2⟩ | ⟨_, h2⟩
              · exact hM'.gsz _ _ _ _ _ h2
              · exact Nat.lt_of_lt_of_le (hM.gsz _ _ _ _ _ h2) hl.size
            · rcases gF _ _ _ _ _ e with ⟨_, h2⟩ | ⟨_, h2⟩
              · exact fun h => hM'.gout _ _ _ _ _ h2 (outF g (.inr (.inl h)))
              · exact hM.gout _ _ _ _ _ h2
          · exact hk.elim
        · exact hk.elim
      · exact hk.elim
    cases e with
    | normal => exact fin hk
    | ret => exact fin hk
    | exit id => exact hk.elim
    | goto l => exact hk.elim
    | panic ch => exact hk.elim
    | outgrown => exact hk.elim
  exact hcalls
end
end Go.Sym
/- Loops, met by what holds at their heads. -/
namespace Go.Sym
open Go.RowKit

/-- A name at a loop's head: that of a block that there was, or that of a list of no cells (in a slot). -/
inductive NM where
  | old (b : Nat)
  | nil (slot : Nat) (k : IntKind)
def NM.same : NM → NM → Bool
  | .old a, .old b => a == b
  | .nil a _, .nil b _ => a == b
  | _, _ => false
def NM.idx (x : NM) : List NM → Option Nat
  | [] => none
  | y :: l => if x.same y = true then some 0 else (NM.idx x l).map (· + 1)
def NM.nodup : List NM → Bool
  | [] => true
  | x :: l => (NM.idx x l).isNone && NM.nodup l
/-- The name that a slot's value leads to. -/
def nameOf (k slot : Nat) (kind : Option IntKind) : SV → Option NM
  | .ptr b _ | .slc b _ _ _ | .sl b _ _ | .lp b _ => if b < k then none else some (.old b)
  | .val (.slice none 0 0) => match kind with
    | some kd => some (.nil slot kd)
    | none => none
  | _ => none
def addN (names : List NM) : Option NM → List NM
  | some x => match NM.idx x names with
    | some _ => names
    | none => names ++ [x]
  | none => names
def collect (k : Nat) (T : List SV) : List (Nat × Option IntKind) → List NM → List NM
  | [], names => names
  | s :: l, names => collect k T l (addN names (nameOf k s.1 s.2 (T.getD s.1 .any)))
def canonV (k : Nat) (names : List NM) (slot : Nat) (kind : Option IntKind) (v : SV) : Option SV :=
  match v with
  | .ptr b off => if b < k then some v else (NM.idx (.old b) names).map fun j => .ptr (k + j) off
  | .slc b off len cap => if b < k then some v else (NM.idx (.old b) names).map fun j => .slc (k + j) off len cap
  | .sl b lo len => if b < k then some v else (NM.idx (.old b) names).map fun j => .sl (k + j) lo len
  | .lp b i => if b < k then some v else (NM.idx (.old b) names).map fun j => .lp (k + j) i
  | .val (.slice none 0 0) => match kind with
    | some kd => (NM.idx (.nil slot kd) names).map fun j => .sl (k + j) 0 0
    | none => some v
  | v => if v.noName = true then some v else none
def canonL (k : Nat) (names : List NM) (T : List SV) : List (Nat × Option IntKind) → Option (List SV)
  | [] => some []
  | s :: l => match canonV k names s.1 s.2 (T.getD s.1 .any), canonL k names T l with
    | some v, some vs => some (v :: vs)
    | _, _ => none
def nmBlk (M : List (Option Blk)) : NM → Option Blk
  | .old b => M.getD b none
  | .nil _ kd => (LV.rep kd 0).map fun l => [.own l]
def blkOK : Option Blk → Bool
  | some cs => noNameL cs
  | none => true
def nmOK (k : Nat) (M : List (Option Blk)) : NM → Bool
  | .old b => decide (k ≤ b) && blkOK (M.getD b none)
  | .nil _ kd => (LV.rep kd 0).isSome
def namesOK (k : Nat) (M : List (Option Blk)) (names : List NM) : Bool := (M.take k).all blkOK && (NM.nodup names && names.all (nmOK k M))
/-- A state as a loop's head sees it: what stays, what changes, the blocks. -/
def normN (k : Nat) (same : List Nat) (keep : List (Nat × Option IntKind)) (st : St) (names : List NM) : Option (List SV × List SV × List (Option Blk)) :=
  if namesOK k st.M names = true then
    match canonL k names st.T keep with
    | some vals => if noNameL (same.map fun i => st.T.getD i .any) = true then some (same.map (fun i => st.T.getD i .any), vals, st.M.take k ++ names.map (nmBlk st.M)) else none
    | none => none
  else none
def norm (k : Nat) (same : List Nat) (keep : List (Nat × Option IntKind)) (n : Nat) (st : St) : Option (List SV × List SV × List (Option Blk)) :=
  if st.T.length = n ∧ k ≤ st.M.length then normN k same keep st (collect k st.T keep []) else none
def lookS (i : Nat) : List Nat → List SV → Option SV
  | j :: js, v :: vs => if i == j then some v else lookS i js vs
  | _, _ => none
def place (n : Nat) (same : List Nat) (ss : List SV) (keep : List Nat) (vals : List SV) : List SV :=
  (List.range n).map fun i => match lookS i same ss with
    | some v => v
    | none => match lookS i keep vals with
      | some v => v
      | none => .any

/-! What it says of the model. -/
theorem NM.idx_ok {x : NM} : ∀ {l : List NM} {j : Nat}, NM.idx x l = some j → ∃ y, l[j]? = some y ∧ x.same y = true
  | [], _, h => by simp [NM.idx] at h
  | y :: l, j, h => by
    simp only [NM.idx] at h
    split at h
    · rename_i hs; simp only [Option.some.injEq] at h; subst h; exact ⟨y, rfl, hs⟩
    · obtain ⟨i, h1, h2⟩ := Option.map_eq_some_iff.1 h
      obtain ⟨z, h3, h4⟩ := NM.idx_ok h1
      subst h2
      exact ⟨z, by simpa using h3, h4⟩
theorem NM.idx_none {x : NM} : ∀ {l : List NM}, NM.idx x l = none → ∀ y ∈ l, x.same y = false
  | [], _, _, h => by simp at h
  | z :: l, h, y, hy => by
    simp only [NM.idx] at h
    split at h
    · cases h
    · rename_i hs
      rcases List.mem_cons.1 hy with rfl | hy
      · simpa using hs
      · exact NM.idx_none (by simpa using h) y hy
theorem NM.same_old {b : Nat} {y : NM} (h : (NM.old b).same y = true) : y = .old b := by
  cases y <;> simp [NM.same] at h
  subst h; rfl
theorem NM.nodup_ok : ∀ {l : List NM}, NM.nodup l = true → ∀ (i j b : Nat), l[i]? = some (.old b) → l[j]? = some (.old b) → i = j
  | [], _, i, _, _, h, _ => by simp at h
  | x :: l, h, i, j, b, hi, hj => by
    simp only [NM.nodup, Bool.and_eq_true] at h
    have hx : ∀ y ∈ l, x.same y = false := NM.idx_none (by simpa using h.1)
    cases i with
    | zero =>
      cases j with
      | zero => rfl
      | succ j =>
        simp at hi hj
        have := hx _ (List.mem_of_getElem? hj)
        subst hi
        simp [NM.same] at this
    | succ i =>
      cases j with
      | zero =>
        simp at hi hj
        have := hx _ (List.mem_of_getElem? hi)
        subst hj
        simp [NM.same] at this
      | succ j =>
        simp at hi hj
        rw [NM.nodup_ok h.2 i j b hi hj]

def und (k : Nat) (names : List NM) (n : Nat) : Option Nat :=
  if n < k then some n else match names[n - k]? with
    | some (.old b) => some b
    | _ => none
def atN (k : Nat) (names : List NM) (at_ : At) : At :=
  ⟨fun n => (und k names n).bind at_.nm, at_.out, fun n => if n < k then at_.gn n else match names[n - k]? with
    | some (.old b) => at_.gn b
    | some (.nil _ _) => .nil
    | none => .unborn⟩

section
variable {at0 at_ : At} {w0 w : World} {k : Nat} {names : List NM} {M : List (Option Blk)}
theorem atN_nm {n g : Nat} (h : (atN k names at_) n = some g) : ∃ b, und k names n = some b ∧ at_ b = some g := Option.bind_eq_some_iff.1 h
theorem atN_live {n g b c m : Nat} (h : (atN k names at_).gn n = .live g b c m) : ∃ q, und k names n = some q ∧ at_.gn q = .live g b c m := by
  simp only [atN] at h
  unfold und
  split at h
  · rename_i hk; rw [if_pos hk]; exact ⟨n, rfl, h⟩
  · rename_i hk
    rw [if_neg hk]
    split at h
    · rename_i b' hb; rw [hb]; exact ⟨b', rfl, h⟩
    · cases h
    · cases h
theorem und_inj (hn : NM.nodup names = true) (hk : ∀ b, NM.old b ∈ names → k ≤ b) {n m q : Nat} (h : und k names n = some q) (h' : und k names m = some q) : n = m := by
  unfold und at h h'
  split at h <;> split at h'
  · simp at h h'; omega
  · rename_i h1 h2
    split at h'
    · rename_i b hb; simp at h h'; have := hk _ (List.mem_of_getElem? hb); omega
    · cases h'
  · rename_i h1 h2
    split at h
    · rename_i b hb; simp at h h'; have := hk _ (List.mem_of_getElem? hb); omega
    · cases h
  · rename_i h1 h2
    split at h
    · rename_i b hb
      split at h'
      · rename_i b' hb'
        simp at h h'
        subst h; subst h'
        have := NM.nodup_ok hn _ _ _ hb hb'
        omega
      · cases h'
    · cases h
theorem fixN (g : Nat) (h : Fix at_ g) : Fix (atN k names at_) g :=
  ⟨fun n e => by obtain ⟨b, _, h2⟩ := atN_nm e; exact h.1 b h2, h.2.1, fun n b c m e => by obtain ⟨q, _, h2⟩ := atN_live e; exact h.2.2 _ _ _ _ h2⟩
theorem laterN (hc : Clean k at0) (hk : ∀ b, NM.old b ∈ names → k ≤ b) (h : Later at0 w0 at_ w) : Later at0 w0 (atN k names at_) w := by
  refine ⟨h.os, h.tape, h.output, h.size, fun n g e => ?_, fun g h1 h2 h3 => ?_, h.out, fun n g e => ?_, fun n => ?_, fun n g b c m e => ?_⟩
  · by_cases hn : n < k
    · show (und k names n).bind at_.nm = some g
      unfold und; rw [if_pos hn]; exact h.name n g e
    · rw [(hc n (by omega)).1] at e; cases e
  · obtain ⟨k1, k2, k3⟩ := h.keep g h1 h2 h3
    exact ⟨fun n e => by obtain ⟨b, _, e2⟩ := atN_nm e; exact k1 b e2, fun n b c m e => by obtain ⟨q, _, e2⟩ := atN_live e; exact k2 _ _ _ _ e2, k3⟩
  · obtain ⟨b, h1, h2⟩ := atN_nm e
    rcases h.new b g h2 with h3 | h3
    · by_cases hb : b < k
      · unfold und at h1
        split at h1
        · simp at h1; subst h1; exact .inl h3
        · split at h1
          · rename_i b' hb'; simp at h1; subst h1; have := hk _ (List.mem_of_getElem? hb'); omega
          · cases h1
      · rw [(hc b (by omega)).1] at h3; cases h3
    · exact .inr h3
  · by_cases hn : n < k
    · have : (atN k names at_).gn n = at_.gn n := by simp only [atN, if_pos hn]
      rw [this]; exact h.gname n
    · exact .inl (hc n (by omega)).2
  · obtain ⟨q, _, h2⟩ := atN_live e
    exact h.gnew _ _ _ _ _ h2

theorem memN_get (M : List (Option Blk)) (hkM : k ≤ M.length) {n q : Nat} (h : und k names n = some q) : (M.take k ++ names.map (nmBlk M))[n]? = if n < k then M[q]? else some (M.getD q none) := by
  unfold und at h
  have hl : (M.take k).length = k := by simp; omega
  split at h
  · rename_i hn
    simp at h; subst h
    rw [if_pos hn, List.getElem?_append_left (by omega), List.getElem?_take, if_pos hn]
  · rename_i hn
    split at h
    · rename_i b hb
      simp at h; subst h
      rw [if_neg hn, List.getElem?_append_right (by omega), hl, List.getElem?_map, hb]; rfl
    · cases h
theorem memN (hM : MemOK at_ M w) (hkM : k ≤ M.length) (hok : namesOK k M names = true) : MemOK (atN k names at_) (M.take k ++ names.map (nmBlk M)) w := by
  unfold namesOK at hok
  simp only [Bool.and_eq_true, List.all_eq_true] at hok
  obtain ⟨h1, h2, h3⟩ := hok
  have hk : ∀ b, NM.old b ∈ names → k ≤ b := fun b hb => by
    have := h3 _ hb
    simp only [nmOK, Bool.and_eq_true, decide_eq_true_eq] at this
    exact this.1
  have back : ∀ {n q : Nat} {cs : Blk}, und k names n = some q → (M.take k ++ names.map (nmBlk M))[n]? = some (some cs) → M[q]? = some (some cs) := fun {n q cs} hu e => by
    rw [memN_get M hkM hu] at e
    split at e
    · exact e
    · simp only [Option.some.injEq] at e
      rw [List.getD_eq_getElem?_getD] at e
      cases hx : M[q]? with
      | none => rw [hx] at e; cases e
      | some y => rw [hx] at e; simp at e; rw [e]
  have forth : ∀ {n q : Nat} {cs : Blk}, und k names n = some q → M[q]? = some (some cs) → (M.take k ++ names.map (nmBlk M))[n]? = some (some cs) := fun {n q cs} hu e => by
    rw [memN_get M hkM hu, e]
    split
    · rfl
    · rw [List.getD_eq_getElem?_getD, e]; rfl
  have nn : ∀ {n q : Nat} {cs : Blk}, und k names n = some q → M[q]? = some (some cs) → noNameL cs = true := fun {n q cs} hu e => by
    unfold und at hu
    split at hu
    · rename_i hn
      simp at hu; subst hu
      have : some cs ∈ M.take k := by
        refine List.mem_of_getElem? (i := n) ?_
        rw [List.getElem?_take, if_pos hn]; exact e
      exact h1 _ this
    · split at hu
      · rename_i b hb
        simp at hu; subst hu
        have := h3 _ (List.mem_of_getElem? hb)
        simp only [nmOK, Bool.and_eq_true] at this
        have h4 := this.2
        rw [List.getD_eq_getElem?_getD, e] at h4
        exact h4
      · cases hu
  refine ⟨fun n g cs e1 e => ?_, fun n m g e e' => ?_, fun n g e => ?_, hM.outlt, fun n l e => ?_, fun n m g b c j b' c' j' e e' => ?_, fun n m g b c j e e' => ?_, fun n e => ?_, fun n g b c j e => ?_, fun n g b c j e => ?_⟩
  · obtain ⟨q, u1, u2⟩ := atN_nm e1
    have e2 := back u1 e
    obtain ⟨ty, vs, m1, m2⟩ := hM.blk q g cs u2 e2
    exact ⟨ty, vs, m1, RelL.noName (fun g h => fixN g h) _ _ (nn u1 e2) m2⟩
  · obtain ⟨q, u1, u2⟩ := atN_nm e
    obtain ⟨q', u1', u2'⟩ := atN_nm e'
    have := hM.inj _ _ _ u2 u2'
    subst this
    exact und_inj h2 hk u1 u1'
  · obtain ⟨q, u1, u2⟩ := atN_nm e
    obtain ⟨d1, cs, d2⟩ := hM.dom q g u2
    exact ⟨d1, cs, forth u1 d2⟩
  · cases hu : und k names n with
    | some q =>
      have e2 := back hu e
      have hg : (atN k names at_).gn n = at_.gn q := by
        unfold und at hu
        simp only [atN]
        split at hu
        · rename_i hn; simp at hu; subst hu; rw [if_pos hn]
        · rename_i hn
          rw [if_neg hn]
          split at hu
          · rename_i b hb; simp at hu; subst hu; rw [hb]
          · cases hu
      rw [hg]; exact hM.glk q l e2
    | none =>
      unfold und at hu
      split at hu
      · cases hu
      · rename_i hn
        have hl : (M.take k).length = k := by simp; omega
        rw [List.getElem?_append_right (by omega), hl, List.getElem?_map] at e
        cases hx : names[n - k]? with
        | none => rw [hx] at e; cases e
        | some x =>
          rw [hx] at e hu
          cases x with
          | old b => cases hu
          | nil s kd =>
            left
            simp only [atN, if_neg hn, hx]
            refine ⟨trivial, ?_⟩
            simp only [Option.map_some, nmBlk, Option.some.injEq] at e
            obtain ⟨l', h4, h5⟩ := Option.map_eq_some_iff.1 e
            simp only [List.cons.injEq, SV.own.injEq, and_true] at h5
            subst h5
            cases kd <;> simp [LV.rep] at h4 <;> subst h4 <;> rfl
  · obtain ⟨q, u1, u2⟩ := atN_live e
    obtain ⟨q', u1', u2'⟩ := atN_live e'
    have := hM.ginj _ _ _ _ _ _ _ _ _ u2 u2'
    subst this
    exact und_inj h2 hk u1 u1'
  · obtain ⟨q, u1, u2⟩ := atN_nm e
    obtain ⟨q', u1', u2'⟩ := atN_live e'
    exact hM.gap _ _ _ _ _ _ u2 u2'
  · by_cases hn : n < k
    · have hg : (atN k names at_).gn n = at_.gn n := by simp only [atN, if_pos hn]
      rw [hg] at e
      obtain ⟨cs, h4⟩ := hM.gdom n e
      exact ⟨cs, forth (q := n) (by unfold und; rw [if_pos hn]) h4⟩
    · simp only [atN, if_neg hn] at e
      have hl : (M.take k).length = k := by simp; omega
      cases hx : names[n - k]? with
      | none => rw [hx] at e; exact absurd rfl e
      | some x =>
        rw [hx] at e
        cases x with
        | old b =>
          obtain ⟨cs, h4⟩ := hM.gdom b e
          exact ⟨cs, forth (q := b) (by unfold und; rw [if_neg hn, hx]) h4⟩
        | nil s kd =>
          have := h3 _ (List.mem_of_getElem? hx)
          simp only [nmOK] at this
          obtain ⟨l, h5⟩ := Option.isSome_iff_exists.1 this
          refine ⟨[.own l], ?_⟩
          rw [List.getElem?_append_right (by omega), hl, List.getElem?_map, hx]
          simp only [Option.map_some, nmBlk, h5]
  · obtain ⟨q, u1, u2⟩ := atN_live e
    exact hM.gsz _ _ _ _ _ u2
  · obtain ⟨q, u1, u2⟩ := atN_live e
    exact hM.gout _ _ _ _ _ u2

theorem und_idx {x : NM} {j b : Nat} (h : NM.idx x names = some j) (hx : x = .old b) : und k names (k + j) = some b ∧ (atN k names at_).gn (k + j) = at_.gn b := by
  subst hx
  obtain ⟨y, h1, h2⟩ := NM.idx_ok h
  have := NM.same_old h2
  subst this
  have hn : ¬ (k + j < k) := by omega
  have hj : k + j - k = j := by omega
  unfold und
  simp only [atN, if_neg hn, hj, h1, and_self]
theorem canonV_ok {slot : Nat} {kind : Option IntKind} {v v' : SV} {u : Value} (h : canonV k names slot kind v = some v') (r : Rel at_ w v u) : Rel (atN k names at_) w v' u := by
  have low : ∀ {b : Nat}, b < k → (atN k names at_) b = at_ b ∧ (atN k names at_).gn b = at_.gn b := fun {b} hb => by
    refine ⟨?_, by simp only [atN, if_pos hb]⟩
    show (und k names b).bind at_.nm = _
    unfold und; rw [if_pos hb]; rfl
  have high : ∀ {b j : Nat}, NM.idx (.old b) names = some j → (atN k names at_) (k + j) = at_ b ∧ (atN k names at_).gn (k + j) = at_.gn b := fun {b j} hj => by
    obtain ⟨h1, h2⟩ := und_idx (k := k) (at_ := at_) hj rfl
    refine ⟨?_, h2⟩
    show (und k names (k + j)).bind at_.nm = _
    rw [h1]; rfl
  have rest : (if v.noName = true then some v else none) = some v' → Rel (atN k names at_) w v' u := fun h => by
    split at h
    · rename_i hn; simp only [Option.some.injEq] at h; subst h; exact Rel.noName (fun g h => fixN g h) _ _ hn r
    · cases h
  unfold canonV at h
  split at h
  · split at h
    · rename_i hb
      simp only [Option.some.injEq] at h; subst h
      simp only [Rel] at r ⊢; rw [(low hb).1]; exact r
    · obtain ⟨j, h1, h2⟩ := Option.map_eq_some_iff.1 h
      subst h2
      simp only [Rel] at r ⊢; rw [(high h1).1]; exact r
  · split at h
    · rename_i hb
      simp only [Option.some.injEq] at h; subst h
      simp only [Rel] at r ⊢; rw [(low hb).1]; exact r
    · obtain ⟨j, h1, h2⟩ := Option.map_eq_some_iff.1 h
      subst h2
      simp only [Rel] at r ⊢; rw [(high h1).1]; exact r
  · split at h
    · rename_i hb
      simp only [Option.some.injEq] at h; subst h
      simp only [Rel] at r ⊢; rw [(low hb).2]; exact r
    · obtain ⟨j, h1, h2⟩ := Option.map_eq_some_iff.1 h
      subst h2
      simp only [Rel] at r ⊢; rw [(high h1).2]; exact r
  · split at h
    · rename_i hb
      simp only [Option.some.injEq] at h; subst h
      simp only [Rel] at r ⊢; rw [(low hb).2]; exact r
    · obtain ⟨j, h1, h2⟩ := Option.map_eq_some_iff.1 h
      subst h2
      simp only [Rel] at r ⊢; rw [(high h1).2]; exact r
  · split at h
    · rename_i kd
      obtain ⟨j, h1, h2⟩ := Option.map_eq_some_iff.1 h
      subst h2
      obtain ⟨y, h3, h4⟩ := NM.idx_ok h1
      cases y with
      | old b => simp [NM.same] at h4
      | nil s kd' =>
        simp only [Rel] at r ⊢
        subst r
        have hn : ¬ (k + j < k) := by omega
        have hj : k + j - k = j := by omega
        simp only [atN, if_neg hn, hj, h3]
        refine ⟨by simp, by simp, fun g b c n e => by simp [GN.shape] at e, rfl⟩
    · simp only [Option.some.injEq] at h; subst h
      simp only [Rel] at r ⊢; exact r
  · exact rest h
theorem canonL_ok {T : List SV} {a : Act} (hT : RelL at_ w T a.tmps.toList) : ∀ {l : List (Nat × Option IntKind)} {vals : List SV}, canonL k names T l = some vals → RelL (atN k names at_) w vals ((l.map (·.1)).map fun i => a.tmps.getD i Go.undef)
  | [], vals, h => by simp only [canonL, Option.some.injEq] at h; subst h; exact RelL.nil
  | s :: l, vals, h => by
    simp only [canonL] at h
    split at h
    · rename_i v vs h1 h2
      simp only [Option.some.injEq] at h; subst h
      refine RelL.cons (canonV_ok h1 ?_) (canonL_ok hT h2)
      exact slot_ok hT s.1
    · cases h
where
  slot_ok {T : List SV} {a : Act} (hT : RelL at_ w T a.tmps.toList) (i : Nat) : Rel at_ w (T.getD i .any) (a.tmps.getD i Go.undef) := by
    rw [List.getD_eq_getElem?_getD]
    cases h : T[i]? with
    | none => simp only [Option.getD_none, Rel]
    | some c =>
      obtain ⟨u, h1, h2⟩ := hT.get i c h
      rw [Array.getElem?_toList] at h1
      rw [Array.getD_eq_getD_getElem?, h1]
      exact h2
theorem sameL_ok {T : List SV} {a : Act} (hT : RelL at_ w T a.tmps.toList) : ∀ (l : List Nat), RelL at_ w (l.map fun i => T.getD i .any) (l.map fun i => a.tmps.getD i Go.undef)
  | [] => RelL.nil
  | i :: l => RelL.cons (canonL_ok.slot_ok hT i) (sameL_ok hT l)
theorem RelL.of_get : ∀ {s : List SV} {v : List Value}, s.length = v.length → (∀ (i : Nat) (c : SV) (u : Value), s[i]? = some c → v[i]? = some u → Rel at_ w c u) → RelL at_ w s v
  | [], v, hl, _ => by have : v = [] := List.eq_nil_of_length_eq_zero hl.symm
                       subst this; exact RelL.nil
  | c :: s, v, hl, h => by
    cases v with
    | nil => cases hl
    | cons u v => exact RelL.cons (h 0 c u rfl rfl) (RelL.of_get (by simpa using hl) fun i c' u' h1 h2 => h (i + 1) c' u' (by simpa using h1) (by simpa using h2))
theorem lookS_ok {f : Nat → Value} {i : Nat} : ∀ {l : List Nat} {ss : List SV} {v : SV}, RelL at_ w ss (l.map f) → lookS i l ss = some v → Rel at_ w v (f i)
  | [], _, _, _, h => by simp [lookS] at h
  | j :: l, [], _, _, h => by simp [lookS] at h
  | j :: l, s :: ss, v, hr, h => by
    simp only [List.map_cons, RelL] at hr
    obtain ⟨u, us, e, h1, h2⟩ := hr
    simp only [List.cons.injEq] at e
    obtain ⟨rfl, rfl⟩ := e
    simp only [lookS] at h
    split at h
    · rename_i hij
      have := eq_of_beq hij
      subst this
      simp only [Option.some.injEq] at h; subst h; exact h1
    · exact lookS_ok h2 h
theorem place_ok {n : Nat} {same keep : List Nat} {ss vals : List SV} {a : Act} (hn : n = a.tmps.size) (h1 : RelL at_ w ss (same.map fun i => a.tmps.getD i Go.undef)) (h2 : RelL at_ w vals (keep.map fun i => a.tmps.getD i Go.undef)) : RelL at_ w (place n same ss keep vals) a.tmps.toList := by
  refine RelL.of_get (by simp [place, hn]) fun i c u e1 e2 => ?_
  rw [Array.getElem?_toList] at e2
  have hu : a.tmps.getD i Go.undef = u := by rw [Array.getD_eq_getD_getElem?, e2]; rfl
  have hi : i < n := by have := (Array.getElem?_eq_some_iff.1 e2).1; omega
  simp only [place, List.getElem?_map, List.getElem?_range hi, Option.map_some, Option.some.injEq] at e1
  split at e1
  · rename_i v hv; subst e1; have := lookS_ok h1 hv; rwa [hu] at this
  · split at e1
    · rename_i v hv; subst e1; have := lookS_ok h2 hv; rwa [hu] at this
    · subst e1; simp only [Rel]
end

/-! What a loop's head keeps, told as data. -/
def andP : Option Prop → Option Prop → Option Prop
  | none, q => q
  | p, none => p
  | some p, some q => some (p ∧ q)
theorem andP_ok {p q : Option Prop} (h : Ok (andP p q)) : Ok p ∧ Ok q := by
  cases p <;> cases q <;> simp only [andP, Ok] at h ⊢ <;> simp_all
class LEnc (α : Type) where
  kind : Option IntKind
  enc : Nat → α → SV × List Blk
  dec : Nat → SV → List (Option Blk) → Option (Option Prop × α × List (Option Blk))
  all : (α → Prop) → Prop
  all_ok : ∀ {P : α → Prop}, all P → ∀ a, P a
  ok : ∀ {nx : Nat} {s : SV} {M : List (Option Blk)} {p : Option Prop} {a : α} {M' : List (Option Blk)}, dec nx s M = some (p, a, M') → Ok p → M = (enc nx a).2.map some ++ M' ∧ ∀ {at_ : At} {w : World} {v : Value}, Rel at_ w s v → Rel at_ w (enc nx a).1 v
instance (priority := low) {α : Type} [Enc α] : LEnc α where
  kind := none
  enc _ a := (Enc.enc a, [])
  dec _ s M := match Enc.dec s with
    | some a => some (none, a, M)
    | none => none
  all P := ∀ a, P a
  all_ok h a := h a
  ok := by
    intro nx s M p a M' h _
    cases hd : Enc.dec (α := α) s with
    | none => simp only [hd] at h; cases h
    | some b =>
      simp only [hd, Option.some.injEq, Prod.mk.injEq] at h
      obtain ⟨_, rfl, rfl⟩ := h
      exact ⟨rfl, fun r => Enc.ok hd r⟩
/-- An own list, whole. -/
structure OwnI where
  l : List Int
structure OwnB where
  l : List UInt8
structure OwnW where
  l : List UInt64
structure OwnH where
  l : List UInt32
def ownDec (nx : Nat) (s : SV) (M : List (Option Blk)) : Option (Option Prop × LV × List (Option Blk)) :=
  match s, M with
  | .sl b lo len, some [.own l] :: M' => if b = nx then some (some (lo = 0 ∧ len = l.len), l, M') else none
  | _, _ => none
theorem ownDec_ok {nx : Nat} {s : SV} {M : List (Option Blk)} {p : Option Prop} {l : LV} {M' : List (Option Blk)} (h : ownDec nx s M = some (p, l, M')) (hp : Ok p) : s = .sl nx 0 l.len ∧ M = some [.own l] :: M' := by
  unfold ownDec at h
  split at h
  · split at h
    · rename_i hb
      simp only [Option.some.injEq, Prod.mk.injEq] at h
      obtain ⟨rfl, rfl, rfl⟩ := h
      obtain ⟨rfl, rfl⟩ := hp
      subst hb
      exact ⟨rfl, rfl⟩
    · cases h
  · cases h
instance : LEnc OwnI where
  kind := some .i64
  enc nx a := (.sl nx 0 a.l.length, [[.own (.ints a.l)]])
  dec nx s M := match ownDec nx s M with
    | some (p, .ints l, M') => some (p, ⟨l⟩, M')
    | _ => none
  all P := ∀ l, P ⟨l⟩
  all_ok h a := h a.l
  ok := by
    intro nx s M p a M' h hp
    split at h
    · rename_i p' l M1 hd
      simp only [Option.some.injEq, Prod.mk.injEq] at h
      obtain ⟨rfl, rfl, rfl⟩ := h
      obtain ⟨rfl, rfl⟩ := ownDec_ok hd hp
      exact ⟨rfl, fun r => r⟩
    · cases h
instance : LEnc OwnB where
  kind := some .u8
  enc nx a := (.sl nx 0 a.l.length, [[.own (.bytes a.l)]])
  dec nx s M := match ownDec nx s M with
    | some (p, .bytes l, M') => some (p, ⟨l⟩, M')
    | _ => none
  all P := ∀ l, P ⟨l⟩
  all_ok h a := h a.l
  ok := by
    intro nx s M p a M' h hp
    split at h
    · rename_i p' l M1 hd
      simp only [Option.some.injEq, Prod.mk.injEq] at h
      obtain ⟨rfl, rfl, rfl⟩ := h
      obtain ⟨rfl, rfl⟩ := ownDec_ok hd hp
      exact ⟨rfl, fun r => r⟩
    · cases h
instance : LEnc OwnW where
  kind := some .u64
  enc nx a := (.sl nx 0 a.l.length, [[.own (.words a.l)]])
  dec nx s M := match ownDec nx s M with
    | some (p, .words l, M') => some (p, ⟨l⟩, M')
    | _ => none
  all P := ∀ l, P ⟨l⟩
  all_ok h a := h a.l
  ok := by
    intro nx s M p a M' h hp
    split at h
    · rename_i p' l M1 hd
      simp only [Option.some.injEq, Prod.mk.injEq] at h
      obtain ⟨rfl, rfl, rfl⟩ := h
      obtain ⟨rfl, rfl⟩ := ownDec_ok hd hp
      exact ⟨rfl, fun r => r⟩
    · cases h
instance : LEnc OwnH where
  kind := some .u32
  enc nx a := (.sl nx 0 a.l.length, [[.own (.halfs a.l)]])
  dec nx s M := match ownDec nx s M with
    | some (p, .halfs l, M') => some (p, ⟨l⟩, M')
    | _ => none
  all P := ∀ l, P ⟨l⟩
  all_ok h a := h a.l
  ok := by
    intro nx s M p a M' h hp
    split at h
    · rename_i p' l M1 hd
      simp only [Option.some.injEq, Prod.mk.injEq] at h
      obtain ⟨rfl, rfl, rfl⟩ := h
      obtain ⟨rfl, rfl⟩ := ownDec_ok hd hp
      exact ⟨rfl, fun r => r⟩
    · cases h
class LEncL (α : Type) where
  kinds : List (Option IntKind)
  enc : Nat → α → List SV × List Blk
  dec : Nat → List SV → List (Option Blk) → Option (Option Prop × α)
  all : (α → Prop) → Prop
  all_ok : ∀ {P : α → Prop}, all P → ∀ a, P a
  ok : ∀ {nx : Nat} {s : List SV} {M : List (Option Blk)} {p : Option Prop} {a : α}, dec nx s M = some (p, a) → Ok p → M = (enc nx a).2.map some ∧ ∀ {at_ : At} {w : World} {v : List Value}, RelL at_ w s v → RelL at_ w (enc nx a).1 v
instance : LEncL Unit where
  kinds := []
  enc _ _ := ([], [])
  dec _ s M := match s, M with
    | [], [] => some (none, ())
    | _, _ => none
  all P := P ()
  all_ok h a := h
  ok := by
    intro nx s M p a h _
    split at h
    · exact ⟨rfl, fun r => r⟩
    · cases h
instance {α β : Type} [LEnc α] [LEncL β] : LEncL (α × β) where
  kinds := LEnc.kind α :: LEncL.kinds β
  enc nx p := ((LEnc.enc nx p.1).1 :: (LEncL.enc (nx + (LEnc.enc nx p.1).2.length) p.2).1, (LEnc.enc nx p.1).2 ++ (LEncL.enc (nx + (LEnc.enc nx p.1).2.length) p.2).2)
  dec nx s M := match s with
    | [] => none
    | v :: vs => match LEnc.dec (α := α) nx v M with
      | none => none
      | some (p, a, M') => match LEncL.dec (α := β) (nx + (LEnc.enc nx a).2.length) vs M' with
        | none => none
        | some (q, b) => some (andP p q, (a, b))
  all P := LEnc.all fun a : α => LEncL.all fun b : β => P (a, b)
  all_ok h a := LEncL.all_ok (LEnc.all_ok h a.1) a.2
  ok := by
    intro nx s M p a h hp
    split at h
    · cases h
    · split at h
      · cases h
      · rename_i p1 a1 M1 h1
        split at h
        · cases h
        · rename_i q b h2
          simp only [Option.some.injEq, Prod.mk.injEq] at h
          obtain ⟨rfl, rfl⟩ := h
          obtain ⟨hp1, hp2⟩ := andP_ok hp
          obtain ⟨k1, k2⟩ := LEnc.ok h1 hp1
          obtain ⟨k3, k4⟩ := LEncL.ok h2 hp2
          refine ⟨by rw [k1, k3, List.map_append], fun {at_ w v} r => ?_⟩
          simp only [RelL] at r
          obtain ⟨u, us, rfl, r1, r2⟩ := r
          exact RelL.cons (k2 r1) (k4 r2)

/-- A loop: the slots that stay, those that change, what holds at its head (of what stays, what was first, what is), a measure. -/
structure LSpec where
  {β α : Type}
  [eb : Args β]
  [ea : LEncL α]
  same : List Nat
  keep : List Nat
  inv : β → α → α → Prop
  meas : β → α → Nat
def headVC (k n : Nat) (S : LSpec) (st : St) (Q : S.β → S.α → Prop) : Prop :=
  if S.keep.length = S.ea.kinds.length then
    match norm k S.same (S.keep.zip S.ea.kinds) n st with
    | none => False
    | some (ss, vals, M') => match S.eb.decL ss with
      | none => False
      | some b => match S.ea.dec 0 vals M' with
        | none => False
        | some (p, a) => conj p (Q b a)
  else False
def headSt (n : Nat) (S : LSpec) (b : S.β) (a : S.α) : St := ⟨place n S.same (S.eb.encL b) S.keep (S.ea.enc 0 a).1, (S.ea.enc 0 a).2.map some⟩
/-- A place where paths meet: what is known ahead of it (slots that stay, others), what is kept behind it, and what holds of these. -/
structure CSpec where
  {β γ α : Type}
  [eb : Args β]
  [eg : LEncL γ]
  [ea : LEncL α]
  same : List Nat
  pre : List Nat
  keep : List Nat
  inv : β → γ → α → Prop
def CSpec.a (S : CSpec) : LSpec := @LSpec.mk S.β S.γ S.eb S.eg S.same S.pre (fun _ _ _ => True) (fun _ _ => 0)
def CSpec.z (S : CSpec) : LSpec := @LSpec.mk S.β S.α S.eb S.ea S.same S.keep (fun _ _ _ => True) (fun _ _ => 0)
/-- Of loops, by their blocks; of places where paths meet: behind a region ('at', by the region), behind a region and the branching that follows it ('fork'). -/
structure Plan where
  loops : List (Nat × LSpec) := []
  cuts : List (Nat × CSpec) := []
  forks : List (Nat × CSpec) := []
def forkOf : Code → Code → Option Nat
  | .region id _ _, .cond _ _ _ => some id
  | _, _ => none
def cutVC (k n : Nat) (S : CSpec) (st : St) (run : (Exit → St → Prop) → Prop) (K : KT) : Prop :=
  headVC k n S.a st fun b g => run (fun e st' => match e with
    | .normal => headVC k n S.z st' fun b' a => b' = b ∧ S.inv b g a
    | e => K e st') ∧ S.ea.all fun a => S.inv b g a → K .normal (headSt n S.z b a)

def vcl (tt : TT) (sp : Specs) (fuel : Nat) (D : Dec) (L : Plan) (k : Nat) : Code → Nat → St → KT → Prop
  | .skip, _, st, K => K .normal st
  | .region id ops draw, _, st, K => match L.cuts.lookup id with
    | none => regionVC tt sp (D.of id) ops draw (K .normal) st
    | some S => cutVC k st.T.length S st (fun K' => regionVC tt sp (D.of id) ops draw (K' .normal) st) K
  | .seq a b, i, st, K => match (forkOf a b).bind (fun id => L.forks.lookup id) with
    | none => vcl tt sp fuel D L k a i st fun e st' => match e with
      | .normal => vcl tt sp fuel D L k b i st' K
      | e => K e st'
    | some S => cutVC k st.T.length S st (fun K' => vcl tt sp fuel D L k a i st fun e st' => match e with
      | .normal => vcl tt sp fuel D L k b i st' K'
      | e => K' e st') K
  | .cond c x y, i, st, K => match TR st.T (condTs c) c with
    | .bool b => bcase b (vcl tt sp fuel D L k x i ⟨setC st.T c true, st.M⟩ K) (vcl tt sp fuel D L k y i ⟨setC st.T c false, st.M⟩ K)
    | _ => False
  | .block id c, _, st, K => vcl tt sp fuel D L k c id st fun e st' => match e with
    | .exit id' => if id' = id then K .normal st' else K (.exit id') st'
    | e => K e st'
  | .loop c, i, st, K => match L.loops.lookup i with
    | none => loopVC (vcl tt sp fuel D L k c i) K fuel st
    | some S => headVC k st.T.length S st fun b a0 => S.inv b a0 a0 ∧ S.ea.all fun a => S.inv b a0 a → vcl tt sp fuel D L k c i (headSt st.T.length S b a) fun e st' => match e with
      | .normal => headVC k st.T.length S st' fun b' a' => b' = b ∧ S.inv b a0 a' ∧ S.meas b a' < S.meas b a
      | e => K e st'
  | .exit id, _, st, K => K (.exit id) st
  | .label _, _, st, K => K .normal st
  | .ret, _, st, K => K .ret st
  | _, _, _, _ => False

section
variable {P : Program} {tt : TT} {sp : Specs} {at0 : At} {w0 : World}
theorem norm_ok {k n : Nat} {same keep : List Nat} {kinds : List (Option IntKind)} {st : St} {ss vals : List SV} {M' : List (Option Blk)} (hc : Clean k at0) (hl : keep.length ≤ kinds.length) (h : norm k same (keep.zip kinds) n st = some (ss, vals, M')) {a : Act} {w : World} {at_ : At} (r : Rep at0 w0 st at_ a w) :
    ∃ at', n = a.tmps.size ∧ Later at0 w0 at' w ∧ MemOK at' M' w ∧ RelL at' w ss (same.map fun i => a.tmps.getD i Go.undef) ∧ RelL at' w vals (keep.map fun i => a.tmps.getD i Go.undef) := by
  unfold norm at h
  split at h
  · rename_i hn
    generalize collect k st.T (keep.zip kinds) [] = names at h
    unfold normN at h
    split at h
    · rename_i hok
      split at h
      · rename_i vals' hv
        split at h
        · rename_i hs
          simp only [Option.some.injEq, Prod.mk.injEq] at h
          obtain ⟨rfl, rfl, rfl⟩ := h
          have hk : ∀ b, NM.old b ∈ names → k ≤ b := fun b hb => by
            unfold namesOK at hok
            simp only [Bool.and_eq_true, List.all_eq_true] at hok
            have := hok.2.2 _ hb
            simp only [nmOK, Bool.and_eq_true, decide_eq_true_eq] at this
            exact this.1
          refine ⟨atN k names at_, ?_, laterN hc hk r.later, memN r.mem hn.2 hok, RelL.noName (fun g h => fixN g h) _ _ hs (sameL_ok r.tmp same), ?_⟩
          · have := r.tmp.length
            simp only [Array.length_toList] at this
            omega
          · have := canonL_ok (k := k) r.tmp hv
            rwa [List.map_fst_zip hl] at this
        · cases h
      · cases h
    · cases h
  · cases h
theorem head_ok {k n : Nat} {S : LSpec} {st : St} {Q : S.β → S.α → Prop} (hc : Clean k at0) (h : headVC k n S st Q) : ∃ b x, Q b x ∧ ∀ a w, Reps at0 w0 st a w → Reps at0 w0 (headSt n S b x) a w := by
  unfold headVC at h
  split at h
  · rename_i hl
    split at h
    · exact h.elim
    · rename_i ss vals M' hnorm
      split at h
      · exact h.elim
      · rename_i b hb
        split at h
        · exact h.elim
        · rename_i p x hx
          obtain ⟨hp, hq⟩ := conj_ok h
          refine ⟨b, x, hq, fun a w ⟨at_, r⟩ => ?_⟩
          obtain ⟨at', h1, h2, h3, h4, h5⟩ := norm_ok hc (by omega) hnorm r
          obtain ⟨k1, k2⟩ := S.ea.ok hx hp
          exact ⟨at', h2, by rw [k1] at h3; exact h3, place_ok h1 (S.eb.ok hb h4) (k2 h5), r.defers⟩
  · exact h.elim

theorem cut_ok {k n : Nat} {S : CSpec} {c : Code} {st : St} {K : KT} (hc : Clean k at0) (run : KT → Prop) (hrun : ∀ K', run K' → AWp P at0 w0 c st K') (h : cutVC k n S st run K) : AWp P at0 w0 c st K := by
  unfold cutVC at h
  obtain ⟨b, g, ⟨h1, h2⟩, _⟩ := head_ok (w0 := w0) hc h
  have h2 := S.ea.all_ok h2
  intro a w hr
  refine Code.wp_mono ?_ (hrun _ h1 a w hr)
  rintro e a' w' ⟨st', hr', hk⟩
  cases e with
  | normal =>
    obtain ⟨b', x, ⟨hb, hi⟩, hrep⟩ := head_ok (w0 := w0) hc hk
    subst hb
    exact ⟨_, hrep _ _ hr', h2 x hi⟩
  | _ => exact ⟨st', hr', hk⟩

theorem vcl_ok (hm : P.follows .mixedOrders = true) (hT : TTOK P tt) (hS : SpecsOK P sp) {fuel : Nat} {D : Dec} {L : Plan} {k : Nat} (hc : Clean k at0) : ∀ (c : Code) (i : Nat) (st : St) (K : KT), vcl tt sp fuel D L k c i st K → AWp P at0 w0 c st K
  | .skip, _, st, K, h => fun a w hr => wp_skip ⟨st, hr, h⟩
  | .label _, _, st, K, h => fun a w hr => wp_label ⟨st, hr, h⟩
  | .exit id, _, st, K, h => fun a w hr => wp_exit ⟨st, hr, h⟩
  | .ret, _, st, K, h => fun a w hr => wp_ret ⟨st, hr, h⟩
  | .region id ops draw, _, st, K, h => by
    have run : ∀ K' : KT, regionVC tt sp (D.of id) ops draw (K' .normal) st → AWp P at0 w0 (.region id ops draw) st K' := fun K' h => fun a w hr => region_ok hm hT hS h hr (fun st' a' w' hK hr' => ⟨st', hr', hK⟩)
    simp only [vcl] at h
    split at h
    · exact run K h
    · exact cut_ok hc (fun K' => regionVC tt sp (D.of id) ops draw (K' .normal) st) run h
  | .seq x y, i, st, K, h => by
    have run : ∀ K' : KT, (vcl tt sp fuel D L k x i st fun e st' => match e with
      | .normal => vcl tt sp fuel D L k y i st' K'
      | e => K' e st') → AWp P at0 w0 (.seq x y) st K' := by
      intro K' h
      refine AWp.seq (AWp.mono (vcl_ok hm hT hS hc x i st _ h) ?_)
      intro e st' hk
      cases e with
      | normal => exact vcl_ok hm hT hS hc y i st' K' hk
      | _ => exact hk
    simp only [vcl] at h
    split at h
    · exact run K h
    · exact cut_ok hc _ run h
  | .cond c x y, i, st, K, h => by
    simp only [vcl] at h
    split at h
    · rename_i b hb
      obtain ⟨h1, h2⟩ := bcase_ok h
      exact AWp.cond hb (fun e => vcl_ok hm hT hS hc x i _ K (h1 e)) (fun e => vcl_ok hm hT hS hc y i _ K (h2 e))
    · exact h.elim
  | .block id c, _, st, K, h => AWp.block (vcl_ok hm hT hS hc c id st _ h)
  | .loop c, i, st, K, h => by
    simp only [vcl] at h
    split at h
    · refine AWp.loop (fun n st => loopVC (vcl tt sp fuel D L k c i) K n st) fuel h (fun n st hI => ?_)
      cases n with
      | zero => exact hI.elim
      | succ n =>
        refine AWp.mono (vcl_ok hm hT hS hc c i st _ hI) ?_
        intro e st' hk
        cases e with
        | normal => exact ⟨n, Nat.lt_succ_self n, hk⟩
        | _ => exact hk
    · rename_i S _
      obtain ⟨b, a0, ⟨h0, hbody⟩, hhead⟩ := head_ok (w0 := w0) hc h
      have hbody := S.ea.all_ok hbody
      refine AWp.loop (fun m st' => ∃ x, S.inv b a0 x ∧ S.meas b x = m ∧ ∀ a w, Reps at0 w0 st' a w → Reps at0 w0 (headSt st.T.length S b x) a w) (S.meas b a0) ⟨a0, h0, rfl, hhead⟩ (fun m st' hI => ?_)
      obtain ⟨x, hx, hm', hrep⟩ := hI
      have hround := vcl_ok hm hT hS hc c i _ _ (hbody x hx)
      refine AWp.mono (fun a w hr => hround a w (hrep a w hr)) ?_
      intro e st2 hk
      cases e with
      | normal =>
        obtain ⟨b', x', ⟨hb, h1, h2⟩, h3⟩ := head_ok (w0 := w0) hc hk
        subst hb
        exact ⟨S.meas b' x', by omega, x', h1, rfl, h3⟩
      | _ => exact hk
  | .rangeFunc _ _ _ _, _, _, _, h => h.elim
  | .scope _, _, _, _, h => h.elim
  | .goto _, _, _, _, h => h.elim
  | .refuse _, _, _, _, h => h.elim

variable {α β : Type} [Args α] [RetL β]
/-- The body's proposition, with loops met by what holds at their heads. -/
def LnRaw (tt : TT) (sp : Specs) (fuel : Nat) (D : Dec) (L : Plan) (fn : Func) (Q : SV → Prop) (a : α) : Prop := vcl tt sp fuel D L 0 (fn.body.getD .skip) 0 (init (Args.encL a) fn.ntmps) (finK tt fn.results.toList Q)
structure LnVD (tt : TT) (sp : Specs) (fuel : Nat) (D : Dec) (L : Plan) (fn : Func) (Q : SV → Prop) (a : α) : Prop where
  out : LnRaw tt sp fuel D L fn Q a
theorem LnVD.of {tt : TT} {sp : Specs} {fuel : Nat} {D : Dec} {L : Plan} {fn : Func} {Q : SV → Prop} {a : α} {E : Prop} (hE : LnRaw tt sp fuel D L fn Q a = E) (k : E) : LnVD tt sp fuel D L fn Q a := ⟨by rw [hE]; exact k⟩
theorem fn_okL (hm : P.follows .mixedOrders = true) (hT : TTOK P tt) (hS : SpecsOK P sp) (fuel : Nat) {f : FuncId} {fn : Func} (hf : P.funcs[f]? = some fn) (hname : (fn.name == "runtime.NumGoroutine") = false) (hb : fn.body.isSome = true) {pre : α → Option Prop} {g : α → β}
    (H : ∀ a, Ok (pre a) → ∃ D L, ∃ Q : SV → Prop, LnVD tt sp fuel D L fn Q a ∧ ∀ x, Q x → ∀ (at_ : At) (w : World) (v : Value), Rel at_ w x v → Rel at_ w (retSV (RetL.retL (g a))) v) : SpecOK P f (fspec pre g) := by
  obtain ⟨c, hc⟩ := Option.isSome_iff_exists.1 hb
  intro at_ w svs vs pr r hat hout hs hp hr
  unfold fspec at hs
  split at hs
  · rename_i a ha
    simp only [Option.some.injEq, Prod.mk.injEq] at hs
    obtain ⟨rfl, rfl⟩ := hs
    have hrun : (callFunc f (List.toArray vs)).run P w = .ok (.enter f (List.toArray vs)) w := by
      have h1 : fn.name ≠ "runtime.NumGoroutine" := by simpa using hname
      simp [callFunc, hf, h1, hc]
    rw [hrun]
    obtain ⟨D, L, Q, ⟨h⟩, hQ⟩ := H a hp
    unfold LnRaw at h
    rw [hc] at h
    refine (calls_of_awp hm hT hS hf hc (fun at0 w0 hcl => vcl_ok hm hT hS hcl c 0 _ _ h) (Args.nn a) hat hout (Args.ok ha hr)).mono ?_
    rintro e w' ⟨v, h1, r', h2, h3, h4⟩
    exact ⟨v, h1, hQ _ h2 _ _ _ h3, h4⟩
  · cases hs
end
end Go.Sym
/- Laws' rows: what an argument reads as, told as symbolic values. -/
namespace Go.Sym
open Go.RowKit Go.ChangeShapes Go.WideShapes

section
variable {H : Type} {enc : TypeId × Value → H} {P : Program} {W : World} {base b0 : Nat} {spare : Nat → Bool} {held : Bool} {t e : TypeId} {v : Value} {d : DataW H} {ps : List MemPlace}

theorem four_list {l : List Value} (h : l.length = 4) : ∃ a b c d, l = [a, b, c, d] := by
  match l, h with
  | [a, b, c, d], _ => exact ⟨a, b, c, d, rfl⟩
theorem u64_of_wf {n : Int} (h : (Lit.int .u64 n).wf = true) : ∃ x : UInt64, (.int .u64 n : Value) = .int .u64 (x.toNat : Int) := by
  simp [Lit.wf, IntKind.min, IntKind.max, IntKind.signed, IntKind.bits] at h
  refine ⟨UInt64.ofNat n.toNat, ?_⟩
  simp; omega
theorem open_u64 (ht : P.underlying t = some (.int .u64)) (hval : Value.okWide P W .any b0 t v) (hd : DataW.Trod enc P W base spare held t v d ps) : ∃ x : UInt64, Rel noAt W (.u64 x) v := by
  obtain ⟨n, rfl, _, _, hw⟩ := open_int ht hval hd
  obtain ⟨x, hx⟩ := u64_of_wf hw
  exact ⟨x, by simp only [Rel]; exact hx⟩
theorem open_i64 (ht : P.underlying t = some (.int .i64)) (hval : Value.okWide P W .any b0 t v) (hd : DataW.Trod enc P W base spare held t v d ps) : ∃ x : Int, Rel noAt W (.i64 x) v := by
  obtain ⟨n, rfl, _, _, hw⟩ := open_int ht hval hd
  exact ⟨n, by simp only [Rel]⟩
theorem open_bool' (ht : P.underlying t = some .bool) (hval : Value.okWide P W .any b0 t v) : ∃ x : Bool, Rel noAt W (.bool x) v := by
  obtain ⟨n, rfl⟩ := okWide_bool ht hval
  exact ⟨n, by simp only [Rel]⟩
theorem open_four (ht : P.underlying t = some (.array 4 e)) (he : P.underlying e = some (.int .u64)) (hc : P.cellsOf t = 4) (hce : P.cellsOf e = 1) (hval : Value.okWide P W .any b0 t v) (hd : DataW.Trod enc P W base spare held t v d ps) :
    ∃ x : Four, Rel noAt W x.sv v := by
  obtain ⟨cs, rfl, hsz, _⟩ : ∃ cs, v = .agg cs ∧ cs.size = P.cellsOf t ∧ Row.okWide P W .any b0 t cs := by simpa [Value.okWide, ht] using hval
  rw [hc] at hsz
  obtain ⟨l⟩ := cs
  obtain ⟨c0, c1, c2, c3, rfl⟩ := four_list (by simpa using hsz)
  obtain ⟨fuel, hf⟩ := hd
  obtain ⟨y0, y1, y2, y3, m, hx, hy0, hy1, hy2, hy3⟩ := trod_array4 ht hce hf
  obtain ⟨x0, e0, rfl, w0⟩ := DataW.trod_int he hy0
  obtain ⟨x1, e1, rfl, w1⟩ := DataW.trod_int he hy1
  obtain ⟨x2, e2, rfl, w2⟩ := DataW.trod_int he hy2
  obtain ⟨x3, e3, rfl, w3⟩ := DataW.trod_int he hy3
  simp at e0 e1 e2 e3
  subst e0 e1 e2 e3
  obtain ⟨a0, h0⟩ := u64_of_wf w0
  obtain ⟨a1, h1⟩ := u64_of_wf w1
  obtain ⟨a2, h2⟩ := u64_of_wf w2
  obtain ⟨a3, h3⟩ := u64_of_wf w3
  refine ⟨⟨a0, a1, a2, a3⟩, ?_⟩
  simp only [Four.sv, Rel, RelL]
  rw [h0, h1, h2, h3]
  exact ⟨_, rfl, _, _, rfl, rfl, _, _, rfl, rfl, _, _, rfl, rfl, _, _, rfl, rfl, rfl⟩
theorem u8_of_wf {n : Int} (h : (Lit.int .u8 n).wf = true) : 0 ≤ n ∧ n < 256 := by
  simp [Lit.wf, IntKind.min, IntKind.max, IntKind.signed, IntKind.bits] at h
  omega
theorem open_bytes (ht : P.underlying t = some (.slice e)) (he : P.underlying e = some (.int .u8)) (hc : P.cellsOf e = 1) (hval : Value.okWide P W .any b0 t v) (hd : DataW.Trod enc P W base spare held t v d ps) :
    ∃ l : List UInt8, Rel noAt W (.lst (.bytes l)) v := by
  obtain ⟨a0, len0, cap0, rfl⟩ := okWide_slice ht hval
  obtain ⟨fuel, hf⟩ := hd
  rcases open_ints ht he hc hf with ⟨h1, _⟩ | ⟨a, len, cap, zs, h1, _, h3, _, h5, _, h7, h8⟩
  · have : Value.slice a0 len0 cap0 = .slice none 0 0 := by simpa [Value.cells] using h1
    rw [this]
    refine ⟨[], ?_⟩
    simp only [Rel]
    exact ⟨none, 0, rfl, by simp [LV.len], fun j u hj => by simp [LV.vals] at hj⟩
  · have : Value.slice a0 len0 cap0 = .slice (some a) len cap := by simpa [Value.cells] using h1
    rw [this]
    have hlen : len ≤ zs.length := by rw [h5]; split <;> omega
    refine ⟨(zs.take len).map fun n => UInt8.ofNat n.toNat, ?_⟩
    simp only [Rel]
    refine ⟨some a, cap, by simp [LV.len, Nat.min_eq_left hlen], by simp [LV.len, Nat.min_eq_left hlen]; omega, fun j u hj => ⟨a, rfl, ⟨fun n e => by simp [noAt] at e, fun e => by simp [noAt] at e, fun n b c k e => by simp [noAt] at e⟩, ?_⟩⟩
    simp only [LV.vals, List.map_map, List.getElem?_map, Option.map_eq_some_iff] at hj
    obtain ⟨z, hz, rfl⟩ := hj
    rw [List.getElem?_take] at hz
    split at hz
    · rename_i hjl
      have hjz : j < zs.length := by omega
      rw [List.getElem?_eq_getElem hjz] at hz
      simp only [Option.some.injEq] at hz
      have h9 := h7 j hjz
      rw [List.getD_eq_getElem?_getD, List.getElem?_eq_getElem hjz] at h9
      simp only [Option.getD_some, hz] at h9
      have hw := u8_of_wf (h8 z (hz ▸ List.getElem_mem hjz))
      rw [h9]
      simp only [Function.comp, UInt8.toNat_ofNat']
      congr 2
      omega
    · cases hz
end

/-- A law's call, from its specification. -/
theorem calls_of_spec {P : Program} {f : FuncId} {fn : Func} {s : SpecF} (hs : SpecOK P f s) (hf : P.funcs[f]? = some fn) (hname : (fn.name == "runtime.NumGoroutine") = false) (hb : fn.body.isSome = true) {svs : List SV} {vs : List Value} {w : World} {pre : Option Prop} {r : SV}
    (h : s svs = some (pre, r)) (hp : Ok pre) (hr : RelL noAt w svs vs) : Calls P f (List.toArray vs) w fun e w' => ∃ v, e = .returned v ∧ Rel noAt w' r v ∧ Below w.heap.size w w' := by
  have h1 := hs noAt w svs vs pre r (fun n g e => by simp [noAt] at e) (fun g e => by simp [noAt] at e) h hp hr
  obtain ⟨c, hc⟩ := Option.isSome_iff_exists.1 hb
  have hrun : (callFunc f (List.toArray vs)).run P w = .ok (.enter f (List.toArray vs)) w := by
    have h1 : fn.name ≠ "runtime.NumGoroutine" := by simpa using hname
    simp [callFunc, hf, h1, hc]
  rw [hrun] at h1
  exact Calls.mono h1 fun e w' ⟨v, k1, k2, k3⟩ => ⟨v, k1, k2, k3⟩
end Go.Sym
/- Laws' rows: arrays of words. -/
namespace Go.Sym
open Go.RowKit Go.ChangeShapes Go.WideShapes
section
variable {H : Type} {enc : TypeId × Value → H} {P : Program} {W : World} {base b0 : Nat} {spare : Nat → Bool} {held : Bool} {t e : TypeId} {v : Value} {d : DataW H} {ps : List MemPlace}
theorem open_words {n : Nat} (ht : P.underlying t = some (.array n e)) (he : P.underlying e = some (.int .u64)) (hc : P.cellsOf t = n) (hce : P.cellsOf e = 1) (hval : Value.okWide P W .any b0 t v) (hd : DataW.Trod enc P W base spare held t v d ps) :
    ∃ xs : List UInt64, xs.length = n ∧ Rel noAt W (.agg (xs.map .u64)) v := by
  obtain ⟨cs, rfl, hsz, _⟩ : ∃ cs, v = .agg cs ∧ cs.size = P.cellsOf t ∧ Row.okWide P W .any b0 t cs := by simpa [Value.okWide, ht] using hval
  rw [hc] at hsz
  obtain ⟨l⟩ := cs
  obtain ⟨fuel, hf⟩ := hd
  obtain ⟨xs, m, _, _, hl, hxl, hget⟩ := DataW.trod_array ht hf
  have hln : l.length = n := by simpa using hsz
  have each : ∀ i, (h : i < l.length) → ∃ x : UInt64, l[i] = .int .u64 (x.toNat : Int) := fun i h => by
    have h1 := hget i (by omega)
    rw [hce, Nat.mul_one, List.getElem?_eq_getElem (by omega)] at h1
    obtain ⟨z, h2, _, h3⟩ := DataW.trod_int he h1
    have h4 : (l.drop i).take 1 = [l[i]] := by rw [List.drop_eq_getElem_cons h]; rfl
    have h5 : l[i] = .int .u64 z := by
      have h6 : ((Value.agg (List.toArray l)).cells.toList.drop i).take 1 = [l[i]] := h4
      rw [h6] at h2
      simpa using h2
    obtain ⟨x, hx⟩ := u64_of_wf h3
    exact ⟨x, by rw [h5]; exact hx⟩
  let f : Value → UInt64 := fun v => match v with
    | .int .u64 n => UInt64.ofNat n.toNat
    | _ => 0
  refine ⟨l.map f, by simp [hln], ?_⟩
  simp only [Rel]
  refine ⟨l, rfl, RelL.of_get (by simp) fun i c u h1 h2 => ?_⟩
  obtain ⟨hi, hu⟩ := List.getElem?_eq_some_iff.1 h2
  obtain ⟨x, hx⟩ := each i hi
  simp only [List.getElem?_map, List.getElem?_eq_getElem hi, Option.map_some, Option.some.injEq] at h1
  rw [← h1, ← hu, hx]
  simp only [Rel, f]
  congr 1
  simp
end
end Go.Sym
/- The types of the seat's program, as the symbolic machine wants them. Written by a program of this claim's author. -/
namespace Go.Proofs.Ythechjccpljljaa
open Go.Sym

def ti2 : TI := ⟨.int .i64, 1, 8, [(.int .i64 0)]⟩
theorem ti2_ok : TIOK Try.prog 2 ti2 := ⟨by kernel_rfl, by kernel_rfl, by kernel_rfl⟩
def ti3 : TI := ⟨.int .i64, 1, 8, [(.int .i64 0)]⟩
theorem ti3_ok : TIOK Try.prog 3 ti3 := ⟨by kernel_rfl, by kernel_rfl, by kernel_rfl⟩
def ti4 : TI := ⟨.bool, 1, 1, [(.bool false)]⟩
theorem ti4_ok : TIOK Try.prog 4 ti4 := ⟨by kernel_rfl, by kernel_rfl, by kernel_rfl⟩
def ti5 : TI := ⟨.int .u8, 1, 1, [(.int .u8 0)]⟩
theorem ti5_ok : TIOK Try.prog 5 ti5 := ⟨by kernel_rfl, by kernel_rfl, by kernel_rfl⟩
def ti12 : TI := ⟨.int .u64, 1, 8, [(.int .u64 0)]⟩
theorem ti12_ok : TIOK Try.prog 12 ti12 := ⟨by kernel_rfl, by kernel_rfl, by kernel_rfl⟩
def ti21 : TI := ⟨.int .i32, 1, 4, [(.int .i32 0)]⟩
theorem ti21_ok : TIOK Try.prog 21 ti21 := ⟨by kernel_rfl, by kernel_rfl, by kernel_rfl⟩
def ti22 : TI := ⟨.int .u64, 1, 8, [(.int .u64 0)]⟩
theorem ti22_ok : TIOK Try.prog 22 ti22 := ⟨by kernel_rfl, by kernel_rfl, by kernel_rfl⟩
def ti23 : TI := ⟨.array 4 22, 4, 32, [(.int .u64 0), (.int .u64 0), (.int .u64 0), (.int .u64 0)]⟩
theorem ti23_ok : TIOK Try.prog 23 ti23 := ⟨by kernel_rfl, by kernel_rfl, by kernel_rfl⟩
def ti24 : TI := ⟨.array 4 22, 4, 32, [(.int .u64 0), (.int .u64 0), (.int .u64 0), (.int .u64 0)]⟩
theorem ti24_ok : TIOK Try.prog 24 ti24 := ⟨by kernel_rfl, by kernel_rfl, by kernel_rfl⟩
def ti26 : TI := ⟨.slice 3, 1, 24, [(.slice none 0 0)]⟩
theorem ti26_ok : TIOK Try.prog 26 ti26 := ⟨by kernel_rfl, by kernel_rfl, by kernel_rfl⟩
def ti37 : TI := ⟨.slice 5, 1, 24, [(.slice none 0 0)]⟩
theorem ti37_ok : TIOK Try.prog 37 ti37 := ⟨by kernel_rfl, by kernel_rfl, by kernel_rfl⟩
def ti38 : TI := ⟨.int .i64, 1, 8, [(.int .i64 0)]⟩
theorem ti38_ok : TIOK Try.prog 38 ti38 := ⟨by kernel_rfl, by kernel_rfl, by kernel_rfl⟩
def ti46 : TI := ⟨.array 8 22, 8, 64, [(.int .u64 0), (.int .u64 0), (.int .u64 0), (.int .u64 0), (.int .u64 0), (.int .u64 0), (.int .u64 0), (.int .u64 0)]⟩
theorem ti46_ok : TIOK Try.prog 46 ti46 := ⟨by kernel_rfl, by kernel_rfl, by kernel_rfl⟩
def ti47 : TI := ⟨.array 8 22, 8, 64, [(.int .u64 0), (.int .u64 0), (.int .u64 0), (.int .u64 0), (.int .u64 0), (.int .u64 0), (.int .u64 0), (.int .u64 0)]⟩
theorem ti47_ok : TIOK Try.prog 47 ti47 := ⟨by kernel_rfl, by kernel_rfl, by kernel_rfl⟩
def ti49 : TI := ⟨.slice 22, 1, 24, [(.slice none 0 0)]⟩
theorem ti49_ok : TIOK Try.prog 49 ti49 := ⟨by kernel_rfl, by kernel_rfl, by kernel_rfl⟩
def ti60 : TI := ⟨.int .u64, 1, 8, [(.int .u64 0)]⟩
theorem ti60_ok : TIOK Try.prog 60 ti60 := ⟨by kernel_rfl, by kernel_rfl, by kernel_rfl⟩
def ti62 : TI := ⟨.ptr 88, 1, 8, [(.pointer none)]⟩
theorem ti62_ok : TIOK Try.prog 62 ti62 := ⟨by kernel_rfl, by kernel_rfl, by kernel_rfl⟩
def ti73 : TI := ⟨.array 3 24, 12, 96, [(.int .u64 0), (.int .u64 0), (.int .u64 0), (.int .u64 0), (.int .u64 0), (.int .u64 0), (.int .u64 0), (.int .u64 0), (.int .u64 0), (.int .u64 0), (.int .u64 0), (.int .u64 0)]⟩
theorem ti73_ok : TIOK Try.prog 73 ti73 := ⟨by kernel_rfl, by kernel_rfl, by kernel_rfl⟩
def ti74 : TI := ⟨.int .u32, 1, 4, [(.int .u32 0)]⟩
theorem ti74_ok : TIOK Try.prog 74 ti74 := ⟨by kernel_rfl, by kernel_rfl, by kernel_rfl⟩
def ti75 : TI := ⟨.array 2 74, 2, 8, [(.int .u32 0), (.int .u32 0)]⟩
theorem ti75_ok : TIOK Try.prog 75 ti75 := ⟨by kernel_rfl, by kernel_rfl, by kernel_rfl⟩
def ti85 : TI := ⟨.struct [(0, 24), (4, 22), (5, 24), (9, 24)], 13, 104, [(.int .u64 0), (.int .u64 0), (.int .u64 0), (.int .u64 0), (.int .u64 0), (.int .u64 0), (.int .u64 0), (.int .u64 0), (.int .u64 0), (.int .u64 0), (.int .u64 0), (.int .u64 0), (.int .u64 0)]⟩
theorem ti85_ok : TIOK Try.prog 85 ti85 := ⟨by kernel_rfl, by kernel_rfl, by kernel_rfl⟩
def ti86 : TI := ⟨.struct [(0, 24), (4, 22), (5, 24), (9, 24)], 13, 104, [(.int .u64 0), (.int .u64 0), (.int .u64 0), (.int .u64 0), (.int .u64 0), (.int .u64 0), (.int .u64 0), (.int .u64 0), (.int .u64 0), (.int .u64 0), (.int .u64 0), (.int .u64 0), (.int .u64 0)]⟩
theorem ti86_ok : TIOK Try.prog 86 ti86 := ⟨by kernel_rfl, by kernel_rfl, by kernel_rfl⟩
def ti87 : TI := ⟨.struct [(0, 86)], 13, 104, [(.int .u64 0), (.int .u64 0), (.int .u64 0), (.int .u64 0), (.int .u64 0), (.int .u64 0), (.int .u64 0), (.int .u64 0), (.int .u64 0), (.int .u64 0), (.int .u64 0), (.int .u64 0), (.int .u64 0)]⟩
theorem ti87_ok : TIOK Try.prog 87 ti87 := ⟨by kernel_rfl, by kernel_rfl, by kernel_rfl⟩
def ti88 : TI := ⟨.struct [(0, 86)], 13, 104, [(.int .u64 0), (.int .u64 0), (.int .u64 0), (.int .u64 0), (.int .u64 0), (.int .u64 0), (.int .u64 0), (.int .u64 0), (.int .u64 0), (.int .u64 0), (.int .u64 0), (.int .u64 0), (.int .u64 0)]⟩
theorem ti88_ok : TIOK Try.prog 88 ti88 := ⟨by kernel_rfl, by kernel_rfl, by kernel_rfl⟩
def ti94 : TI := ⟨.struct [(0, 26), (1, 26)], 2, 48, [(.slice none 0 0), (.slice none 0 0)]⟩
theorem ti94_ok : TIOK Try.prog 94 ti94 := ⟨by kernel_rfl, by kernel_rfl, by kernel_rfl⟩
def ti95 : TI := ⟨.struct [(0, 26), (1, 26)], 2, 48, [(.slice none 0 0), (.slice none 0 0)]⟩
theorem ti95_ok : TIOK Try.prog 95 ti95 := ⟨by kernel_rfl, by kernel_rfl, by kernel_rfl⟩
def ti97 : TI := ⟨.ptr 86, 1, 8, [(.pointer none)]⟩
theorem ti97_ok : TIOK Try.prog 97 ti97 := ⟨by kernel_rfl, by kernel_rfl, by kernel_rfl⟩
def ti109 : TI := ⟨.ptr 5, 1, 8, [(.pointer none)]⟩
theorem ti109_ok : TIOK Try.prog 109 ti109 := ⟨by kernel_rfl, by kernel_rfl, by kernel_rfl⟩
def ti112 : TI := ⟨.struct [(0, 12), (1, 12), (2, 74), (3, 106), (4, 5), (5, 5), (6, 107), (7, 108), (8, 109), (9, 110), (10, 111)], 11, 48, [(.int .u64 0), (.int .u64 0), (.int .u32 0), (.int .u8 0), (.int .u8 0), (.int .u8 0), (.int .u8 0), .nilFunc, (.pointer none), (.int .i32 0), (.int .i32 0)]⟩
theorem ti112_ok : TIOK Try.prog 112 ti112 := ⟨by kernel_rfl, by kernel_rfl, by kernel_rfl⟩
def tt : TT := [(2, ti2), (3, ti3), (4, ti4), (5, ti5), (12, ti12), (21, ti21), (22, ti22), (23, ti23), (24, ti24), (26, ti26), (37, ti37), (38, ti38), (46, ti46), (47, ti47), (49, ti49), (60, ti60), (62, ti62), (73, ti73), (74, ti74), (75, ti75), (85, ti85), (86, ti86), (87, ti87), (88, ti88), (94, ti94), (95, ti95), (97, ti97), (109, ti109), (112, ti112)]
theorem tt_ok : TTOK Try.prog tt := .cons ti2_ok <| .cons ti3_ok <| .cons ti4_ok <| .cons ti5_ok <| .cons ti12_ok <| .cons ti21_ok <| .cons ti22_ok <| .cons ti23_ok <| .cons ti24_ok <| .cons ti26_ok <| .cons ti37_ok <| .cons ti38_ok <| .cons ti46_ok <| .cons ti47_ok <| .cons ti49_ok <| .cons ti60_ok <| .cons ti62_ok <| .cons ti73_ok <| .cons ti74_ok <| .cons ti75_ok <| .cons ti85_ok <| .cons ti86_ok <| .cons ti87_ok <| .cons ti88_ok <| .cons ti94_ok <| .cons ti95_ok <| .cons ti97_ok <| .cons ti109_ok <| .cons ti112_ok <| .nil _
theorem mixed : Try.prog.follows .mixedOrders = true := by kernel_rfl

end Go.Proofs.Ythechjccpljljaa
