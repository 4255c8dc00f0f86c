/- Specifications out of propositions; what the model stands in for: sums with carries. -/
import Derived.Test.YthechjccpljljaaSymB
namespace Go.Sym
open Go.RowKit

section
variable {P : Program} {tt : TT} {sp : Specs}

theorem spec_of_vc (hm : P.follows .mixedOrders = true) (hT : TTOK P tt) (hS : SpecsOK P sp) (fuel : Nat) {f : FuncId} {fn : Func} {c : Code} (hf : P.funcs[f]? = some fn) (hname : (fn.name == "runtime.NumGoroutine") = false) (hb : fn.body = some c) {s : SpecF}
    (H : ∀ svs pre r, s svs = some (pre, r) → Ok pre → noNameL svs = true ∧ ∃ Q : SV → Prop, (∀ x, Q x → x = r) ∧ vc tt sp fuel [] c (init svs fn.ntmps) (finK tt fn.results.toList Q)) : SpecOK P f s := by
  intro at_ w svs vs pre r hat hout hs hp hr
  obtain ⟨hn, Q, hQ, hvc⟩ := H svs pre r hs hp
  have hrun : (callFunc f (List.toArray vs)).run P w = .ok (.enter f (List.toArray vs)) w := by
    have h1 : fn.name ≠ "runtime.NumGoroutine" := by simpa using hname
    simp [callFunc, hf, h1, hb]
  rw [hrun]
  refine (calls_of_vc hm hT hS hf hb hvc hn hat hout hr).mono ?_
  rintro e w' ⟨v, h1, r', h2, h3, h4⟩
  rw [hQ r' h2] at h3
  exact ⟨v, h1, h3, h4⟩

theorem spec_of_extern {f : FuncId} {fn : Func} {e : Array Value → Sem Value} (hf : P.funcs[f]? = some fn) (hname : (fn.name == "runtime.NumGoroutine") = false) (hb : fn.body.isNone = true) (hn : Extern.findNext fn = none) (he : Extern.find fn = some e) {s : SpecF}
    (H : ∀ svs pre r, s svs = some (pre, r) → Ok pre → ∀ at_ w vs, RelL at_ w svs vs → ∃ v, (e (List.toArray vs)).run P w = .ok v w ∧ Rel at_ w r v) : SpecOK P f s := by
  intro at_ w svs vs pre r _ _ hs hp hr
  obtain ⟨v, h1, h2⟩ := H svs pre r hs hp at_ w vs hr
  rw [run_callFunc_extern hf hname hb hn he, h1]
  exact ⟨h2, Below.refl _ _⟩
/-- From a contract that is known. -/
theorem spec_of_calls {f : FuncId} {fn : Func} {c : Code} (hf : P.funcs[f]? = some fn) (hname : (fn.name == "runtime.NumGoroutine") = false) (hb : fn.body = some c) {s : SpecF}
    (H : ∀ svs pre r, s svs = some (pre, r) → Ok pre → ∀ at_ w vs, RelL at_ w svs vs → Calls P f (List.toArray vs) w fun e w' => ∃ v, e = .returned v ∧ Rel at_ w' r v ∧ Below w.heap.size w w') : SpecOK P f s := by
  intro at_ w svs vs pre r hat hout hs hp hr
  have hrun : (callFunc f (List.toArray vs)).run P w = .ok (.enter f (List.toArray vs)) w := by
    have h1 : fn.name ≠ "runtime.NumGoroutine" := by simpa using hname
    simp [callFunc, hf, h1, hb]
  rw [hrun]
  exact (H svs pre r hs hp at_ w vs hr).mono fun e w' ⟨v, h1, h2, h3⟩ => ⟨v, h1, h2, h3⟩
end

/-! math/bits.Add64, Sub64. -/
def addLo (x y c : UInt64) : UInt64 := x + y + c
def addHi (x y c : UInt64) : UInt64 := UInt64.ofNat ((x.toNat + y.toNat + c.toNat) / 18446744073709551616)
def subLo (x y b : UInt64) : UInt64 := x - y - b
def subHi (x y b : UInt64) : UInt64 := if x.toNat < y.toNat + b.toNat then 1 else 0
/-- A carry is 0 or 1. -/
def cpre (c : UInt64) : Option Prop :=
  match c.toNat with
  | 0 => none
  | 1 => none
  | _ => some False
theorem cpre_ok {c : UInt64} (h : Ok (cpre c)) : c.toNat ≤ 1 := by
  unfold cpre at h
  split at h
  · omega
  · omega
  · exact h.elim
theorem cpre_conj {c : UInt64} {q : Prop} (h : c.toNat ≤ 1) (hq : q) : conj (cpre c) q := by
  unfold cpre
  split
  · exact hq
  · exact hq
  · rename_i h0 h1
    have : c.toNat = 0 ∨ c.toNat = 1 := by omega
    rcases this with e | e
    · exact (h0 e).elim
    · exact (h1 e).elim
def specAdd64 : SpecF
  | [.u64 x, .u64 y, .u64 c] => some (cpre c, .tup [.u64 (addLo x y c), .u64 (addHi x y c)])
  | _ => none
def specSub64 : SpecF
  | [.u64 x, .u64 y, .u64 c] => some (cpre c, .tup [.u64 (subLo x y c), .u64 (subHi x y c)])
  | _ => none
def sub64Entry : Array Value → Sem Value := fun args => do
  let (x, y, b) ← Extern.MathBitsCarry.three "Sub64" args
  pure (Extern.MathBitsCarry.pair ((x + Extern.MathBitsCarry.m64 - y - b) % Extern.MathBitsCarry.m64) (if x < y + b then 1 else 0))
theorem addHi_nat (x y c : UInt64) (hc : c.toNat ≤ 1) : (addHi x y c).toNat = (x.toNat + y.toNat + c.toNat) / 18446744073709551616 := by
  have := u64_lt x; have := u64_lt y
  simp only [addHi, UInt64.toNat_ofNat']
  omega
theorem addLo_nat (x y c : UInt64) : (addLo x y c).toNat = (x.toNat + y.toNat + c.toNat) % 18446744073709551616 := by
  simp only [addLo, UInt64.toNat_add]
  omega
theorem subLo_nat (x y c : UInt64) : (subLo x y c).toNat = (x.toNat + 2 * 18446744073709551616 - y.toNat - c.toNat) % 18446744073709551616 := by
  have := u64_lt x; have := u64_lt y; have := u64_lt c
  simp only [subLo, UInt64.toNat_sub]
  omega
theorem subHi_nat (x y c : UInt64) : (subHi x y c).toNat = if x.toNat < y.toNat + c.toNat then 1 else 0 := by
  unfold subHi; split <;> rfl

theorem run_three {P : Program} {w : World} (s : String) (x y c : UInt64) (hc : c.toNat ≤ 1) :
    (Extern.MathBitsCarry.three s #[.int .u64 (x.toNat : Int), .int .u64 (y.toNat : Int), .int .u64 (c.toNat : Int)]).run P w = .ok (x.toNat, y.toNat, c.toNat) w := by
  have key : ∀ k : Nat, k ≤ 1 → (Extern.MathBitsCarry.three s #[.int .u64 (x.toNat : Int), .int .u64 (y.toNat : Int), .int .u64 (k : Int)]).run P w = .ok (x.toNat, y.toNat, k) w := by
    intro k hk
    have : k = 0 ∨ k = 1 := by omega
    rcases this with rfl | rfl <;> rfl
  exact key _ hc

theorem specAdd64_ok {P : Program} {f : FuncId} {fn : Func} (hf : P.funcs[f]? = some fn) (hname : (fn.name == "runtime.NumGoroutine") = false) (hb : fn.body.isNone = true) (hn : Extern.findNext fn = none) (he : Extern.find fn = some add64Entry) : SpecOK P f specAdd64 := by
  refine spec_of_extern hf hname hb hn he ?_
  intro svs pre r hs hp at_ w vs hr
  unfold specAdd64 at hs
  split at hs
  · rename_i x y c
    simp only [Option.some.injEq, Prod.mk.injEq] at hs
    obtain ⟨rfl, rfl⟩ := hs
    replace hp := cpre_ok hp
    simp only [RelL, Rel] at hr
    obtain ⟨_, _, rfl, rfl, _, _, rfl, rfl, _, _, rfl, rfl, rfl⟩ := hr
    refine ⟨Extern.MathBitsCarry.pair ((x.toNat + y.toNat + c.toNat) % Extern.MathBitsCarry.m64) ((x.toNat + y.toNat + c.toNat) / Extern.MathBitsCarry.m64), ?_, ?_⟩
    · simp only [add64Entry, Sem.run_bind, run_three _ x y c hp, Result.andThen_ok, Sem.run_pure]
    · simp only [Rel, RelL, addLo_nat, addHi_nat x y c hp]
      exact ⟨_, rfl, _, _, rfl, rfl, _, _, rfl, rfl, rfl⟩
  · cases hs
theorem specSub64_ok {P : Program} {f : FuncId} {fn : Func} (hf : P.funcs[f]? = some fn) (hname : (fn.name == "runtime.NumGoroutine") = false) (hb : fn.body.isNone = true) (hn : Extern.findNext fn = none) (he : Extern.find fn = some sub64Entry) : SpecOK P f specSub64 := by
  refine spec_of_extern hf hname hb hn he ?_
  intro svs pre r hs hp at_ w vs hr
  unfold specSub64 at hs
  split at hs
  · rename_i x y c
    simp only [Option.some.injEq, Prod.mk.injEq] at hs
    obtain ⟨rfl, rfl⟩ := hs
    replace hp := cpre_ok hp
    simp only [RelL, Rel] at hr
    obtain ⟨_, _, rfl, rfl, _, _, rfl, rfl, _, _, rfl, rfl, rfl⟩ := hr
    have := u64_lt x; have := u64_lt y
    refine ⟨Extern.MathBitsCarry.pair ((x.toNat + Extern.MathBitsCarry.m64 - y.toNat - c.toNat) % Extern.MathBitsCarry.m64) (if x.toNat < y.toNat + c.toNat then 1 else 0), ?_, ?_⟩
    · simp only [sub64Entry, Sem.run_bind, run_three _ x y c hp, Result.andThen_ok, Sem.run_pure]
    · simp only [Rel, RelL, subLo_nat, subHi_nat]
      have e : (x.toNat + 2 * 18446744073709551616 - y.toNat - c.toNat) % 18446744073709551616 = (x.toNat + Extern.MathBitsCarry.m64 - y.toNat - c.toNat) % Extern.MathBitsCarry.m64 := by
        have : Extern.MathBitsCarry.m64 = 18446744073709551616 := by decide
        rw [this]; omega
      rw [e]
      exact ⟨_, rfl, _, _, rfl, rfl, _, _, rfl, rfl, rfl⟩
  · cases hs

/-! Numbers of four words. -/
structure Four where
  w0 : UInt64
  w1 : UInt64
  w2 : UInt64
  w3 : UInt64
def Four.sv (a : Four) : SV := .agg [.u64 a.w0, .u64 a.w1, .u64 a.w2, .u64 a.w3]
def dFour : SV → Option Four
  | .agg [.u64 a, .u64 b, .u64 c, .u64 d] => some ⟨a, b, c, d⟩
  | _ => none
theorem dFour_ok {s : SV} {f : Four} (h : dFour s = some f) : s = f.sv := by
  unfold dFour at h
  split at h
  · simp only [Option.some.injEq] at h; subst h; rfl
  · cases h
end Go.Sym
