/- A symbolic machine for Go functions, and what the functions that the law reaches come to: Dig, Sym0, Sym1, Sym2, Sym3, Sym3b, Sym4, Sym4g, Sym5, Sym6, Sym7, Sym7b, SymF. -/
import Derived.Below
import Derived.Orders
import Derived.Tactics
import Derived.Laws.Rows
import Derived.Laws.Externs
import Derived.Laws.StructEq
import Derived.Laws.Small
import Derived.Laws.Slices
import Derived.KernelRfl
import Derived.ChangeKeysEq
import Derived.Laws.Cover3
import Derived.Laws.AppendOwn
import Derived.Laws.CopyRow
import Derived.Laws.IdiomCopy
/- Numbers as digits of 24 bits, the lowest first. Plain: no program here. -/
namespace Go.Dig

def val : List Int → Int
  | [] => 0
  | d :: l => d + 16777216 * val l
def Dig (l : List Int) : Prop := ∀ d ∈ l, 0 ≤ d ∧ d < 16777216
/-- A number's digits, without noughts at the end. -/
def dg (n : Nat) : List Int := if n = 0 then [] else ((n % 16777216 : Nat) : Int) :: dg (n / 16777216)
termination_by n
decreasing_by omega

theorem dg_zero : dg 0 = [] := by rw [dg]; simp
theorem dg_pos {n : Nat} (h : 0 < n) : dg n = ((n % 16777216 : Nat) : Int) :: dg (n / 16777216) := by rw [dg, if_neg (by omega)]
theorem Dig.nil : Dig [] := fun _ h => by cases h
theorem Dig.cons {d : Int} {l : List Int} (h0 : 0 ≤ d) (h1 : d < 16777216) (h : Dig l) : Dig (d :: l) := fun x hx => by
  rcases List.mem_cons.1 hx with rfl | hx
  · exact ⟨h0, h1⟩
  · exact h x hx
theorem Dig.tail {d : Int} {l : List Int} (h : Dig (d :: l)) : Dig l := fun x hx => h x (List.mem_cons_of_mem _ hx)
theorem Dig.head {d : Int} {l : List Int} (h : Dig (d :: l)) : 0 ≤ d ∧ d < 16777216 := h d (by simp)
theorem Dig.append {a b : List Int} (h : Dig a) (k : Dig b) : Dig (a ++ b) := fun x hx => by
  rcases List.mem_append.1 hx with hx | hx
  · exact h x hx
  · exact k x hx
theorem Dig.take {a : List Int} (h : Dig a) (n : Nat) : Dig (a.take n) := fun x hx => h x (List.mem_of_mem_take hx)
theorem Dig.drop {a : List Int} (h : Dig a) (n : Nat) : Dig (a.drop n) := fun x hx => h x (List.mem_of_mem_drop hx)
theorem Dig.get {a : List Int} (h : Dig a) (n : Nat) (hn : n < a.length) : 0 ≤ a[n] ∧ a[n] < 16777216 := h _ (List.getElem_mem hn)
theorem Dig.dg (n : Nat) : Dig (dg n) := by
  induction n using Nat.strongRecOn with
  | _ n ih =>
    by_cases h : n = 0
    · subst h; rw [dg_zero]; exact Dig.nil
    · rw [dg_pos (by omega)]; exact Dig.cons (by omega) (by omega) (ih _ (by omega))
theorem val_nonneg : ∀ {l : List Int}, Dig l → 0 ≤ val l
  | [], _ => by simp [val]
  | d :: l, h => by have := val_nonneg h.tail; have := h.head; simp only [val]; omega
theorem val_dg (n : Nat) : val (dg n) = n := by
  induction n using Nat.strongRecOn with
  | _ n ih =>
    by_cases h : n = 0
    · subst h; rw [dg_zero]; rfl
    · rw [dg_pos (by omega)]; simp only [val]; rw [ih _ (by omega)]; omega
theorem val_append (a b : List Int) : val (a ++ b) = val a + 16777216 ^ a.length * val b := by
  induction a with
  | nil => simp [val]
  | cons d a ih =>
    simp only [List.cons_append, val, ih, List.length_cons, Int.pow_succ]
    rw [Int.mul_add, ← Int.add_assoc]
    congr 1
    rw [Int.mul_comm (16777216 ^ a.length) 16777216, Int.mul_assoc]
theorem val_lt : ∀ {l : List Int}, Dig l → val l < 16777216 ^ l.length
  | [], _ => by simp [val]
  | d :: l, h => by
    have h1 := val_lt h.tail
    have h2 := h.head
    simp only [val, List.length_cons, Int.pow_succ]
    generalize (16777216 : Int) ^ l.length = p at *
    omega
theorem val_snoc (l : List Int) (d : Int) : val (l ++ [d]) = val l + 16777216 ^ l.length * d := by
  rw [val_append]; simp [val]
theorem val_replicate (n : Nat) : val (List.replicate n 0) = 0 := by
  induction n with
  | zero => rfl
  | succ n ih => simp [List.replicate_succ, val, ih]
theorem Dig.replicate (n : Nat) : Dig (List.replicate n 0) := fun x hx => by
  have := List.eq_of_mem_replicate hx; omega
/-- Digits whose highest is no nought are the digits of their number. -/
theorem dg_val_cons : ∀ {l : List Int}, Dig l → (∀ d, l.getLast? = some d → d ≠ 0) → dg (val l).toNat = l
  | [], _, _ => by simp only [val, Int.toNat_zero]; exact dg_zero
  | d :: l, h, hl => by
    have h1 := h.head
    have h2 := val_nonneg h.tail
    have hne : val (d :: l) ≠ 0 := by
      intro e
      simp only [val] at e
      have hd : d = 0 := by omega
      have hv : val l = 0 := by omega
      cases l with
      | nil => exact hl d rfl hd
      | cons e' l' =>
        have ih := dg_val_cons h.tail (fun x hx => hl x (by rw [List.getLast?_cons_cons]; exact hx))
        rw [hv] at ih
        simp only [Int.toNat_zero] at ih
        rw [dg_zero] at ih
        cases ih
    have hl' : ∀ x, l.getLast? = some x → x ≠ 0 := by
      intro x hx
      cases l with
      | nil => cases hx
      | cons e' l' => exact hl x (by rw [List.getLast?_cons_cons]; exact hx)
    have hp : 0 < (val (d :: l)).toNat := by simp only [val] at hne ⊢; omega
    rw [dg_pos hp]
    have e1 : (val (d :: l)).toNat / 16777216 = (val l).toNat := by simp only [val]; omega
    have e2 : (((val (d :: l)).toNat % 16777216 : Nat) : Int) = d := by simp only [val]; omega
    rw [e1, e2, dg_val_cons h.tail hl']
theorem dg_snoc {l : List Int} {d : Int} (h : Dig (l ++ [d])) (hd : d ≠ 0) : dg (val (l ++ [d])).toNat = l ++ [d] :=
  dg_val_cons h (fun x hx => by simp at hx; omega)
theorem dg_length_lt {n k : Nat} (h : n < 16777216 ^ k) : (dg n).length ≤ k := by
  induction k generalizing n with
  | zero => have : n = 0 := by simpa using h
            subst this; simp [dg_zero]
  | succ k ih =>
    by_cases h0 : n = 0
    · subst h0; simp [dg_zero]
    · rw [dg_pos (by omega), List.length_cons]
      have := ih (n := n / 16777216) (by rw [Nat.pow_succ] at h; exact Nat.div_lt_of_lt_mul (by rw [Nat.mul_comm]; exact h))
      omega
theorem lt_of_dg_length (n : Nat) : n < 16777216 ^ (dg n).length := by
  have := val_lt (Dig.dg n)
  rw [val_dg] at this
  have e : ((16777216 : Int) ^ (dg n).length) = ((16777216 ^ (dg n).length : Nat) : Int) := by rw [Int.natCast_pow]; rfl
  rw [e] at this
  exact Int.ofNat_lt.1 this
/-- The highest digit is none. -/
theorem dg_last {n : Nat} : ∀ d, (dg n).getLast? = some d → d ≠ 0 := by
  induction n using Nat.strongRecOn with
  | _ n ih =>
    intro d hd
    by_cases h : n = 0
    · subst h; rw [dg_zero] at hd; cases hd
    · rw [dg_pos (by omega)] at hd
      by_cases h1 : n / 16777216 = 0
      · rw [h1, dg_zero] at hd
        simp at hd
        omega
      · rw [dg_pos (by omega), List.getLast?_cons_cons, ← dg_pos (by omega)] at hd
        exact ih _ (by omega) d hd
theorem dg_nil_iff {n : Nat} : dg n = [] ↔ n = 0 := by
  constructor
  · intro h
    have := val_dg n
    rw [h] at this
    simp only [val] at this
    omega
  · rintro rfl; exact dg_zero
theorem take_snoc' (l : List Int) (i : Nat) (h : i < l.length) : l.take (i + 1) = l.take i ++ [l[i]] := List.take_succ_eq_append_getElem h
theorem val_take_succ (l : List Int) (i : Nat) (h : i < l.length) : val (l.take (i + 1)) = val (l.take i) + 16777216 ^ i * l[i] := by
  rw [take_snoc' l i h, val_snoc, List.length_take, Nat.min_eq_left (by omega)]
end Go.Dig
/- The ground of a small symbolic machine: symbolic values, and what it means that a Go value, in a world, is what a symbolic value says. No program is named here. -/
namespace Go.Sym
open Go.RowKit

/-- Lists that are read only: of which kind the cells are; 'num': a number's digits of 24 bits. -/
inductive LV where
  | ints (xs : List Int)
  | bytes (xs : List UInt8)
  | words (xs : List UInt64)
  | halfs (xs : List UInt32)
  | num (n : Nat)

def LV.vals : LV → List Value
  | .ints xs => xs.map (.int .i64)
  | .bytes xs => xs.map fun x => .int .u8 (x.toNat : Int)
  | .words xs => xs.map fun x => .int .u64 (x.toNat : Int)
  | .halfs xs => xs.map fun x => .int .u32 (x.toNat : Int)
  | .num n => (Dig.dg n).map (.int .i64)
def LV.len : LV → Nat
  | .ints xs => xs.length
  | .bytes xs => xs.length
  | .words xs => xs.length
  | .halfs xs => xs.length
  | .num n => (Dig.dg n).length
theorem LV.len_vals (l : LV) : l.vals.length = l.len := by cases l <;> simp [LV.vals, LV.len]

/-- Symbolic values. 'any1': whatever takes one cell; 'lol': a slice of lists of bytes, which nobody writes. 'ptr': into a block that is the machine's own (by its name); 'slc': a slice over such a block; 'lst', 'ro': a slice, a pointer, to what nobody writes; 'lel': a pointer to a cell of a list; 'sl', 'lp': a slice over a list that is the machine's own (by its name), a pointer into it; 'own': such a list, in memory. 'roO': a pointer to what nobody writes, or none; 'win', 'wsl': a pointer to cells of a block that nobody writes, a slice over such (n elements of s cells). -/
inductive SV where
  | i64 (n : Int)
  | u64 (x : UInt64)
  | u32 (x : UInt32)
  | u8 (x : UInt8)
  | bool (b : Bool)
  | val (v : Value)
  | ptr (b off : Nat)
  | slc (b off len cap : Nat)
  | lst (l : LV)
  | lel (x : SV)
  | sl (b lo len : Nat)
  | lp (b i : Nat)
  | ap (b n : Nat)
  | own (l : LV)
  | ro (cs : List SV) (off : Nat)
  | rsl (cs : List SV) (off n : Nat)
  | agg (cs : List SV)
  | tup (cs : List SV)
  | fn (f : FuncId) (cs : List SV)
  | undef
  | any
  | any1
  | lol (ls : List (List UInt8))
  | roO (b : Bool) (cs : List SV)
  | win (cs : List SV)
  | wsl (cs : List SV) (s n : Nat)

/-- An own list's name: not given yet; a list of no cells; n cells, from a block's cell 'base' on, with room for cap; given up. -/
inductive GN where
  | unborn
  | nil
  | live (g base cap n : Nat)
  | dead (g base cap n : Nat)
def GN.kill : GN → GN
  | .live g b c n => .dead g b c n
  | x => x
def GN.shape : GN → Option (Nat × Nat × Nat × Nat)
  | .live g b c n | .dead g b c n => some (g, b, c, n)
  | _ => none
theorem GN.kill_kill (x : GN) : x.kill.kill = x.kill := by cases x <;> rfl
theorem GN.kill_shape (x : GN) : x.kill.shape = x.shape := by cases x <;> rfl
theorem GN.kill_unborn {x : GN} : x.kill = .unborn ↔ x = .unborn := by cases x <;> simp [GN.kill]
theorem GN.kill_nil {x : GN} : x.kill = .nil ↔ x = .nil := by cases x <;> simp [GN.kill]
theorem GN.kill_live {x : GN} {g b c n : Nat} : x.kill ≠ .live g b c n := by cases x <;> simp [GN.kill]
theorem GN.shape_some {x : GN} (h1 : x ≠ .unborn) (h2 : x ≠ .nil) : ∃ g b c n, x.shape = some (g, b, c, n) := by
  cases x with
  | unborn => exact absurd rfl h1
  | nil => exact absurd rfl h2
  | live g b c n => exact ⟨_, _, _, _, rfl⟩
  | dead g b c n => exact ⟨_, _, _, _, rfl⟩
/-- Which block has which name; which blocks are others', that may write them; which list has which name. -/
structure At where
  nm : Nat → Option Nat
  out : Nat → Prop
  gn : Nat → GN
instance : CoeFun At fun _ => Nat → Option Nat := ⟨At.nm⟩
/-- A block that nobody writes. -/
def Fix (at_ : At) (g : Nat) : Prop := (∀ n, at_ n ≠ some g) ∧ ¬ at_.out g ∧ ∀ n b c k, at_.gn n ≠ .live g b c k

/-- A list of bytes that nobody writes. -/
def BytesAt (at_ : At) (w : World) (l : List UInt8) (v : Value) : Prop := ∃ a c, v = .slice a l.length c ∧ l.length ≤ c ∧ ∀ j u, (LV.bytes l).vals[j]? = some u → ∃ ad, a = some ad ∧ Fix at_ ad.block ∧ w.cell? (ad.add j) = some u
mutual
def Rel (at_ : At) (w : World) : SV → Value → Prop
  | .i64 n, v => v = .int .i64 n
  | .u64 x, v => v = .int .u64 (x.toNat : Int)
  | .u32 x, v => v = .int .u32 (x.toNat : Int)
  | .u8 x, v => v = .int .u8 (x.toNat : Int)
  | .bool b, v => v = .bool b
  | .val u, v => v = u
  | .ptr b off, v => ∃ g, at_ b = some g ∧ v = .pointer (some ⟨g, off, none⟩)
  | .slc b off len cap, v => ∃ g, at_ b = some g ∧ v = .slice (some ⟨g, off, none⟩) len cap
  | .lst l, v => ∃ a c, v = .slice a l.len c ∧ l.len ≤ c ∧ ∀ j u, l.vals[j]? = some u → ∃ ad, a = some ad ∧ Fix at_ ad.block ∧ w.cell? (ad.add j) = some u
  | .lel x, v => ∃ ad u, v = .pointer (some ad) ∧ Fix at_ ad.block ∧ w.cell? ad = some u ∧ Rel at_ w x u
  | .sl b lo len, v => at_.gn b ≠ .unborn ∧ (at_.gn b = .nil → lo = 0 ∧ len = 0 ∧ v = .slice none 0 0) ∧ (∀ g base cap n, (at_.gn b).shape = some (g, base, cap, n) → lo + len ≤ n ∧ n ≤ cap ∧ ∃ ad, v = .slice ad len (cap - lo) ∧ (lo < cap → ad = some ⟨g, base + lo, none⟩)) ∧ v.oneCell' = true
  | .lp b i, v => at_.gn b ≠ .unborn ∧ at_.gn b ≠ .nil ∧ (∀ g base cap n, (at_.gn b).shape = some (g, base, cap, n) → i < n ∧ v = .pointer (some ⟨g, base + i, none⟩)) ∧ v.oneCell' = true
  | .ap b n, v => at_.gn b ≠ .unborn ∧ at_.gn b ≠ .nil ∧ (∀ g base cap m, (at_.gn b).shape = some (g, base, cap, m) → m = n ∧ v = .pointer (some ⟨g, base, none⟩)) ∧ v.oneCell' = true
  | .own _, _ => False
  | .ro cs off, v => ∃ g ty fz vs, v = .pointer (some ⟨g, off, none⟩) ∧ Fix at_ g ∧ w.heap[g]? = some (.cells (List.toArray vs) ty fz) ∧ RelL at_ w cs vs
  | .rsl cs off n, v => ∃ g ty fz vs cap, v = .slice (some ⟨g, off, none⟩) n cap ∧ n ≤ cap ∧ Fix at_ g ∧ w.heap[g]? = some (.cells (List.toArray vs) ty fz) ∧ RelL at_ w cs vs
  | .roO b cs, v => (b = true → ∃ g ty fz vs, v = .pointer (some ⟨g, 0, none⟩) ∧ Fix at_ g ∧ w.heap[g]? = some (.cells (List.toArray vs) ty fz) ∧ RelL at_ w cs vs) ∧ (b = false → v = .pointer none)
  | .win cs, v => ∃ ad vs, v = .pointer (some ad) ∧ Fix at_ ad.block ∧ (∀ (j : Nat) u, vs[j]? = some u → w.cell? (ad.add j) = some u) ∧ RelL at_ w cs vs ∧ 0 < vs.length
  | .wsl cs s n, v => ∃ ad c vs, v = .slice (some ad) n c ∧ n ≤ c ∧ Fix at_ ad.block ∧ (∀ (j : Nat) u, vs[j]? = some u → w.cell? (ad.add j) = some u) ∧ RelL at_ w cs vs ∧ cs.length = n * s ∧ 0 < vs.length
  | .agg cs, v => ∃ vs, v = .agg (List.toArray vs) ∧ RelL at_ w cs vs
  | .tup cs, v => ∃ vs, v = .tuple (List.toArray vs) ∧ RelL at_ w cs vs
  | .fn f cs, v => ∃ vs, v = .func (.func f) #[] (List.toArray vs) ∧ RelL at_ w cs vs
  | .undef, v => v = Go.undef
  | .any, _ => True
  | .any1, v => v.oneCell' = true
  | .lol ls, v => ∃ a c, v = .slice a ls.length c ∧ ls.length ≤ c ∧ ∀ j l, ls[j]? = some l → ∃ ad u, a = some ad ∧ Fix at_ ad.block ∧ w.cell? (ad.add j) = some u ∧ BytesAt at_ w l u
def RelL (at_ : At) (w : World) : List SV → List Value → Prop
  | [], vs => vs = []
  | c :: cs, vs => ∃ v vs', vs = v :: vs' ∧ Rel at_ w c v ∧ RelL at_ w cs vs'
end

/-- Nobody has names. -/
def noAt : At := ⟨fun _ => none, fun _ => False, fun _ => .unborn⟩
theorem Fix.noAt (g : Nat) : Fix noAt g := ⟨fun n h => by simp [Sym.noAt] at h, fun h => h, fun _ _ _ _ h => by simp [Sym.noAt] at h⟩
/-- One block more is others'. -/
def At.hide (at_ : At) (g : Nat) : At := ⟨at_.nm, fun x => at_.out x ∨ x = g, at_.gn⟩
theorem Fix.of_hide {at_ : At} {g g' : Nat} (h : Fix (at_.hide g) g') : Fix at_ g' ∧ g' ≠ g := ⟨⟨h.1, fun e => h.2.1 (.inl e), h.2.2⟩, fun e => h.2.1 (.inr e)⟩
/-- From one world to a later one: names stay; what has no name is as it was. -/
structure Later (at_ : At) (w : World) (at' : At) (w' : World) : Prop where
  os : w'.os = w.os
  tape : w'.tape = w.tape
  output : w'.output = w.output
  size : w.heap.size ≤ w'.heap.size
  name : ∀ n g, at_ n = some g → at' n = some g
  keep : ∀ g, (∀ n, at_ n ≠ some g) → (∀ n b c k, at_.gn n ≠ .live g b c k) → g < w.heap.size → (∀ n, at' n ≠ some g) ∧ (∀ n b c k, at'.gn n ≠ .live g b c k) ∧ w'.heap[g]? = w.heap[g]?
  out : at'.out = at_.out
  new : ∀ n g, at' n = some g → at_ n = some g ∨ w.heap.size ≤ g
  gname : ∀ n, at_.gn n = .unborn ∨ at'.gn n = at_.gn n ∨ at'.gn n = (at_.gn n).kill
  gnew : ∀ n g b c k, at'.gn n = .live g b c k → (∃ m b' c' k', at_.gn m = .live g b' c' k') ∨ w.heap.size ≤ g

theorem Later.fix {at_ at' : At} {w w' : World} (h : Later at_ w at' w') (g : Nat) (hg : Fix at_ g) (hl : g < w.heap.size) : Fix at' g ∧ w'.heap[g]? = w.heap[g]? := by
  obtain ⟨h1, h2, h3⟩ := h.keep g hg.1 hg.2.2 hl
  exact ⟨⟨h1, by rw [h.out]; exact hg.2.1, h2⟩, h3⟩
theorem Later.refl (at_ : At) (w : World) : Later at_ w at_ w := ⟨rfl, rfl, rfl, Nat.le_refl _, fun _ _ h => h, fun _ h h' _ => ⟨h, h', rfl⟩, rfl, fun _ _ h => .inl h, fun _ => .inr (.inl rfl), fun n _ b c k h => .inl ⟨n, b, c, k, h⟩⟩
theorem Later.trans {a b c : At} {u v w : World} (h : Later a u b v) (k : Later b v c w) : Later a u c w :=
  ⟨k.os.trans h.os, k.tape.trans h.tape, k.output.trans h.output, Nat.le_trans h.size k.size, fun n g e => k.name n g (h.name n g e),
   fun g hg hg' hl => by
    obtain ⟨h1, h2, h3⟩ := h.keep g hg hg' hl
    obtain ⟨k1, k2, k3⟩ := k.keep g h1 h2 (Nat.lt_of_lt_of_le hl h.size)
    exact ⟨k1, k2, k3.trans h3⟩, k.out.trans h.out, fun n g e => by
    rcases k.new n g e with e | e
    · exact h.new n g e
    · exact .inr (Nat.le_trans h.size e),
   fun n => by
    rcases h.gname n with e | e | e
    · exact .inl e
    · rcases k.gname n with f | f | f
      · exact .inl (e ▸ f)
      · exact .inr (.inl (f.trans e))
      · exact .inr (.inr (by rw [f, e]))
    · rcases k.gname n with f | f | f
      · rw [e, GN.kill_unborn] at f; exact .inl f
      · exact .inr (.inr (f.trans e))
      · exact .inr (.inr (by rw [f, e, GN.kill_kill])),
   fun n g b' c' k' e => by
    rcases k.gnew n g b' c' k' e with ⟨m, b2, c2, k2, e'⟩ | e'
    · exact h.gnew m g b2 c2 k2 e'
    · exact .inr (Nat.le_trans h.size e')⟩
theorem Later.drew (at_ : At) (w : World) : Later at_ w at_ w.drew := ⟨rfl, rfl, rfl, Nat.le_refl _, fun _ _ h => h, fun _ h h' _ => ⟨h, h', rfl⟩, rfl, fun _ _ h => .inl h, fun _ => .inr (.inl rfl), fun n _ b c k h => .inl ⟨n, b, c, k, h⟩⟩

theorem cell_of_heap {w w' : World} {a : Addr} (h : w'.heap[a.block]? = w.heap[a.block]?) : w'.cell? a = w.cell? a := World.cell?_of_block h
theorem block_add (a : Addr) (n : Nat) : (a.add n).block = a.block := by unfold Addr.add; split <;> rfl
theorem lt_of_heap {w : World} {g : Nat} {o : Obj} (h : w.heap[g]? = some o) : g < w.heap.size := (Array.getElem?_eq_some_iff.1 h).1

theorem Rel.bytes {at_ : At} {w : World} {l : List UInt8} {v : Value} : Rel at_ w (.lst (.bytes l)) v ↔ BytesAt at_ w l v := by simp only [Rel, BytesAt, LV.len]
section
variable {at_ at' : At} {w w' : World}
theorem BytesAt.later (h : Later at_ w at' w') {l : List UInt8} {v : Value} (r : BytesAt at_ w l v) : BytesAt at' w' l v := by
  obtain ⟨a, c, h1, h2, h3⟩ := r
  refine ⟨a, c, h1, h2, fun j u hj => ?_⟩
  obtain ⟨ad, e1, e2, e3⟩ := h3 j u hj
  have hl : ad.block < w.heap.size := by have := block_lt_of_cell e3; rwa [block_add] at this
  obtain ⟨f1, f2⟩ := h.fix _ e2 hl
  exact ⟨ad, e1, f1, (cell_of_heap (by rw [block_add]; exact f2)).trans e3⟩
mutual
theorem Rel.later (h : Later at_ w at' w') : ∀ (s : SV) (v : Value), Rel at_ w s v → Rel at' w' s v
  | .i64 _, _, r => by simpa only [Rel] using r
  | .u64 _, _, r => by simpa only [Rel] using r
  | .u32 _, _, r => by simpa only [Rel] using r
  | .u8 _, _, r => by simpa only [Rel] using r
  | .bool _, _, r => by simpa only [Rel] using r
  | .val _, _, r => by simpa only [Rel] using r
  | .undef, _, r => by simpa only [Rel] using r
  | .any, _, _ => by simp only [Rel]
  | .any1, _, r => by simpa only [Rel] using r
  | .lol _, _, r => by
    simp only [Rel] at r ⊢
    obtain ⟨a, c, h1, h2, h3⟩ := r
    refine ⟨a, c, h1, h2, fun j l hj => ?_⟩
    obtain ⟨ad, u, e1, e2, e3, e4⟩ := h3 j l hj
    have hl : ad.block < w.heap.size := by have := block_lt_of_cell e3; rwa [block_add] at this
    obtain ⟨f1, f2⟩ := h.fix _ e2 hl
    exact ⟨ad, u, e1, f1, (cell_of_heap (by rw [block_add]; exact f2)).trans e3, e4.later h⟩
  | .ptr _ _, _, r => by
    simp only [Rel] at r ⊢
    obtain ⟨g, h1, h2⟩ := r
    exact ⟨g, h.name _ _ h1, h2⟩
  | .slc _ _ _ _, _, r => by
    simp only [Rel] at r ⊢
    obtain ⟨g, h1, h2⟩ := r
    exact ⟨g, h.name _ _ h1, h2⟩
  | .sl b lo len, v, r => by
    simp only [Rel] at r ⊢
    obtain ⟨h1, h2, h3, h4⟩ := r
    rcases h.gname b with e | e | e
    · exact absurd e h1
    · rw [e]; exact ⟨h1, h2, h3, h4⟩
    · rw [e, GN.kill_shape]
      exact ⟨fun h => h1 (GN.kill_unborn.1 h), fun h => h2 (GN.kill_nil.1 h), h3, h4⟩
  | .lp b i, v, r => by
    simp only [Rel] at r ⊢
    obtain ⟨h1, h2, h3, h4⟩ := r
    rcases h.gname b with e | e | e
    · exact absurd e h1
    · rw [e]; exact ⟨h1, h2, h3, h4⟩
    · rw [e, GN.kill_shape]
      exact ⟨fun h => h1 (GN.kill_unborn.1 h), fun h => h2 (GN.kill_nil.1 h), h3, h4⟩
  | .ap b n, v, r => by
    simp only [Rel] at r ⊢
    obtain ⟨h1, h2, h3, h4⟩ := r
    rcases h.gname b with e | e | e
    · exact absurd e h1
    · rw [e]; exact ⟨h1, h2, h3, h4⟩
    · rw [e, GN.kill_shape]
      exact ⟨fun h => h1 (GN.kill_unborn.1 h), fun h => h2 (GN.kill_nil.1 h), h3, h4⟩
  | .own _, _, r => by simp only [Rel] at r
  | .lst _, _, r => by
    simp only [Rel] at r ⊢
    obtain ⟨a, c, h1, h2, h3⟩ := r
    refine ⟨a, c, h1, h2, fun j u hj => ?_⟩
    obtain ⟨ad, e1, e2, e3⟩ := h3 j u hj
    have hl : ad.block < w.heap.size := by have := block_lt_of_cell e3; rwa [block_add] at this
    obtain ⟨f1, f2⟩ := h.fix _ e2 hl
    exact ⟨ad, e1, f1, (cell_of_heap (by rw [block_add]; exact f2)).trans e3⟩
  | .lel x, _, r => by
    simp only [Rel] at r ⊢
    obtain ⟨ad, u, h1, h2, h3, h4⟩ := r
    obtain ⟨f1, f2⟩ := h.fix _ h2 (block_lt_of_cell h3)
    exact ⟨ad, u, h1, f1, (cell_of_heap f2).trans h3, Rel.later h x u h4⟩
  | .ro cs _, _, r => by
    simp only [Rel] at r ⊢
    obtain ⟨g, ty, fz, vs, h1, h2, h3, h4⟩ := r
    obtain ⟨f1, f2⟩ := h.fix _ h2 (lt_of_heap h3)
    exact ⟨g, ty, fz, vs, h1, f1, f2.trans h3, RelL.later h cs vs h4⟩
  | .roO b cs, _, r => by
    simp only [Rel] at r ⊢
    refine ⟨fun hb => ?_, r.2⟩
    obtain ⟨g, ty, fz, vs, h1, h2, h3, h4⟩ := r.1 hb
    obtain ⟨f1, f2⟩ := h.fix _ h2 (lt_of_heap h3)
    exact ⟨g, ty, fz, vs, h1, f1, f2.trans h3, RelL.later h cs vs h4⟩
  | .win cs, _, r => by
    simp only [Rel] at r ⊢
    obtain ⟨ad, vs, h1, h2, h3, h4, h5⟩ := r
    have hl : ad.block < w.heap.size := by have := block_lt_of_cell (h3 0 _ (List.getElem?_eq_getElem h5)); rwa [block_add] at this
    obtain ⟨f1, f2⟩ := h.fix _ h2 hl
    exact ⟨ad, vs, h1, f1, fun j u hj => (cell_of_heap (by rw [block_add]; exact f2)).trans (h3 j u hj), RelL.later h cs vs h4, h5⟩
  | .wsl cs s n, _, r => by
    simp only [Rel] at r ⊢
    obtain ⟨ad, c, vs, h1, h0, h2, h3, h4, h6, h5⟩ := r
    have hl : ad.block < w.heap.size := by have := block_lt_of_cell (h3 0 _ (List.getElem?_eq_getElem h5)); rwa [block_add] at this
    obtain ⟨f1, f2⟩ := h.fix _ h2 hl
    exact ⟨ad, c, vs, h1, h0, f1, fun j u hj => (cell_of_heap (by rw [block_add]; exact f2)).trans (h3 j u hj), RelL.later h cs vs h4, h6, h5⟩
  | .rsl cs _ _, _, r => by
    simp only [Rel] at r ⊢
    obtain ⟨g, ty, fz, vs, cap, h1, h0, h2, h3, h4⟩ := r
    obtain ⟨f1, f2⟩ := h.fix _ h2 (lt_of_heap h3)
    exact ⟨g, ty, fz, vs, cap, h1, h0, f1, f2.trans h3, RelL.later h cs vs h4⟩
  | .agg cs, _, r => by
    simp only [Rel] at r ⊢
    obtain ⟨vs, h1, h2⟩ := r
    exact ⟨vs, h1, RelL.later h cs vs h2⟩
  | .tup cs, _, r => by
    simp only [Rel] at r ⊢
    obtain ⟨vs, h1, h2⟩ := r
    exact ⟨vs, h1, RelL.later h cs vs h2⟩
  | .fn _ cs, _, r => by
    simp only [Rel] at r ⊢
    obtain ⟨vs, h1, h2⟩ := r
    exact ⟨vs, h1, RelL.later h cs vs h2⟩
theorem RelL.later (h : Later at_ w at' w') : ∀ (s : List SV) (v : List Value), RelL at_ w s v → RelL at' w' s v
  | [], _, r => by simpa only [RelL] using r
  | c :: cs, _, r => by
    simp only [RelL] at r ⊢
    obtain ⟨v, vs, h1, h2, h3⟩ := r
    exact ⟨v, vs, h1, Rel.later h c v h2, RelL.later h cs vs h3⟩
end
end

section
variable {at_ : At} {w : World}
theorem RelL.length : ∀ {s : List SV} {v : List Value}, RelL at_ w s v → v.length = s.length
  | [], _, r => by simp only [RelL] at r; simp [r]
  | _ :: cs, _, r => by
    simp only [RelL] at r
    obtain ⟨v, vs, rfl, _, h3⟩ := r
    simp [RelL.length h3]
theorem RelL.get : ∀ {s : List SV} {v : List Value}, RelL at_ w s v → ∀ (i : Nat) (c : SV), s[i]? = some c → ∃ u, v[i]? = some u ∧ Rel at_ w c u
  | [], _, _, i, c, hi => by simp at hi
  | d :: cs, _, r, i, c, hi => by
    simp only [RelL] at r
    obtain ⟨v, vs, rfl, h2, h3⟩ := r
    cases i with
    | zero => simp at hi; subst hi; exact ⟨v, rfl, h2⟩
    | succ i => simp at hi; obtain ⟨u, h4, h5⟩ := RelL.get h3 i c hi; exact ⟨u, by simpa using h4, h5⟩
theorem RelL.set : ∀ {s : List SV} {v : List Value}, RelL at_ w s v → ∀ (i : Nat) (c : SV) (u : Value), Rel at_ w c u → RelL at_ w (s.set i c) (v.set i u)
  | [], _, r, i, c, u, _ => by simp only [RelL] at r; subst r; simp [RelL]
  | d :: cs, _, r, i, c, u, hu => by
    simp only [RelL] at r
    obtain ⟨v, vs, rfl, h2, h3⟩ := r
    cases i with
    | zero => simp only [List.set_cons_zero, RelL]; exact ⟨u, vs, rfl, hu, h3⟩
    | succ i => simp only [List.set_cons_succ, RelL]; exact ⟨v, vs.set i u, rfl, h2, RelL.set h3 i c u hu⟩
theorem RelL.take : ∀ {s : List SV} {v : List Value}, RelL at_ w s v → ∀ (n : Nat), RelL at_ w (s.take n) (v.take n)
  | [], _, r, n => by simp only [RelL] at r; subst r; simp [RelL]
  | d :: cs, _, r, n => by
    have r0 := r
    simp only [RelL] at r
    obtain ⟨v, vs, rfl, h2, h3⟩ := r
    cases n with
    | zero => simp [RelL]
    | succ n => simp only [List.take_succ_cons, RelL]; exact ⟨v, _, rfl, h2, RelL.take h3 n⟩
theorem RelL.drop : ∀ {s : List SV} {v : List Value}, RelL at_ w s v → ∀ (n : Nat), RelL at_ w (s.drop n) (v.drop n)
  | [], _, r, n => by simp only [RelL] at r; subst r; simp [RelL]
  | d :: cs, _, r, n => by
    have r0 := r
    simp only [RelL] at r
    obtain ⟨v, vs, rfl, h2, h3⟩ := r
    cases n with
    | zero => simpa using r0
    | succ n => simp only [List.drop_succ_cons]; exact RelL.drop h3 n
theorem RelL.append : ∀ {s t : List SV} {v u : List Value}, RelL at_ w s v → RelL at_ w t u → RelL at_ w (s ++ t) (v ++ u)
  | [], _, _, _, r, k => by simp only [RelL] at r; subst r; simpa using k
  | d :: cs, _, _, _, r, k => by
    simp only [RelL] at r
    obtain ⟨v, vs, rfl, h2, h3⟩ := r
    simp only [List.cons_append, RelL]
    exact ⟨v, _, rfl, h2, RelL.append h3 k⟩
theorem RelL.cons {c : SV} {cs : List SV} {v : Value} {vs : List Value} (h : Rel at_ w c v) (h' : RelL at_ w cs vs) : RelL at_ w (c :: cs) (v :: vs) := by
  simp only [RelL]; exact ⟨v, vs, rfl, h, h'⟩
theorem RelL.nil : RelL at_ w [] [] := by simp only [RelL]
theorem RelL.replicate (n : Nat) {c : SV} {v : Value} (h : Rel at_ w c v) : RelL at_ w (List.replicate n c) (List.replicate n v) := by
  induction n with
  | zero => exact RelL.nil
  | succ n ih => exact RelL.cons h ih
end

/-- A literal value as a symbolic one. -/
def SV.ofV : Value → SV
  | .int .i64 n => .i64 n
  | .int .u64 n => if 0 ≤ n ∧ n < 18446744073709551616 then .u64 (UInt64.ofNat n.toNat) else .val (.int .u64 n)
  | .int .u32 n => if 0 ≤ n ∧ n < 4294967296 then .u32 (UInt32.ofNat n.toNat) else .val (.int .u32 n)
  | .int .u8 n => if 0 ≤ n ∧ n < 256 then .u8 (UInt8.ofNat n.toNat) else .val (.int .u8 n)
  | .bool b => .bool b
  | v => .val v
theorem Rel.ofV (at_ : At) (w : World) (v : Value) : Rel at_ w (SV.ofV v) v := by
  unfold SV.ofV
  split <;> (try split) <;> simp only [Rel] <;> (rename_i n h; simp; omega)
theorem RelL.ofV (at_ : At) (w : World) : ∀ vs : List Value, RelL at_ w (vs.map SV.ofV) vs
  | [] => RelL.nil
  | v :: vs => RelL.cons (Rel.ofV at_ w v) (RelL.ofV at_ w vs)

end Go.Sym
/- The symbolic machine's operations: what each of the model's operations does to symbolic values and to the machine's own blocks. -/
namespace Go.Sym
open Go.RowKit

/-- Which package-level tables there are, and what they hold. -/
class GLob where
  gl : Nat → Option LV
/-- What is known of a type. -/
inductive TD where
  | int (k : IntKind) | bool | ptr (e : TypeId) | slice (e : TypeId) | array (n : Nat) (e : TypeId) | struct (fs : List (Nat × TypeId)) | str | other
def TD.of : TypeDesc → TD
  | .int k => .int k
  | .bool => .bool
  | .pointer e => .ptr e
  | .slice e => .slice e
  | .array n e => .array n e
  | .struct fs => .struct (fs.toList.map fun f => (f.offset, f.type))
  | .string => .str
  | _ => .other
def TD.agg : TD → Bool
  | .array _ _ | .struct _ => true
  | _ => false
structure TI where
  d : TD
  size : Nat
  bytes : Nat
  zero : List Value
/-- A table of types. -/
abbrev TT := List (TypeId × TI)
structure TIOK (P : Program) (t : TypeId) (i : TI) : Prop where
  info : (P.info? t).map (fun x => (x.zero.map (·.cells.toList), x.size, x.bytes)) = some (some i.zero, i.size, i.bytes)
  und : (P.underlying t).map TD.of = some i.d
  guard : P.eqGuardType P.depth t = false
def TTOK (P : Program) (tt : TT) : Prop := ∀ t i, tt.lookup t = some i → TIOK P t i
theorem TTOK.nil (P : Program) : TTOK P [] := fun _ _ h => by simp at h
theorem TTOK.cons {P : Program} {t : TypeId} {i : TI} {tt : TT} (h : TIOK P t i) (k : TTOK P tt) : TTOK P ((t, i) :: tt) := by
  intro t' i' h'
  simp only [List.lookup_cons] at h'
  split at h'
  · rename_i e; have e' := eq_of_beq e; simp at h'; subst e'; subst h'; exact h
  · exact k t' i' h'

abbrev Blk := List SV
/-- A step's outcome: what must hold for it, its value, the blocks that it writes. -/
structure Out where
  pre : Option Prop
  sv : SV
  ws : List (Nat × Blk)
def Ok : Option Prop → Prop
  | none => True
  | some p => p
def Out.ok (o : Out) : Prop := Ok o.pre
/-- What a call comes to: out of its arguments. -/
abbrev SpecF := List SV → Option (Option Prop × SV)
/-- The same of a call that writes blocks that its arguments lead to. -/
abbrev MSpecF := (Nat → Option Blk) → List SV → Option Out
abbrev NSpecF := (Nat → Option Blk) → Nat → List SV → Option Out
/-- 'pure': a result out of the arguments; 'fresh': one that is nobody's but the caller's; 'mem': writes what its arguments lead to; 'memf': makes a block, too. -/
inductive SpecE where
  | pure (s : SpecF)
  | fresh (s : SpecF)
  | mem (s : MSpecF)
  | memf (s : NSpecF)
instance : Coe SpecF SpecE := ⟨.pure⟩
abbrev Specs := List (FuncId × SpecE)

/-- May it be stored in one cell? -/
def SV.one : SV → Bool
  | .i64 _ | .u64 _ | .u32 _ | .u8 _ | .bool _ | .ptr _ _ | .slc _ _ _ _ | .lst _ | .lel _ | .ro _ _ | .rsl _ _ _ | .fn _ _ | .sl _ _ _ | .lp _ _ | .ap _ _ | .any1 | .lol _ | .roO _ _ | .win _ | .wsl _ _ _ => true
  | .val v => v.oneCell'
  | _ => false
/-- The cells that a value takes. -/
def SV.cells? : SV → Option (List SV)
  | .agg cs => if cs.all SV.one = true then some cs else none
  | v => if v.one = true then some [v] else none
mutual
/-- It names none of the machine's own blocks. -/
def SV.noName : SV → Bool
  | .ptr _ _ | .slc _ _ _ _ | .sl _ _ _ | .lp _ _ | .ap _ _ => false
  | .lel x => x.noName
  | .ro cs _ | .rsl cs _ _ | .agg cs | .tup cs | .fn _ cs | .roO _ cs | .win cs | .wsl cs _ _ => noNameL cs
  | _ => true
def noNameL : List SV → Bool
  | [] => true
  | c :: cs => c.noName && noNameL cs
end
/-- A value that leads nowhere. -/
def SV.flat1 : SV → Bool
  | .i64 _ | .u64 _ | .u32 _ | .u8 _ | .bool _ | .val _ | .any1 => true
  | _ => false
mutual
def SV.flat : SV → Bool
  | .agg cs | .tup cs => flatL cs
  | v => v.flat1
def flatL : List SV → Bool
  | [] => true
  | c :: cs => c.flat && flatL cs
end

def u64k (n : Nat) : UInt64 := UInt64.ofNat n
def shl64 (x : UInt64) (n : Nat) : UInt64 := UInt64.ofNat (x.toNat * 2 ^ n)
def shr64 (x : UInt64) (n : Nat) : UInt64 := UInt64.ofNat (x.toNat / 2 ^ n)
def shl32 (x : UInt32) (n : Nat) : UInt32 := UInt32.ofNat (x.toNat * 2 ^ n)
def shr32 (x : UInt32) (n : Nat) : UInt32 := UInt32.ofNat (x.toNat / 2 ^ n)
def shl8 (x : UInt8) (n : Nat) : UInt8 := UInt8.ofNat (x.toNat * 2 ^ n)
def shr8 (x : UInt8) (n : Nat) : UInt8 := UInt8.ofNat (x.toNat / 2 ^ n)

def binI (op : BinOp) (x y : Int) : Option SV :=
  match op with
  | .add => some (.i64 (IntKind.i64.wrap (x + y)))
  | .sub => some (.i64 (IntKind.i64.wrap (x - y)))
  | .mul => some (.i64 (IntKind.i64.wrap (x * y)))
  | .quo => if y = 0 then none else some (.i64 (IntKind.i64.wrap (x.tdiv y)))
  | .rem => if y = 0 then none else some (.i64 (x.tmod y))
  | .eql => some (.bool (x == y))
  | .neq => some (.bool (x != y))
  | .lss => some (.bool (decide (x < y)))
  | .leq => some (.bool (decide (x ≤ y)))
  | .gtr => some (.bool (decide (x > y)))
  | .geq => some (.bool (decide (x ≥ y)))
  | _ => none
def binU64 (op : BinOp) (x y : UInt64) : Option SV :=
  match op with
  | .add => some (.u64 (x + y))
  | .sub => some (.u64 (x - y))
  | .mul => some (.u64 (x * y))
  | .quo => if y = 0 then none else some (.u64 (x / y))
  | .rem => if y = 0 then none else some (.u64 (x % y))
  | .and => some (.u64 (x &&& y))
  | .or => some (.u64 (x ||| y))
  | .xor => some (.u64 (x ^^^ y))
  | .andNot => some (.u64 (x &&& ~~~y))
  | .eql => some (.bool (x == y))
  | .neq => some (.bool (x != y))
  | .lss => some (.bool (decide (x < y)))
  | .leq => some (.bool (decide (x ≤ y)))
  | .gtr => some (.bool (decide (y < x)))
  | .geq => some (.bool (decide (y ≤ x)))
  | _ => none
def binU32 (op : BinOp) (x y : UInt32) : Option SV :=
  match op with
  | .add => some (.u32 (x + y))
  | .sub => some (.u32 (x - y))
  | .mul => some (.u32 (x * y))
  | .and => some (.u32 (x &&& y))
  | .or => some (.u32 (x ||| y))
  | .xor => some (.u32 (x ^^^ y))
  | .eql => some (.bool (x == y))
  | .neq => some (.bool (x != y))
  | _ => none
def binU8 (op : BinOp) (x y : UInt8) : Option SV :=
  match op with
  | .add => some (.u8 (x + y))
  | .sub => some (.u8 (x - y))
  | .and => some (.u8 (x &&& y))
  | .or => some (.u8 (x ||| y))
  | .xor => some (.u8 (x ^^^ y))
  | .eql => some (.bool (x == y))
  | .neq => some (.bool (x != y))
  | .lss => some (.bool (decide (x < y)))
  | .leq => some (.bool (decide (x ≤ y)))
  | .gtr => some (.bool (decide (y < x)))
  | .geq => some (.bool (decide (y ≤ x)))
  | _ => none
/-- A shift's count. -/
def SV.count : SV → Option Nat
  | .i64 n => if 0 ≤ n then some n.toNat else none
  | .u64 x => some x.toNat
  | .u8 x => some x.toNat
  | .u32 x => some x.toNat
  | _ => none
def shift (op : BinOp) (x : SV) (n : Nat) : Option SV :=
  match op, x with
  | .shl, .u64 x => some (.u64 (shl64 x n))
  | .shr, .u64 x => some (.u64 (shr64 x n))
  | .shl, .u32 x => some (.u32 (shl32 x n))
  | .shr, .u32 x => some (.u32 (shr32 x n))
  | .shl, .u8 x => some (.u8 (shl8 x n))
  | .shr, .u8 x => some (.u8 (shr8 x n))
  | .shr, .i64 x => some (.i64 (x.fdiv (2 ^ (min n 64))))
  | .shr, .val (.int .u16 x) => some (.val (.int .u16 (x.fdiv (2 ^ (min n 16)))))
  | _, _ => none
/-- Are two lists of numbers the same? -/
def eqCells : List SV → List SV → Option Bool
  | [], [] => some true
  | .u64 x :: xs, .u64 y :: ys => (eqCells xs ys).map fun b => (x == y) && b
  | _, _ => none
def binN (op : BinOp) (x y : SV) : Option SV :=
  match op, x, y with
  | .shl, x, y => y.count.bind (shift .shl x)
  | .shr, x, y => y.count.bind (shift .shr x)
  | op, .i64 a, .i64 b => binI op a b
  | op, .u64 a, .u64 b => binU64 op a b
  | op, .u32 a, .u32 b => binU32 op a b
  | op, .u8 a, .u8 b => binU8 op a b
  | .gtr, .val (.int .u16 a), .val (.int .u16 b) => some (.bool (decide (a > b)))
  | _, _, _ => none
def binB (op : BinOp) (x y : SV) : Option SV :=
  match op, x, y with
  | .eql, .bool a, .bool b => some (.bool (a == b))
  | .neq, .bool a, .bool b => some (.bool (!(a == b)))
  | _, _, _ => none
def binP (op : BinOp) (x y : SV) : Option SV :=
  match op, x, y with
  | .eql, .ptr _ _, .val (.pointer none) | .eql, .ro _ _, .val (.pointer none) => some (.bool false)
  | .neq, .ptr _ _, .val (.pointer none) | .neq, .ro _ _, .val (.pointer none) => some (.bool true)
  | .eql, .val (.pointer none), .val (.pointer none) => some (.bool true)
  | .neq, .val (.pointer none), .val (.pointer none) => some (.bool false)
  | _, _, _ => none
def una (op : UnOp) (x : SV) : Option SV :=
  match op, x with
  | .not, .bool b => some (.bool (!b))
  | .neg, .u64 x => some (.u64 (0 - x))
  | .neg, .i64 n => some (.i64 (IntKind.i64.wrap (0 - n)))
  | .xor, .u64 x => some (.u64 (~~~x))
  | .xor, .u32 x => some (.u32 (~~~x))
  | _, _ => none
def conv (k : IntKind) (x : SV) : Option SV :=
  match k, x with
  | .i64, .i64 n => some (.i64 (IntKind.i64.wrap n))
  | .i64, .u64 x => some (.i64 (IntKind.i64.wrap (x.toNat : Int)))
  | .i64, .u32 x => some (.i64 (x.toNat : Int))
  | .i64, .u8 x => some (.i64 (x.toNat : Int))
  | .u64, .i64 n => some (.u64 (UInt64.ofInt n))
  | .u64, .u64 x => some (.u64 x)
  | .u64, .u32 x => some (.u64 x.toUInt64)
  | .u64, .u8 x => some (.u64 x.toUInt64)
  | .u32, .u64 x => some (.u32 x.toUInt32)
  | .u32, .u32 x => some (.u32 x)
  | .u32, .u8 x => some (.u32 x.toUInt32)
  | .u32, .i64 n => some (.u32 (UInt32.ofInt n))
  | .u8, .u64 x => some (.u8 x.toUInt8)
  | .u8, .u32 x => some (.u8 x.toUInt8)
  | .u8, .u8 x => some (.u8 x)
  | .u8, .i64 n => some (.u8 (UInt8.ofInt n))
  | .i64, .val (.int .u16 n) => some (.i64 (IntKind.i64.wrap n))
  | .u8, .val (.int .u16 n) => some (.u8 (UInt8.ofInt n))
  | _, _ => none

/-- Parts laid into cells. -/
def fillL (place : Nat → Option (Nat × Nat)) (cells : List SV) : List (Nat × SV) → Option (List SV)
  | [] => some cells
  | (i, v) :: rest =>
    match place i with
    | none => none
    | some (off, size) =>
      match v.cells? with
      | some vs => if vs.length = size ∧ off + vs.length ≤ cells.length then fillL place (cells.take off ++ vs ++ cells.drop (off + vs.length)) rest else none
      | none => none

def sizeT (tt : TT) (t : TypeId) : Option Nat := (tt.lookup t).map (·.size)
def placesT (tt : TT) : List (Nat × TypeId) → Option (List (Nat × Nat))
  | [] => some []
  | f :: fs => match sizeT tt f.2, placesT tt fs with
    | some s, some r => some ((f.1, s) :: r)
    | _, _ => none
/-- What a pointer leads to. -/
def target (look : Nat → Option Blk) : SV → Option (Blk × Nat)
  | .ptr b off => (look b).map (·, off)
  | .ro cs off => some (cs, off)
  | _ => none
def SV.toI : SV → Option Int
  | .i64 n => some n
  | .u64 x => some (x.toNat : Int)
  | .u8 x => some (x.toNat : Int)
  | .u32 x => some (x.toNat : Int)
  | _ => none
/-- A list's cell. -/
def LV.at_ (l : LV) (i : Nat) : SV :=
  match l with
  | .ints xs => .i64 (xs.getD i 0)
  | .bytes xs => .u8 (xs.getD i 0)
  | .words xs => .u64 (xs.getD i 0)
  | .halfs xs => .u32 (xs.getD i 0)
  | .num n => .i64 ((Dig.dg n).getD i 0)
def LV.cut (l : LV) (lo hi : Nat) : LV :=
  match l with
  | .ints xs => .ints ((xs.take hi).drop lo)
  | .bytes xs => .bytes ((xs.take hi).drop lo)
  | .words xs => .words ((xs.take hi).drop lo)
  | .halfs xs => .halfs ((xs.take hi).drop lo)
  | .num n => .ints (((Dig.dg n).take hi).drop lo)

/-- A list of noughts. -/
def LV.rep (k : IntKind) (n : Nat) : Option LV :=
  match k with
  | .i64 => some (.ints (List.replicate n 0))
  | .u64 => some (.words (List.replicate n 0))
  | .u32 => some (.halfs (List.replicate n 0))
  | .u8 => some (.bytes (List.replicate n 0))
  | _ => none
def LV.app : LV → LV → Option LV
  | .ints a, .ints b => some (.ints (a ++ b))
  | .words a, .words b => some (.words (a ++ b))
  | .halfs a, .halfs b => some (.halfs (a ++ b))
  | .ints a, .num n => some (.ints (a ++ Dig.dg n))
  | .bytes a, .bytes b => some (.bytes (a ++ b))
  | _, _ => none
def LV.setAt : LV → Nat → SV → Option LV
  | .ints a, i, .i64 x => some (.ints (a.set i x))
  | .words a, i, .u64 x => some (.words (a.set i x))
  | .halfs a, i, .u32 x => some (.halfs (a.set i x))
  | .bytes a, i, .u8 x => some (.bytes (a.set i x))
  | _, _, _ => none
/-- Cells of numbers, as a list. -/
def asI64s : List SV → Option (List Int)
  | [] => some []
  | .i64 x :: cs => (asI64s cs).map (x :: ·)
  | _ => none
def asU64s : List SV → Option (List UInt64)
  | [] => some []
  | .u64 x :: cs => (asU64s cs).map (x :: ·)
  | _ => none
def asU32s : List SV → Option (List UInt32)
  | [] => some []
  | .u32 x :: cs => (asU32s cs).map (x :: ·)
  | _ => none
def asU8s : List SV → Option (List UInt8)
  | [] => some []
  | .u8 x :: cs => (asU8s cs).map (x :: ·)
  | _ => none
def asLV (cs : List SV) : Option LV :=
  match cs with
  | .i64 _ :: _ => (asI64s cs).map .ints
  | .u64 _ :: _ => (asU64s cs).map .words
  | .u32 _ :: _ => (asU32s cs).map .halfs
  | .u8 _ :: _ => (asU8s cs).map .bytes
  | _ => none

/-- Cells that are lists of bytes, as a list of lists. -/
def asLols : List SV → Option (List (List UInt8))
  | [] => some []
  | .lst (.bytes l) :: cs => (asLols cs).map (l :: ·)
  | .val (.slice none 0 _) :: cs => (asLols cs).map ([] :: ·)
  | _ => none
/-- A block's cells as a callee sees them. -/
def frz1 (look : Nat → Option Blk) : SV → Option (SV × List Nat)
  | .sl b lo len => match look b with
    | some [.own l] => some (.lst (l.cut lo (lo + len)), [b])
    | _ => none
  | v => if v.noName = true then some (v, []) else none
def frzL (look : Nat → Option Blk) : List SV → Option (List SV × List Nat)
  | [] => some ([], [])
  | v :: vs => match frz1 look v, frzL look vs with
    | some (v', ks), some (vs', ks') => some (v' :: vs', ks ++ ks')
    | _, _ => none
/-- An argument as the callee sees it: nobody writes the caller's blocks while it runs. Its second part: the own lists that are handed in; its third: are other own blocks handed in? -/
def lend (look : Nat → Option Blk) : SV → Option (SV × List Nat × Bool)
  | .ptr b off => (look b).bind fun cs => (frzL look cs).map fun p => (.ro p.1 off, p.2, true)
  | .slc b off len cap => (look b).bind fun cs => if off + len ≤ cs.length ∧ 0 < len ∧ len ≤ cap then (if off + cap = cs.length then (match asLV ((cs.drop off).take len) with | some l => some (.lst l, [], true) | none => (frzL look cs).bind fun p => (asLols ((p.1.drop off).take len)).map fun ls => (.lol ls, p.2, true)) else (frzL look cs).map fun p => (.rsl p.1 off len, p.2, true)) else none
  | .sl b lo len => match look b with
    | some [.own l] => some (.lst (l.cut lo (lo + len)), [b], false)
    | _ => none
  | .any | .undef | .lp _ _ | .ap _ _ | .own _ => none
  | .agg cs => match frzL look cs with
    | some (cs', k :: ks) => some (.agg cs', k :: ks, false)
    | _ => some (.agg cs, [], false)
  | v => some (v, [], false)
def lendL (look : Nat → Option Blk) : List SV → Option (List SV × List Nat × Bool)
  | [] => some ([], [], false)
  | v :: vs => match lend look v, lendL look vs with
    | some (v', ks, b), some (vs', ks', c) => some (v' :: vs', ks ++ ks', b || c)
    | _, _ => none

/-- What is appended. -/
def rowOf (look : Nat → Option Blk) (k : IntKind) (y : SV) : Option LV :=
  match y with
  | .val (.slice _ 0 _) => LV.rep k 0
  | y => match lend look y with
    | some (.lst l, _, _) => some l
    | _ => none
def appLim : Nat := 17592186044416
def coreAppend (tt : TT) (look : Nat → Option Blk) (fresh : Nat) (x y : SV) (t : TypeId) : Option Out :=
  match tt.lookup t with
  | some ⟨.slice e, _, _, _⟩ => match tt.lookup e with
    | some ⟨.int k, 1, by_, [_]⟩ => if by_ ≤ 8 then match rowOf look k y with
        | some ny => match x with
          | .val (.slice none 0 0) => match LV.rep k 0 with
            | some l0 => match l0.app ny with
              | some l' => some ⟨some (l'.len ≤ appLim), .sl fresh 0 l'.len, [(fresh, [.own l'])]⟩
              | none => none
            | none => none
          | .sl b lo len => match look b with
            | some [.own l] => match (l.cut lo l.len).app ny with
              | some l' => some ⟨some (lo + len = l.len ∧ l'.len ≤ appLim), .sl fresh 0 l'.len, [(b, []), (fresh, [.own l'])]⟩
              | none => none
            | _ => none
          | _ => none
        | none => none
      else none
    | _ => none
  | _ => none
/-- A slice against none. -/
def binS (op : BinOp) (x y : SV) : Option Out :=
  match op, x, y with
  | .eql, .lst l, .val (.slice none 0 0) => some ⟨some (0 < l.len), .bool false, []⟩
  | .neq, .lst l, .val (.slice none 0 0) => some ⟨some (0 < l.len), .bool true, []⟩
  | .eql, .val (.slice none _ _), .val (.slice none 0 0) => some ⟨none, .bool true, []⟩
  | .neq, .val (.slice none _ _), .val (.slice none 0 0) => some ⟨none, .bool false, []⟩
  | .eql, .val (.slice (some _) _ _), .val (.slice none 0 0) => some ⟨none, .bool false, []⟩
  | .neq, .val (.slice (some _) _ _), .val (.slice none 0 0) => some ⟨none, .bool true, []⟩
  | _, _, _ => none
/-- One list laid over another, from some place on. -/
def LV.over : LV → Nat → LV → Option LV
  | .ints a, i, .ints b => some (.ints (a.take i ++ b ++ a.drop (i + b.length)))
  | .words a, i, .words b => some (.words (a.take i ++ b ++ a.drop (i + b.length)))
  | .halfs a, i, .halfs b => some (.halfs (a.take i ++ b ++ a.drop (i + b.length)))
  | .bytes a, i, .bytes b => some (.bytes (a.take i ++ b ++ a.drop (i + b.length)))
  | _, _, _ => none
def coreCopy (tt : TT) (look : Nat → Option Blk) (x y : SV) (t : TypeId) : Option Out :=
  match tt.lookup t with
  | some ⟨.slice e, _, _, _⟩ => match tt.lookup e with
    | some ⟨.int k, 1, _, _⟩ => match rowOf look k y with
      | some ny => match x with
        | .sl b lo len => match look b with
          | some [.own l] => match l.over lo (ny.cut 0 len) with
            | some l' => some ⟨none, .i64 (ny.cut 0 len).len, [(b, [.own l'])]⟩
            | none => none
          | _ => none
        | _ => none
      | none => none
    | _ => none
  | _ => none
def boundI (ρ : Operand → SV) (o : Option Operand) (d : Int) : Option Int :=
  match o with
  | some v => (ρ v).toI
  | none => some d
def mk (sv : SV) : Option Out := some ⟨none, sv, []⟩
def mk? : Option SV → Option Out
  | some sv => some ⟨none, sv, []⟩
  | none => none

def ldAt (agg : Bool) (size : Nat) : Option (Blk × Nat) → Option Out
  | some (cs, off) => if agg then (if off + size ≤ cs.length then mk (.agg ((cs.drop off).take size)) else none) else mk? (cs[off]?)
  | none => none

/-- So many rows, one behind the other. -/
def rowsOf {α : Type} : Nat → List α → List α
  | 0, _ => []
  | n + 1, zs => zs ++ rowsOf n zs
theorem rowsOf_length {α : Type} (zs : List α) : ∀ n, (rowsOf n zs).length = n * zs.length
  | 0 => by simp [rowsOf]
  | n + 1 => by rw [rowsOf, List.length_append, rowsOf_length zs n, Nat.add_mul]; omega
theorem rowsOf_get {α : Type} (zs : List α) : ∀ n i, i < n * zs.length → (rowsOf n zs)[i]? = zs[i % zs.length]?
  | 0, i, h => by simp at h
  | n + 1, i, h => by
    rw [rowsOf]
    by_cases hi : i < zs.length
    · rw [List.getElem?_append_left hi, Nat.mod_eq_of_lt hi]
    · rw [List.getElem?_append_right (by omega), rowsOf_get zs n _ (by rw [Nat.add_mul] at h; omega), ← Nat.mod_eq_sub_mod (by omega)]
theorem RelL.rows {at_ : At} {w : World} {cs : List SV} {vs : List Value} : ∀ n, RelL at_ w cs vs → RelL at_ w (rowsOf n cs) (rowsOf n vs)
  | 0, _ => RelL.nil
  | n + 1, h => RelL.append h (RelL.rows n h)
/-- Does it make a block? -/
def makesF (sp : Specs) (f : FuncId) : Bool :=
  match sp.lookup f with
  | some (.fresh _) => true
  | some (.memf _) => true
  | _ => false
def makes (sp : Specs) (ρ : Operand → SV) : Op → Bool
  | .alloc _ | .box _ _ | .buildSlice _ _ _ | .makeSlice _ _ _ => true
  | .call c => match c.callee with
    | .builtin .append => true
    | .value f => match ρ f with
      | .fn f _ => makesF sp f
      | _ => false
    | _ => false
  | _ => false
/-- May it make one? -/
def mayMake (sp : Specs) : Op → Bool
  | .alloc _ | .box _ _ | .buildSlice _ _ _ | .makeSlice _ _ _ => true
  | .call c => match c.callee with
    | .builtin .append => true
    | .value (.func f) => makesF sp f
    | .value _ => true
    | _ => false
  | _ => false
/-- A result that is the caller's own. -/
def thaw1 (fresh : Nat) : SV → Option (SV × List (Nat × Blk))
  | .lst l => some (.sl fresh 0 l.len, [(fresh, [.own l])])
  | .ro cs 0 => some (.ptr fresh 0, [(fresh, cs)])
  | s => if s.flat = true then some (s, []) else none
def thaw (fresh : Nat) : SV → Option (SV × List (Nat × Blk))
  | .tup (x :: xs) => match thaw1 fresh x with
    | some (y, ws) => if flatL xs = true then some (.tup (y :: xs), ws) else none
    | none => none
  | s => thaw1 fresh s
/-- Do a result's cells lead nowhere? -/
def shallow1 : SV → Bool
  | .lst _ => true
  | .ro cs 0 => flatL cs
  | s => s.flat
def shallow : SV → Bool
  | .tup (x :: _) => shallow1 x
  | s => shallow1 s

def coreCall (sp : Specs) (look : Nat → Option Blk) (fresh : Nat) (f : SV) (args : List SV) : Option Out :=
  match f with
  | .fn f cap => match sp.lookup f with
    | some (.pure s) => match lendL look (args ++ cap) with
      | some (as, ks, fx) => match s as with
        | some (pre, r) => match (noNameL as && r.flat) with
          | true => some ⟨pre, r, []⟩
          | false => match fx with
            | false => some ⟨pre, r, ks.map fun k => (k, [])⟩
            | true => none
        | none => none
      | none => none
    | some (.fresh s) => match lendL look (args ++ cap) with
      | some (as, ks, fx) => match s as with
        | some (pre, r) => match thaw fresh r with
          | some (sv, ws) => match r.noName with
            | false => none
            | true => match (noNameL as && shallow r) with
            | true => some ⟨pre, sv, ws⟩
            | false => match fx with
              | false => some ⟨pre, sv, (ks.map fun k => (k, [])) ++ ws⟩
              | true => none
          | none => none
        | none => none
      | none => none
    | some (.mem s) => s look (args ++ cap)
    | some (.memf s) => s look fresh (args ++ cap)
    | none => none
  | _ => none
def coreBuiltin (tt : TT) (look : Nat → Option Blk) (fresh : Nat) (b : Builtin) (args : List SV) (ts : List TypeId) : Option Out :=
  match b, args, ts with
  | .len, [x], [t] => match tt.lookup t with
    | some ⟨.slice _, _, _, _⟩ => match x with
      | .slc _ _ len _ => mk (.i64 len)
      | .sl _ _ len => mk (.i64 len)
      | .lst l => mk (.i64 l.len)
      | .rsl _ _ n => mk (.i64 n)
      | .lol ls => mk (.i64 ls.length)
      | .val (.slice none n _) => mk (.i64 n)
      | _ => none
    | some ⟨.array n _, _, _, _⟩ => mk (.i64 n)
    | some ⟨.str, _, _, _⟩ => match x with
      | .val (.string s) => mk (.i64 s.size)
      | _ => none
    | _ => none
  | .append, [x, y], [t, t'] => if t = t' then coreAppend tt look fresh x y t else none
  | .copy, [x, y], [t, _] => coreCopy tt look x y t
  | .min, [.i64 a, .i64 b], _ => mk (.i64 (if b < a then b else a))
  | .max, [.i64 a, .i64 b], _ => mk (.i64 (if b > a then b else a))
  | _, _, _ => none

/-- A quotient, a rest, by what is no constant. -/
def symDiv (op : BinOp) (y : Operand) (a b : SV) : Option Out :=
  match y with
  | .tmp _ => match op, a, b with
    | .quo, .i64 m, .i64 n => some ⟨some (n ≠ 0), .i64 (IntKind.i64.wrap (m.tdiv n)), []⟩
    | .rem, .i64 m, .i64 n => some ⟨some (n ≠ 0), .i64 (m.tmod n), []⟩
    | _, _, _ => none
  | _ => none
/-- A cell of an array that is told as a list. -/
def rowAt [GLob] (n s : Nat) (i : Int) : SV → Option Out
  | .ap b m => if m = n ∧ s = 1 then some ⟨some (0 ≤ i ∧ i < (n : Int)), .lp b i.toNat, []⟩ else if m = n * s ∧ 0 < s then some ⟨some (0 ≤ i ∧ i < (n : Int)), .lp b (i.toNat * s), []⟩ else none
  | .val (.pointer (some ⟨g, 0, none⟩)) => match GLob.gl g with
    | some l => if l.len = n ∧ s = 1 then some ⟨some (0 ≤ i ∧ i < (n : Int)), .lel (l.at_ i.toNat), []⟩ else none
    | none => none
  | _ => none
def core [GLob] (tt : TT) (sp : Specs) (look : Nat → Option Blk) (fresh : Nat) (ρ : Operand → SV) (op : Op) : Option Out :=
  match op with
  | .move x | .assign x => mk (ρ x)
  | .pick c a b => match ρ c, ρ a, ρ b with
    | .bool c, .bool x, .bool y => mk (.bool (cond c x y))
    | .bool true, x, _ => mk x
    | .bool false, _, y => mk y
    | _, _, _ => none
  | .alloc t => match tt.lookup t with
    | some i => some ⟨none, .ptr fresh 0, [(fresh, i.zero.map SV.ofV)]⟩
    | none => none
  | .box _ x => match (ρ x).cells? with
    | some cs => some ⟨none, .ptr fresh 0, [(fresh, cs)]⟩
    | none => none
  | .build t parts => match tt.lookup t with
    | some ⟨.struct fs, _, _, zero⟩ => match placesT tt fs with
      | some pl => match fillL (pl[·]?) (zero.map SV.ofV) (parts.toList.map fun p => (p.1, ρ p.2)) with
        | some cs => mk (.agg cs)
        | none => none
      | none => none
    | some ⟨.array _ e, _, _, zero⟩ => match sizeT tt e with
      | some s => match fillL (fun i => some (i * s, s)) (zero.map SV.ofV) (parts.toList.map fun p => (p.1, ρ p.2)) with
        | some cs => mk (.agg cs)
        | none => none
      | none => none
    | _ => none
  | .buildSlice t len parts => match tt.lookup t with
    | some ⟨.slice e, _, _, _⟩ => match tt.lookup e with
      | some ⟨.array _ _, sz, _, zs⟩ => if 0 < len * sz ∧ len * sz ≤ 65536 ∧ zs.length = sz then match fillL (fun i => some (i * sz, sz)) (rowsOf len (zs.map SV.ofV)) (parts.toList.map fun p => (p.1, ρ p.2)) with
          | some cs => some ⟨none, .slc fresh 0 len len, [(fresh, cs)]⟩
          | none => none
        else none
      | some ⟨d, 1, _, [z]⟩ => if 0 < len ∧ len ≤ 65536 then match fillL (fun i => some (i * 1, 1)) (List.replicate len (SV.ofV z)) (parts.toList.map fun p => (p.1, ρ p.2)) with
          | some cs => match asLV cs with
            | some l => some ⟨none, .sl fresh 0 len, [(fresh, [.own l])]⟩
            | none => some ⟨none, .slc fresh 0 len len, [(fresh, cs)]⟩
          | none => none
        else match len, parts.toList, d with
          | 0, [], .int k => match LV.rep k 0 with
            | some l => some ⟨none, .sl fresh 0 0, [(fresh, [.own l])]⟩
            | none => none
          | _, _, _ => none
      | _ => none
    | _ => none
  | .load t x => match tt.lookup t with
    | some i => match ρ x with
      | .lel v => if i.d.agg then none else mk v
      | .lp b j => match look b with
        | some [.own l] => if i.d.agg then some ⟨some (j + i.size ≤ l.len), .agg ((List.range i.size).map fun k => l.at_ (j + k)), []⟩ else mk (l.at_ j)
        | _ => none
      | .ap b n => match look b with
        | some [.own l] => if i.d.agg = true ∧ n = i.size then mk (.agg ((List.range n).map fun j => l.at_ j)) else none
        | _ => none
      | p => ldAt i.d.agg i.size (target look p)
    | none => none
  | .store t x y => match tt.lookup t, ρ x with
    | some i, .lp b j => match look b with
      | some [.own l] => match l.setAt j (ρ y) with
        | some l' => if i.size = 1 then some ⟨none, .undef, [(b, [.own l'])]⟩ else none
        | none => none
      | _ => none
    | some i, .ptr b off => match look b, (ρ y).cells? with
      | some cs, some vs => if vs.length = i.size ∧ off + vs.length ≤ cs.length then
          some ⟨none, .undef, [(b, cs.take off ++ vs ++ cs.drop (off + vs.length))]⟩ else none
      | _, _ => none
    | _, _ => none
  | .nilCheck x => match ρ x with
    | .ptr b off => mk (.ptr b off)
    | .ro cs off => mk (.ro cs off)
    | .lel v => mk (.lel v)
    | .fn f cs => mk (.fn f cs)
    | .ap b n => mk (.ap b n)
    | _ => none
  | .binOp op t x y _ => match op, ρ x, ρ y with
    | .eql, .agg xs, .agg ys => match tt.lookup t with
      | some ⟨.array n e, _, _, _⟩ => match tt.lookup e with
        | some ⟨.int .u64, 1, _, _⟩ => if xs.length = n ∧ ys.length = n then (match eqCells xs ys with | some b => mk (.bool b) | none => none) else none
        | _ => none
      | _ => none
    | .neq, .agg xs, .agg ys => match tt.lookup t with
      | some ⟨.array n e, _, _, _⟩ => match tt.lookup e with
        | some ⟨.int .u64, 1, _, _⟩ => if xs.length = n ∧ ys.length = n then (match eqCells xs ys with | some b => mk (.bool (!b)) | none => none) else none
        | _ => none
      | _ => none
    | _, _, _ => match symDiv op y (ρ x) (ρ y) with
      | some out => some out
      | none => match binN op (ρ x) (ρ y) with
        | some r => mk r
        | none => match tt.lookup t with
          | some ⟨.bool, _, _, _⟩ => mk? (binB op (ρ x) (ρ y))
          | some ⟨.ptr _, _, _, _⟩ => mk? (binP op (ρ x) (ρ y))
          | some ⟨.slice _, _, _, _⟩ => binS op (ρ x) (ρ y)
          | _ => none
  | .unOp op _ x => mk? (una op (ρ x))
  | .convert src dst x => match tt.lookup dst, tt.lookup src with
    | some ⟨.int k, _, _, _⟩, some _ => mk? (conv k (ρ x))
    | _, _ => none
  | .makeFunc fn first captured => match fn, first.toList with
    | .func f, [] => mk (.fn f (captured.toList.map ρ))
    | _, _ => none
  | .makeSlice t l c => match tt.lookup t, ρ l, ρ c with
    | some ⟨.slice e, _, _, _⟩, .i64 n, .i64 m => match tt.lookup e with
      | some ⟨.int k, 1, by_, [.int k' 0]⟩ => match LV.rep k n.toNat with
        | some l => if k = k' ∧ by_ ≤ 8 then some ⟨some (0 ≤ n ∧ m = n ∧ n ≤ 1099511627776), .sl fresh 0 n.toNat, [(fresh, [.own l])]⟩ else none
        | none => none
      | some ⟨_, 1, by_, [z]⟩ => if 0 < n ∧ n ≤ 65536 ∧ m = n ∧ by_ ≤ 1024 then some ⟨none, .slc fresh 0 n.toNat n.toNat, [(fresh, List.replicate n.toNat (SV.ofV z))]⟩ else none
      | _ => none
    | _, _, _ => none
  | .fieldAddr t x f => match tt.lookup t with
    | some ⟨.struct fs, _, _, _⟩ => match fs[f]? with
      | some (o, ft) => match sizeT tt ft with
        | some (_ + 1) => match ρ x with
          | .ptr b off => mk (.ptr b (off + o))
          | .ro cs off => mk (.ro cs (off + o))
          | _ => none
        | _ => none
      | none => none
    | _ => none
  | .field t x f => match tt.lookup t, ρ x with
    | some ⟨.struct fs, _, _, _⟩, .agg cs => match fs[f]? with
      | some (o, ft) => match tt.lookup ft with
        | some i => ldAt i.d.agg i.size (some (cs, o))
        | none => none
      | none => none
    | _, _ => none
  | .indexAddr t x ix => match tt.lookup t, (ρ ix).toI with
    | some ⟨.array n e, _, _, _⟩, some i => match sizeT tt e with
      | some s => match rowAt n s i (ρ x) with
       | some out => some out
       | none => if 0 ≤ i ∧ i < n then match ρ x with
          | .ptr b off => mk (.ptr b (off + i.toNat * s))
          | .ro cs off => mk (.ro cs (off + i.toNat * s))
          | _ => none
        else none
      | none => none
    | some ⟨.slice e, _, _, _⟩, some i => match sizeT tt e with
      | some 1 => match ρ x with
        | .slc b off len _ => if 0 ≤ i ∧ i < len then mk (.ptr b (off + i.toNat)) else none
        | .rsl cs off len => if 0 ≤ i ∧ i < len then mk (.ro cs (off + i.toNat)) else none
        | .sl b lo len => some ⟨some (0 ≤ i ∧ i < (len : Int)), .lp b (lo + i.toNat), []⟩
        | .lst l => some ⟨some (0 ≤ i ∧ i < (l.len : Int)), .lel (l.at_ i.toNat), []⟩
        | .lol ls => some ⟨some (0 ≤ i ∧ i < (ls.length : Int)), .lel (.lst (.bytes (ls.getD i.toNat []))), []⟩
        | _ => none
      | some (s + 2) => match ρ x with
        | .slc b off len _ => if 0 ≤ i ∧ i < len then mk (.ptr b (off + i.toNat * (s + 2))) else none
        | .rsl cs off len => if 0 ≤ i ∧ i < len then mk (.ro cs (off + i.toNat * (s + 2))) else none
        | _ => none
      | _ => none
    | _, _ => none
  | .index t x ix => match tt.lookup t, ρ x, (ρ ix).toI with
    | some ⟨.array n e, _, _, _⟩, .agg cs, some i => match tt.lookup e with
      | some j => if 0 ≤ i ∧ i < n then ldAt j.d.agg j.size (some (cs, i.toNat * j.size)) else none
      | none => none
    | some ⟨.str, _, _, _⟩, .val (.string s), some i => if 0 ≤ i then match s[i.toNat]? with
        | some b => mk (.u8 b)
        | none => none
      else none
    | _, _, _ => none
  | .slice t x lo hi mx => match tt.lookup t, mx with
    | some ⟨.slice e, _, _, _⟩, none => match sizeT tt e with
      | some 1 => match ρ x, boundI ρ lo 0 with
        | .slc b off len cap, some l => match boundI ρ hi len with
          | some h => if 0 ≤ l ∧ l ≤ h ∧ h ≤ cap ∧ l < cap then mk (.slc b (off + l.toNat) (h.toNat - l.toNat) (cap - l.toNat)) else none
          | none => none
        | .sl b lo len, some l => match boundI ρ hi len with
          | some h => some ⟨some (0 ≤ l ∧ l ≤ h ∧ h ≤ (len : Int)), .sl b (lo + l.toNat) (h.toNat - l.toNat), []⟩
          | none => none
        | .lst v, some l => match boundI ρ hi v.len with
          | some h => some ⟨some (0 ≤ l ∧ l ≤ h ∧ h ≤ (v.len : Int)), .lst (v.cut l.toNat h.toNat), []⟩
          | none => none
        | _, _ => none
      | _ => none
    | some ⟨.slice e, _, _, _⟩, some k => match sizeT tt e with
      | some 1 => match hi with
        | none => none
        | some hi => match ρ x, boundI ρ lo 0, (ρ hi).toI, (ρ k).toI with
          | .sl b lo len, some l, some h, some k => match look b with
            | some [.own v] => some ⟨some (0 ≤ l ∧ l ≤ h ∧ h ≤ k ∧ k ≤ (len : Int)), .lst ((v.cut lo (lo + len)).cut l.toNat h.toNat), [(b, [])]⟩
            | _ => none
          | .val (.slice none 0 0), some l, some h, some k => some ⟨some (l = 0 ∧ h = 0 ∧ k = 0), .val (.slice none 0 0), []⟩
          | _, _, _, _ => none
      | _ => none
    | _, _ => none
  | .extract x i => match ρ x with
    | .tup cs => mk? (cs[i]?)
    | _ => none
  | .call c => match c.callee with
    | .value f => coreCall sp look fresh (ρ f) (c.args.toList.map ρ)
    | .builtin b => coreBuiltin tt look fresh b (c.args.toList.map ρ) c.argTypes.toList
    | _ => none
  | _ => none

end Go.Sym
/- The symbolic machine's operations are right: memory. -/
namespace Go.Sym
open Go.RowKit

/-- A list lies in a block's cells, and has room behind. -/
def GOK (w : World) (g base cap : Nat) (l : LV) : Prop := ∃ arr ty, w.heap[g]? = some (.cells arr ty (0, 0)) ∧ arr.size = base + cap ∧ l.len ≤ cap ∧ cap ≤ maxLen ∧ (arr.toList.drop base).take l.len = l.vals
/-- The tables lie as they should, and nobody writes them. -/
def GLOK [GLob] (at_ : At) (w : World) : Prop := ∀ g l, GLob.gl g = some l → Fix at_ g ∧ ∃ ty fz, w.heap[g]? = some (.cells (List.toArray l.vals) ty fz)
theorem GLOK.later [GLob] {at_ at' : At} {w w' : World} (h : GLOK at_ w) (hl : Later at_ w at' w') : GLOK at' w' := fun g l e => by
  obtain ⟨h1, ty, fz, h2⟩ := h g l e
  obtain ⟨f1, f2⟩ := hl.fix _ h1 (lt_of_heap h2)
  exact ⟨f1, ty, fz, f2.trans h2⟩
theorem GLOK.fixed [GLob] {at_ at' : At} {w : World} (h : GLOK at_ w) (hf : ∀ g, Fix at_ g → Fix at' g) : GLOK at' w := fun g l e => ⟨hf _ (h g l e).1, (h g l e).2⟩
structure MemOK [GLob] (at_ : At) (M : List (Option Blk)) (w : World) : Prop where
  blk : ∀ n g cs, at_ n = some g → M[n]? = some (some cs) → ∃ ty vs, w.heap[g]? = some (.cells (List.toArray vs) ty (0, 0)) ∧ RelL at_ w cs vs
  inj : ∀ n m g, at_ n = some g → at_ m = some g → n = m
  dom : ∀ n g, at_ n = some g → g < w.heap.size ∧ ∃ cs, M[n]? = some (some cs)
  outlt : ∀ g, at_.out g → g < w.heap.size
  glk : ∀ n l, M[n]? = some (some [.own l]) → (at_.gn n = .nil ∧ l.len = 0) ∨ ∃ g b c, at_.gn n = .live g b c l.len ∧ GOK w g b c l
  ginj : ∀ n m g b c k b' c' k', at_.gn n = .live g b c k → at_.gn m = .live g b' c' k' → n = m
  gap : ∀ n m g b c k, at_ n = some g → at_.gn m ≠ .live g b c k
  gdom : ∀ n, at_.gn n ≠ .unborn → ∃ cs, M[n]? = some (some cs)
  gsz : ∀ n g b c k, at_.gn n = .live g b c k → g < w.heap.size
  gout : ∀ n g b c k, at_.gn n = .live g b c k → ¬ at_.out g
  nout : ∀ n g, at_ n = some g → ¬ at_.out g
  glb : GLOK at_ w

def applyWs (M : List (Option Blk)) (ws : List (Nat × Blk)) : List (Option Blk) := ws.foldl (fun M p => M.set p.1 (some p.2)) M

/-- What holds behind a step. -/
def Post [GLob] (at_ : At) (w : World) (M : List (Option Blk)) (ws : List (Nat × Blk)) (sv : SV) (v : Value) (w' : World) : Prop :=
  ∃ at', Later at_ w at' w' ∧ MemOK at' (applyWs M ws) w' ∧ Rel at' w' sv v

def Outcome (P : Program) (r : Result Next) (K : Value → World → Prop) : Prop :=
  match r with
  | .ok (.value v) w' => K v w'
  | .ok .skip w' => K Go.undef w'
  | .ok (.enter f args) w' => Calls P f args w' fun e w'' => ∃ v, e = .returned v ∧ K v w''
  | _ => False

def SpecOK [GLob] (P : Program) (f : FuncId) (s : SpecF) : Prop :=
  ∀ (at_ : At) (w : World) (svs : List SV) (vs : List Value) (pre : Option Prop) (r : SV), (∀ n g, at_ n = some g → g < w.heap.size) → (∀ g, (at_.out g ∨ ∃ n b c k, at_.gn n = .live g b c k) → g < w.heap.size) → GLOK at_ w → s svs = some (pre, r) → Ok pre → RelL at_ w svs vs →
    Outcome P ((callFunc f (List.toArray vs)).run P w) fun v w' => Rel at_ w' r v ∧ Below w.heap.size w w'
def MSpecOK [GLob] (P : Program) (f : FuncId) (s : MSpecF) : Prop :=
  ∀ (at_ : At) (M : List (Option Blk)) (w : World) (look : Nat → Option Blk) (svs : List SV) (vs : List Value) (out : Out), MemOK at_ M w → (∀ n cs, look n = some cs → M[n]? = some (some cs)) → s look svs = some out → Ok out.pre → RelL at_ w svs vs →
    Outcome P ((callFunc f (List.toArray vs)).run P w) (Post at_ w M out.ws out.sv)
/-- A result that is nobody's but the caller's: a list, a block. -/
def FRel1 (at_ : At) (n : Nat) (w : World) : SV → Value → Prop
  | .lst l, v => (l.len = 0 ∧ v = .slice none 0 0) ∨ ∃ g base cap ad, n ≤ g ∧ GOK w g base cap l ∧ v = .slice ad l.len cap ∧ (0 < cap → ad = some ⟨g, base, none⟩)
  | .ro cs 0, v => ∃ g ty vs, n ≤ g ∧ v = .pointer (some ⟨g, 0, none⟩) ∧ w.heap[g]? = some (.cells (List.toArray vs) ty (0, 0)) ∧ RelL (at_.hide g) w cs vs
  | s, v => Rel at_ w s v
def FRel (at_ : At) (n : Nat) (w : World) : SV → Value → Prop
  | .tup (x :: xs), v => ∃ u us, v = .tuple (List.toArray (u :: us)) ∧ FRel1 at_ n w x u ∧ RelL at_ w xs us
  | s, v => FRel1 at_ n w s v
def FSpecOK [GLob] (P : Program) (f : FuncId) (s : SpecF) : Prop :=
  ∀ (at_ : At) (w : World) (svs : List SV) (vs : List Value) (pre : Option Prop) (r : SV), (∀ n g, at_ n = some g → g < w.heap.size) → (∀ g, (at_.out g ∨ ∃ n b c k, at_.gn n = .live g b c k) → g < w.heap.size) → GLOK at_ w → s svs = some (pre, r) → Ok pre → RelL at_ w svs vs →
    Outcome P ((callFunc f (List.toArray vs)).run P w) fun v w' => FRel at_ w.heap.size w' r v ∧ Below w.heap.size w w'
def NSpecOK [GLob] (P : Program) (f : FuncId) (s : NSpecF) : Prop :=
  ∀ (at_ : At) (M : List (Option Blk)) (w : World) (look : Nat → Option Blk) (fresh : Nat) (svs : List SV) (vs : List Value) (out : Out), MemOK at_ M w → (∀ n cs, look n = some cs → M[n]? = some (some cs)) → M[fresh]? = some none → s look fresh svs = some out → Ok out.pre → RelL at_ w svs vs →
    Outcome P ((callFunc f (List.toArray vs)).run P w) (Post at_ w M out.ws out.sv)
def SpecEOK [GLob] (P : Program) (f : FuncId) : SpecE → Prop
  | .pure s => SpecOK P f s
  | .fresh s => FSpecOK P f s
  | .mem s => MSpecOK P f s
  | .memf s => NSpecOK P f s
def SpecsOK [GLob] (P : Program) (sp : Specs) : Prop := ∀ f s, sp.lookup f = some s → SpecEOK P f s
/-- Of a function that there is not. -/
def sNo : SpecF := fun _ => none
theorem sNo_ok [GLob] (P : Program) (f : FuncId) : SpecOK P f sNo := fun _ _ _ _ _ _ _ _ _ h => by simp [sNo] at h
theorem SpecsOK.nil [GLob] (P : Program) : SpecsOK P [] := fun _ _ h => by simp at h
theorem SpecsOK.consE [GLob] {P : Program} {f : FuncId} {s : SpecE} {sp : Specs} (h : SpecEOK P f s) (k : SpecsOK P sp) : SpecsOK P ((f, s) :: sp) := by
  intro f' s' h'
  simp only [List.lookup_cons] at h'
  split at h'
  · rename_i e; have e' := eq_of_beq e; simp at h'; subst e'; subst h'; exact h
  · exact k f' s' h'
theorem SpecsOK.cons [GLob] {P : Program} {f : FuncId} {s : SpecF} {sp : Specs} (h : SpecOK P f s) (k : SpecsOK P sp) : SpecsOK P ((f, .pure s) :: sp) := .consE (s := .pure s) h k
theorem SpecsOK.consF [GLob] {P : Program} {f : FuncId} {s : SpecF} {sp : Specs} (h : FSpecOK P f s) (k : SpecsOK P sp) : SpecsOK P ((f, .fresh s) :: sp) := .consE (s := .fresh s) h k
theorem SpecsOK.consN [GLob] {P : Program} {f : FuncId} {s : NSpecF} {sp : Specs} (h : NSpecOK P f s) (k : SpecsOK P sp) : SpecsOK P ((f, .memf s) :: sp) := .consE (s := .memf s) h k
theorem SpecsOK.consM [GLob] {P : Program} {f : FuncId} {s : MSpecF} {sp : Specs} (h : MSpecOK P f s) (k : SpecsOK P sp) : SpecsOK P ((f, .mem s) :: sp) := .consE (s := .mem s) h k

section
variable [GLob] {P : Program} {at_ : At} {M : List (Option Blk)} {w : World}

theorem Post.same {sv : SV} {v : Value} (hM : MemOK at_ M w) (h : Rel at_ w sv v) : Post at_ w M [] sv v w := ⟨at_, Later.refl _ _, hM, h⟩

theorem GOK.mono {w w' : World} {g b c : Nat} {l : LV} (h : w'.heap[g]? = w.heap[g]?) (k : GOK w g b c l) : GOK w' g b c l := by
  have _ := ‹GLob›
  obtain ⟨arr, ty, h1, h2⟩ := k
  exact ⟨arr, ty, h.trans h1, h2⟩
theorem MemOK.later_free {w' : World} (hM : MemOK at_ M w) (h : ∀ g, g < w.heap.size → w'.heap[g]? = w.heap[g]?) (hs : w.heap.size ≤ w'.heap.size) (hl : Later at_ w at_ w') : MemOK at_ M w' :=
  ⟨fun n g cs e1 e => by
    obtain ⟨ty, vs, h2, h3⟩ := hM.blk n g cs e1 e
    exact ⟨ty, vs, (h g (lt_of_heap h2)).trans h2, RelL.later hl cs vs h3⟩, hM.inj,
   fun n g e => ⟨Nat.lt_of_lt_of_le (hM.dom n g e).1 hs, (hM.dom n g e).2⟩, fun g h => Nat.lt_of_lt_of_le (hM.outlt g h) hs,
   fun n l e => by
    rcases hM.glk n l e with k | ⟨g, b, c, k1, k2⟩
    · exact .inl k
    · exact .inr ⟨g, b, c, k1, k2.mono (h g (hM.gsz _ _ _ _ _ k1))⟩,
   hM.ginj, hM.gap, hM.gdom, fun n g b c k e => Nat.lt_of_lt_of_le (hM.gsz n g b c k e) hs, hM.gout, hM.nout, hM.glb.later hl⟩
theorem Later.of_below {w' : World} (hb : Below w.heap.size w w') : Later at_ w at_ w' := have _ := ‹GLob›; ⟨hb.os, hb.tape, hb.output, hb.size, fun _ _ h => h, fun g hf hf' hl => ⟨hf, hf', hb.block g hl⟩, rfl, fun _ _ h => .inl h, fun _ => .inr (.inl rfl), fun n _ b c k h => .inl ⟨n, b, c, k, h⟩⟩
theorem Post.below {w' : World} {sv : SV} {v : Value} (hM : MemOK at_ M w) (hb : Below w.heap.size w w') (h : Rel at_ w' sv v) : Post at_ w M [] sv v w' :=
  ⟨at_, Later.of_below hb, hM.later_free hb.block hb.size (Later.of_below hb), h⟩
theorem own_false {cs : List SV} {vs : List Value} {l : LV} (h : RelL at_ w cs vs) (e : cs = [.own l]) : False := by
  have _ := ‹GLob›
  subst e
  simp only [RelL, Rel] at h
  obtain ⟨_, _, _, h, _⟩ := h
  exact h
theorem MemOK.outlt' (hM : MemOK at_ M w) (g : Nat) (h : at_.out g ∨ ∃ n b c k, at_.gn n = .live g b c k) : g < w.heap.size := by
  rcases h with h | ⟨n, b, c, k, h⟩
  · exact hM.outlt g h
  · exact hM.gsz n g b c k h
theorem MemOK.fresh_none (hM : MemOK at_ M w) {fresh : Nat} (hf : M[fresh]? = some none) : at_ fresh = none ∧ at_.gn fresh = .unborn := by
  constructor
  · cases h : at_ fresh with
    | none => rfl
    | some g => obtain ⟨_, cs', h'⟩ := hM.dom _ _ h; rw [hf] at h'; cases h'
  · cases h : at_.gn fresh with
    | unborn => rfl
    | _ => obtain ⟨cs', h'⟩ := hM.gdom fresh (by rw [h]; simp); rw [hf] at h'; cases h'

/-- A new block. -/
theorem Post.new {fresh : Nat} {cs : List SV} {vs : List Value} (ty : TypeId) {sv : SV} {v : Value} (hM : MemOK at_ M w) (hf : M[fresh]? = some none) (hr : RelL at_ w cs vs)
    (hv : ∀ at' : At, at' fresh = some w.heap.size → Rel at' (w.alloc (.cells (List.toArray vs) ty)) sv v) : Post at_ w M [(fresh, cs)] sv v (w.alloc (.cells (List.toArray vs) ty)) := by
  obtain ⟨hnone, hgn⟩ := hM.fresh_none hf
  have hlt : fresh < M.length := (List.getElem?_eq_some_iff.1 hf).1
  let at' : At := ⟨fun n => if n = fresh then some w.heap.size else at_ n, at_.out, at_.gn⟩
  have hl : Later at_ w at' (w.alloc (.cells (List.toArray vs) ty)) := by
    refine ⟨rfl, rfl, rfl, by simp, fun n g e => ?_, fun g hg hg' hlt' => ⟨fun n e => ?_, hg', heap_alloc_old _ _ _ hlt'⟩, rfl, fun n g e => ?_, fun _ => .inr (.inl rfl), fun n _ b c k h => .inl ⟨n, b, c, k, h⟩⟩
    · by_cases hn : n = fresh
      · subst hn; rw [hnone] at e; cases e
      · simp [at', hn, e]
    · by_cases hn : n = fresh
      · simp [at', hn] at e; omega
      · simp [at', hn] at e; exact hg n e
    · by_cases hn : n = fresh
      · simp [at', hn] at e; exact .inr (by omega)
      · simp [at', hn] at e; exact .inl e
  refine ⟨at', hl, ⟨fun n g c e1 e => ?_, fun n m g e e' => ?_, fun n g e => ?_, fun g h => Nat.lt_of_lt_of_le (hM.outlt g h) (by simp), fun n l e => ?_, hM.ginj, fun n m g b c k e e' => ?_, fun n e => ?_, fun n g b c k e => Nat.lt_of_lt_of_le (hM.gsz n g b c k e) (by simp), hM.gout, fun n g e h => by
    by_cases hn : n = fresh
    · simp [at', hn] at e; subst e; exact Nat.lt_irrefl _ (hM.outlt _ h)
    · simp [at', hn] at e; exact hM.nout n g e h, hM.glb.later hl⟩, hv at' (by simp [at'])⟩
  · simp only [applyWs, List.foldl_cons, List.foldl_nil] at e
    by_cases hn : n = fresh
    · subst hn
      rw [List.getElem?_set_self hlt] at e
      simp at e; subst e
      simp [at'] at e1; subst e1
      exact ⟨ty, vs, heap_alloc_new _ _, RelL.later hl _ _ hr⟩
    · rw [List.getElem?_set_ne (fun h => hn h.symm)] at e
      simp [at', hn] at e1
      obtain ⟨ty', vs', h2, h3⟩ := hM.blk n g c e1 e
      exact ⟨ty', vs', (heap_alloc_old _ _ _ (lt_of_heap h2)).trans h2, RelL.later hl _ _ h3⟩
  · by_cases hn : n = fresh <;> by_cases hm : m = fresh
    · rw [hn, hm]
    · simp [at', hn, hm] at e e'
      have := (hM.dom _ _ e').1; omega
    · simp [at', hn, hm] at e e'
      have := (hM.dom _ _ e).1; omega
    · simp [at', hn, hm] at e e'
      exact hM.inj n m g e e'
  · simp only [applyWs, List.foldl_cons, List.foldl_nil]
    by_cases hn : n = fresh
    · subst hn
      simp [at'] at e; subst e
      exact ⟨by simp, cs, List.getElem?_set_self hlt⟩
    · simp [at', hn] at e
      obtain ⟨h1, c, h2⟩ := hM.dom n g e
      exact ⟨by simp; omega, c, by rw [List.getElem?_set_ne (fun h => hn h.symm)]; exact h2⟩
  · simp only [applyWs, List.foldl_cons, List.foldl_nil] at e
    by_cases hn : n = fresh
    · subst hn
      rw [List.getElem?_set_self hlt] at e
      simp only [Option.some.injEq] at e
      exact (own_false hr e).elim
    · rw [List.getElem?_set_ne (fun h => hn h.symm)] at e
      rcases hM.glk n l e with k | ⟨g, b, c, k1, k2⟩
      · exact .inl k
      · exact .inr ⟨g, b, c, k1, k2.mono (heap_alloc_old _ _ _ (hM.gsz _ _ _ _ _ k1))⟩
  · by_cases hn : n = fresh
    · simp [at', hn] at e
      have := hM.gsz m g b c k e'; omega
    · simp [at', hn] at e
      exact hM.gap n m g b c k e e'
  · obtain ⟨c, h2⟩ := hM.gdom n e
    simp only [applyWs, List.foldl_cons, List.foldl_nil]
    by_cases hn : n = fresh
    · subst hn; exact ⟨cs, List.getElem?_set_self hlt⟩
    · exact ⟨c, by rw [List.getElem?_set_ne (fun h => hn h.symm)]; exact h2⟩

/-- A block of the machine's own is written. -/
theorem Post.set {b g : Nat} {cs0 cs : List SV} {vs : List Value} {ty : TypeId} {old : Array Value} {sv : SV} {v : Value} (hM : MemOK at_ M w) (hb : M[b]? = some (some cs0)) (hg : at_ b = some g)
    (hh : w.heap[g]? = some (.cells old ty (0, 0))) (hr : RelL at_ w cs vs) (hv : Rel at_ (w.setRow g (List.toArray vs)) sv v) : Post at_ w M [(b, cs)] sv v (w.setRow g (List.toArray vs)) := by
  have hlt : b < M.length := (List.getElem?_eq_some_iff.1 hb).1
  have hl : Later at_ w at_ (w.setRow g (List.toArray vs)) := by
    refine ⟨rfl, rfl, rfl, by simp, fun _ _ h => h, fun k hk hk' _ => ⟨hk, hk', setRow_other _ _ _ _ (fun e => hk b (e ▸ hg))⟩, rfl, fun _ _ h => .inl h, fun _ => .inr (.inl rfl), fun n _ b c k h => .inl ⟨n, b, c, k, h⟩⟩
  refine ⟨at_, hl, ⟨fun n k c h1 e => ?_, hM.inj, fun n k e => ?_, fun g h => by have := hM.outlt g h; simpa using this, fun n l e => ?_, hM.ginj, hM.gap, fun n e => ?_, fun n g' b' c k e => by have := hM.gsz n g' b' c k e; simpa using this, hM.gout, hM.nout, hM.glb.later hl⟩, hv⟩
  · simp only [applyWs, List.foldl_cons, List.foldl_nil] at e
    by_cases hn : n = b
    · subst hn
      rw [List.getElem?_set_self hlt] at e
      simp at e; subst e
      rw [hg] at h1; cases h1
      exact ⟨ty, vs, setRow_heap _ _ _ _ _ _ hh, RelL.later hl _ _ hr⟩
    · rw [List.getElem?_set_ne (fun h => hn h.symm)] at e
      obtain ⟨ty', vs', h2, h3⟩ := hM.blk n k c h1 e
      exact ⟨ty', vs', (setRow_other _ _ _ _ (fun e' => hn (hM.inj n b k h1 (by rw [hg, e'])))).trans h2, RelL.later hl _ _ h3⟩
  · simp only [applyWs, List.foldl_cons, List.foldl_nil]
    obtain ⟨h1, c, h2⟩ := hM.dom n k e
    refine ⟨by simpa using h1, ?_⟩
    by_cases hn : n = b
    · subst hn; exact ⟨cs, List.getElem?_set_self hlt⟩
    · exact ⟨c, by rw [List.getElem?_set_ne (fun h => hn h.symm)]; exact h2⟩
  · simp only [applyWs, List.foldl_cons, List.foldl_nil] at e
    by_cases hn : n = b
    · subst hn
      rw [List.getElem?_set_self hlt] at e
      simp only [Option.some.injEq] at e
      exact (own_false hr e).elim
    · rw [List.getElem?_set_ne (fun h => hn h.symm)] at e
      rcases hM.glk n l e with k | ⟨g', b', c, k1, k2⟩
      · exact .inl k
      · exact .inr ⟨g', b', c, k1, k2.mono (setRow_other _ _ _ _ (fun e' => hM.gap b n g' b' c l.len (e' ▸ hg) k1))⟩
  · simp only [applyWs, List.foldl_cons, List.foldl_nil]
    obtain ⟨c, h2⟩ := hM.gdom n e
    by_cases hn : n = b
    · subst hn; exact ⟨cs, List.getElem?_set_self hlt⟩
    · exact ⟨c, by rw [List.getElem?_set_ne (fun h => hn h.symm)]; exact h2⟩
end

/-! Types. -/
section
variable {P : Program} {t : TypeId} {i : TI}
theorem TIOK.desc (h : TIOK P t i) : ∃ d, P.underlying t = some d ∧ TD.of d = i.d := by
  have := h.und
  cases hd : P.underlying t with
  | none => simp [hd] at this
  | some d => simp [hd] at this; exact ⟨d, rfl, this⟩
theorem TIOK.ti (h : TIOK P t i) : ∃ x z, P.info? t = some x ∧ x.zero = some z ∧ z.cells.toList = i.zero ∧ x.size = i.size ∧ x.bytes = i.bytes := by
  have := h.info
  cases hd : P.info? t with
  | none => simp [hd] at this
  | some x =>
    simp [hd] at this
    obtain ⟨⟨z, h1, h2⟩, h3, h4⟩ := this
    exact ⟨x, z, rfl, h1, h2, h3, h4⟩
theorem TIOK.isAgg (h : TIOK P t i) (w : World) : (isAgg t).run P w = .ok i.d.agg w := by
  obtain ⟨d, h1, h2⟩ := h.desc
  rw [← h2]
  cases d <;> simp [Go.isAgg, run_underlying h1, TD.of, TD.agg]
theorem TIOK.sizeOf (h : TIOK P t i) (w : World) : (sizeOf t).run P w = .ok i.size w := by
  obtain ⟨x, z, h1, h2, h3, h4, h5⟩ := h.ti
  simp [Go.sizeOf, typeInfo, h1, h4]
theorem TIOK.und' (h : TIOK P t i) {Q : TypeDesc → Prop} (hq : ∀ d, TD.of d = i.d → Q d) : ∃ d, P.underlying t = some d ∧ Q d := by
  obtain ⟨d, h1, h2⟩ := h.desc
  exact ⟨d, h1, hq d h2⟩
theorem TIOK.slice {e : TypeId} (h : TIOK P t i) (hd : i.d = .slice e) : P.underlying t = some (.slice e) := by
  obtain ⟨d, h1, h2⟩ := h.desc
  rw [hd] at h2
  cases d <;> simp [TD.of] at h2
  subst h2; exact h1
theorem TIOK.array {n : Nat} {e : TypeId} (h : TIOK P t i) (hd : i.d = .array n e) : P.underlying t = some (.array n e) := by
  obtain ⟨d, h1, h2⟩ := h.desc
  rw [hd] at h2
  cases d <;> simp [TD.of] at h2
  obtain ⟨rfl, rfl⟩ := h2; exact h1
theorem TIOK.ptr {e : TypeId} (h : TIOK P t i) (hd : i.d = .ptr e) : P.underlying t = some (.pointer e) := by
  obtain ⟨d, h1, h2⟩ := h.desc
  rw [hd] at h2
  cases d <;> simp [TD.of] at h2
  subst h2; exact h1
theorem TIOK.int {k : IntKind} (h : TIOK P t i) (hd : i.d = .int k) : P.underlying t = some (.int k) := by
  obtain ⟨d, h1, h2⟩ := h.desc
  rw [hd] at h2
  cases d <;> simp [TD.of] at h2
  subst h2; exact h1
theorem TIOK.str (h : TIOK P t i) (hd : i.d = .str) : P.underlying t = some .string := by
  obtain ⟨d, h1, h2⟩ := h.desc
  rw [hd] at h2
  cases d <;> simp [TD.of] at h2
  exact h1
theorem TIOK.bool (h : TIOK P t i) (hd : i.d = .bool) : P.underlying t = some .bool := by
  obtain ⟨d, h1, h2⟩ := h.desc
  rw [hd] at h2
  cases d <;> simp [TD.of] at h2
  exact h1
theorem TIOK.struct {fs : List (Nat × TypeId)} (h : TIOK P t i) (hd : i.d = .struct fs) : ∃ F : Array Field, P.underlying t = some (.struct F) ∧ F.toList.map (fun f => (f.offset, f.type)) = fs := by
  obtain ⟨d, h1, h2⟩ := h.desc
  rw [hd] at h2
  cases d <;> simp [TD.of] at h2
  exact ⟨_, h1, h2⟩
end

/-! Loads and stores. -/
section
variable {P : Program} {at_ : At} {w : World} {t : TypeId} {i : TI}
theorem addr_add (g o j : Nat) : (⟨g, o, none⟩ : Addr).add j = ⟨g, o + j, none⟩ := by
  unfold Addr.add
  split
  · rename_i h; subst h; rfl
  · rfl
theorem run_loadVar_cells (h : TIOK P t i) {g off : Nat} {vs : List Value} {ty : TypeId} {fz : Nat × Nat} (hg : w.heap[g]? = some (.cells (List.toArray vs) ty fz)) (ha : i.d.agg = true) (hl : off + i.size ≤ vs.length) :
    (loadVar t ⟨g, off, none⟩).run P w = .ok (.agg (List.toArray ((vs.drop off).take i.size))) w := by
  have hc := run_loadCells_list (P := P) w ⟨g, off, none⟩ ((vs.drop off).take i.size) (fun j v hv => by
    rw [addr_add, cell_of_row w g _ _ ty fz hg]
    rw [List.getElem?_take] at hv
    split at hv
    · simpa using hv
    · cases hv)
  have hlen : ((vs.drop off).take i.size).length = i.size := by simp; omega
  rw [hlen] at hc
  simp [loadVar, h.isAgg, ha, h.sizeOf, hc]
theorem run_loadVar_one (h : TIOK P t i) {a : Addr} {v : Value} (hc : w.cell? a = some v) (ha : i.d.agg = false) : (loadVar t a).run P w = .ok v w := by
  simp [loadVar, h.isAgg, ha, hc]
theorem run_storeVar_cells (h : TIOK P t i) {g off : Nat} {old : List Value} {ty : TypeId} (hg : w.heap[g]? = some (.cells (List.toArray old) ty (0, 0))) {v : Value} {vs : List Value} (hv : v.cells.toList = vs) (hl : vs.length = i.size)
    (hb : off + vs.length ≤ old.length) (h1 : ∀ u ∈ vs, u.oneCell' = true) :
    (storeVar t ⟨g, off, none⟩ v).run P w = .ok () (w.setRow g (List.toArray (old.take off ++ vs ++ old.drop (off + vs.length)))) := by
  have hs : v.cells.size = i.size := by rw [← hl, ← hv]; simp
  have := run_storeCells_at (P := P) g off ty vs 0 (List.toArray old) w hg (by simpa using hb) h1
  simp only [Nat.add_zero, ] at this
  simp [storeVar, h.sizeOf, hs, hv, this]
end

section
variable {at_ : At} {w : World}
theorem roO_one {b : Bool} {v : Value} {A : Nat → TypeId → Nat × Nat → List Value → Prop} (r : (b = true → ∃ g ty fz vs, v = .pointer (some ⟨g, 0, none⟩) ∧ A g ty fz vs) ∧ (b = false → v = .pointer none)) : v.oneCell' = true := by
  cases b with
  | false => rw [r.2 rfl]; rfl
  | true => obtain ⟨_, _, _, _, e, _⟩ := r.1 rfl; rw [e]; rfl
theorem Rel.one {s : SV} {v : Value} (h : s.one = true) (r : Rel at_ w s v) : v.oneCell' = true := by
  cases s <;> simp only [SV.one] at h <;> simp only [Rel] at r
  all_goals first
    | (subst r; first | rfl | exact h)
    | exact r.2.2.2
    | (obtain ⟨_, _, rfl⟩ := r; rfl)
    | (obtain ⟨_, _, rfl, _⟩ := r; rfl)
    | (obtain ⟨_, _, _, _, rfl, _⟩ := r; rfl)
    | (obtain ⟨_, _, _, _, _, rfl, _⟩ := r; rfl)
    | (obtain ⟨_, rfl, _⟩ := r; rfl)
    | (obtain ⟨_, _, _, rfl, _⟩ := r; rfl)
    | exact roO_one r
    | exact r
    | cases h
theorem RelL.one : ∀ {s : List SV} {v : List Value}, s.all SV.one = true → RelL at_ w s v → ∀ u ∈ v, u.oneCell' = true
  | [], _, _, r => by simp only [RelL] at r; subst r; simp
  | c :: cs, _, h, r => by
    simp only [RelL] at r
    obtain ⟨v, vs, rfl, h2, h3⟩ := r
    simp only [List.all_cons, Bool.and_eq_true] at h
    intro u hu
    cases hu with
    | head => exact Rel.one h.1 h2
    | tail _ hu => exact RelL.one h.2 h3 u hu
theorem Rel.cells {s : SV} {v : Value} {cs : List SV} (h : s.cells? = some cs) (r : Rel at_ w s v) : RelL at_ w cs v.cells.toList ∧ ∀ u ∈ v.cells.toList, u.oneCell' = true := by
  have key : s.one = true → cs = [s] → RelL at_ w cs v.cells.toList ∧ ∀ u ∈ v.cells.toList, u.oneCell' = true := fun h1 h2 => by
    have h3 := Rel.one h1 r
    have : v.cells.toList = [v] := by cases v <;> first | rfl | simp [Value.oneCell'] at h3
    rw [this, h2]
    exact ⟨RelL.cons r RelL.nil, fun u hu => by simp at hu; subst hu; exact h3⟩
  by_cases ha : ∃ ds, s = .agg ds
  · obtain ⟨ds, rfl⟩ := ha
    simp only [SV.cells?] at h
    split at h
    · simp at h; subst h
      simp only [Rel] at r
      obtain ⟨vs, rfl, h2⟩ := r
      rename_i h1
      simp only [Value.cells]
      exact ⟨h2, RelL.one h1 h2⟩
    · cases h
  · have : s.cells? = if s.one = true then some [s] else none := by
      cases s <;> first | rfl | exact absurd ⟨_, rfl⟩ ha
    rw [this] at h
    split at h
    · simp at h; exact key (by assumption) h.symm
    · cases h
end
end Go.Sym
/- The symbolic machine's operations are right: numbers. -/
namespace Go.Sym
open Go.RowKit

theorem wrap_u64 (n : Int) : IntKind.u64.wrap n = n % 18446744073709551616 := by simp [IntKind.wrap, IntKind.signed, IntKind.bits]
theorem wrap_u32 (n : Int) : IntKind.u32.wrap n = n % 4294967296 := by simp [IntKind.wrap, IntKind.signed, IntKind.bits]
theorem wrap_u8 (n : Int) : IntKind.u8.wrap n = n % 256 := by simp [IntKind.wrap, IntKind.signed, IntKind.bits]
theorem u64_lt (x : UInt64) : x.toNat < 18446744073709551616 := x.toNat_lt
theorem u32_lt (x : UInt32) : x.toNat < 4294967296 := x.toNat_lt
theorem u8_lt (x : UInt8) : x.toNat < 256 := x.toNat_lt

section
variable {P : Program} {at_ : At} {w : World}
theorem u64_beq (x y : UInt64) : ((x.toNat : Int) == (y.toNat : Int)) = (x == y) := by
  rw [Bool.eq_iff_iff]; simp [← UInt64.toNat_inj, Int.ofNat_inj]
theorem u32_beq (x y : UInt32) : ((x.toNat : Int) == (y.toNat : Int)) = (x == y) := by
  rw [Bool.eq_iff_iff]; simp [← UInt32.toNat_inj, Int.ofNat_inj]
theorem u8_beq (x y : UInt8) : ((x.toNat : Int) == (y.toNat : Int)) = (x == y) := by
  rw [Bool.eq_iff_iff]; simp [← UInt8.toNat_inj, Int.ofNat_inj]
theorem i_bne (x y : Int) : (x != y) = !(x == y) := rfl


theorem r_add (t : TypeId) (k : IntKind) (a b : Int) : (binOp .add t (.int k a) (.int k b)).run P w = .ok (.int k (k.wrap (a + b))) w := by simp [binOp, Op.intArith]
theorem r_sub (t : TypeId) (k : IntKind) (a b : Int) : (binOp .sub t (.int k a) (.int k b)).run P w = .ok (.int k (k.wrap (a - b))) w := by simp [binOp, Op.intArith]
theorem r_mul (t : TypeId) (k : IntKind) (a b : Int) : (binOp .mul t (.int k a) (.int k b)).run P w = .ok (.int k (k.wrap (a * b))) w := by simp [binOp, Op.intArith]
theorem r_quo (t : TypeId) (k : IntKind) (a b : Int) (h : b ≠ 0) : (binOp .quo t (.int k a) (.int k b)).run P w = .ok (.int k (k.wrap (a.tdiv b))) w := by simp [binOp, Op.intDiv, h]
theorem r_rem (t : TypeId) (k : IntKind) (a b : Int) (h : b ≠ 0) : (binOp .rem t (.int k a) (.int k b)).run P w = .ok (.int k (a.tmod b)) w := by simp [binOp, Op.intDiv, h]
theorem r_and (t : TypeId) (k : IntKind) (a b : Int) : (binOp .and t (.int k a) (.int k b)).run P w = .ok (.int k (k.wrap ((BitVec.ofInt k.bits a &&& BitVec.ofInt k.bits b).toNat : Int))) w := by simp [binOp, Op.intBits]
theorem r_or (t : TypeId) (k : IntKind) (a b : Int) : (binOp .or t (.int k a) (.int k b)).run P w = .ok (.int k (k.wrap ((BitVec.ofInt k.bits a ||| BitVec.ofInt k.bits b).toNat : Int))) w := by simp [binOp, Op.intBits]
theorem r_xor (t : TypeId) (k : IntKind) (a b : Int) : (binOp .xor t (.int k a) (.int k b)).run P w = .ok (.int k (k.wrap ((BitVec.ofInt k.bits a ^^^ BitVec.ofInt k.bits b).toNat : Int))) w := by simp [binOp, Op.intBits]
theorem r_andNot (t : TypeId) (k : IntKind) (a b : Int) : (binOp .andNot t (.int k a) (.int k b)).run P w = .ok (.int k (k.wrap ((BitVec.ofInt k.bits a &&& ~~~(BitVec.ofInt k.bits b)).toNat : Int))) w := by simp [binOp, Op.intBits]
theorem r_eql (t : TypeId) (k : IntKind) (a b : Int) : (binOp .eql t (.int k a) (.int k b)).run P w = .ok (.bool (a == b)) w := by simp [binOp, Op.intCmp]
theorem r_neq (t : TypeId) (k : IntKind) (a b : Int) : (binOp .neq t (.int k a) (.int k b)).run P w = .ok (.bool (a != b)) w := by simp [binOp, Op.intCmp]
theorem r_lss (t : TypeId) (k : IntKind) (a b : Int) : (binOp .lss t (.int k a) (.int k b)).run P w = .ok (.bool (decide (a < b))) w := by simp [binOp, Op.intCmp]
theorem r_leq (t : TypeId) (k : IntKind) (a b : Int) : (binOp .leq t (.int k a) (.int k b)).run P w = .ok (.bool (decide (a ≤ b))) w := by simp [binOp, Op.intCmp]
theorem r_gtr (t : TypeId) (k : IntKind) (a b : Int) : (binOp .gtr t (.int k a) (.int k b)).run P w = .ok (.bool (decide (a > b))) w := by simp [binOp, Op.intCmp]
theorem r_geq (t : TypeId) (k : IntKind) (a b : Int) : (binOp .geq t (.int k a) (.int k b)).run P w = .ok (.bool (decide (a ≥ b))) w := by simp [binOp, Op.intCmp]
theorem r_shl (t : TypeId) (k yk : IntKind) (a c : Int) (hc : 0 ≤ c) : (binOp .shl t (.int k a) (.int yk c)).run P w = .ok (.int k (k.wrap (a * 2 ^ (min c.toNat k.bits)))) w := by
  have hc' : ¬ c < 0 := by omega
  simp [binOp, Op.shift, hc']
theorem r_shr (t : TypeId) (k yk : IntKind) (a c : Int) (hc : 0 ≤ c) : (binOp .shr t (.int k a) (.int yk c)).run P w = .ok (.int k (a.fdiv (2 ^ (min c.toNat k.bits)))) w := by
  have hc' : ¬ c < 0 := by omega
  simp [binOp, Op.shift, hc']

theorem bv64 (x : UInt64) : BitVec.ofInt 64 (x.toNat : Int) = x.toBitVec := by simp
theorem bv32 (x : UInt32) : BitVec.ofInt 32 (x.toNat : Int) = x.toBitVec := by simp
theorem bv8 (x : UInt8) : BitVec.ofInt 8 (x.toNat : Int) = x.toBitVec := by simp
theorem wrap_nat64 (x : UInt64) : IntKind.u64.wrap (x.toNat : Int) = (x.toNat : Int) := by have := u64_lt x; rw [wrap_u64]; omega
theorem wrap_nat32 (x : UInt32) : IntKind.u32.wrap (x.toNat : Int) = (x.toNat : Int) := by have := u32_lt x; rw [wrap_u32]; omega
theorem wrap_nat8 (x : UInt8) : IntKind.u8.wrap (x.toNat : Int) = (x.toNat : Int) := by have := u8_lt x; rw [wrap_u8]; omega

theorem binI_ok {op : BinOp} {x y : Int} {r : SV} (t : TypeId) (h : binI op x y = some r) : ∃ v, (binOp op t (.int .i64 x) (.int .i64 y)).run P w = .ok v w ∧ Rel at_ w r v := by
  cases op <;> simp only [binI] at h
  case quo =>
    split at h
    · cases h
    · rename_i hy
      simp only [Option.some.injEq] at h; subst h; simp only [Rel]
      exact ⟨_, r_quo t _ x y hy, rfl⟩
  case rem =>
    split at h
    · cases h
    · rename_i hy
      simp only [Option.some.injEq] at h; subst h; simp only [Rel]
      exact ⟨_, r_rem t _ x y hy, rfl⟩
  all_goals first
    | (cases h; done)
    | (simp only [Option.some.injEq] at h; subst h; simp only [Rel])
  case add => exact ⟨_, r_add t _ x y, rfl⟩
  case sub => exact ⟨_, r_sub t _ x y, rfl⟩
  case mul => exact ⟨_, r_mul t _ x y, rfl⟩
  case eql => exact ⟨_, r_eql t _ x y, rfl⟩
  case neq => exact ⟨_, r_neq t _ x y, rfl⟩
  case lss => exact ⟨_, r_lss t _ x y, rfl⟩
  case leq => exact ⟨_, r_leq t _ x y, rfl⟩
  case gtr => exact ⟨_, r_gtr t _ x y, rfl⟩
  case geq => exact ⟨_, r_geq t _ x y, rfl⟩

theorem binU64_ok {op : BinOp} {x y : UInt64} {r : SV} (t : TypeId) (h : binU64 op x y = some r) : ∃ v, (binOp op t (.int .u64 (x.toNat : Int)) (.int .u64 (y.toNat : Int))).run P w = .ok v w ∧ Rel at_ w r v := by
  have hx := u64_lt x
  have hy := u64_lt y
  have hy0 : y = 0 ↔ (y.toNat : Int) = 0 := by rw [← UInt64.toNat_inj]; simp
  cases op <;> simp only [binU64] at h
  case shl => cases h
  case shr => cases h
  case quo =>
    split at h
    · cases h
    · rename_i h0
      rw [hy0] at h0
      simp only [Option.some.injEq] at h; subst h; simp only [Rel]
      refine ⟨_, r_quo t _ _ _ h0, ?_⟩
      congr 1
      have : x.toNat / y.toNat ≤ x.toNat := Nat.div_le_self _ _
      rw [wrap_u64, Int.tdiv_eq_ediv_of_nonneg (by omega), UInt64.toNat_div, ← Int.natCast_ediv]
      generalize x.toNat / y.toNat = q at *
      omega
  case rem =>
    split at h
    · cases h
    · rename_i h0
      rw [hy0] at h0
      simp only [Option.some.injEq] at h; subst h; simp only [Rel]
      refine ⟨_, r_rem t _ _ _ h0, ?_⟩
      rw [Int.tmod_eq_emod_of_nonneg (by omega), UInt64.toNat_mod, Int.natCast_emod]
  all_goals (simp only [Option.some.injEq] at h; subst h; simp only [Rel])
  case add => exact ⟨_, r_add t _ _ _, by rw [wrap_u64, UInt64.toNat_add]; congr 1⟩
  case sub => exact ⟨_, r_sub t _ _ _, by rw [wrap_u64, UInt64.toNat_sub]; congr 1; omega⟩
  case mul => exact ⟨_, r_mul t _ _ _, by rw [wrap_u64, UInt64.toNat_mul, Int.natCast_emod, Int.natCast_mul]; rfl⟩
  case and => exact ⟨_, r_and t _ _ _, by simp only [IntKind.bits, bv64]; exact congrArg (Value.int .u64) (wrap_nat64 (x &&& y))⟩
  case or => exact ⟨_, r_or t _ _ _, by simp only [IntKind.bits, bv64]; exact congrArg (Value.int .u64) (wrap_nat64 (x ||| y))⟩
  case xor => exact ⟨_, r_xor t _ _ _, by simp only [IntKind.bits, bv64]; exact congrArg (Value.int .u64) (wrap_nat64 (x ^^^ y))⟩
  case andNot => exact ⟨_, r_andNot t _ _ _, by simp only [IntKind.bits, bv64]; exact congrArg (Value.int .u64) (wrap_nat64 (x &&& ~~~y))⟩
  case eql => exact ⟨_, r_eql t _ _ _, by rw [u64_beq]⟩
  case neq => exact ⟨_, r_neq t _ _ _, by rw [i_bne, u64_beq]; rfl⟩
  case lss => exact ⟨_, r_lss t _ _ _, by congr 1; rw [decide_eq_decide, UInt64.lt_iff_toNat_lt]; omega⟩
  case leq => exact ⟨_, r_leq t _ _ _, by congr 1; rw [decide_eq_decide, UInt64.le_iff_toNat_le]; omega⟩
  case gtr => exact ⟨_, r_gtr t _ _ _, by congr 1; rw [decide_eq_decide, UInt64.lt_iff_toNat_lt]; omega⟩
  case geq => exact ⟨_, r_geq t _ _ _, by congr 1; rw [decide_eq_decide, UInt64.le_iff_toNat_le]; omega⟩

theorem binU32_ok {op : BinOp} {x y : UInt32} {r : SV} (t : TypeId) (h : binU32 op x y = some r) : ∃ v, (binOp op t (.int .u32 (x.toNat : Int)) (.int .u32 (y.toNat : Int))).run P w = .ok v w ∧ Rel at_ w r v := by
  have hx := u32_lt x
  have hy := u32_lt y
  cases op <;> simp only [binU32] at h
  all_goals first
    | (cases h; done)
    | (simp only [Option.some.injEq] at h; subst h; simp only [Rel])
  case add => exact ⟨_, r_add t _ _ _, by rw [wrap_u32, UInt32.toNat_add]; congr 1⟩
  case sub => exact ⟨_, r_sub t _ _ _, by rw [wrap_u32, UInt32.toNat_sub]; congr 1; omega⟩
  case mul => exact ⟨_, r_mul t _ _ _, by rw [wrap_u32, UInt32.toNat_mul, Int.natCast_emod, Int.natCast_mul]; rfl⟩
  case and => exact ⟨_, r_and t _ _ _, by simp only [IntKind.bits, bv32]; exact congrArg (Value.int .u32) (wrap_nat32 (x &&& y))⟩
  case or => exact ⟨_, r_or t _ _ _, by simp only [IntKind.bits, bv32]; exact congrArg (Value.int .u32) (wrap_nat32 (x ||| y))⟩
  case xor => exact ⟨_, r_xor t _ _ _, by simp only [IntKind.bits, bv32]; exact congrArg (Value.int .u32) (wrap_nat32 (x ^^^ y))⟩
  case eql => exact ⟨_, r_eql t _ _ _, by rw [u32_beq]⟩
  case neq => exact ⟨_, r_neq t _ _ _, by rw [i_bne, u32_beq]; rfl⟩

theorem binU8_ok {op : BinOp} {x y : UInt8} {r : SV} (t : TypeId) (h : binU8 op x y = some r) : ∃ v, (binOp op t (.int .u8 (x.toNat : Int)) (.int .u8 (y.toNat : Int))).run P w = .ok v w ∧ Rel at_ w r v := by
  have hx := u8_lt x
  have hy := u8_lt y
  cases op <;> simp only [binU8] at h
  all_goals first
    | (cases h; done)
    | (simp only [Option.some.injEq] at h; subst h; simp only [Rel])
  case add => exact ⟨_, r_add t _ _ _, by rw [wrap_u8, UInt8.toNat_add]; congr 1⟩
  case sub => exact ⟨_, r_sub t _ _ _, by rw [wrap_u8, UInt8.toNat_sub]; congr 1; omega⟩
  case and => exact ⟨_, r_and t _ _ _, by simp only [IntKind.bits, bv8]; exact congrArg (Value.int .u8) (wrap_nat8 (x &&& y))⟩
  case or => exact ⟨_, r_or t _ _ _, by simp only [IntKind.bits, bv8]; exact congrArg (Value.int .u8) (wrap_nat8 (x ||| y))⟩
  case xor => exact ⟨_, r_xor t _ _ _, by simp only [IntKind.bits, bv8]; exact congrArg (Value.int .u8) (wrap_nat8 (x ^^^ y))⟩
  case eql => exact ⟨_, r_eql t _ _ _, by rw [u8_beq]⟩
  case neq => exact ⟨_, r_neq t _ _ _, by rw [i_bne, u8_beq]; rfl⟩
  case lss => exact ⟨_, r_lss t _ _ _, by congr 1; rw [decide_eq_decide, UInt8.lt_iff_toNat_lt]; omega⟩
  case leq => exact ⟨_, r_leq t _ _ _, by congr 1; rw [decide_eq_decide, UInt8.le_iff_toNat_le]; omega⟩
  case gtr => exact ⟨_, r_gtr t _ _ _, by congr 1; rw [decide_eq_decide, UInt8.lt_iff_toNat_lt]; omega⟩
  case geq => exact ⟨_, r_geq t _ _ _, by congr 1; rw [decide_eq_decide, UInt8.le_iff_toNat_le]; omega⟩

theorem pow_min (a n b : Nat) (ha : a < 2 ^ b) : a / 2 ^ (min n b) = a / 2 ^ n := by
  by_cases h : n ≤ b
  · rw [Nat.min_eq_left h]
  · rw [Nat.min_eq_right (by omega), Nat.div_eq_of_lt ha, Nat.div_eq_of_lt]
    exact Nat.lt_of_lt_of_le ha (Nat.pow_le_pow_right (by omega) (by omega))
theorem mul_pow_min (a n b : Nat) : a * 2 ^ (min n b) % 2 ^ b = a * 2 ^ n % 2 ^ b := by
  by_cases h : n ≤ b
  · rw [Nat.min_eq_left h]
  · rw [Nat.min_eq_right (by omega)]
    obtain ⟨k, rfl⟩ : ∃ k, n = b + k := ⟨n - b, by omega⟩
    rw [Nat.pow_add, show a * (2 ^ b * 2 ^ k) = a * 2 ^ k * 2 ^ b by rw [Nat.mul_assoc, Nat.mul_comm (2 ^ b)], Nat.mul_mod_left, Nat.mul_mod_left]

theorem fdiv_cast (a k : Nat) : (a : Int).fdiv (2 ^ k) = ((a / 2 ^ k : Nat) : Int) := by
  have h : ((2 : Int) ^ k) = ((2 ^ k : Nat) : Int) := by simp
  rw [h, Int.fdiv_eq_ediv_of_nonneg _ (Int.natCast_nonneg _), Int.natCast_ediv]
theorem mul_cast (a k : Nat) : (a : Int) * 2 ^ k = ((a * 2 ^ k : Nat) : Int) := by simp

theorem shl64_nat (x : UInt64) (n : Nat) : (shl64 x n).toNat = x.toNat * 2 ^ n % 2 ^ 64 := by simp [shl64]
theorem shl32_nat (x : UInt32) (n : Nat) : (shl32 x n).toNat = x.toNat * 2 ^ n % 2 ^ 32 := by simp [shl32]
theorem shl8_nat (x : UInt8) (n : Nat) : (shl8 x n).toNat = x.toNat * 2 ^ n % 2 ^ 8 := by simp [shl8]
theorem shr64_nat (x : UInt64) (n : Nat) : (shr64 x n).toNat = x.toNat / 2 ^ n := by
  have h1 := u64_lt x
  have h2 : x.toNat / 2 ^ n ≤ x.toNat := Nat.div_le_self _ _
  simp only [shr64, UInt64.toNat_ofNat']
  exact Nat.mod_eq_of_lt (by omega)
theorem shr32_nat (x : UInt32) (n : Nat) : (shr32 x n).toNat = x.toNat / 2 ^ n := by
  have h1 := u32_lt x
  have h2 : x.toNat / 2 ^ n ≤ x.toNat := Nat.div_le_self _ _
  simp only [shr32, UInt32.toNat_ofNat']
  exact Nat.mod_eq_of_lt (by omega)
theorem shr8_nat (x : UInt8) (n : Nat) : (shr8 x n).toNat = x.toNat / 2 ^ n := by
  have h1 := u8_lt x
  have h2 : x.toNat / 2 ^ n ≤ x.toNat := Nat.div_le_self _ _
  simp only [shr8, UInt8.toNat_ofNat']
  exact Nat.mod_eq_of_lt (by omega)
theorem wrap_shl (a n b : Nat) : ((a : Int) * 2 ^ (min n b)) % (2 ^ b : Int) = ((a * 2 ^ n % 2 ^ b : Nat) : Int) := by
  rw [mul_cast, show (2 ^ b : Int) = ((2 ^ b : Nat) : Int) by simp, ← Int.natCast_emod, mul_pow_min]

theorem shift_ok {op : BinOp} {x : SV} {u : Value} {n : Nat} {r : SV} (t : TypeId) (yk : IntKind) (c : Int) (hc : 0 ≤ c) (hn : c.toNat = n) (hx : Rel at_ w x u) (h : shift op x n = some r) :
    ∃ v, (binOp op t u (.int yk c)).run P w = .ok v w ∧ Rel at_ w r v := by
  unfold shift at h
  split at h
  all_goals first
    | (cases h; done)
    | (simp only [Option.some.injEq] at h; subst h; simp only [Rel] at hx ⊢; subst hx)
  · exact ⟨_, r_shl t _ yk _ c hc, by rw [hn, wrap_u64, shl64_nat]; exact congrArg _ (wrap_shl _ n 64)⟩
  · rename_i x; exact ⟨_, r_shr t _ yk _ c hc, by rw [hn, fdiv_cast, shr64_nat]; simp only [IntKind.bits]; rw [pow_min _ _ _ (u64_lt x)]⟩
  · exact ⟨_, r_shl t _ yk _ c hc, by rw [hn, wrap_u32, shl32_nat]; exact congrArg _ (wrap_shl _ n 32)⟩
  · rename_i x; exact ⟨_, r_shr t _ yk _ c hc, by rw [hn, fdiv_cast, shr32_nat]; simp only [IntKind.bits]; rw [pow_min _ _ _ (u32_lt x)]⟩
  · exact ⟨_, r_shl t _ yk _ c hc, by rw [hn, wrap_u8, shl8_nat]; exact congrArg _ (wrap_shl _ n 8)⟩
  · rename_i x; exact ⟨_, r_shr t _ yk _ c hc, by rw [hn, fdiv_cast, shr8_nat]; simp only [IntKind.bits]; rw [pow_min _ _ _ (u8_lt x)]⟩
  · exact ⟨_, r_shr t _ yk _ c hc, by rw [hn]; rfl⟩
  · exact ⟨_, r_shr t _ yk _ c hc, by rw [hn]; rfl⟩

theorem count_ok {y : SV} {u : Value} {n : Nat} (h : y.count = some n) (hy : Rel at_ w y u) : ∃ k c, u = .int k c ∧ 0 ≤ c ∧ c.toNat = n := by
  cases y <;> simp only [SV.count] at h <;> simp only [Rel] at hy
  all_goals first
    | (cases h; done)
    | skip
  · split at h
    · simp at h; exact ⟨_, _, hy, by assumption, h⟩
    · cases h
  all_goals (simp at h; exact ⟨_, _, hy, by omega, by simpa using h⟩)

theorem eqIn_ptr_nil {t e : TypeId} (ht : P.underlying t = some (.pointer e)) (a : Addr) (d : Nat) : (Op.equalIn (d + 1) t (.pointer (some a)) (.pointer none)).run P w = .ok false w := by
  simp only [Op.equalIn, Sem.run_bind, run_underlying ht, Result.andThen_ok, Sem.run_pure]
theorem eqIn_nil_nil {t e : TypeId} (ht : P.underlying t = some (.pointer e)) (d : Nat) : (Op.equalIn (d + 1) t (.pointer none) (.pointer none)).run P w = .ok true w := by
  simp only [Op.equalIn, Sem.run_bind, run_underlying ht, Result.andThen_ok, Sem.run_pure, Option.isNone_none]
theorem run_eql_ptr_nil {t e : TypeId} (ht : P.underlying t = some (.pointer e)) (a : Addr) : (binOp .eql t (.pointer (some a)) (.pointer none)).run P w = .ok (.bool false) w := by
  simp only [binOp]
  have := eqIn_ptr_nil (w := w) ht a 9999
  simp only [Op.equal, Op.maxDepth, Sem.run_bind, this, Result.andThen_ok, Sem.run_pure]
theorem run_neq_ptr_nil {t e : TypeId} (ht : P.underlying t = some (.pointer e)) (a : Addr) : (binOp .neq t (.pointer (some a)) (.pointer none)).run P w = .ok (.bool true) w := by
  simp only [binOp]
  have := eqIn_ptr_nil (w := w) ht a 9999
  simp only [Op.equal, Op.maxDepth, Sem.run_bind, this, Result.andThen_ok, Sem.run_pure, Bool.not_false]
theorem run_eql_nil_nil' {t e : TypeId} (ht : P.underlying t = some (.pointer e)) : (binOp .eql t (.pointer none) (.pointer none)).run P w = .ok (.bool true) w := by
  simp only [binOp]
  have := eqIn_nil_nil (w := w) ht 9999
  simp only [Op.equal, Op.maxDepth, Sem.run_bind, this, Result.andThen_ok, Sem.run_pure]
theorem run_neq_nil_nil' {t e : TypeId} (ht : P.underlying t = some (.pointer e)) : (binOp .neq t (.pointer none) (.pointer none)).run P w = .ok (.bool false) w := by
  simp only [binOp]
  have := eqIn_nil_nil (w := w) ht 9999
  simp only [Op.equal, Op.maxDepth, Sem.run_bind, this, Result.andThen_ok, Sem.run_pure, Bool.not_true]

/-- What a type says of '==' beside numbers. -/
def EqT (P : Program) (t : TypeId) : Prop := P.underlying t = some .bool ∨ ∃ e, P.underlying t = some (.pointer e)

theorem run_guard (op : BinOp) (t : TypeId) (x y : Operand) (a b : Value) (ha : ∀ cs, a ≠ .agg cs) (hi : a ≠ .nilIface) : (eqGuard op t x y a b).run P w = .ok () w := by
  unfold eqGuard
  by_cases h : op = .eql ∨ op = .neq
  · cases a <;> first | exact absurd rfl hi | exact absurd rfl (ha _) | (rcases h with rfl | rfl <;> simp)
  · cases op <;> simp at h <;> simp

theorem eqCells_ok : ∀ {xs ys : List SV} {us vs : List Value} {b : Bool}, eqCells xs ys = some b → RelL at_ w xs us → RelL at_ w ys vs →
    ∃ l : List (UInt64 × UInt64), us = l.map (fun p => .int .u64 (p.1.toNat : Int)) ∧ vs = l.map (fun p => .int .u64 (p.2.toNat : Int)) ∧ b = l.all fun p => p.1 == p.2 := by
  intro xs
  induction xs with
  | nil =>
    intro ys us vs b h hx hy
    cases ys with
    | nil =>
      simp only [eqCells, Option.some.injEq] at h
      simp only [RelL] at hx hy
      subst hx; subst hy
      exact ⟨[], rfl, rfl, by simp [← h]⟩
    | cons y ys => simp [eqCells] at h
  | cons x xs ih =>
    intro ys us vs b h hx hy
    cases ys with
    | nil => cases x <;> simp [eqCells] at h
    | cons y ys =>
      cases x <;> cases y <;> simp only [eqCells] at h <;> try (cases h; done)
      rename_i x y
      cases hb : eqCells xs ys with
      | none => rw [hb] at h; cases h
      | some c =>
        rw [hb] at h
        simp only [Option.map_some, Option.some.injEq] at h
        simp only [RelL] at hx hy
        obtain ⟨u, us', rfl, hu, hx'⟩ := hx
        obtain ⟨v, vs', rfl, hv, hy'⟩ := hy
        obtain ⟨l, h1, h2, h3⟩ := ih hb hx' hy'
        simp only [Rel] at hu hv
        exact ⟨(x, y) :: l, by simp [hu, h1], by simp [hv, h2], by simp [← h, h3]⟩

end
end Go.Sym
/- The symbolic machine's operations are right: what two arrays have in common; one operation on two numbers; parts laid into cells. -/
namespace Go.Sym
open Go.RowKit

section
variable {P : Program} {at_ : At} {w : World}
theorem run_part_one {e : TypeId} {i : TI} (h : TIOK P e i) (ha : i.d.agg = false) {cs : Array Value} {off : Nat} {v : Value} (hv : cs[off]? = some v) : (part e cs off).run P w = .ok v w := by
  simp [part, h.isAgg, ha, hv]
theorem run_part_agg {e : TypeId} {i : TI} (h : TIOK P e i) (ha : i.d.agg = true) {vs : List Value} {off : Nat} : (part e (List.toArray vs) off).run P w = .ok (.agg (List.toArray ((vs.drop off).take i.size))) w := by
  simp [part, h.isAgg, ha, h.sizeOf]

theorem eqItems_cells {e : TypeId} {j : TI} (hj : TIOK P e j) (hjd : j.d = .int .u64) (l : List (UInt64 × UInt64)) (d : Nat) : ∀ (k m : Nat), m + k = l.length →
    (Op.eqItems (d + 1) e 1 (List.toArray (l.map fun p => .int .u64 (p.1.toNat : Int))) (List.toArray (l.map fun p => .int .u64 (p.2.toNat : Int))) (List.range' m k)).run P w = .ok ((l.drop m).all fun p => p.1 == p.2) w := by
  have he := hj.int hjd
  intro k
  induction k with
  | zero => intro m hm; have : l.drop m = [] := by simp; omega
            simp [this, Op.eqItems]
  | succ k ih =>
    intro m hm
    have hlt : m < l.length := by omega
    have h1 : (part e (List.toArray (l.map fun p => (.int .u64 (p.1.toNat : Int) : Value))) (m * 1)).run P w = .ok (.int .u64 (l[m].1.toNat : Int)) w := run_part_one hj (by rw [hjd]; rfl) (by simp [hlt])
    have h2 : (part e (List.toArray (l.map fun p => (.int .u64 (p.2.toNat : Int) : Value))) (m * 1)).run P w = .ok (.int .u64 (l[m].2.toNat : Int)) w := run_part_one hj (by rw [hjd]; rfl) (by simp [hlt])
    have h3 : (Op.equalIn (d + 1) e (.int .u64 (l[m].1.toNat : Int)) (.int .u64 (l[m].2.toNat : Int))).run P w = .ok (l[m].1 == l[m].2) w := by rw [run_equalIn_int w d e _ _ _ _ he, u64_beq]
    have hd : l.drop m = l[m] :: l.drop (m + 1) := List.drop_eq_getElem_cons hlt
    rw [List.range'_succ, Op.eqItems]
    simp only [Sem.run_bind, h1, h2, h3, Result.andThen_ok]
    rw [hd, List.all_cons]
    cases hb : l[m].1 == l[m].2
    · simp only [Bool.not_false, if_true, Sem.run_pure, Bool.false_and]
    · simp only [Bool.not_true, Bool.false_eq_true, if_false, Bool.true_and]
      exact ih (m + 1) (by omega)

theorem run_equal_cells {t e : TypeId} {n : Nat} {i j : TI} (hi : TIOK P t i) (hj : TIOK P e j) (hid : i.d = .array n e) (hjd : j.d = .int .u64) (hjs : j.size = 1) {xs ys : List SV} {us vs : List Value} {b : Bool}
    (h : eqCells xs ys = some b) (hx : RelL at_ w xs us) (hy : RelL at_ w ys vs) (hl : xs.length = n) :
    (Op.equal t (.agg (List.toArray us)) (.agg (List.toArray vs))).run P w = .ok b w := by
  obtain ⟨l, rfl, rfl, rfl⟩ := eqCells_ok h hx hy
  have hln : l.length = n := by have := hx.length; simp at this; omega
  obtain ⟨x, z, h1, h2, h3, h4, h5⟩ := hj.ti
  have hc : P.cellsOf e = 1 := by simp [Program.cellsOf, h1, h4, hjs]
  have := run_equalIn_array (P := P) w 9999 (List.toArray (l.map fun p => (.int .u64 (p.1.toNat : Int) : Value))) (List.toArray (l.map fun p => (.int .u64 (p.2.toNat : Int) : Value))) (hi.array hid) h1
  simp only [Op.equal, Op.maxDepth, this, hc, List.range_eq_range']
  have h6 := eqItems_cells (w := w) hj hjd l 9998 l.length 0 (by omega)
  rw [hln] at h6
  simpa using h6

theorem binN_ok {op : BinOp} {x y : SV} {a b : Value} {r : SV} (t : TypeId) (hx : Rel at_ w x a) (hy : Rel at_ w y b) (h : binN op x y = some r) :
    ∃ v, (binOp op t a b).run P w = .ok v w ∧ Rel at_ w r v := by
  have shiftCase : ∀ {z : BinOp}, (y.count.bind (Sym.shift z x)) = some r → ∃ v, (binOp z t a b).run P w = .ok v w ∧ Rel at_ w r v := by
    intro z h
    cases hc : y.count with
    | none => rw [hc] at h; cases h
    | some n =>
      rw [hc] at h
      obtain ⟨k, c, rfl, h1, h2⟩ := count_ok hc hy
      exact shift_ok t k c h1 h2 hx h
  unfold binN at h
  split at h
  · exact shiftCase h
  · exact shiftCase h
  · simp only [Rel] at hx hy; subst hx; subst hy; exact binI_ok t h
  · simp only [Rel] at hx hy; subst hx; subst hy; exact binU64_ok t h
  · simp only [Rel] at hx hy; subst hx; subst hy; exact binU32_ok t h
  · simp only [Rel] at hx hy; subst hx; subst hy; exact binU8_ok t h
  · simp only [Option.some.injEq] at h; subst h; simp only [Rel] at hx hy ⊢; subst hx; subst hy; exact ⟨_, r_gtr t _ _ _, rfl⟩
  · cases h
/-- What binN takes: no aggregate, no interface. -/
theorem binN_num {op : BinOp} {x y : SV} {a : Value} {r : SV} (hx : Rel at_ w x a) (h : binN op x y = some r) : (∀ cs, a ≠ .agg cs) ∧ a ≠ .nilIface := by
  have key : (∃ k n, a = .int k n) → (∀ cs, a ≠ .agg cs) ∧ a ≠ .nilIface := by
    rintro ⟨k, n, rfl⟩; exact ⟨fun _ e => (by cases e), fun e => (by cases e)⟩
  have sh : ∀ {z : BinOp} {n : Nat}, Sym.shift z x n = some r → ∃ k n, a = .int k n := by
    intro z n h
    unfold shift at h
    split at h
    all_goals first
      | (cases h; done)
      | (simp only [Rel] at hx; exact ⟨_, _, hx⟩)
  unfold binN at h
  split at h
  · cases hc : y.count with
    | none => rw [hc] at h; cases h
    | some n => rw [hc] at h; exact key (sh h)
  · cases hc : y.count with
    | none => rw [hc] at h; cases h
    | some n => rw [hc] at h; exact key (sh h)
  · simp only [Rel] at hx; exact key ⟨_, _, hx⟩
  · simp only [Rel] at hx; exact key ⟨_, _, hx⟩
  · simp only [Rel] at hx; exact key ⟨_, _, hx⟩
  · simp only [Rel] at hx; exact key ⟨_, _, hx⟩
  · simp only [Rel] at hx; exact key ⟨_, _, hx⟩
  · cases h
theorem binB_ok {op : BinOp} {x y : SV} {a b : Value} {r : SV} {t : TypeId} (ht : P.underlying t = some .bool) (hx : Rel at_ w x a) (hy : Rel at_ w y b) (h : binB op x y = some r) :
    ((∀ cs, a ≠ .agg cs) ∧ a ≠ .nilIface) ∧ ∃ v, (binOp op t a b).run P w = .ok v w ∧ Rel at_ w r v := by
  unfold binB at h
  split at h
  all_goals first
    | (cases h; done)
    | (simp only [Option.some.injEq] at h; subst h; simp only [Rel] at hx hy ⊢; subst hx; subst hy)
  · exact ⟨⟨fun _ e => (by cases e), fun e => (by cases e)⟩, _, run_eql_bool w t _ _ ht, rfl⟩
  · exact ⟨⟨fun _ e => (by cases e), fun e => (by cases e)⟩, _, run_neq_bool w t _ _ ht, rfl⟩
theorem binP_ok {op : BinOp} {x y : SV} {a b : Value} {r : SV} {t e : TypeId} (he : P.underlying t = some (.pointer e)) (hx : Rel at_ w x a) (hy : Rel at_ w y b) (h : binP op x y = some r) :
    ((∀ cs, a ≠ .agg cs) ∧ a ≠ .nilIface) ∧ ∃ v, (binOp op t a b).run P w = .ok v w ∧ Rel at_ w r v := by
  have key : (∃ p, a = .pointer p) → (∀ cs, a ≠ .agg cs) ∧ a ≠ .nilIface := by
    rintro ⟨p, rfl⟩; exact ⟨fun _ e => (by cases e), fun e => (by cases e)⟩
  unfold binP at h
  split at h
  all_goals first
    | (cases h; done)
    | skip
  all_goals
    simp only [Option.some.injEq] at h; subst h; simp only [Rel] at hx hy ⊢
    subst hy
  · obtain ⟨g, _, rfl⟩ := hx; exact ⟨key ⟨_, rfl⟩, _, run_eql_ptr_nil he _, rfl⟩
  · obtain ⟨g, _, _, _, rfl, _⟩ := hx; exact ⟨key ⟨_, rfl⟩, _, run_eql_ptr_nil he _, rfl⟩
  · obtain ⟨g, _, rfl⟩ := hx; exact ⟨key ⟨_, rfl⟩, _, run_neq_ptr_nil he _, rfl⟩
  · obtain ⟨g, _, _, _, rfl, _⟩ := hx; exact ⟨key ⟨_, rfl⟩, _, run_neq_ptr_nil he _, rfl⟩
  · subst hx; exact ⟨key ⟨_, rfl⟩, _, run_eql_nil_nil' he, rfl⟩
  · subst hx; exact ⟨key ⟨_, rfl⟩, _, run_neq_nil_nil' he, rfl⟩

theorem una_ok {op : UnOp} {x : SV} {a : Value} {r : SV} (hx : Rel at_ w x a) (h : una op x = some r) : ∃ v, (Op.unary op a).run P w = .ok v w ∧ Rel at_ w r v := by
  unfold una at h
  split at h
  all_goals first
    | (cases h; done)
    | (simp only [Option.some.injEq] at h; subst h; simp only [Rel] at hx ⊢; subst hx)
  · exact ⟨_, by simp [Op.unary], rfl⟩
  · rename_i x
    have hx := u64_lt x
    refine ⟨.int .u64 (IntKind.u64.wrap (0 - (x.toNat : Int))), by simp [Op.unary, Op.intArith], ?_⟩
    rw [wrap_u64, UInt64.toNat_sub]
    have : (0 : UInt64).toNat = 0 := rfl
    rw [this]
    congr 1
    omega
  · rename_i n
    exact ⟨.int .i64 (IntKind.i64.wrap (0 - n)), by simp [Op.unary, Op.intArith], rfl⟩
  · rename_i x
    have hx := u64_lt x
    refine ⟨.int .u64 (IntKind.u64.wrap ((BitVec.ofInt 64 IntKind.u64.max ^^^ BitVec.ofInt 64 (x.toNat : Int)).toNat : Int)), rfl, ?_⟩
    have e1 : BitVec.ofInt 64 IntKind.u64.max = BitVec.allOnes 64 := by decide
    rw [bv64, e1, BitVec.allOnes_xor]
    exact congrArg (Value.int .u64) (wrap_nat64 (~~~x))
  · rename_i x
    have hx := u32_lt x
    refine ⟨.int .u32 (IntKind.u32.wrap ((BitVec.ofInt 32 IntKind.u32.max ^^^ BitVec.ofInt 32 (x.toNat : Int)).toNat : Int)), rfl, ?_⟩
    have e1 : BitVec.ofInt 32 IntKind.u32.max = BitVec.allOnes 32 := by decide
    rw [bv32, e1, BitVec.allOnes_xor]
    exact congrArg (Value.int .u32) (wrap_nat32 (~~~x))

theorem wrap_i64_id {n : Int} (h : -9223372036854775808 ≤ n) (h' : n < 9223372036854775808) : IntKind.i64.wrap n = n := by
  simp [IntKind.wrap, IntKind.signed, IntKind.bits]
  split <;> omega

theorem ofInt64 (n : Int) : (UInt64.ofInt n).toNat = (n % 18446744073709551616).toNat := by simp [UInt64.ofInt]; omega
theorem ofInt32 (n : Int) : (UInt32.ofInt n).toNat = (n % 4294967296).toNat := by simp [UInt32.ofInt]; omega
theorem ofInt8 (n : Int) : (UInt8.ofInt n).toNat = (n % 256).toNat := by simp [UInt8.ofInt]; omega
theorem conv_ok {k : IntKind} {x : SV} {a : Value} {r : SV} {src dst : TypeId} (hs : ∃ d, P.underlying src = some d) (ht : P.underlying dst = some (.int k)) (hx : Rel at_ w x a) (h : conv k x = some r) :
    ∃ v, (convert src dst a).run P w = .ok v w ∧ Rel at_ w r v := by
  obtain ⟨d, hd⟩ := hs
  have run : ∀ j n, (convert src dst (.int j n)).run P w = .ok (.int k (k.wrap n)) w := fun j n => by
    simp only [convert, Sem.run_bind, run_underlying hd, run_underlying ht, Result.andThen_ok, Conv.intToInt, Sem.run_pure]
  unfold conv at h
  split at h
  all_goals first
    | (cases h; done)
    | (simp only [Option.some.injEq] at h; subst h; simp only [Rel] at hx ⊢; subst hx; refine ⟨_, run _ _, ?_⟩)
  · rfl
  · rfl
  · rename_i x; have := u32_lt x; rw [wrap_i64_id (by omega) (by omega)]
  · rename_i x; have := u8_lt x; rw [wrap_i64_id (by omega) (by omega)]
  · rename_i n
    rw [wrap_u64, ofInt64]
    congr 1
    omega
  · rename_i x; rw [wrap_nat64]
  · rename_i x; have := u32_lt x; rw [wrap_u64, UInt32.toNat_toUInt64]; congr 1; omega
  · rename_i x; have := u8_lt x; rw [wrap_u64, UInt8.toNat_toUInt64]; congr 1; omega
  · rename_i x; rw [wrap_u32, UInt64.toNat_toUInt32]; congr 1
  · rename_i x; rw [wrap_nat32]
  · rename_i x; have := u8_lt x; rw [wrap_u32, UInt8.toNat_toUInt32]; congr 1; omega
  · rename_i n
    rw [wrap_u32, ofInt32]
    congr 1
    omega
  · rename_i x; rw [wrap_u8, UInt64.toNat_toUInt8]; congr 1
  · rename_i x; rw [wrap_u8, UInt32.toNat_toUInt8]; congr 1
  · rename_i x; rw [wrap_nat8]
  · rename_i n
    rw [wrap_u8, ofInt8]
    congr 1
    omega
  · rfl
  · rename_i n
    rw [wrap_u8, ofInt8]
    congr 1
    omega

/-- Parts laid into cells: the model's way. -/
theorem foldl_set (vs : List Value) : ∀ (off k : Nat) (cells : Array Value), off + k + vs.length ≤ cells.size →
    (vs.zipIdx k).foldl (fun (cs : Array Value) (p : Value × Nat) => cs.setIfInBounds (off + p.2) p.1) cells = (cells.toList.take (off + k) ++ vs ++ cells.toList.drop (off + k + vs.length)).toArray := by
  induction vs with
  | nil => intro off k cells _; simp
  | cons v vs ih =>
    intro off k cells hl
    simp only [List.zipIdx_cons, List.foldl_cons]
    rw [ih off (k + 1) _ (by simp at hl ⊢; omega)]
    congr 1
    have hk : off + k < cells.toList.length := by simp only [List.length_cons] at hl; simp only [Array.length_toList]; omega
    simp only [Array.toList_setIfInBounds, List.length_cons]
    rw [show off + (k + 1) = off + k + 1 by omega, List.take_set, List.drop_set_of_lt (by omega), List.take_succ_eq_append_getElem hk, List.set_append_right _ _ (by simp; omega)]
    have hz : off + k - (List.take (off + k) cells.toList).length = 0 := by simp at hk ⊢; omega
    rw [hz]
    simp [Nat.add_assoc, Nat.add_comm 1]
theorem fill_ok {place : Nat → Option (Nat × Nat)} : ∀ (parts : List (Nat × SV)) (vparts : List (Nat × Value)) (cells : List SV) (vcells : List Value) (out : List SV), fillL place cells parts = some out → RelL at_ w cells vcells →
    vparts.map (·.1) = parts.map (·.1) → (∀ (i : Nat) (p : Nat × SV) (q : Nat × Value), parts[i]? = some p → vparts[i]? = some q → Rel at_ w p.2 q.2) → ∃ vout, Instr.fill place (List.toArray vcells) vparts = some (List.toArray vout) ∧ RelL at_ w out vout
  | [], vparts, cells, vcells, out, h, hc, hm, _ => by
    simp only [List.map_nil, List.map_eq_nil_iff] at hm
    subst hm
    simp only [fillL, Option.some.injEq] at h
    subst h
    exact ⟨vcells, rfl, hc⟩
  | (i, v) :: rest, vparts, cells, vcells, out, h, hc, hm, hp => by
    cases vparts with
    | nil => simp at hm
    | cons q vrest =>
      obtain ⟨i', u⟩ := q
      simp only [List.map_cons, List.cons.injEq] at hm
      obtain ⟨hi, hm⟩ := hm
      subst hi
      simp only [fillL] at h
      simp only [Instr.fill]
      cases hpl : place i' with
      | none => rw [hpl] at h; cases h
      | some os =>
        obtain ⟨off, size⟩ := os
        rw [hpl] at h
        cases hv : v.cells? with
        | none => simp only [hv] at h; cases h
        | some vs =>
          simp only [hv] at h
          split at h
          · rename_i hcond
            obtain ⟨h1, h2⟩ := hcond
            have hr := hp 0 (i', v) (i', u) rfl rfl
            obtain ⟨h3, _⟩ := Rel.cells hv hr
            have hlen := h3.length
            have hclen := hc.length
            have hne : ¬ (u.cells.size ≠ size ∨ off + u.cells.size > (List.toArray vcells).size) := by
              simp at hlen ⊢; omega
            have hfold : (u.cells.zipIdx.foldl (fun (cs : Array Value) (p : Value × Nat) => cs.setIfInBounds (off + p.2) p.1) (List.toArray vcells)) = (vcells.take off ++ u.cells.toList ++ vcells.drop (off + u.cells.toList.length)).toArray := by
              have := foldl_set u.cells.toList off 0 (List.toArray vcells) (by simp at hlen ⊢; omega)
              simp only [Nat.add_zero] at this
              rw [← this, ← Array.foldl_toList, Array.toList_zipIdx]
            have hb : (decide (u.cells.size ≠ size) || decide (off + u.cells.size > (List.toArray vcells).size)) = false := by
              simp at hne ⊢; exact hne
            simp only [hb, Bool.false_eq_true, if_false]
            rw [hfold]
            refine fill_ok rest vrest _ _ out h (RelL.append (RelL.append (hc.take off) h3) ?_) hm (fun j p q e1 e2 => hp (j + 1) p q (by simpa using e1) (by simpa using e2))
            rw [hlen]; exact hc.drop _
          · cases h
end
end Go.Sym
/- The symbolic machine's operations are right: each of the model's operations. -/
namespace Go.Sym
open Go.RowKit

section
variable {P : Program} {at_ : At} {w : World}
theorem BytesAt.fix {at' : At} (h : ∀ g, Fix at_ g → Fix at' g) {l : List UInt8} {v : Value} (r : BytesAt at_ w l v) : BytesAt at' w l v := by
  obtain ⟨a, c, h1, h2, h3⟩ := r
  refine ⟨a, c, h1, h2, fun j u hj => ?_⟩
  obtain ⟨ad, e1, e2, e3⟩ := h3 j u hj
  exact ⟨ad, e1, h _ e2, e3⟩
mutual
theorem Rel.noName {at' : At} (h : ∀ g, Fix at_ g → Fix at' g) : ∀ (s : SV) (v : Value), s.noName = true → Rel at_ w s v → Rel at' w s v
  | .i64 _, _, _, r => by simpa only [Rel] using r
  | .u64 _, _, _, r => by simpa only [Rel] using r
  | .u32 _, _, _, r => by simpa only [Rel] using r
  | .u8 _, _, _, r => by simpa only [Rel] using r
  | .bool _, _, _, r => by simpa only [Rel] using r
  | .val _, _, _, r => by simpa only [Rel] using r
  | .undef, _, _, r => by simpa only [Rel] using r
  | .any, _, _, _ => by simp only [Rel]
  | .any1, _, _, r => by simpa only [Rel] using r
  | .lol _, _, _, r => by
    simp only [Rel] at r ⊢
    obtain ⟨a, c, h1, h2, h3⟩ := r
    refine ⟨a, c, h1, h2, fun j l hj => ?_⟩
    obtain ⟨ad, u, e1, e2, e3, e4⟩ := h3 j l hj
    exact ⟨ad, u, e1, h _ e2, e3, e4.fix h⟩
  | .ptr _ _, _, n, _ => by simp [SV.noName] at n
  | .slc _ _ _ _, _, n, _ => by simp [SV.noName] at n
  | .sl _ _ _, _, n, _ => by simp [SV.noName] at n
  | .lp _ _, _, n, _ => by simp [SV.noName] at n
  | .ap _ _, _, n, _ => by simp [SV.noName] at n
  | .own _, _, _, r => by simp only [Rel] at r
  | .lst _, _, _, r => by
    simp only [Rel] at r ⊢
    obtain ⟨a, c, h1, h2, h3⟩ := r
    refine ⟨a, c, h1, h2, fun j u hj => ?_⟩
    obtain ⟨ad, e1, e2, e3⟩ := h3 j u hj
    exact ⟨ad, e1, h _ e2, e3⟩
  | .lel x, _, n, r => by
    simp only [Rel] at r ⊢
    simp only [SV.noName] at n
    obtain ⟨ad, u, h1, h2, h3, h4⟩ := r
    exact ⟨ad, u, h1, h _ h2, h3, Rel.noName h x u n h4⟩
  | .ro cs _, _, n, r => by
    simp only [Rel] at r ⊢
    simp only [SV.noName] at n
    obtain ⟨g, ty, fz, vs, h1, h2, h3, h4⟩ := r
    exact ⟨g, ty, fz, vs, h1, h _ h2, h3, RelL.noName h cs vs n h4⟩
  | .roO b cs, _, n, r => by
    simp only [Rel] at r ⊢
    simp only [SV.noName] at n
    refine ⟨fun hb => ?_, r.2⟩
    obtain ⟨g, ty, fz, vs, h1, h2, h3, h4⟩ := r.1 hb
    exact ⟨g, ty, fz, vs, h1, h _ h2, h3, RelL.noName h cs vs n h4⟩
  | .win cs, _, n, r => by
    simp only [Rel] at r ⊢
    simp only [SV.noName] at n
    obtain ⟨ad, vs, h1, h2, h3, h4, h5⟩ := r
    exact ⟨ad, vs, h1, h _ h2, h3, RelL.noName h cs vs n h4, h5⟩
  | .wsl cs _ _, _, n, r => by
    simp only [Rel] at r ⊢
    simp only [SV.noName] at n
    obtain ⟨ad, c, vs, h1, h0, h2, h3, h4, h6, h5⟩ := r
    exact ⟨ad, c, vs, h1, h0, h _ h2, h3, RelL.noName h cs vs n h4, h6, h5⟩
  | .rsl cs _ _, _, n, r => by
    simp only [Rel] at r ⊢
    simp only [SV.noName] at n
    obtain ⟨g, ty, fz, vs, cap, h1, h0, h2, h3, h4⟩ := r
    exact ⟨g, ty, fz, vs, cap, h1, h0, h _ h2, h3, RelL.noName h cs vs n h4⟩
  | .agg cs, _, n, r => by
    simp only [Rel] at r ⊢
    simp only [SV.noName] at n
    obtain ⟨vs, h1, h2⟩ := r
    exact ⟨vs, h1, RelL.noName h cs vs n h2⟩
  | .tup cs, _, n, r => by
    simp only [Rel] at r ⊢
    simp only [SV.noName] at n
    obtain ⟨vs, h1, h2⟩ := r
    exact ⟨vs, h1, RelL.noName h cs vs n h2⟩
  | .fn _ cs, _, n, r => by
    simp only [Rel] at r ⊢
    simp only [SV.noName] at n
    obtain ⟨vs, h1, h2⟩ := r
    exact ⟨vs, h1, RelL.noName h cs vs n h2⟩
theorem RelL.noName {at' : At} (h : ∀ g, Fix at_ g → Fix at' g) : ∀ (s : List SV) (v : List Value), noNameL s = true → RelL at_ w s v → RelL at' w s v
  | [], _, _, r => by simpa only [RelL] using r
  | c :: cs, _, n, r => by
    simp only [RelL] at r ⊢
    simp only [noNameL, Bool.and_eq_true] at n
    obtain ⟨v, vs, h1, h2, h3⟩ := r
    exact ⟨v, vs, h1, Rel.noName h c v n.1 h2, RelL.noName h cs vs n.2 h3⟩
end
theorem Rel.flat1 {at' : At} {w' : World} {s : SV} {v : Value} (h : s.flat1 = true) (r : Rel at_ w s v) : Rel at' w' s v := by
  cases s <;> simp only [SV.flat1] at h <;> first | (cases h; done) | simpa only [Rel] using r
mutual
theorem Rel.flat {at' : At} {w' : World} : ∀ (s : SV) (v : Value), s.flat = true → Rel at_ w s v → Rel at' w' s v
  | .i64 _, _, _, r => by simpa only [Rel] using r
  | .u64 _, _, _, r => by simpa only [Rel] using r
  | .u32 _, _, _, r => by simpa only [Rel] using r
  | .u8 _, _, _, r => by simpa only [Rel] using r
  | .bool _, _, _, r => by simpa only [Rel] using r
  | .val _, _, _, r => by simpa only [Rel] using r
  | .undef, _, n, _ => by simp [SV.flat, SV.flat1] at n
  | .any, _, n, _ => by simp [SV.flat, SV.flat1] at n
  | .any1, _, _, r => by simpa only [Rel] using r
  | .lol _, _, n, _ => by simp [SV.flat, SV.flat1] at n
  | .ptr _ _, _, n, _ => by simp [SV.flat, SV.flat1] at n
  | .slc _ _ _ _, _, n, _ => by simp [SV.flat, SV.flat1] at n
  | .sl _ _ _, _, n, _ => by simp [SV.flat, SV.flat1] at n
  | .lp _ _, _, n, _ => by simp [SV.flat, SV.flat1] at n
  | .ap _ _, _, n, _ => by simp [SV.flat, SV.flat1] at n
  | .own _, _, n, _ => by simp [SV.flat, SV.flat1] at n
  | .lst _, _, n, _ => by simp [SV.flat, SV.flat1] at n
  | .lel _, _, n, _ => by simp [SV.flat, SV.flat1] at n
  | .ro _ _, _, n, _ => by simp [SV.flat, SV.flat1] at n
  | .rsl _ _ _, _, n, _ => by simp [SV.flat, SV.flat1] at n
  | .roO _ _, _, n, _ => by simp [SV.flat, SV.flat1] at n
  | .win _, _, n, _ => by simp [SV.flat, SV.flat1] at n
  | .wsl _ _ _, _, n, _ => by simp [SV.flat, SV.flat1] at n
  | .fn _ _, _, n, _ => by simp [SV.flat, SV.flat1] at n
  | .agg cs, _, n, r => by
    simp only [Rel] at r ⊢
    simp only [SV.flat] at n
    obtain ⟨vs, h1, h2⟩ := r
    exact ⟨vs, h1, RelL.flat cs vs n h2⟩
  | .tup cs, _, n, r => by
    simp only [Rel] at r ⊢
    simp only [SV.flat] at n
    obtain ⟨vs, h1, h2⟩ := r
    exact ⟨vs, h1, RelL.flat cs vs n h2⟩
theorem RelL.flat {at' : At} {w' : World} : ∀ (s : List SV) (v : List Value), flatL s = true → RelL at_ w s v → RelL at' w' s v
  | [], _, _, r => by simpa only [RelL] using r
  | c :: cs, _, n, r => by
    simp only [RelL] at r ⊢
    simp only [flatL, Bool.and_eq_true] at n
    obtain ⟨v, vs, h1, h2, h3⟩ := r
    exact ⟨v, vs, h1, Rel.flat c v n.1 h2, RelL.flat cs vs n.2 h3⟩
end

/-! Numbers in cells, as a list. -/
theorem asI64s_ok : ∀ {cs : List SV} {xs : List Int} {vs : List Value}, asI64s cs = some xs → RelL at_ w cs vs → vs = (LV.ints xs).vals
  | [], xs, vs, h, r => by
    simp only [asI64s, Option.some.injEq] at h; simp only [RelL] at r; subst h; subst r; rfl
  | c :: cs, xs, vs, h, r => by
    simp only [RelL] at r
    obtain ⟨v, vs', rfl, h2, h3⟩ := r
    cases c <;> simp only [asI64s] at h <;> try (cases h; done)
    cases hx : asI64s cs with
    | none => rw [hx] at h; cases h
    | some ys =>
      rw [hx] at h
      simp only [Option.map_some, Option.some.injEq] at h
      subst h
      simp only [Rel] at h2
      simp [h2, asI64s_ok hx h3, LV.vals]
theorem asU64s_ok : ∀ {cs : List SV} {xs : List UInt64} {vs : List Value}, asU64s cs = some xs → RelL at_ w cs vs → vs = (LV.words xs).vals
  | [], xs, vs, h, r => by
    simp only [asU64s, Option.some.injEq] at h; simp only [RelL] at r; subst h; subst r; rfl
  | c :: cs, xs, vs, h, r => by
    simp only [RelL] at r
    obtain ⟨v, vs', rfl, h2, h3⟩ := r
    cases c <;> simp only [asU64s] at h <;> try (cases h; done)
    cases hx : asU64s cs with
    | none => rw [hx] at h; cases h
    | some ys =>
      rw [hx] at h
      simp only [Option.map_some, Option.some.injEq] at h
      subst h
      simp only [Rel] at h2
      simp [h2, asU64s_ok hx h3, LV.vals]
theorem asU32s_ok : ∀ {cs : List SV} {xs : List UInt32} {vs : List Value}, asU32s cs = some xs → RelL at_ w cs vs → vs = (LV.halfs xs).vals
  | [], xs, vs, h, r => by
    simp only [asU32s, Option.some.injEq] at h; simp only [RelL] at r; subst h; subst r; rfl
  | c :: cs, xs, vs, h, r => by
    simp only [RelL] at r
    obtain ⟨v, vs', rfl, h2, h3⟩ := r
    cases c <;> simp only [asU32s] at h <;> try (cases h; done)
    cases hx : asU32s cs with
    | none => rw [hx] at h; cases h
    | some ys =>
      rw [hx] at h
      simp only [Option.map_some, Option.some.injEq] at h
      subst h
      simp only [Rel] at h2
      simp [h2, asU32s_ok hx h3, LV.vals]
theorem asU8s_ok : ∀ {cs : List SV} {xs : List UInt8} {vs : List Value}, asU8s cs = some xs → RelL at_ w cs vs → vs = (LV.bytes xs).vals
  | [], xs, vs, h, r => by
    simp only [asU8s, Option.some.injEq] at h; simp only [RelL] at r; subst h; subst r; rfl
  | c :: cs, xs, vs, h, r => by
    simp only [RelL] at r
    obtain ⟨v, vs', rfl, h2, h3⟩ := r
    cases c <;> simp only [asU8s] at h <;> try (cases h; done)
    cases hx : asU8s cs with
    | none => rw [hx] at h; cases h
    | some ys =>
      rw [hx] at h
      simp only [Option.map_some, Option.some.injEq] at h
      subst h
      simp only [Rel] at h2
      simp [h2, asU8s_ok hx h3, LV.vals]
theorem asLV_ok {cs : List SV} {l : LV} {vs : List Value} (h : asLV cs = some l) (r : RelL at_ w cs vs) : vs = l.vals := by
  unfold asLV at h
  split at h
  · obtain ⟨xs, hx, e⟩ := Option.map_eq_some_iff.1 h; subst e; exact asI64s_ok hx r
  · obtain ⟨xs, hx, e⟩ := Option.map_eq_some_iff.1 h; subst e; exact asU64s_ok hx r
  · obtain ⟨xs, hx, e⟩ := Option.map_eq_some_iff.1 h; subst e; exact asU32s_ok hx r
  · obtain ⟨xs, hx, e⟩ := Option.map_eq_some_iff.1 h; subst e; exact asU8s_ok hx r
  · cases h

/-- Nobody has a name. -/
theorem LV.len_cut (l : LV) (lo hi : Nat) (h : hi ≤ l.len) : (l.cut lo hi).len = hi - lo := by
  cases l <;> simp [LV.cut, LV.len] at * <;> omega
theorem LV.vals_cut (l : LV) (lo hi : Nat) : (l.cut lo hi).vals = (l.vals.take hi).drop lo := by
  cases l <;> simp [LV.cut, LV.vals]

/-- Own lists given up. -/
def killAt (at_ : At) (K : List Nat) : At := ⟨at_.nm, at_.out, fun n => if n ∈ K then (at_.gn n).kill else at_.gn n⟩
theorem killAt_live {at_ : At} {K : List Nat} {n g b c k : Nat} (h : (killAt at_ K).gn n = .live g b c k) : n ∉ K ∧ at_.gn n = .live g b c k := by
  simp only [killAt] at h
  split at h
  · exact (GN.kill_live h).elim
  · rename_i hn; exact ⟨hn, h⟩
theorem Later.kill (at_ : At) (w : World) (K : List Nat) : Later at_ w (killAt at_ K) w :=
  ⟨rfl, rfl, rfl, Nat.le_refl _, fun _ _ h => h, fun g h h' _ => ⟨h, fun n b c k e => h' n b c k (killAt_live e).2, rfl⟩, rfl, fun _ _ h => .inl h,
   fun n => by
    by_cases hn : n ∈ K
    · exact .inr (.inr (by simp only [killAt, hn, if_true]))
    · exact .inr (.inl (by simp only [killAt, hn, if_false])),
   fun n g b c k e => .inl ⟨n, b, c, k, (killAt_live e).2⟩⟩
theorem applyWs_kill : ∀ (K : List Nat) (M : List (Option Blk)) (n : Nat), (∀ k ∈ K, k < M.length) → (applyWs M (K.map fun k => (k, [])))[n]? = if n ∈ K then some (some []) else M[n]?
  | [], M, n, _ => by simp [applyWs]
  | k :: K, M, n, h => by
    have ih := applyWs_kill K (M.set k (some [])) n (fun x hx => by rw [List.length_set]; exact h x (by simp [hx]))
    have e : applyWs M ((k :: K).map fun k => (k, [])) = applyWs (M.set k (some [])) (K.map fun k => (k, [])) := rfl
    rw [e, ih]
    by_cases hn : n ∈ K
    · simp [hn]
    · by_cases hk : n = k
      · subst hk; simp [hn, h n (by simp)]
      · simp [hn, hk, List.getElem?_set_ne (fun e => hk e.symm)]
theorem MemOK.kill [GLob] {M : List (Option Blk)} (hM : MemOK at_ M w) {K : List Nat} (hK : ∀ k ∈ K, ∃ l, M[k]? = some (some [.own l])) : MemOK (killAt at_ K) (applyWs M (K.map fun k => (k, []))) w := by
  have hlt : ∀ k ∈ K, k < M.length := fun k hk => by obtain ⟨l, h⟩ := hK k hk; exact (List.getElem?_eq_some_iff.1 h).1
  have hl := Later.kill at_ w K
  refine ⟨fun n g cs e1 e => ?_, hM.inj, fun n g e => ⟨(hM.dom n g e).1, ?_⟩, hM.outlt, fun n l e => ?_, fun n m g b c k b' c' k' e e' => hM.ginj n m g b c k b' c' k' (killAt_live e).2 (killAt_live e').2, fun n m g b c k e e' => hM.gap n m g b c k e (killAt_live e').2,
    fun n e => ?_, fun n g b c k e => hM.gsz n g b c k (killAt_live e).2, fun n g b c k e => hM.gout n g b c k (killAt_live e).2, hM.nout, hM.glb.later (Later.kill _ _ _)⟩
  · rw [applyWs_kill K M n hlt] at e
    split at e
    · rename_i hn
      obtain ⟨l, hl'⟩ := hK n hn
      obtain ⟨ty, vs, _, h2⟩ := hM.blk n g _ e1 hl'
      exact (own_false h2 rfl).elim
    · obtain ⟨ty, vs, h1, h2⟩ := hM.blk n g cs e1 e
      exact ⟨ty, vs, h1, RelL.later hl _ _ h2⟩
  · rw [applyWs_kill K M n hlt]
    split
    · exact ⟨_, rfl⟩
    · exact (hM.dom n g e).2
  · rw [applyWs_kill K M n hlt] at e
    split at e
    · cases e
    · rename_i hn
      have : (killAt at_ K).gn n = at_.gn n := by simp only [killAt, hn, if_false]
      rw [this]; exact hM.glk n l e
  · rw [applyWs_kill K M n hlt]
    split
    · exact ⟨_, rfl⟩
    · rename_i hn
      have : (killAt at_ K).gn n = at_.gn n := by simp only [killAt, hn, if_false]
      rw [this] at e; exact hM.gdom n e
/-- What an own list's view reads as, once the list is nobody's to write. -/
theorem sl_lst [GLob] {at' : At} {M : List (Option Blk)} (hM : MemOK at_ M w) {b lo len : Nat} {l : LV} {v : Value} (hl : M[b]? = some (some [.own l])) (r : Rel at_ w (.sl b lo len) v)
    (hfix : ∀ g b' c k, at_.gn b = .live g b' c k → Fix at' g) : Rel at' w (.lst (l.cut lo (lo + len))) v ∧ lo + len ≤ l.len := by
  simp only [Rel] at r ⊢
  obtain ⟨r1, r2, r3, _⟩ := r
  rcases hM.glk b l hl with ⟨k1, k2⟩ | ⟨g, base, c, k1, arr, ty, k2, k3, k4, k5, k6⟩
  · obtain ⟨rfl, rfl, rfl⟩ := r2 k1
    have hz : (l.cut 0 (0 + 0)).len = 0 := by rw [LV.len_cut _ _ _ (by omega)]
    refine ⟨⟨none, 0, by rw [hz], by omega, fun j u hj => ?_⟩, by omega⟩
    have := List.eq_nil_of_length_eq_zero (show (l.cut 0 (0 + 0)).vals.length = 0 by rw [LV.len_vals, hz])
    rw [this] at hj; simp at hj
  · obtain ⟨h1, _, ad, h2, h3⟩ := r3 _ _ _ _ (by rw [k1]; rfl)
    have hcl : (l.cut lo (lo + len)).len = len := by rw [LV.len_cut _ _ _ h1]; omega
    refine ⟨⟨ad, c - lo, by rw [hcl]; exact h2, by omega, fun j u hj => ?_⟩, h1⟩
    rw [LV.vals_cut, List.getElem?_drop, List.getElem?_take] at hj
    split at hj
    · rename_i hlt
      refine ⟨_, h3 (by omega), hfix _ _ _ _ k1, ?_⟩
      rw [addr_add, cell_of_row w g _ _ ty (0, 0) k2, ← Array.getElem?_toList]
      rw [← k6, List.getElem?_take, List.getElem?_drop] at hj
      split at hj
      · rw [← hj]; congr 1; omega
      · cases hj
    · cases hj

variable [GLob] {M : List (Option Blk)} {look : Nat → Option Blk}
theorem frzL_keys (hlook : ∀ n cs, look n = some cs → M[n]? = some (some cs)) : ∀ {cs : List SV} {q : List SV × List Nat}, frzL look cs = some q → noNameL q.1 = true ∧ ∀ k ∈ q.2, ∃ l, M[k]? = some (some [.own l])
  | [], q, h => by have _ := ‹GLob›; simp only [frzL, Option.some.injEq] at h; subst h; exact ⟨rfl, by simp⟩
  | c :: cs, q, h => by
    simp only [frzL] at h
    cases h1 : frz1 look c with
    | none => simp only [h1] at h; cases h
    | some p =>
      cases h2 : frzL look cs with
      | none => simp only [h1, h2] at h; cases h
      | some q' =>
        simp only [h1, h2, Option.some.injEq] at h
        subst h
        obtain ⟨k1, k2⟩ := frzL_keys hlook h2
        have key : p.1.noName = true ∧ ∀ k ∈ p.2, ∃ l, M[k]? = some (some [.own l]) := by
          unfold frz1 at h1
          split at h1
          · split at h1
            · rename_i hl
              simp only [Option.some.injEq] at h1; subst h1
              exact ⟨rfl, fun k hk => by simp at hk; subst hk; exact ⟨_, hlook _ _ hl⟩⟩
            · cases h1
          · split at h1
            · rename_i hn
              simp only [Option.some.injEq] at h1; subst h1
              exact ⟨hn, by simp⟩
            · cases h1
        refine ⟨by simp only [noNameL, key.1, k1, Bool.and_self], fun k hk => ?_⟩
        rcases List.mem_append.1 hk with hk | hk
        · exact key.2 k hk
        · exact k2 k hk
theorem frzL_ok (hM : MemOK at_ M w) (hlook : ∀ n cs, look n = some cs → M[n]? = some (some cs)) : ∀ {cs : List SV} {vs : List Value} {q : List SV × List Nat}, frzL look cs = some q → RelL at_ w cs vs → RelL noAt w q.1 vs
  | [], vs, q, h, r => by simp only [frzL, Option.some.injEq] at h; subst h; simpa only [RelL] using r
  | c :: cs, vs, q, h, r => by
    simp only [RelL] at r
    obtain ⟨u, us, rfl, r1, r2⟩ := r
    simp only [frzL] at h
    cases h1 : frz1 look c with
    | none => simp only [h1] at h; cases h
    | some p =>
      cases h2 : frzL look cs with
      | none => simp only [h1, h2] at h; cases h
      | some q' =>
        simp only [h1, h2, Option.some.injEq] at h
        subst h
        refine RelL.cons ?_ (frzL_ok hM hlook h2 r2)
        unfold frz1 at h1
        split at h1
        · split at h1
          · rename_i hl
            simp only [Option.some.injEq] at h1; subst h1
            exact (sl_lst hM (hlook _ _ hl) r1 (fun g _ _ _ _ => Fix.noAt g)).1
          · cases h1
        · split at h1
          · rename_i hn
            simp only [Option.some.injEq] at h1; subst h1
            exact Rel.noName (fun g _ => Fix.noAt g) _ _ hn r1
          · cases h1
theorem frzL_okK (hM : MemOK at_ M w) (hlook : ∀ n cs, look n = some cs → M[n]? = some (some cs)) {K : List Nat} : ∀ {cs : List SV} {vs : List Value} {q : List SV × List Nat}, frzL look cs = some q → RelL at_ w cs vs → (∀ k ∈ q.2, k ∈ K) → RelL (killAt at_ K) w q.1 vs
  | [], vs, q, h, r, _ => by simp only [frzL, Option.some.injEq] at h; subst h; simpa only [RelL] using r
  | c :: cs, vs, q, h, r, hK => by
    simp only [RelL] at r
    obtain ⟨u, us, rfl, r1, r2⟩ := r
    simp only [frzL] at h
    cases h1 : frz1 look c with
    | none => simp only [h1] at h; cases h
    | some p =>
      cases h2 : frzL look cs with
      | none => simp only [h1, h2] at h; cases h
      | some q' =>
        simp only [h1, h2, Option.some.injEq] at h
        subst h
        refine RelL.cons ?_ (frzL_okK hM hlook h2 r2 (fun k hk => hK k (by simp [hk])))
        have hK1 : ∀ k ∈ p.2, k ∈ K := fun k hk => hK k (by simp [hk])
        unfold frz1 at h1
        split at h1
        · split at h1
          · rename_i b lo len l hl
            simp only [Option.some.injEq] at h1; subst h1
            refine (sl_lst hM (hlook _ _ hl) r1 (fun g b2 c k e => ?_)).1
            refine ⟨fun n e' => hM.gap n _ g _ _ _ e' e, hM.gout _ _ _ _ _ e, fun n b3 c3 k3 e' => ?_⟩
            obtain ⟨e1, e2⟩ := killAt_live e'
            have := hM.ginj _ _ _ _ _ _ _ _ _ e2 e
            subst this
            exact e1 (hK1 _ (by simp))
          · cases h1
        · split at h1
          · simp only [Option.some.injEq] at h1; subst h1
            exact Rel.later (Later.kill _ _ _) _ _ r1
          · cases h1
/-- Cells that are lists of bytes. -/
theorem asLols_get {a : At} {u : World} : ∀ {cs : List SV} {ls : List (List UInt8)} {vs : List Value}, asLols cs = some ls → RelL a u cs vs → vs.length = ls.length ∧ ∀ (j : Nat) (l : List UInt8), ls[j]? = some l → ∃ x, vs[j]? = some x ∧ BytesAt a u l x
  | [], ls, vs, h, r => by
    have _ := ‹GLob›
    simp only [asLols, Option.some.injEq] at h; subst h
    simp only [RelL] at r; subst r
    exact ⟨rfl, fun j l h => by simp at h⟩
  | c :: cs, ls, vs, h, r => by
    simp only [RelL] at r
    obtain ⟨x, xs, rfl, r1, r2⟩ := r
    have step : ∀ l0 : List UInt8, (asLols cs).map (l0 :: ·) = some ls → BytesAt a u l0 x → (x :: xs).length = ls.length ∧ ∀ (j : Nat) (l : List UInt8), ls[j]? = some l → ∃ y, (x :: xs)[j]? = some y ∧ BytesAt a u l y := fun l0 e hb => by
      obtain ⟨ls', h1, rfl⟩ := Option.map_eq_some_iff.1 e
      obtain ⟨k1, k2⟩ := asLols_get h1 r2
      refine ⟨by simp [k1], fun j l hj => ?_⟩
      cases j with
      | zero => simp at hj; subst hj; exact ⟨x, rfl, hb⟩
      | succ j => simp at hj; obtain ⟨y, y1, y2⟩ := k2 j l hj; exact ⟨y, by simpa using y1, y2⟩
    unfold asLols at h
    split at h
    · rename_i e; cases e
    · rename_i l cs' e
      simp only [List.cons.injEq] at e
      obtain ⟨rfl, rfl⟩ := e
      exact step l h (Rel.bytes.1 r1)
    · rename_i z cs' e
      simp only [List.cons.injEq] at e
      obtain ⟨rfl, rfl⟩ := e
      simp only [Rel] at r1
      exact step [] h ⟨none, z, by rw [r1]; rfl, Nat.zero_le _, fun j u hj => by simp [LV.vals] at hj⟩
    · cases h
theorem asLols_ok {a : At} {u : World} {cs : List SV} {ls : List (List UInt8)} {vs : List Value} {v : Value} {g off len cap : Nat} (h : asLols cs = some ls) (r : RelL a u cs vs) (hl : vs.length = len) (hv : v = .slice (some ⟨g, off, none⟩) len cap) (hc : len ≤ cap) (hf : Fix a g)
    (hcell : ∀ (j : Nat) (x : Value), vs[j]? = some x → u.cell? ((⟨g, off, none⟩ : Addr).add j) = some x) : Rel a u (.lol ls) v := by
  obtain ⟨h1, h2⟩ := asLols_get h r
  simp only [Rel]
  refine ⟨_, cap, by rw [← h1, hl]; exact hv, by omega, fun j l hj => ?_⟩
  obtain ⟨x, x1, x2⟩ := h2 j l hj
  exact ⟨_, x, rfl, hf, hcell j x x1, x2⟩
/-- An argument, lent. -/
theorem lend_ok (hM : MemOK at_ M w) (hlook : ∀ n cs, look n = some cs → M[n]? = some (some cs)) {s s' : SV} {v : Value} {ks : List Nat} {fx : Bool} (h : lend look s = some (s', ks, fx)) (r : Rel at_ w s v) :
    (∀ k ∈ ks, ∃ l, M[k]? = some (some [.own l])) ∧ (s'.noName = true → Rel noAt w s' v) ∧ (fx = false → ∀ K, (∀ k ∈ ks, k ∈ K) → Rel (killAt at_ K) w s' v) := by
  have triv : s' = s → ks = [] → (∀ k ∈ ks, ∃ l, M[k]? = some (some [.own l])) ∧ (s'.noName = true → Rel noAt w s' v) ∧ (fx = false → ∀ K, (∀ k ∈ ks, k ∈ K) → Rel (killAt at_ K) w s' v) := fun e e2 => by
    subst e; subst e2; exact ⟨by simp, fun hn => Rel.noName (fun g _ => Fix.noAt g) _ _ hn r, fun _ K _ => Rel.later (Later.kill _ _ _) _ _ r⟩
  unfold lend at h
  split at h
  · rename_i b' off
    obtain ⟨cs, hc, h⟩ := Option.bind_eq_some_iff.1 h
    obtain ⟨q, hq, e⟩ := Option.map_eq_some_iff.1 h
    simp only [Prod.mk.injEq] at e
    obtain ⟨rfl, rfl, rfl⟩ := e
    obtain ⟨f1, f2⟩ := frzL_keys hlook hq
    refine ⟨f2, fun _ => ?_, fun hb => by cases hb⟩
    simp only [Rel] at r ⊢
    obtain ⟨g, h1, h2⟩ := r
    obtain ⟨ty, vs, h4, h5⟩ := hM.blk _ _ _ h1 (hlook _ _ hc)
    exact ⟨g, ty, (0, 0), vs, h2, Fix.noAt g, h4, frzL_ok hM hlook hq h5⟩
  · rename_i b' off len cap
    obtain ⟨cs, hc, h⟩ := Option.bind_eq_some_iff.1 h
    split at h
    · rename_i hcond
      obtain ⟨c1, c2, c3⟩ := hcond
      split at h
      · split at h
        rotate_left
        · obtain ⟨q, hq, h⟩ := Option.bind_eq_some_iff.1 h
          obtain ⟨ls, hls, e⟩ := Option.map_eq_some_iff.1 h
          simp only [Prod.mk.injEq] at e
          obtain ⟨rfl, rfl, rfl⟩ := e
          obtain ⟨f1, f2⟩ := frzL_keys hlook hq
          refine ⟨f2, fun _ => ?_, fun hb => by cases hb⟩
          simp only [Rel] at r
          obtain ⟨g, h1, h2⟩ := r
          obtain ⟨ty, vs, h4, h5⟩ := hM.blk _ _ _ h1 (hlook _ _ hc)
          have h6 := frzL_ok hM hlook hq h5
          have hlen := h5.length
          refine asLols_ok hls ((h6.drop off).take len) ?_ h2 c3 (Fix.noAt g) (fun j u hj => ?_)
          · rw [List.length_take, List.length_drop]; omega
          · rw [addr_add, cell_of_row w g _ _ ty (0, 0) h4]
            rw [List.getElem?_take] at hj
            split at hj
            · simpa using hj
            · cases hj
        rename_i l hl
        simp only [Option.some.injEq, Prod.mk.injEq] at h
        obtain ⟨rfl, rfl, rfl⟩ := h
        refine ⟨by simp, fun _ => ?_, fun hb => by cases hb⟩
        simp only [Rel] at r ⊢
        obtain ⟨g, h1, h2⟩ := r
        obtain ⟨ty, vs, h4, h5⟩ := hM.blk _ _ _ h1 (hlook _ _ hc)
        have h6 := asLV_ok hl ((h5.drop off).take len)
        have hlen := h5.length
        have hll : l.len = len := by rw [← LV.len_vals, ← h6]; simp; omega
        refine ⟨_, _, by rw [hll]; exact h2, by omega, fun j u hj => ⟨_, rfl, Fix.noAt _, ?_⟩⟩
        rw [addr_add, cell_of_row w g _ _ ty (0, 0) h4]
        rw [← h6, List.getElem?_take] at hj
        split at hj
        · simpa using hj
        · cases hj
      · obtain ⟨q, hq, e⟩ := Option.map_eq_some_iff.1 h
        simp only [Prod.mk.injEq] at e
        obtain ⟨rfl, rfl, rfl⟩ := e
        obtain ⟨f1, f2⟩ := frzL_keys hlook hq
        refine ⟨f2, fun _ => ?_, fun hb => by cases hb⟩
        simp only [Rel] at r ⊢
        obtain ⟨g, h1, h2⟩ := r
        obtain ⟨ty, vs, h4, h5⟩ := hM.blk _ _ _ h1 (hlook _ _ hc)
        exact ⟨g, ty, (0, 0), vs, cap, h2, c3, Fix.noAt g, h4, frzL_ok hM hlook hq h5⟩
    · cases h
  · rename_i b' lo len
    split at h
    · rename_i l hl
      simp only [Option.some.injEq, Prod.mk.injEq] at h
      obtain ⟨rfl, rfl, rfl⟩ := h
      have hl' := hlook _ _ hl
      refine ⟨by simp [hl'], fun _ => (sl_lst hM hl' r (fun g _ _ _ _ => Fix.noAt g)).1, fun _ K hK => ?_⟩
      refine (sl_lst hM hl' r (fun g b2 c k e => ?_)).1
      refine ⟨fun n e' => hM.gap n _ g _ _ _ e' e, hM.gout _ _ _ _ _ e, fun n b3 c3 k3 e' => ?_⟩
      obtain ⟨e1, e2⟩ := killAt_live e'
      have := hM.ginj _ _ _ _ _ _ _ _ _ e2 e
      subst this
      exact e1 (hK _ (by simp))
    · cases h
  · cases h
  · cases h
  · cases h
  · cases h
  · cases h
  · split at h
    · rename_i cs' k ks' hq
      simp only [Option.some.injEq, Prod.mk.injEq] at h
      obtain ⟨rfl, rfl, rfl⟩ := h
      simp only [Rel] at r
      obtain ⟨vs, rfl, r⟩ := r
      refine ⟨(frzL_keys hlook hq).2, fun _ => ?_, fun _ K hK => ?_⟩
      · simp only [Rel]; exact ⟨vs, rfl, frzL_ok hM hlook hq r⟩
      · simp only [Rel]; exact ⟨vs, rfl, frzL_okK hM hlook hq r hK⟩
    · simp only [Option.some.injEq, Prod.mk.injEq] at h; exact triv h.1.symm h.2.1.symm
  · simp only [Option.some.injEq, Prod.mk.injEq] at h; exact triv h.1.symm h.2.1.symm
theorem lendL_ok (hM : MemOK at_ M w) (hlook : ∀ n cs, look n = some cs → M[n]? = some (some cs)) : ∀ {s s' : List SV} {v : List Value} {ks : List Nat} {fx : Bool}, lendL look s = some (s', ks, fx) → RelL at_ w s v →
    (∀ k ∈ ks, ∃ l, M[k]? = some (some [.own l])) ∧ (noNameL s' = true → RelL noAt w s' v) ∧ (fx = false → ∀ K, (∀ k ∈ ks, k ∈ K) → RelL (killAt at_ K) w s' v)
  | [], s', v, ks, fx, h, r => by
    simp only [lendL, Option.some.injEq, Prod.mk.injEq] at h
    obtain ⟨rfl, rfl, rfl⟩ := h
    exact ⟨by simp, fun _ => by simpa only [RelL] using r, fun _ _ _ => by simpa only [RelL] using r⟩
  | c :: cs, s', v, ks, fx, h, r => by
    simp only [RelL] at r
    obtain ⟨u, us, rfl, h2, h3⟩ := r
    simp only [lendL] at h
    cases h4 : lend look c with
    | none => simp only [h4] at h; cases h
    | some p =>
      obtain ⟨c', k1, b1⟩ := p
      cases h5 : lendL look cs with
      | none => simp only [h4, h5] at h; cases h
      | some q =>
        obtain ⟨cs', k2, b2⟩ := q
        simp only [h4, h5, Option.some.injEq, Prod.mk.injEq] at h
        obtain ⟨rfl, rfl, rfl⟩ := h
        obtain ⟨l1, l2, l3⟩ := lend_ok hM hlook h4 h2
        obtain ⟨m1, m2, m3⟩ := lendL_ok hM hlook h5 h3
        refine ⟨fun k hk => ?_, fun hn => ?_, fun hf K hK => ?_⟩
        · rcases List.mem_append.1 hk with hk | hk
          · exact l1 k hk
          · exact m1 k hk
        · simp only [noNameL, Bool.and_eq_true] at hn; exact RelL.cons (l2 hn.1) (m2 hn.2)
        · simp only [Bool.or_eq_false_iff] at hf
          exact RelL.cons (l3 hf.1 K (fun k hk => hK k (by simp [hk]))) (m3 hf.2 K (fun k hk => hK k (by simp [hk])))
end
end Go.Sym
/- The symbolic machine's own lists: one is made, or takes another's place. -/
namespace Go.Sym
open Go.RowKit

section
variable [GLob] {P : Program} {at_ : At} {w w' : World} {M : List (Option Blk)}

def bornAt (at_ : At) (K : List Nat) (f : Nat) (x : GN) : At := ⟨at_.nm, at_.out, fun n => if n = f then x else if n ∈ K then (at_.gn n).kill else at_.gn n⟩
/-- Where the new list lies: nowhere; in a block that was a killed list's; in a new block. -/
def BornOK (at_ : At) (w w' : World) (K : List Nat) (x : GN) (l : LV) : Prop :=
  (x = .nil ∧ l.len = 0) ∨ ∃ g base cap, x = .live g base cap l.len ∧ GOK w' g base cap l ∧ g < w'.heap.size ∧ ((∃ b b' c k, b ∈ K ∧ at_.gn b = .live g b' c k) ∨ w.heap.size ≤ g)
structure Kept (w w' : World) (x : GN) : Prop where
  os : w'.os = w.os
  tape : w'.tape = w.tape
  output : w'.output = w.output
  size : w.heap.size ≤ w'.heap.size
  block : ∀ k, k < w.heap.size → (∀ base cap n, x ≠ .live k base cap n) → w'.heap[k]? = w.heap[k]?

theorem born_live {K : List Nat} {f : Nat} {x : GN} {n g b c k : Nat} (h : (bornAt at_ K f x).gn n = .live g b c k) : (n = f ∧ x = .live g b c k) ∨ (n ≠ f ∧ n ∉ K ∧ at_.gn n = .live g b c k) := by
  have _ := ‹GLob›
  simp only [bornAt] at h
  split at h
  · exact .inl ⟨by assumption, h⟩
  · split at h
    · exact (GN.kill_live h).elim
    · exact .inr ⟨by assumption, by assumption, h⟩
/-- The new list's block is nobody's. -/
theorem BornOK.far (hM : MemOK at_ M w) {K : List Nat} {x : GN} {l : LV} (h : BornOK at_ w w' K x l) {g base cap n : Nat} (hx : x = .live g base cap n) :
    (∀ m, at_ m ≠ some g) ∧ (∀ m b c k, m ∉ K → at_.gn m ≠ .live g b c k) ∧ ¬ at_.out g := by
  rcases h with ⟨h, _⟩ | ⟨g', base', cap', h, _, _, h'⟩
  · rw [hx] at h; cases h
  · rw [hx] at h; cases h
    rcases h' with ⟨b, b', c, k, hb, hl⟩ | hs
    · refine ⟨fun m e => hM.gap m b g b' c k e hl, fun m b2 c2 k2 hm e => ?_, hM.gout b g b' c k hl⟩
      have := hM.ginj m b g _ _ _ _ _ _ e hl
      subst this; exact hm hb
    · refine ⟨fun m e => ?_, fun m b2 c2 k2 _ e => ?_, fun e => ?_⟩
      · have := (hM.dom m g e).1; omega
      · have := hM.gsz m g _ _ _ e; omega
      · have := hM.outlt g e; omega
theorem Later.born (hM : MemOK at_ M w) {K : List Nat} {f : Nat} {x : GN} {l : LV} (hf : M[f]? = some none) (hx : BornOK at_ w w' K x l) (hk : Kept w w' x) : Later at_ w (bornAt at_ K f x) w' := by
  obtain ⟨_, hun⟩ := hM.fresh_none hf
  refine ⟨hk.os, hk.tape, hk.output, hk.size, fun _ _ h => h, fun g hg hg' hlt => ⟨hg, fun n b c k e => ?_, hk.block g hlt fun base cap n e => ?_⟩, rfl, fun _ _ h => .inl h, fun n => ?_, fun n g b c k e => ?_⟩
  · rcases born_live e with ⟨_, e⟩ | ⟨_, _, e⟩
    · rcases hx with ⟨hx, _⟩ | ⟨g', base', cap', hx, _, _, h'⟩
      · rw [e] at hx; cases hx
      · rw [e] at hx; cases hx
        rcases h' with ⟨b, b', c, k, _, hl⟩ | hs
        · exact hg' _ _ _ _ hl
        · omega
    · exact hg' _ _ _ _ e
  · rcases hx with ⟨hx, _⟩ | ⟨g', base', cap', hx, _, _, h'⟩
    · rw [e] at hx; cases hx
    · rw [e] at hx; cases hx
      rcases h' with ⟨b, b', c, k, _, hl⟩ | hs
      · exact hg' _ _ _ _ hl
      · omega
  · by_cases hn : n = f
    · subst hn; exact .inl hun
    · by_cases hK : n ∈ K
      · exact .inr (.inr (by simp only [bornAt, hn, hK, if_false, if_true]))
      · exact .inr (.inl (by simp only [bornAt, hn, hK, if_false]))
  · rcases born_live e with ⟨_, e⟩ | ⟨_, _, e⟩
    · rcases hx with ⟨hx, _⟩ | ⟨g', base', cap', hx, _, _, h'⟩
      · rw [e] at hx; cases hx
      · rw [e] at hx; cases hx
        rcases h' with ⟨b, b', c, k, _, hl⟩ | hs
        · exact .inl ⟨b, b', c, k, hl⟩
        · exact .inr hs
    · exact .inl ⟨n, b, c, k, e⟩
/-- The memory behind it. -/
theorem MemOK.born (hM : MemOK at_ M w) {K : List Nat} {f : Nat} {x : GN} {l : LV} (hK : ∀ k ∈ K, ∃ l, M[k]? = some (some [.own l])) (hf : M[f]? = some none) (hx : BornOK at_ w w' K x l) (hk : Kept w w' x) :
    MemOK (bornAt at_ K f x) (applyWs M ((K.map fun k => (k, [])) ++ [(f, [.own l])])) w' := by
  have hl := Later.born hM hf hx hk
  obtain ⟨hnm, hun⟩ := hM.fresh_none hf
  have hlt : ∀ k ∈ K, k < M.length := fun k hk => by obtain ⟨l, h⟩ := hK k hk; exact (List.getElem?_eq_some_iff.1 h).1
  have hfK : f ∉ K := fun h => by obtain ⟨l, h'⟩ := hK f h; rw [hf] at h'; cases h'
  have hlen : ∀ ws (M : List (Option Blk)), (applyWs M ws).length = M.length := by
    intro ws
    induction ws with
    | nil => intro M; rfl
    | cons p ws ih => intro M; show (applyWs (M.set p.1 (some p.2)) ws).length = _; rw [ih, List.length_set]
  have get : ∀ n, (applyWs M ((K.map fun k => (k, [])) ++ [(f, [.own l])]))[n]? = if n = f then some (some [.own l]) else if n ∈ K then some (some []) else M[n]? := fun n => by
    have e : applyWs M ((K.map fun k => (k, [])) ++ [(f, [.own l])]) = (applyWs M (K.map fun k => (k, []))).set f (some [.own l]) := by
      simp only [applyWs, List.foldl_append, List.foldl_cons, List.foldl_nil]
    rw [e]
    by_cases hn : n = f
    · subst hn
      rw [List.getElem?_set_self (by rw [hlen]; exact (List.getElem?_eq_some_iff.1 hf).1), if_pos rfl]
    · rw [List.getElem?_set_ne (fun h => hn h.symm), applyWs_kill K M n hlt, if_neg hn]
  have old : ∀ n cs, M[n]? = some (some cs) → n ∉ K → (applyWs M ((K.map fun k => (k, [])) ++ [(f, [.own l])]))[n]? = some (some cs) := fun n cs h hn => by
    rw [get, if_neg (fun e => by subst e; rw [hf] at h; cases h), if_neg hn]; exact h
  refine ⟨fun n g cs e1 e => ?_, hM.inj, fun n g e => ⟨Nat.lt_of_lt_of_le (hM.dom n g e).1 hk.size, ?_⟩, fun g h => Nat.lt_of_lt_of_le (hM.outlt g h) hk.size, fun n l' e => ?_, fun n m g b c k b' c' k' e e' => ?_, fun n m g b c k e e' => ?_, fun n e => ?_, fun n g b c k e => ?_, fun n g b c k e => ?_, hM.nout, hM.glb.later hl⟩
  · have e1' : at_ n = some g := e1
    rw [get] at e
    split at e
    · rename_i hn; subst hn; rw [hnm] at e1'; cases e1'
    · split at e
      · rename_i hn
        obtain ⟨l2, h2⟩ := hK n hn
        obtain ⟨ty, vs, _, h3⟩ := hM.blk n g _ e1' h2
        exact (own_false h3 rfl).elim
      · obtain ⟨ty, vs, h1, h2⟩ := hM.blk n g cs e1' e
        exact ⟨ty, vs, (hk.block g (lt_of_heap h1) fun base cap m ex => (hx.far hM ex).1 n e1').trans h1, RelL.later hl _ _ h2⟩
  · obtain ⟨cs, h⟩ := (hM.dom n g e).2
    rw [get]
    split
    · exact ⟨_, rfl⟩
    · split
      · exact ⟨_, rfl⟩
      · exact ⟨cs, h⟩
  · rw [get] at e
    split at e
    · rename_i hn
      simp only [Option.some.injEq, List.cons.injEq, SV.own.injEq, and_true] at e
      subst e
      have hg : (bornAt at_ K f x).gn n = x := by simp only [bornAt, hn, if_true]
      rw [hg]
      rcases hx with h | ⟨g, base, cap, h1, h2, _⟩
      · exact .inl h
      · exact .inr ⟨g, base, cap, h1, h2⟩
    · split at e
      · cases e
      · rename_i hn hnK
        have hg : (bornAt at_ K f x).gn n = at_.gn n := by simp only [bornAt, hn, hnK, if_false]
        rw [hg]
        rcases hM.glk n l' e with k | ⟨g, b, c, k1, k2⟩
        · exact .inl k
        · exact .inr ⟨g, b, c, k1, k2.mono (hk.block g (hM.gsz _ _ _ _ _ k1) fun base cap m ex => (hx.far hM ex).2.1 n _ _ _ hnK k1)⟩
  · rcases born_live e with ⟨h1, h2⟩ | ⟨h1, h2, h3⟩ <;> rcases born_live e' with ⟨g1, g2⟩ | ⟨g1, g2, g3⟩
    · rw [h1, g1]
    · exact ((hx.far hM h2).2.1 m _ _ _ g2 g3).elim
    · exact ((hx.far hM g2).2.1 n _ _ _ h2 h3).elim
    · exact hM.ginj _ _ _ _ _ _ _ _ _ h3 g3
  · have e1' : at_ n = some g := e
    rcases born_live e' with ⟨_, h2⟩ | ⟨_, _, h3⟩
    · exact (hx.far hM h2).1 n e1'
    · exact hM.gap n m g b c k e1' h3
  · by_cases hn : n = f
    · exact ⟨[.own l], by rw [get, if_pos hn]⟩
    · rw [get, if_neg hn]
      by_cases hnK : n ∈ K
      · rw [if_pos hnK]; exact ⟨_, rfl⟩
      · rw [if_neg hnK]
        have hg : (bornAt at_ K f x).gn n = at_.gn n := by simp only [bornAt, hn, hnK, if_false]
        rw [hg] at e; exact hM.gdom n e
  · rcases born_live e with ⟨_, h2⟩ | ⟨_, _, h3⟩
    · rcases hx with ⟨hx, _⟩ | ⟨g', base', cap', hx, _, hs, _⟩
      · rw [h2] at hx; cases hx
      · rw [h2] at hx; cases hx; exact hs
    · exact Nat.lt_of_lt_of_le (hM.gsz n g b c k h3) hk.size
  · rcases born_live e with ⟨_, h2⟩ | ⟨_, _, h3⟩
    · exact (hx.far hM h2).2.2
    · exact hM.gout n g b c k h3

theorem fill_len (place : Nat → Option (Nat × Nat)) : ∀ (parts : List (Nat × SV)) (cells cs : List SV), fillL place cells parts = some cs → cs.length = cells.length
  | [], cells, cs, h => by have _ := ‹GLob›; simp only [fillL, Option.some.injEq] at h; rw [h]
  | (i, v) :: rest, cells, cs, h => by
    simp only [fillL] at h
    split at h
    · cases h
    · split at h
      · split at h
        · rename_i hc
          rw [fill_len place rest _ _ h]
          simp; omega
        · cases h
      · cases h
theorem seg_set {α : Type} (xs : List α) (base n j : Nat) (v : α) (hj : j < n) (hn : base + n ≤ xs.length) : ((xs.take (base + j) ++ [v] ++ xs.drop (base + j + 1)).drop base).take n = ((xs.drop base).take n).set j v := by
  have _ := ‹GLob›
  have e : xs.take (base + j) ++ [v] ++ xs.drop (base + j + 1) = xs.set (base + j) v := by
    rw [List.set_eq_take_append_cons_drop, if_pos (by omega)]; simp
  rw [e]
  apply List.ext_getElem?
  intro q
  simp only [List.getElem?_take, List.getElem?_drop, List.getElem?_set, List.length_take, List.length_drop]
  by_cases hq : q < n
  · by_cases hjq : j = q
    · subst hjq
      rw [if_pos hq, if_pos rfl, if_pos (by omega), if_pos rfl, if_pos (by omega)]
    · rw [if_pos hq, if_neg (by omega), if_neg hjq, if_pos hq]
  · rw [if_neg hq, if_neg (by omega), if_neg hq]
/-- What a view is, whether its list is there or not. -/
theorem sl_any {b lo len : Nat} {v : Value} (r : Rel at_ w (.sl b lo len) v) :
    (lo = 0 ∧ len = 0 ∧ v = .slice none 0 0 ∧ at_.gn b = .nil) ∨ ∃ g base cap n ad, (at_.gn b).shape = some (g, base, cap, n) ∧ lo + len ≤ n ∧ n ≤ cap ∧ v = .slice ad len (cap - lo) ∧ (lo < cap → ad = some ⟨g, base + lo, none⟩) := by
  have _ := ‹GLob›
  simp only [Rel] at r
  obtain ⟨r1, r2, r3, _⟩ := r
  cases hg : at_.gn b with
  | unborn => exact absurd hg r1
  | nil => obtain ⟨e1, e2, e3⟩ := r2 hg; exact .inl ⟨e1, e2, e3, rfl⟩
  | live g b c n => obtain ⟨h1, h0, ad, h2, h3⟩ := r3 g b c n (by rw [hg]; rfl); exact .inr ⟨g, b, c, n, ad, rfl, h1, h0, h2, h3⟩
  | dead g b c n => obtain ⟨h1, h0, ad, h2, h3⟩ := r3 g b c n (by rw [hg]; rfl); exact .inr ⟨g, b, c, n, ad, rfl, h1, h0, h2, h3⟩
/-- What a view of a list that is there is. -/
theorem sl_shape (hM : MemOK at_ M w) {b lo len : Nat} {l : LV} {v : Value} (hl : M[b]? = some (some [.own l])) (r : Rel at_ w (.sl b lo len) v) :
    (lo = 0 ∧ len = 0 ∧ l.len = 0 ∧ v = .slice none 0 0 ∧ at_.gn b = .nil) ∨ ∃ g base cap ad, at_.gn b = .live g base cap l.len ∧ GOK w g base cap l ∧ lo + len ≤ l.len ∧ l.len ≤ cap ∧ v = .slice ad len (cap - lo) ∧ (lo < cap → ad = some ⟨g, base + lo, none⟩) := by
  simp only [Rel] at r
  obtain ⟨_, r2, r3, _⟩ := r
  rcases hM.glk b l hl with ⟨k1, k2⟩ | ⟨g, base, c, k1, hG⟩
  · obtain ⟨e1, e2, e3⟩ := r2 k1
    exact .inl ⟨e1, e2, k2, e3, k1⟩
  · obtain ⟨h1, _, ad, h2, h3⟩ := r3 _ _ _ _ (by rw [k1]; rfl)
    obtain ⟨_, _, _, _, h4, _⟩ := id hG
    exact .inr ⟨g, base, c, ad, k1, hG, h1, h4, h2, h3⟩
/-! One of its cells. -/
theorem lp_ok (hM : MemOK at_ M w) {b j : Nat} {l : LV} {v : Value} (hl : M[b]? = some (some [.own l])) (r : Rel at_ w (.lp b j) v) :
    ∃ g base cap arr ty, at_.gn b = .live g base cap l.len ∧ j < l.len ∧ v = .pointer (some ⟨g, base + j, none⟩) ∧ w.heap[g]? = some (.cells arr ty (0, 0)) ∧ arr.size = base + cap ∧ l.len ≤ cap ∧ cap ≤ maxLen ∧ (arr.toList.drop base).take l.len = l.vals ∧ w.cell? ⟨g, base + j, none⟩ = l.vals[j]? := by
  simp only [Rel] at r
  obtain ⟨_, r2, r3, _⟩ := r
  rcases hM.glk b l hl with ⟨k1, _⟩ | ⟨g, base, c, k1, arr, ty, k2, k3, k4, k5, k6⟩
  · exact absurd k1 r2
  · obtain ⟨h1, h2⟩ := r3 _ _ _ _ (by rw [k1]; rfl)
    refine ⟨g, base, c, arr, ty, k1, h1, h2, k2, k3, k4, k5, k6, ?_⟩
    rw [cell_of_row w g _ _ ty (0, 0) k2, ← Array.getElem?_toList, ← k6, List.getElem?_take, if_pos h1, List.getElem?_drop]
theorem setAt_ok {l l' : LV} {j : Nat} {s : SV} {v : Value} (h : l.setAt j s = some l') (r : Rel at_ w s v) : l'.len = l.len ∧ l'.vals = l.vals.set j v ∧ v.cells.toList = [v] ∧ v.oneCell' = true := by
  have _ := ‹GLob›
  unfold LV.setAt at h
  split at h <;> first
    | (cases h; done)
    | (simp only [Option.some.injEq] at h; subst h; simp only [Rel] at r; subst r
       refine ⟨by simp [LV.len], by simp [LV.vals, List.map_set], rfl, rfl⟩)
theorem Post.setOwn {b g base cap : Nat} {l l' : LV} {arr : Array Value} {sv : SV} {v : Value} (hM : MemOK at_ M w) (hb : M[b]? = some (some [.own l])) (hg : at_.gn b = .live g base cap l.len) (hlen : l'.len = l.len)
    (hG : GOK (w.setRow g arr) g base cap l') (hv : Rel at_ (w.setRow g arr) sv v) : Post at_ w M [(b, [.own l'])] sv v (w.setRow g arr) := by
  have hlt : b < M.length := (List.getElem?_eq_some_iff.1 hb).1
  have hl : Later at_ w at_ (w.setRow g arr) :=
    ⟨rfl, rfl, rfl, by simp, fun _ _ h => h, fun k hk hk' _ => ⟨hk, hk', setRow_other _ _ _ _ (fun e => hk' b base cap l.len (e ▸ hg))⟩, rfl, fun _ _ h => .inl h, fun _ => .inr (.inl rfl), fun n _ b c k h => .inl ⟨n, b, c, k, h⟩⟩
  have get : ∀ n, (applyWs M [(b, [.own l'])])[n]? = if n = b then some (some [.own l']) else M[n]? := fun n => by
    simp only [applyWs, List.foldl_cons, List.foldl_nil]
    by_cases hn : n = b
    · subst hn; rw [List.getElem?_set_self hlt, if_pos rfl]
    · rw [List.getElem?_set_ne (fun h => hn h.symm), if_neg hn]
  refine ⟨at_, hl, ⟨fun n k c h1 e => ?_, hM.inj, fun n k e => ?_, fun g h => by have := hM.outlt g h; simpa using this, fun n l2 e => ?_, hM.ginj, hM.gap, fun n e => ?_, fun n g' b' c k e => by have := hM.gsz n g' b' c k e; simpa using this, hM.gout, hM.nout, hM.glb.later hl⟩, hv⟩
  · rw [get] at e
    split at e
    · rename_i hn; subst hn
      obtain ⟨_, _, _, h3⟩ := hM.blk n k _ h1 hb
      exact (own_false h3 rfl).elim
    · obtain ⟨ty', vs', h2, h3⟩ := hM.blk n k c h1 e
      exact ⟨ty', vs', (setRow_other _ _ _ _ (fun e' => hM.gap n b g _ _ _ (by rw [h1, e']) hg)).trans h2, RelL.later hl _ _ h3⟩
  · obtain ⟨h1, c, h2⟩ := hM.dom n k e
    refine ⟨by simpa using h1, ?_⟩
    rw [get]; split
    · exact ⟨_, rfl⟩
    · exact ⟨c, h2⟩
  · rw [get] at e
    split at e
    · rename_i hn; subst hn
      simp only [Option.some.injEq, List.cons.injEq, SV.own.injEq, and_true] at e
      subst e
      exact .inr ⟨g, base, cap, by rw [hlen]; exact hg, hG⟩
    · rename_i hn
      rcases hM.glk n l2 e with k | ⟨g', b', c, k1, k2⟩
      · exact .inl k
      · exact .inr ⟨g', b', c, k1, k2.mono (setRow_other _ _ _ _ (fun e' => hn (hM.ginj n b g _ _ _ _ _ _ (by rw [k1, e']) hg)))⟩
  · obtain ⟨c, h2⟩ := hM.gdom n e
    rw [get]; split
    · exact ⟨_, rfl⟩
    · exact ⟨c, h2⟩
/-- A list in a new block. -/
theorem Post.ownNew {fresh c : Nat} {arr : Array Value} {l : LV} (ty : TypeId) (hM : MemOK at_ M w) (hf : M[fresh]? = some none) (hs : arr.size = c) (hle : l.len ≤ c) (hc : c ≤ maxLen) (hv : arr.toList.take l.len = l.vals) :
    Post at_ w M [(fresh, [.own l])] (.sl fresh 0 l.len) (.slice (some ⟨w.heap.size, 0, none⟩) l.len c) (w.alloc (.cells arr ty)) := by
  have hx : BornOK at_ w (w.alloc (.cells arr ty)) [] (.live w.heap.size 0 c l.len) l := .inr ⟨_, _, _, rfl, ⟨arr, ty, heap_alloc_new _ _, by omega, hle, hc, by simpa using hv⟩, by simp, .inr (Nat.le_refl _)⟩
  have hk : Kept w (w.alloc (.cells arr ty)) (.live w.heap.size 0 c l.len) := ⟨rfl, rfl, rfl, by simp, fun k hk _ => heap_alloc_old _ _ _ hk⟩
  refine ⟨bornAt at_ [] fresh (.live w.heap.size 0 c l.len), Later.born hM hf hx hk, hM.born (by simp) hf hx hk, ?_⟩
  have hg : (bornAt at_ [] fresh (.live w.heap.size 0 c l.len)).gn fresh = .live w.heap.size 0 c l.len := by simp only [bornAt, if_true]
  simp only [Rel, hg]
  refine ⟨by simp, by simp, fun g base cap n e => ?_, rfl⟩
  simp only [GN.shape, Option.some.injEq, Prod.mk.injEq] at e
  obtain ⟨rfl, rfl, rfl, rfl⟩ := e
  exact ⟨by omega, by omega, _, by rw [Nat.sub_zero], fun _ => by simp⟩
end
end Go.Sym
/- The symbolic machine's operations are right: all of them. -/
namespace Go.Sym
open Go.RowKit

section
variable [GLob] {P : Program} {at_ : At} {w : World} {M : List (Option Blk)} {look : Nat → Option Blk} {tt : TT} {sp : Specs} {fresh : Nat} {ρ : Operand → SV} {ev : Operand → Value}

theorem target_ok (hM : MemOK at_ M w) (hlook : ∀ n cs, look n = some cs → M[n]? = some (some cs)) {s : SV} {v : Value} {cs : Blk} {off : Nat} (h : target look s = some (cs, off)) (r : Rel at_ w s v) :
    ∃ g ty fz vs, v = .pointer (some ⟨g, off, none⟩) ∧ w.heap[g]? = some (.cells (List.toArray vs) ty fz) ∧ RelL at_ w cs vs := by
  unfold target at h
  split at h
  · obtain ⟨cs', hc, e⟩ := Option.map_eq_some_iff.1 h
    simp only [Prod.mk.injEq] at e
    obtain ⟨rfl, rfl⟩ := e
    simp only [Rel] at r
    obtain ⟨g, h1, h2⟩ := r
    obtain ⟨ty, vs, h4, h5⟩ := hM.blk _ _ _ h1 (hlook _ _ hc)
    exact ⟨g, ty, _, vs, h2, h4, h5⟩
  · simp only [Option.some.injEq, Prod.mk.injEq] at h
    obtain ⟨rfl, rfl⟩ := h
    simp only [Rel] at r
    obtain ⟨g, ty, fz, vs, h1, _, h3, h4⟩ := r
    exact ⟨g, ty, fz, vs, h1, h3, h4⟩
  · cases h

theorem loadVar_ok {t : TypeId} {i : TI} (hi : TIOK P t i) {cs : Blk} {off g : Nat} {ty : TypeId} {fz : Nat × Nat} {vs : List Value} {out : Out} (hg : w.heap[g]? = some (.cells (List.toArray vs) ty fz)) (hr : RelL at_ w cs vs)
    (h : ldAt i.d.agg i.size (some (cs, off)) = some out) : ∃ v, (loadVar t ⟨g, off, none⟩).run P w = .ok v w ∧ Rel at_ w out.sv v ∧ out.ws = [] := by
  have _ := ‹GLob›
  unfold ldAt at h
  simp only at h
  split at h
  · rename_i ha
    split at h
    · simp only [mk, Option.some.injEq] at h; subst h
      have hl := hr.length
      exact ⟨_, run_loadVar_cells hi hg ha (by omega), by simp only [Rel]; exact ⟨_, rfl, (hr.drop off).take _⟩, rfl⟩
    · cases h
  · rename_i ha
    cases hc : cs[off]? with
    | none => rw [hc] at h; cases h
    | some c =>
      rw [hc] at h
      simp only [mk?, Option.some.injEq] at h; subst h
      obtain ⟨u, h1, h2⟩ := hr.get off c hc
      refine ⟨u, run_loadVar_one hi ?_ (by simpa using ha), h2, rfl⟩
      rw [cell_of_row w g off _ ty fz hg]; simpa using h1

theorem part_ok {t : TypeId} {i : TI} (hi : TIOK P t i) {cs : List SV} {off : Nat} {vs : List Value} {out : Out} (hr : RelL at_ w cs vs)
    (h : ldAt i.d.agg i.size (some (cs, off)) = some out) : ∃ v, (part t (List.toArray vs) off).run P w = .ok v w ∧ Rel at_ w out.sv v ∧ out.ws = [] := by
  have _ := ‹GLob›
  unfold ldAt at h
  simp only at h
  split at h
  · rename_i ha
    split at h
    · simp only [mk, Option.some.injEq] at h; subst h
      exact ⟨_, run_part_agg hi ha, by simp only [Rel]; exact ⟨_, rfl, (hr.drop off).take _⟩, rfl⟩
    · cases h
  · rename_i ha
    cases hc : cs[off]? with
    | none => rw [hc] at h; cases h
    | some c =>
      rw [hc] at h
      simp only [mk?, Option.some.injEq] at h; subst h
      obtain ⟨u, h1, h2⟩ := hr.get off c hc
      exact ⟨u, run_part_one hi (by simpa using ha) (by simpa using h1), h2, rfl⟩

/-- A value is come to, and nothing is written. -/
theorem Outcome.value {r : Sem Next} {v : Value} {sv : SV} (hM : MemOK at_ M w) (h : r.run P w = .ok (.value v) w) (hr : Rel at_ w sv v) : Outcome P (r.run P w) (Post at_ w M [] sv) := by
  rw [h]; exact Post.same hM hr
theorem Outcome.valueS {r : Sem Value} {v : Value} {sv : SV} (hM : MemOK at_ M w) (h : r.run P w = .ok v w) (hr : Rel at_ w sv v) : Outcome P ((do pure (Next.value (← r)) : Sem Next).run P w) (Post at_ w M [] sv) := by
  refine Outcome.value (v := v) hM ?_ hr
  simp only [Sem.run_bind, h, Result.andThen_ok, Sem.run_pure]

theorem toI_ok {s : SV} {v : Value} {n : Int} (h : s.toI = some n) (r : Rel at_ w s v) : ∃ k, v = .int k n := by
  have _ := ‹GLob›
  cases s <;> simp only [SV.toI] at h <;> simp only [Rel] at r <;> first | (cases h; done) | (simp only [Option.some.injEq] at h; subst h; exact ⟨_, r⟩)

theorem LV.get_at (l : LV) (i : Nat) (h : i < l.len) : ∃ u, l.vals[i]? = some u ∧ ∀ (at_ : At) (w : World), Rel at_ w (l.at_ i) u := by
  have _ := ‹GLob›
  cases l <;> simp only [LV.len] at h <;> simp only [LV.vals, LV.at_, Rel, List.getElem?_map, List.getElem?_eq_getElem h, Option.map_some, Option.some.injEq, List.getD_eq_getElem?_getD, Option.getD_some, exists_eq_left', implies_true]

theorem parts_rel (parts : Array (Nat × Operand)) (hρ : ∀ x, Rel at_ w (ρ x) (ev x)) : ((parts.map fun (i, x) => (i, ev x)).toList.map (·.1)) = ((parts.toList.map fun p => (p.1, ρ p.2)).map (·.1)) ∧
    ∀ (i : Nat) (p : Nat × SV) (q : Nat × Value), (parts.toList.map fun p => (p.1, ρ p.2))[i]? = some p → (parts.map fun (i, x) => (i, ev x)).toList[i]? = some q → Rel at_ w p.2 q.2 := by
  have _ := ‹GLob›
  refine ⟨by simp [Function.comp_def], fun i p q h1 h2 => ?_⟩
  simp only [Array.toList_map, List.getElem?_map, Option.map_eq_some_iff] at h1 h2
  obtain ⟨a, ha, rfl⟩ := h1
  obtain ⟨b, hb, rfl⟩ := h2
  rw [ha] at hb; cases hb
  exact hρ _

end

theorem places_ok {P : Program} {tt : TT} (hT : TTOK P tt) (w : World) : ∀ {F : List Field} {pl : List (Nat × Nat)}, placesT tt (F.map fun f => (f.offset, f.type)) = some pl →
    (F.mapM (m := Sem) fun f => do pure (f.offset, ← sizeOf f.type)).run P w = .ok pl w
  | [], pl, h => by simp only [List.map_nil, placesT, Option.some.injEq] at h; subst h; simp
  | f :: F, pl, h => by
    simp only [List.map_cons, placesT] at h
    cases h1 : sizeT tt f.type with
    | none => rw [h1] at h; cases h
    | some s =>
      rw [h1] at h
      cases h2 : placesT tt (F.map fun f => (f.offset, f.type)) with
      | none => rw [h2] at h; cases h
      | some r =>
        rw [h2] at h
        simp only [Option.some.injEq] at h
        subst h
        unfold sizeT at h1
        obtain ⟨j, hj, rfl⟩ := Option.map_eq_some_iff.1 h1
        simp only [List.mapM_cons, Sem.run_bind, (hT _ _ hj).sizeOf, Result.andThen_ok, Sem.run_pure, places_ok hT w h2]

section
variable [GLob] {P : Program} {at_ : At} {w : World} {M : List (Option Blk)} {look : Nat → Option Blk} {tt : TT} {sp : Specs} {fresh : Nat} {ρ : Operand → SV} {ev : Operand → Value}
variable (hT : TTOK P tt) (hS : SpecsOK P sp) (hM : MemOK at_ M w) (hlook : ∀ n cs, look n = some cs → M[n]? = some (some cs)) (hf : M[fresh]? = some none) (hρ : ∀ x, Rel at_ w (ρ x) (ev x))
include hT hM hρ

theorem ok_build {t : TypeId} {parts : Array (Nat × Operand)} {out : Out} (h : core tt sp look fresh ρ (.build t parts) = some out) :
    Outcome P ((do pure (Next.value (← Instr.build t (parts.map fun (i, x) => (i, ev x)))) : Sem Next).run P w) (Post at_ w M out.ws out.sv) := by
  obtain ⟨hp1, hp2⟩ := parts_rel (at_ := at_) (w := w) (ρ := ρ) (ev := ev) parts hρ
  simp only [core] at h
  split at h
  · rename_i fs size bytes zero heq
    have hi := hT _ _ heq
    obtain ⟨F, hF, hFs⟩ := hi.struct rfl
    obtain ⟨x, z, h1, h2, h3, h4, h5⟩ := hi.ti
    split at h
    · rename_i pl hpl
      split at h
      · rename_i cs hfill
        simp only [mk, Option.some.injEq] at h; subst h
        obtain ⟨vout, g1, g2⟩ := fill_ok _ _ _ _ _ hfill (RelL.ofV at_ w zero) hp1 hp2
        refine Outcome.valueS (v := .agg (List.toArray vout)) hM ?_ (by simp only [Rel]; exact ⟨_, rfl, g2⟩)
        have hz : z.cells = List.toArray zero := by have := congrArg List.toArray h3; simpa using this
        rw [← hFs] at hpl
        have hplaces := places_ok hT w hpl
        simp only [Instr.build, zeroValue, Sem.run_bind, typeInfo, run_program, h1, Result.andThen_ok, Sem.run_pure, h2, run_underlying hF, hz, Array.mapM_eq_mapM_toList, Sem.run_map, hplaces]
        simp only [List.getElem?_toArray, g1, Sem.run_pure]
      · cases h
    · cases h
  · rename_i n e size bytes zero heq
    have hi := hT _ _ heq
    obtain ⟨x, z, h1, h2, h3, h4, h5⟩ := hi.ti
    split at h
    · rename_i s hs
      split at h
      · rename_i cs hfill
        simp only [mk, Option.some.injEq] at h; subst h
        unfold sizeT at hs
        obtain ⟨j, hj, rfl⟩ := Option.map_eq_some_iff.1 hs
        have hj' := hT _ _ hj
        obtain ⟨vout, g1, g2⟩ := fill_ok _ _ _ _ _ hfill (RelL.ofV at_ w zero) hp1 hp2
        refine Outcome.valueS (v := .agg (List.toArray vout)) hM ?_ (by simp only [Rel]; exact ⟨_, rfl, g2⟩)
        have hz : z.cells = List.toArray zero := by have := congrArg List.toArray h3; simpa using this
        simp only [Instr.build, zeroValue, Sem.run_bind, typeInfo, run_program, h1, Result.andThen_ok, Sem.run_pure, h2, run_underlying (hi.array rfl), hj'.sizeOf, hz]
        simp only [g1, Sem.run_pure]
      · cases h
    · cases h
  · cases h
end
end Go.Sym
/- The symbolic machine's operations are right: all of them, in one theorem. -/
namespace Go.Sym
open Go.RowKit

section
variable [GLob] {P : Program} {at_ : At} {w : World} {M : List (Option Blk)} {look : Nat → Option Blk} {tt : TT} {sp : Specs} {fresh : Nat} {ρ : Operand → SV} {ev : Operand → Value}
variable (hT : TTOK P tt) (hS : SpecsOK P sp) (hM : MemOK at_ M w) (hlook : ∀ n cs, look n = some cs → M[n]? = some (some cs)) (hf : M[fresh]? = some none) (hρ : ∀ x, Rel at_ w (ρ x) (ev x))
include hM hρ

theorem ok_pick {c a b : Operand} {out : Out} (h : core tt sp look fresh ρ (.pick c a b) = some out) :
    Outcome P ((do pure (Next.value (if ← asBool (ev c) then ev a else ev b)) : Sem Next).run P w) (Post at_ w M out.ws out.sv) := by
  have hc := hρ c
  have ha := hρ a
  have hb := hρ b
  simp only [core] at h
  split at h
  · rename_i c' x y hc' hx hy
    simp only [mk, Option.some.injEq] at h; subst h
    rw [hc'] at hc; rw [hx] at ha; rw [hy] at hb
    simp only [Rel] at hc ha hb
    refine Outcome.value (v := .bool (cond c' x y)) hM ?_ (by simp only [Rel])
    simp only [hc, ha, hb, asBool, Sem.run_bind, Sem.run_pure, Result.andThen_ok]
    cases c' <;> rfl
  · rename_i hc' _
    simp only [mk, Option.some.injEq] at h; subst h
    rw [hc'] at hc
    simp only [Rel] at hc
    refine Outcome.value (v := ev a) hM ?_ ha
    simp only [hc, asBool, Sem.run_bind, Sem.run_pure, Result.andThen_ok, if_true]
  · rename_i hc' _
    simp only [mk, Option.some.injEq] at h; subst h
    rw [hc'] at hc
    simp only [Rel] at hc
    refine Outcome.value (v := ev b) hM ?_ hb
    simp only [hc, asBool, Sem.run_bind, Sem.run_pure, Result.andThen_ok, Bool.false_eq_true, if_false]
  · cases h

include hT hf in
omit hρ in
theorem ok_alloc {t : TypeId} {out : Out} (h : core tt sp look fresh ρ (.alloc t) = some out) :
    Outcome P ((do pure (Next.value (← Instr.alloc t true (.tuple #[]))) : Sem Next).run P w) (Post at_ w M out.ws out.sv) := by
  simp only [core] at h
  split at h
  · rename_i i heq
    simp only [Option.some.injEq] at h; subst h
    have hi := hT _ _ heq
    obtain ⟨x, z, h1, h2, h3, h4, h5⟩ := hi.ti
    have hz : z.cells = List.toArray i.zero := by have := congrArg List.toArray h3; simpa using this
    simp only [Instr.alloc, zeroValue, newVar, newRow, Sem.run_bind, typeInfo, run_program, h1, h2, Result.andThen_ok, Sem.run_pure, run_newObj, hz, Outcome, World.alloc_eq]
    exact Post.new t hM hf (RelL.ofV at_ w i.zero) (fun at' ha => by simp only [Rel]; exact ⟨_, ha, rfl⟩)
  · cases h

include hf in
theorem ok_box {t : TypeId} {x : Operand} {out : Out} (h : core tt sp look fresh ρ (.box t x) = some out) :
    Outcome P ((do pure (Next.value (← Instr.box t (ev x))) : Sem Next).run P w) (Post at_ w M out.ws out.sv) := by
  simp only [core] at h
  split at h
  · rename_i cs heq
    simp only [Option.some.injEq] at h; subst h
    obtain ⟨h1, _⟩ := Rel.cells heq (hρ x)
    have e : (ev x).cells = List.toArray (ev x).cells.toList := by simp
    simp only [Instr.box, newVar, newRow, Sem.run_bind, Result.andThen_ok, Sem.run_pure, run_newObj, Outcome, World.alloc_eq]
    rw [e]
    exact Post.new t hM hf h1 (fun at' ha => by simp only [Rel]; exact ⟨_, ha, rfl⟩)
  · cases h

include hT hf in
theorem ok_buildSlice {t : TypeId} {len : Nat} {parts : Array (Nat × Operand)} {out : Out} (h : core tt sp look fresh ρ (.buildSlice t len parts) = some out) :
    Outcome P ((do pure (Next.value (← Instr.buildSlice t len (parts.map fun (i, x) => (i, ev x)))) : Sem Next).run P w) (Post at_ w M out.ws out.sv) := by
  obtain ⟨hp1, hp2⟩ := parts_rel (at_ := at_) (w := w) (ρ := ρ) (ev := ev) parts hρ
  simp only [core] at h
  split at h
  · rename_i e size bytes zero heq
    split at h
    · rename_i k f sz bytes' zs heq'
      split at h
      · rename_i hlen
        obtain ⟨hl1, hl2, hl3⟩ := hlen
        split at h
        · rename_i cs hfill
          simp only [Option.some.injEq] at h; subst h
          have hi := hT _ _ heq
          have hj := hT _ _ heq'
          obtain ⟨x, zv, h1, h2, h3, h4, h5⟩ := hj.ti
          obtain ⟨vout, g1, g2⟩ := fill_ok _ _ _ (rowsOf len zs) _ hfill (RelL.rows len (RelL.ofV at_ w zs)) hp1 hp2
          have h3' : zv.cells.toList = zs := h3
          have hz : zv.cells = List.toArray zs := by rw [← h3']
          have hrow : ((Array.range (len * sz)).map (zv.cells[· % zv.cells.size]!)) = List.toArray (rowsOf len zs) := by
            rw [hz, ← hl3]
            apply Array.ext
            · simp [rowsOf_length]
            · intro i hi1 hi2
              have hi3 : i < len * zs.length := by simpa using hi1
              have hpos : 0 < zs.length := by
                rcases Nat.eq_zero_or_pos zs.length with e | e
                · rw [e] at hi3; simp at hi3
                · exact e
              have hm := Nat.mod_lt i hpos
              have := rowsOf_get zs len i hi3
              simp only [List.getElem_toArray, Array.getElem_map, Array.getElem_range, List.size_toArray, List.getElem!_toArray]
              rw [List.getElem!_eq_getElem?_getD, this.symm, List.getElem?_eq_getElem (by rw [rowsOf_length]; exact hi3)]
              rfl
          have hne : ¬ (len * sz > 2 ^ 24) := by omega
          have hne0 : ¬ (len * sz = 0) := by omega
          simp only [Instr.buildSlice, Sem.run_bind, run_underlying (hi.slice rfl), Result.andThen_ok, hj.sizeOf, hne, if_false, hne0, zeroValue, typeInfo, run_program, h1, h2, Sem.run_pure, hrow, Sem.run_ite]
          simp only [g1, newRow, Sem.run_bind, run_newObj, Result.andThen_ok, Sem.run_pure, Outcome, World.alloc_eq]
          exact Post.new e hM hf g2 (fun at' ha => by simp only [Rel]; exact ⟨_, ha, rfl⟩)
        · cases h
      · cases h
    · rename_i d bytes' z _ heq'
      split at h
      · rename_i hlen
        split at h
        · rename_i cs hfill
          have hi := hT _ _ heq
          have hj := hT _ _ heq'
          obtain ⟨x, zv, h1, h2, h3, h4, h5⟩ := hj.ti
          obtain ⟨vout, g1, g2⟩ := fill_ok _ _ _ (List.replicate len z) _ hfill (RelL.replicate len (Rel.ofV at_ w z)) hp1 hp2
          have hz : zv.cells = #[z] := by have := congrArg List.toArray h3; simpa using this
          have hrow : ((Array.range (len * 1)).map (zv.cells[· % zv.cells.size]!)) = List.toArray (List.replicate len z) := by
            rw [hz]
            apply Array.ext
            · simp
            · intro i hi1 hi2
              simp [Nat.mod_one]
          have hne : ¬ (len * 1 > 2 ^ 24) := by omega
          have hne0 : ¬ (len * 1 = 0) := by omega
          simp only [Instr.buildSlice, Sem.run_bind, run_underlying (hi.slice rfl), Result.andThen_ok, hj.sizeOf, hne, if_false, hne0, zeroValue, typeInfo, run_program, h1, h2, Sem.run_pure, hrow, Sem.run_ite]
          simp only [g1, newRow, Sem.run_bind, run_newObj, Result.andThen_ok, Sem.run_pure, Outcome, World.alloc_eq]
          have hcl := g2.length
          split at h
          · rename_i l hl
            simp only [Option.some.injEq] at h; subst h
            have hv := asLV_ok hl g2
            have hll : l.len = len := by
              rw [← LV.len_vals, ← hv, hcl, fill_len _ _ _ _ hfill]; simp
            have := Post.ownNew (fresh := fresh) (l := l) (c := len) (arr := List.toArray vout) e hM hf (by rw [List.size_toArray, hcl, fill_len _ _ _ _ hfill]; simp) (by omega) (by unfold maxLen; omega) (by rw [← hv]; simp only; rw [hll, List.take_of_length_le]; rw [hcl, fill_len _ _ _ _ hfill]; simp)
            rw [hll] at this
            exact this
          · simp only [Option.some.injEq] at h; subst h
            exact Post.new e hM hf g2 (fun at' ha => by simp only [Rel]; exact ⟨_, ha, rfl⟩)
        · cases h
      · split at h
        · rename_i hpl _ _
          split at h
          · rename_i l hl
            simp only [Option.some.injEq] at h; subst h
            have hi := hT _ _ heq
            have hj := hT _ _ heq'
            obtain ⟨r1, r2⟩ : l.vals = [] ∧ l.len = 0 := by
              unfold LV.rep at hl
              split at hl <;> first
                | (cases hl; done)
                | (simp only [Option.some.injEq] at hl; subst hl; exact ⟨rfl, rfl⟩)
            have hpe : parts = #[] := by simpa using hpl
            subst hpe
            simp only [Instr.buildSlice, Sem.run_bind, run_underlying (hi.slice rfl), Result.andThen_ok, hj.sizeOf, Sem.run_pure, Nat.zero_mul, if_true, Nat.not_lt_zero, gt_iff_lt, if_false, Instr.fill, List.map_toArray, List.map_nil, newRow, run_newObj, Outcome, World.alloc_eq]
            have := Post.ownNew (fresh := fresh) (l := l) (c := 0) (arr := (Array.range 0).map ((#[] : Array Value)[· % (#[] : Array Value).size]!)) e hM hf (by simp) (by omega) (by unfold maxLen; omega) (by rw [r1, r2]; rfl)
            rw [r2] at this
            exact this
          · cases h
        · cases h
    · cases h
  · cases h

omit hM hρ in
theorem at_seg (l : LV) {j n : Nat} (h : j + n ≤ l.len) : RelL at_ w ((List.range n).map fun k => l.at_ (j + k)) ((l.vals.drop j).take n) := by
  have key : ∀ (n : Nat) (s : List SV) (v : List Value), s.length = n → v.length = n → (∀ (i : Nat) (c : SV) (u : Value), s[i]? = some c → v[i]? = some u → Rel at_ w c u) → RelL at_ w s v := by
    intro n
    induction n with
    | zero => intro s v h1 h2 _; rw [List.eq_nil_of_length_eq_zero h1, List.eq_nil_of_length_eq_zero h2]; exact RelL.nil
    | succ n ih =>
      intro s v h1 h2 h
      cases s with
      | nil => simp at h1
      | cons c s =>
        cases v with
        | nil => simp at h2
        | cons u v => exact RelL.cons (h 0 c u rfl rfl) (ih s v (by simpa using h1) (by simpa using h2) fun i c' u' e1 e2 => h (i + 1) c' u' (by simpa using e1) (by simpa using e2))
  refine key n _ _ (by simp) (by rw [List.length_take, List.length_drop, LV.len_vals]; omega) fun i c u e1 e2 => ?_
  have hlt : i < n := by have := (List.getElem?_eq_some_iff.1 e1).1; simpa using this
  rw [List.getElem?_map, List.getElem?_range hlt] at e1
  simp only [Option.map_some, Option.some.injEq] at e1
  obtain ⟨u', h1, h2⟩ := LV.get_at l (j + i) (by omega)
  rw [List.getElem?_take, if_pos hlt, List.getElem?_drop, h1] at e2
  cases e2
  rw [← e1]; exact h2 _ _
omit hM hρ in
theorem at_all (l : LV) : RelL at_ w ((List.range l.len).map fun j => l.at_ j) l.vals := by
  have h := at_seg (at_ := at_) (w := w) l (j := 0) (n := l.len) (by omega)
  rw [List.drop_zero, List.take_of_length_le (by rw [LV.len_vals]; omega)] at h
  simpa only [Nat.zero_add] using h
omit hM hρ in
theorem ap_ok (hM : MemOK at_ M w) {b n : Nat} {l : LV} {v : Value} (hl : M[b]? = some (some [.own l])) (r : Rel at_ w (.ap b n) v) :
    ∃ g base cap arr ty, at_.gn b = .live g base cap l.len ∧ l.len = n ∧ v = .pointer (some ⟨g, base, none⟩) ∧ w.heap[g]? = some (.cells arr ty (0, 0)) ∧ arr.size = base + cap ∧ l.len ≤ cap ∧ (arr.toList.drop base).take l.len = l.vals := by
  simp only [Rel] at r
  obtain ⟨_, r2, r3, _⟩ := r
  rcases hM.glk b l hl with ⟨k1, _⟩ | ⟨g, base, c, k1, arr, ty, k2, k3, k4, k5, k6⟩
  · exact absurd k1 r2
  · obtain ⟨h1, h2⟩ := r3 _ _ _ _ (by rw [k1]; rfl)
    exact ⟨g, base, c, arr, ty, k1, h1, h2, k2, k3, k4, k6⟩
include hT hlook in
theorem ok_load {t : TypeId} {x : Operand} {out : Out} (h : core tt sp look fresh ρ (.load t x) = some out) (hp : out.ok) :
    Outcome P ((do pure (Next.value (← Instr.loadAt t (ev x))) : Sem Next).run P w) (Post at_ w M out.ws out.sv) := by
  have hx := hρ x
  simp only [core] at h
  split at h
  · rename_i i heq
    have hi := hT _ _ heq
    split at h
    · rename_i v hv
      split at h
      · cases h
      · rename_i ha
        simp only [mk, Option.some.injEq] at h; subst h
        rw [hv] at hx
        simp only [Rel] at hx
        obtain ⟨ad, u, h1, _, h3, h4⟩ := hx
        refine Outcome.valueS (v := u) hM ?_ h4
        simp only [Instr.loadAt, h1, Instr.sureAddr, Sem.run_bind, Sem.run_pure, Result.andThen_ok]
        exact run_loadVar_one hi h3 (by simpa using ha)
    · rename_i b j hv
      split at h
      · rename_i l hl
        split at h
        · rename_i ha
          simp only [Option.some.injEq] at h; subst h
          simp only [Out.ok, Ok] at hp
          rw [hv] at hx
          obtain ⟨g, base, cap, arr, ty, k1, k2, k3, k4, k5, k6, k7, k8, k9⟩ := lp_ok hM (hlook _ _ hl) hx
          have k4' : w.heap[g]? = some (.cells (List.toArray arr.toList) ty (0, 0)) := k4
          have hrun := run_loadVar_cells (P := P) (w := w) hi (off := base + j) k4' ha (by simp; omega)
          have hseg : (arr.toList.drop (base + j)).take i.size = (l.vals.drop j).take i.size := by
            rw [← k8]
            apply List.ext_getElem?
            intro q
            simp only [List.getElem?_take, List.getElem?_drop]
            by_cases hq : q < i.size
            · rw [if_pos hq, if_pos hq, if_pos (by omega)]; congr 1; omega
            · rw [if_neg hq, if_neg hq]
          rw [hseg] at hrun
          refine Outcome.valueS (v := .agg (List.toArray ((l.vals.drop j).take i.size))) hM ?_ (by simp only [Rel]; exact ⟨_, rfl, at_seg l hp⟩)
          simp only [Instr.loadAt, k3, Instr.sureAddr, Sem.run_bind, Sem.run_pure, Result.andThen_ok]
          exact hrun
        · rename_i ha
          simp only [mk, Option.some.injEq] at h; subst h
          rw [hv] at hx
          obtain ⟨g, base, cap, arr, ty, k1, k2, k3, k4, k5, k6, k7, k8, k9⟩ := lp_ok hM (hlook _ _ hl) hx
          obtain ⟨u, h4, h5⟩ := LV.get_at l j k2
          refine Outcome.valueS (v := u) hM ?_ (h5 _ _)
          simp only [Instr.loadAt, k3, Instr.sureAddr, Sem.run_bind, Sem.run_pure, Result.andThen_ok]
          exact run_loadVar_one hi (k9.trans h4) (by simpa using ha)
      · cases h
    · rename_i b n hv
      split at h
      · rename_i l hl
        split at h
        · rename_i ha
          simp only [mk, Option.some.injEq] at h; subst h
          rw [hv] at hx
          obtain ⟨g, base, cap, arr, ty, k1, k2, k3, k4, k5, k6, k7⟩ := ap_ok hM (hlook _ _ hl) hx
          have k4' : w.heap[g]? = some (.cells (List.toArray arr.toList) ty (0, 0)) := k4
          have hrun := run_loadVar_cells (P := P) (w := w) hi (off := base) k4' ha.1 (by simp; omega)
          rw [← ha.2, ← k2, k7] at hrun
          refine Outcome.valueS (v := .agg (List.toArray l.vals)) hM ?_ (by simp only [Rel]; exact ⟨_, rfl, by rw [← k2]; exact at_all l⟩)
          simp only [Instr.loadAt, k3, Instr.sureAddr, Sem.run_bind, Sem.run_pure, Result.andThen_ok]
          exact hrun
        · cases h
      · cases h
    · cases ht : target look (ρ x) with
      | none => rw [ht] at h; cases h
      | some p =>
        obtain ⟨cs, off⟩ := p
        rw [ht] at h
        obtain ⟨g, ty, fz, vs, h1, h2, h3⟩ := target_ok hM hlook ht hx
        obtain ⟨v, h4, h5, h6⟩ := loadVar_ok hi h2 h3 h
        rw [h6]
        refine Outcome.valueS (v := v) hM ?_ h5
        simp only [Instr.loadAt, h1, Instr.sureAddr, Sem.run_bind, Sem.run_pure, Result.andThen_ok, h4]
  · cases h

include hT hlook in
theorem ok_store {t : TypeId} {x y : Operand} {out : Out} (h : core tt sp look fresh ρ (.store t x y) = some out) :
    Outcome P ((do Instr.storeAt t (ev x) (ev y); pure Next.skip : Sem Next).run P w) (Post at_ w M out.ws out.sv) := by
  have hx := hρ x
  have hy := hρ y
  simp only [core] at h
  split at h
  · rename_i i b j heq hb
    have hi := hT _ _ heq
    split at h
    · rename_i l hl
      split at h
      · rename_i l' hs
        split at h
        · rename_i hsz
          simp only [Option.some.injEq] at h; subst h
          rw [hb] at hx
          obtain ⟨g, base, cap, arr, ty, k1, k2, k3, k4, k5, k6, k7, k8, k9⟩ := lp_ok hM (hlook _ _ hl) hx
          obtain ⟨s1, s2, s3, s4⟩ := setAt_ok hs hy
          have hst := run_storeVar_cells (t := t) hi (off := base + j) (old := arr.toList) (g := g) (w := w) (P := P) (ty := ty) (by simpa using k4) (v := ev y) s3 (by rw [hsz]; rfl) (by simp; omega) (by intro u hu; simp at hu; subst hu; exact s4)
          simp only [Instr.storeAt, k3, Instr.sureAddr, Sem.run_bind, Sem.run_pure, Result.andThen_ok, hst, Outcome]
          refine Post.setOwn hM (hlook _ _ hl) k1 s1 ⟨_, ty, setRow_heap _ _ _ _ _ _ k4, ?_, by omega, k7, ?_⟩ (by simp only [Rel])
          · simp; omega
          · rw [s2, s1, ← k8]
            have hll : l.vals.length = l.len := l.len_vals
            have := seg_set arr.toList base l.len j (ev y) k2 (by simp; omega)
            simpa using this
        · cases h
      · cases h
    · cases h
  · rename_i i b off heq hb
    have hi := hT _ _ heq
    split at h
    · rename_i cs vs hl hc
      split at h
      · rename_i hcond
        obtain ⟨c1, c2⟩ := hcond
        simp only [Option.some.injEq] at h; subst h
        rw [hb] at hx
        simp only [Rel] at hx
        obtain ⟨g, h1, h2⟩ := hx
        obtain ⟨ty, us, h4, h5⟩ := hM.blk _ _ _ h1 (hlook _ _ hl)
        obtain ⟨h6, h7⟩ := Rel.cells hc hy
        have hl1 := h5.length
        have hl2 := h6.length
        have hst := run_storeVar_cells (t := t) hi (off := off) h4 (v := ev y) rfl (by omega) (by omega) h7
        simp only [Instr.storeAt, h2, Instr.sureAddr, Sem.run_bind, Sem.run_pure, Result.andThen_ok, hst, Outcome]
        refine Post.set hM (hlook _ _ hl) h1 h4 (RelL.append (RelL.append (h5.take off) h6) ?_) (by simp only [Rel])
        rw [hl2]; exact h5.drop _
      · cases h
    · cases h
  · cases h

theorem ok_nilCheck {o : Oper} {x : Operand} {out : Out} (ho : o.op = .nilCheck x) (h : core tt sp look fresh ρ (.nilCheck x) = some out) :
    Outcome P ((execOp ev o).run P w) (Post at_ w M out.ws out.sv) := by
  have hx := hρ x
  simp only [core] at h
  split at h
  all_goals first
    | (cases h; done)
    | skip
  all_goals
    rename_i heq
    simp only [mk, Option.some.injEq] at h; subst h
    rw [heq] at hx
    refine Outcome.value (v := ev x) hM ?_ hx
    simp only [Rel] at hx
    simp only [execOp, ho]
  · obtain ⟨g, _, h2⟩ := hx; simp only [h2, Sem.run_pure]
  · obtain ⟨g, ty, fz, vs, h2, _⟩ := hx; simp only [h2, Sem.run_pure]
  · obtain ⟨ad, u, h2, _⟩ := hx; simp only [h2, Sem.run_pure]
  · obtain ⟨vs, h2, _⟩ := hx; simp only [h2, Sem.run_pure]
  · obtain ⟨h1, h2, h3, _⟩ := hx
    obtain ⟨g, base, cap, m, hq⟩ := GN.shape_some h1 h2
    obtain ⟨_, h4⟩ := h3 _ _ _ _ hq
    simp only [h4, Sem.run_pure]
end
end Go.Sym
/- The symbolic machine's operations are right: the second half, and the one theorem. -/
namespace Go.Sym
open Go.RowKit

section
variable [GLob] {P : Program} {at_ : At} {w : World} {M : List (Option Blk)} {look : Nat → Option Blk} {tt : TT} {sp : Specs} {fresh : Nat} {ρ : Operand → SV} {ev : Operand → Value}
variable (hT : TTOK P tt) (hS : SpecsOK P sp) (hM : MemOK at_ M w) (hlook : ∀ n cs, look n = some cs → M[n]? = some (some cs)) (hf : M[fresh]? = some none) (hρ : ∀ x, Rel at_ w (ρ x) (ev x))

omit [GLob] in
theorem binS_ok {op : BinOp} {t e : TypeId} {x y : SV} {vx vy : Value} {out : Out} (ht : P.underlying t = some (.slice e)) (rx : Rel at_ w x vx) (ry : Rel at_ w y vy) (h : binS op x y = some out) (hp : out.ok) :
    out.ws = [] ∧ ((∀ cs, vx ≠ .agg cs) ∧ vx ≠ .nilIface) ∧ ∃ v, (binOp op t vx vy).run P w = .ok v w ∧ Rel at_ w out.sv v := by
  have eqn : ∀ (a : Option Addr) (n c : Nat), (binOp .eql t (.slice a n c) (.slice none 0 0)).run P w = .ok (.bool a.isNone) w := fun a n c => by
    simp only [binOp, Sem.run_bind, run_equal_slice_nil w t e a n c ht, Result.andThen_ok, Sem.run_pure]
  have neqn : ∀ (a : Option Addr) (n c : Nat), (binOp .neq t (.slice a n c) (.slice none 0 0)).run P w = .ok (.bool (!a.isNone)) w := fun a n c => run_neq_slice_nil w t e a n c ht
  have lst : ∀ {l : LV} {v : Value}, Rel at_ w (.lst l) v → 0 < l.len → ∃ ad c, v = .slice (some ad) l.len c := by
    intro l v r hl
    simp only [Rel] at r
    obtain ⟨a, c, h1, _, h3⟩ := r
    obtain ⟨ad, e1, _⟩ := h3 0 _ (List.getElem?_eq_getElem (by rw [LV.len_vals]; exact hl))
    exact ⟨ad, c, by rw [h1, e1]⟩
  unfold binS at h
  split at h <;> first
    | (cases h; done)
    | (simp only [Option.some.injEq] at h; subst h
       simp only [Rel] at ry; subst ry
       first
         | (obtain ⟨ad, c, rfl⟩ := lst rx hp
            exact ⟨rfl, ⟨fun _ e => (by cases e), fun e => (by cases e)⟩, _, by first | exact eqn _ _ _ | exact neqn _ _ _, by simp only [Rel]; rfl⟩)
         | (simp only [Rel] at rx; subst rx
            exact ⟨rfl, ⟨fun _ e => (by cases e), fun e => (by cases e)⟩, _, by first | exact eqn _ _ _ | exact neqn _ _ _, by simp only [Rel]; rfl⟩))

include hT hM hρ in
theorem ok_binOp {op : BinOp} {t t' : TypeId} {x y : Operand} {out : Out} (h : core tt sp look fresh ρ (.binOp op t x y t') = some out) (hp : out.ok) :
    Outcome P ((do pure (Next.value (← (do eqGuard op t x y (ev x) (ev y); binOp op t (ev x) (ev y)))) : Sem Next).run P w) (Post at_ w M out.ws out.sv) := by
  have hx := hρ x
  have hy := hρ y
  have fin : ∀ {v : Value} {sv : SV}, ((∀ cs, ev x ≠ .agg cs) ∧ ev x ≠ .nilIface) → (binOp op t (ev x) (ev y)).run P w = .ok v w → Rel at_ w sv v →
      Outcome P ((do pure (Next.value (← (do eqGuard op t x y (ev x) (ev y); binOp op t (ev x) (ev y)))) : Sem Next).run P w) (Post at_ w M [] sv) := by
    intro v sv ⟨h1, h2⟩ h3 h4
    refine Outcome.valueS (v := v) hM ?_ h4
    simp only [Sem.run_bind, run_guard (P := P) (w := w) op t x y (ev x) (ev y) h1 h2, Result.andThen_ok, h3]
  have eqs : ∀ {z : BinOp} {xs ys : List SV} {n : Nat} {e : TypeId} {i j : TI} {b : Bool} {sv : SV}, op = z → (z = .eql ∧ sv = .bool b ∨ z = .neq ∧ sv = .bool (!b)) → ρ x = .agg xs → ρ y = .agg ys → tt.lookup t = some i → i.d = .array n e → tt.lookup e = some j → j.d = .int .u64 → j.size = 1 →
      xs.length = n → eqCells xs ys = some b →
      Outcome P ((do pure (Next.value (← (do eqGuard op t x y (ev x) (ev y); binOp op t (ev x) (ev y)))) : Sem Next).run P w) (Post at_ w M [] sv) := by
    intro z xs ys n e i j b sv hz hzz h1 h2 h3 h4 h5 h6 h7 h8 h9
    rw [h1] at hx; rw [h2] at hy
    simp only [Rel] at hx hy
    obtain ⟨us, hx1, hx2⟩ := hx
    obtain ⟨vs, hy1, hy2⟩ := hy
    have hi := hT _ _ h3
    have hj := hT _ _ h5
    have heq := run_equal_cells hi hj h4 h6 h7 h9 hx2 hy2 h8
    have hg : (eqGuard op t x y (ev x) (ev y)).run P w = .ok () w := by
      rw [hx1, hy1]; exact run_eqGuard_agg w op t x y _ _ hi.guard
    subst hz
    rcases hzz with ⟨e1, e2⟩ | ⟨e1, e2⟩ <;> subst e1 <;> subst e2
    · refine Outcome.valueS (v := .bool b) hM ?_ (by simp only [Rel])
      simp only [Sem.run_bind, hg, Result.andThen_ok]
      rw [hx1, hy1]
      simp only [binOp, Sem.run_bind, heq, Result.andThen_ok, Sem.run_pure]
    · refine Outcome.valueS (v := .bool (!b)) hM ?_ (by simp only [Rel])
      simp only [Sem.run_bind, hg, Result.andThen_ok]
      rw [hx1, hy1]
      simp only [binOp, Sem.run_bind, heq, Result.andThen_ok, Sem.run_pure]
  simp only [core] at h
  split at h
  · rename_i xs ys hxs hys
    split at h
    · rename_i n e s b z heq
      split at h
      · rename_i s' z' heq'
        split at h
        · rename_i hl
          split at h
          · rename_i b' hb
            simp only [mk, Option.some.injEq] at h; subst h
            exact eqs rfl (.inl ⟨rfl, rfl⟩) hxs hys heq rfl heq' rfl rfl hl.1 hb
          · cases h
        · cases h
      · cases h
    · cases h
  · rename_i xs ys hxs hys
    split at h
    · rename_i n e s b z heq
      split at h
      · rename_i s' z' heq'
        split at h
        · rename_i hl
          split at h
          · rename_i b' hb
            simp only [mk, Option.some.injEq] at h; subst h
            exact eqs rfl (.inr ⟨rfl, rfl⟩) hxs hys heq rfl heq' rfl rfl hl.1 hb
          · cases h
        · cases h
      · cases h
    · cases h
  · split at h
    · rename_i o hs
      simp only [Option.some.injEq] at h; subst h
      unfold symDiv at hs
      split at hs
      · split at hs
        · rename_i m n hm hn _ _
          rw [hm] at hx; rw [hn] at hy
          simp only [Option.some.injEq] at hs; subst hs
          simp only [Rel] at hx hy
          rw [hx, hy] at fin ⊢
          exact fin ⟨fun _ e => (by cases e), fun e => (by cases e)⟩ (r_quo t _ m n hp) (by simp only [Rel])
        · rename_i m n hm hn _ _
          rw [hm] at hx; rw [hn] at hy
          simp only [Option.some.injEq] at hs; subst hs
          simp only [Rel] at hx hy
          rw [hx, hy] at fin ⊢
          exact fin ⟨fun _ e => (by cases e), fun e => (by cases e)⟩ (r_rem t _ m n hp) (by simp only [Rel])
        · cases hs
      · cases hs
    · split at h
      · rename_i r hr
        simp only [mk, Option.some.injEq] at h; subst h
        obtain ⟨v, h1, h2⟩ := binN_ok (P := P) t hx hy hr
        exact fin (binN_num hx hr) h1 h2
      · split at h
        · rename_i heq
          unfold mk? at h
          split at h
          · rename_i r hb
            simp only [Option.some.injEq] at h; subst h
            obtain ⟨h0, v, h1, h2⟩ := binB_ok ((hT _ _ heq).bool rfl) hx hy hb
            exact fin h0 h1 h2
          · cases h
        · rename_i e _ _ _ heq
          unfold mk? at h
          split at h
          · rename_i r hb
            simp only [Option.some.injEq] at h; subst h
            obtain ⟨h0, v, h1, h2⟩ := binP_ok ((hT _ _ heq).ptr rfl) hx hy hb
            exact fin h0 h1 h2
          · cases h
        · rename_i e _ _ _ heq
          obtain ⟨h3, h0, v, h1, h2⟩ := binS_ok (P := P) ((hT _ _ heq).slice rfl) hx hy h hp
          rw [h3]
          exact fin h0 h1 h2
        · cases h

include hM hρ in
theorem ok_unOp {op : UnOp} {t : TypeId} {x : Operand} {out : Out} (h : core tt sp look fresh ρ (.unOp op t x) = some out) :
    Outcome P ((do pure (Next.value (← Op.unary op (ev x))) : Sem Next).run P w) (Post at_ w M out.ws out.sv) := by
  simp only [core] at h
  cases hb : una op (ρ x) with
  | none => rw [hb] at h; cases h
  | some r =>
    rw [hb] at h
    simp only [mk?, Option.some.injEq] at h; subst h
    obtain ⟨v, h1, h2⟩ := una_ok (P := P) (hρ x) hb
    exact Outcome.valueS hM h1 h2

include hT hM hρ in
theorem ok_convert {src dst : TypeId} {x : Operand} {out : Out} (h : core tt sp look fresh ρ (.convert src dst x) = some out) :
    Outcome P ((do pure (Next.value (← convert src dst (ev x))) : Sem Next).run P w) (Post at_ w M out.ws out.sv) := by
  simp only [core] at h
  split at h
  · rename_i k _ _ _ s hd hs
    cases hb : conv k (ρ x) with
    | none => rw [hb] at h; cases h
    | some r =>
      rw [hb] at h
      simp only [mk?, Option.some.injEq] at h; subst h
      obtain ⟨d, hd', _⟩ := (hT _ _ hs).desc
      obtain ⟨v, h1, h2⟩ := conv_ok ⟨d, hd'⟩ ((hT _ _ hd).int rfl) (hρ x) hb
      exact Outcome.valueS hM h1 h2
  · cases h

include hM hρ in
theorem ok_extract {x : Operand} {i : Nat} {out : Out} (h : core tt sp look fresh ρ (.extract x i) = some out) :
    Outcome P ((do pure (Next.value (← Instr.extract (ev x) i)) : Sem Next).run P w) (Post at_ w M out.ws out.sv) := by
  have hx := hρ x
  simp only [core] at h
  split at h
  · rename_i cs hc
    rw [hc] at hx
    simp only [Rel] at hx
    obtain ⟨vs, h1, h2⟩ := hx
    cases hb : cs[i]? with
    | none => rw [hb] at h; cases h
    | some c =>
      rw [hb] at h
      simp only [mk?, Option.some.injEq] at h; subst h
      obtain ⟨u, h3, h4⟩ := h2.get i c hb
      refine Outcome.valueS (v := u) hM ?_ h4
      rw [h1]
      simp only [Instr.extract, List.getElem?_toArray, h3, Sem.run_pure]
  · cases h

include hT hM hρ in
theorem ok_fieldAddr {t : TypeId} {x : Operand} {f : Nat} {out : Out} (h : core tt sp look fresh ρ (.fieldAddr t x f) = some out) :
    Outcome P ((do pure (Next.value (← Instr.fieldAt t (ev x) f)) : Sem Next).run P w) (Post at_ w M out.ws out.sv) := by
  have hx := hρ x
  simp only [core] at h
  split at h
  · rename_i fs _ _ _ heq
    split at h
    · rename_i o ft hft
      split at h
      · rename_i n hn
        have hi := hT _ _ heq
        obtain ⟨F, hF, hFs⟩ := hi.struct rfl
        unfold sizeT at hn
        obtain ⟨j, hj, hjs⟩ := Option.map_eq_some_iff.1 hn
        have hj' := hT _ _ hj
        obtain ⟨fld, hfld, hoff, hty⟩ : ∃ fld, F[f]? = some fld ∧ fld.offset = o ∧ fld.type = ft := by
          rw [← hFs, List.getElem?_map] at hft
          obtain ⟨fld, h1, h2⟩ := Option.map_eq_some_iff.1 hft
          simp only [Prod.mk.injEq] at h2
          exact ⟨fld, by simpa using h1, h2.1, h2.2⟩
        have hne : ¬ (j.size = 0) := by omega
        have run : ∀ a, (Instr.fieldAt t (.pointer (some a)) f).run P w = .ok (.pointer (some (a.add o))) w := by
          intro a
          simp only [Instr.fieldAt, Sem.run_bind, run_underlying hF, Result.andThen_ok, hfld, Instr.sureAddr, Sem.run_pure, fieldPlace, hty, hj'.sizeOf, hne, if_false, hoff]
        split at h
        · rename_i b off hb
          simp only [mk, Option.some.injEq] at h; subst h
          rw [hb] at hx
          simp only [Rel] at hx
          obtain ⟨g, h1, h2⟩ := hx
          rw [h2]
          exact Outcome.valueS hM (run _) (by simp only [Rel]; exact ⟨g, h1, by rw [addr_add]⟩)
        · rename_i cs off hb
          simp only [mk, Option.some.injEq] at h; subst h
          rw [hb] at hx
          simp only [Rel] at hx
          obtain ⟨g, ty, fz, vs, h1, h2, h3, h4⟩ := hx
          rw [h1]
          exact Outcome.valueS hM (run _) (by simp only [Rel]; exact ⟨g, ty, fz, vs, by rw [addr_add], h2, h3, h4⟩)
        · cases h
      · cases h
    · cases h
  · cases h

include hT hM hρ in
theorem ok_field {t : TypeId} {x : Operand} {f : Nat} {out : Out} (h : core tt sp look fresh ρ (.field t x f) = some out) :
    Outcome P ((do pure (Next.value (← Instr.field t (ev x) f)) : Sem Next).run P w) (Post at_ w M out.ws out.sv) := by
  have hx := hρ x
  simp only [core] at h
  split at h
  · rename_i fs _ _ _ cs heq hc
    split at h
    · rename_i o ft hft
      split at h
      · rename_i i hi
        have hti := hT _ _ heq
        obtain ⟨F, hF, hFs⟩ := hti.struct rfl
        obtain ⟨fld, hfld, hoff, hty⟩ : ∃ fld, F[f]? = some fld ∧ fld.offset = o ∧ fld.type = ft := by
          rw [← hFs, List.getElem?_map] at hft
          obtain ⟨fld, h1, h2⟩ := Option.map_eq_some_iff.1 hft
          simp only [Prod.mk.injEq] at h2
          exact ⟨fld, by simpa using h1, h2.1, h2.2⟩
        rw [hc] at hx
        simp only [Rel] at hx
        obtain ⟨vs, h1, h2⟩ := hx
        obtain ⟨v, h3, h4, h5⟩ := part_ok (hT _ _ hi) h2 h
        rw [h5, h1]
        refine Outcome.valueS (v := v) hM ?_ h4
        simp only [Instr.field, Sem.run_bind, run_underlying hF, Result.andThen_ok, hfld, asAgg, Sem.run_pure, hty, hoff, h3]
      · cases h
    · cases h
  · cases h

include hT hM hρ in
theorem ok_index {t : TypeId} {x ix : Operand} {out : Out} (h : core tt sp look fresh ρ (.index t x ix) = some out) :
    Outcome P ((do pure (Next.value (← Instr.index t (ev x) (ev ix))) : Sem Next).run P w) (Post at_ w M out.ws out.sv) := by
  have hx := hρ x
  have hix := hρ ix
  simp only [core] at h
  split at h
  · rename_i n e _ _ _ cs i heq hc hi
    split at h
    · rename_i j hj
      split at h
      · rename_i hcond
        rw [hc] at hx
        simp only [Rel] at hx
        obtain ⟨vs, h1, h2⟩ := hx
        obtain ⟨k, hk⟩ := toI_ok hi hix
        have hj' := hT _ _ hj
        obtain ⟨v, h3, h4, h5⟩ := part_ok hj' h2 h
        rw [h5, h1, hk]
        refine Outcome.valueS (v := v) hM ?_ h4
        simp only [Instr.index, asIntOf, Sem.run_bind, Sem.run_pure, run_underlying ((hT _ _ heq).array rfl), Result.andThen_ok, hj'.sizeOf, hcond, and_self, if_true, h3]
      · cases h
    · cases h
  · rename_i s i heq hc hi
    split at h
    · rename_i hcond
      split at h
      · rename_i b hb
        simp only [mk, Option.some.injEq] at h; subst h
        rw [hc] at hx
        simp only [Rel] at hx
        obtain ⟨k, hk⟩ := toI_ok hi hix
        rw [hx, hk]
        refine Outcome.valueS (v := .int .u8 (b.toNat : Int)) hM ?_ (by simp only [Rel])
        simp only [Instr.index, asIntOf, Sem.run_bind, Sem.run_pure, run_underlying ((hT _ _ heq).str rfl), Result.andThen_ok, hcond, if_true, hb]
      · cases h
    · cases h
  · cases h
end
end Go.Sym
/- The symbolic machine: append. -/
namespace Go.Sym
open Go.RowKit

section
variable {P : Program} {w : World}
/-- With room, from any place of a block. -/
theorem append_room_off (t ty e : TypeId) (i : TypeInfo) (ht : P.underlying t = some (.slice e)) (hi : P.info? e = some i)
    (g off sLen sCap : Nat) (cur : Array Value) (ty' : TypeId) (hg : w.heap[g]? = some (.cells cur ty' (0, 0)))
    (a : Addr) (m c : Nat) (news : List Value) (hl : news.length = m * i.size) (hnews : ∀ j u, news[j]? = some u → w.cell? (a.add j) = some u) (h1 : ∀ u ∈ news, u.oneCell' = true)
    (hroom : sLen + m ≤ sCap) (hfit : off + sLen * i.size + news.length ≤ cur.size) :
    (Builtin.append_ #[t, t] ty #[.slice (some ⟨g, off, none⟩) sLen sCap, .slice (some a) m c]).run P w =
      .ok (.slice (some ⟨g, off, none⟩) (sLen + m) sCap) (w.setRow g (cur.toList.take (off + sLen * i.size) ++ news ++ cur.toList.drop (off + sLen * i.size + news.length)).toArray) := by
  have hf := run_firstCells_some (P := P) w i.size m a m c news hl hnews
  have hst := run_storeCells_at P g (off + sLen * i.size) ty' news 0 cur w hg (by simpa using hfit) h1
  simp only [Nat.add_zero] at hst
  simp [Builtin.append_, run_underlying ht, sizeOf, typeInfo, hi, Builtin.lenOf, hroom, hf, addr_add, hst]
/-- Nothing is appended. -/
theorem append_nothing (t ty e : TypeId) (i : TypeInfo) (ht : P.underlying t = some (.slice e)) (hi : P.info? e = some i) (ad ad' : Option Addr) (n cap c : Nat) (hn : n ≤ cap) :
    (Builtin.append_ #[t, t] ty #[.slice ad n cap, .slice ad' 0 c]).run P w = .ok (.slice ad n cap) w := by
  cases ad <;> cases ad' <;> simp [Builtin.append_, run_underlying ht, sizeOf, typeInfo, hi, Builtin.lenOf, hn, Builtin.firstCells, loadCells, loadCellsFrom, storeCells]

variable [GLob] {at_ : At} {M : List (Option Blk)} {look : Nat → Option Blk} {tt : TT}
theorem vals_one (l : LV) : ∀ u ∈ l.vals, u.oneCell' = true := by
  have _ := ‹GLob›
  intro u hu
  cases l <;> (simp only [LV.vals, List.mem_map] at hu; obtain ⟨_, _, rfl⟩ := hu; rfl)
theorem app_ok {a b c : LV} (h : a.app b = some c) : c.vals = a.vals ++ b.vals ∧ c.len = a.len + b.len := by
  have _ := ‹GLob›
  unfold LV.app at h
  split at h <;> first
    | (cases h; done)
    | (simp only [Option.some.injEq] at h; subst h; exact ⟨by simp [LV.vals], by simp [LV.len]⟩)
theorem rep_zero {k : IntKind} {l : LV} (h : LV.rep k 0 = some l) : l.vals = [] ∧ l.len = 0 := by
  have _ := ‹GLob›
  unfold LV.rep at h
  split at h <;> first
    | (cases h; done)
    | (simp only [Option.some.injEq] at h; subst h; exact ⟨rfl, rfl⟩)
theorem rowOf_ok (hM : MemOK at_ M w) (hlook : ∀ n cs, look n = some cs → M[n]? = some (some cs)) {k : IntKind} {s : SV} {l : LV} {v : Value} (h : rowOf look k s = some l) (r : Rel at_ w s v) :
    ∃ ad c, v = .slice ad l.len c ∧ ∀ (j : Nat) u, l.vals[j]? = some u → ∃ a, ad = some a ∧ w.cell? (a.add j) = some u := by
  unfold rowOf at h
  split at h
  · simp only [Rel] at r
    obtain ⟨h1, h2⟩ := rep_zero h
    exact ⟨_, _, by rw [h2]; exact r, fun j u hj => by rw [h1] at hj; simp at hj⟩
  · split at h
    · rename_i l' ks fx hl
      simp only [Option.some.injEq] at h; subst h
      have := (lend_ok hM hlook hl r).2.1 rfl
      simp only [Rel] at this
      obtain ⟨ad, c, h1, _, h3⟩ := this
      exact ⟨ad, c, h1, fun j u hj => by obtain ⟨a, e1, _, e3⟩ := h3 j u hj; exact ⟨a, e1, e3⟩⟩
    · cases h
/-- In a new block. -/
theorem Post.grown {K : List Nat} {fresh c : Nat} {arr : Array Value} {l : LV} (ty : TypeId) (hM : MemOK at_ M w) (hK : ∀ k ∈ K, ∃ l, M[k]? = some (some [.own l])) (hf : M[fresh]? = some none) (hs : arr.size = c) (hle : l.len ≤ c) (hc : c ≤ maxLen) (hv : arr.toList.take l.len = l.vals) :
    Post at_ w M ((K.map fun k => (k, [])) ++ [(fresh, [.own l])]) (.sl fresh 0 l.len) (.slice (some ⟨w.heap.size, 0, none⟩) l.len c) (w.drew.alloc (.cells arr ty)) := by
  have hx : BornOK at_ w (w.drew.alloc (.cells arr ty)) K (.live w.heap.size 0 c l.len) l := .inr ⟨_, _, _, rfl, ⟨arr, ty, heap_alloc_new w.drew _, by omega, hle, hc, by simpa using hv⟩, by simp, .inr (Nat.le_refl _)⟩
  have hk : Kept w (w.drew.alloc (.cells arr ty)) (.live w.heap.size 0 c l.len) := ⟨rfl, rfl, rfl, by simp, fun k hk _ => heap_alloc_old w.drew _ k hk⟩
  refine ⟨bornAt at_ K fresh (.live w.heap.size 0 c l.len), Later.born hM hf hx hk, hM.born hK hf hx hk, ?_⟩
  have hg : (bornAt at_ K fresh (.live w.heap.size 0 c l.len)).gn fresh = .live w.heap.size 0 c l.len := by simp only [bornAt, if_true]
  simp only [Rel, hg]
  refine ⟨by simp, by simp, fun g base cap n e => ?_, rfl⟩
  simp only [GN.shape, Option.some.injEq, Prod.mk.injEq] at e
  obtain ⟨rfl, rfl, rfl, rfl⟩ := e
  exact ⟨by omega, by omega, _, by rw [Nat.sub_zero], fun _ => by simp⟩
/-- Of no cells. -/
theorem Post.bare {K : List Nat} {fresh : Nat} {l : LV} (hM : MemOK at_ M w) (hK : ∀ k ∈ K, ∃ l, M[k]? = some (some [.own l])) (hf : M[fresh]? = some none) (hl : l.len = 0) :
    Post at_ w M ((K.map fun k => (k, [])) ++ [(fresh, [.own l])]) (.sl fresh 0 l.len) (.slice none 0 0) w := by
  have hx : BornOK at_ w w K .nil l := .inl ⟨rfl, hl⟩
  have hk : Kept w w .nil := ⟨rfl, rfl, rfl, Nat.le_refl _, fun _ _ _ => rfl⟩
  refine ⟨bornAt at_ K fresh .nil, Later.born hM hf hx hk, hM.born hK hf hx hk, ?_⟩
  have hg : (bornAt at_ K fresh .nil).gn fresh = .nil := by simp only [bornAt, if_true]
  simp only [Rel, hg, hl]
  exact ⟨by simp, by simp, by simp [GN.shape], rfl⟩
/-- In the block where it was. -/
theorem Post.stay {b fresh g base cap n base' cap' : Nat} {l : LV} {ad : Option Addr} {w' : World} (hM : MemOK at_ M w) {l0 : LV} (hb : M[b]? = some (some [.own l0])) (hgn : at_.gn b = .live g base cap n) (hf : M[fresh]? = some none)
    (hG : GOK w' g base' cap' l) (hgs : g < w'.heap.size) (hk : Kept w w' (.live g base' cap' l.len)) (had : 0 < cap' → ad = some ⟨g, base', none⟩) :
    Post at_ w M [(b, []), (fresh, [.own l])] (.sl fresh 0 l.len) (.slice ad l.len cap') w' := by
  have hx : BornOK at_ w w' [b] (.live g base' cap' l.len) l := .inr ⟨_, _, _, rfl, hG, hgs, .inl ⟨b, _, _, _, by simp, hgn⟩⟩
  refine ⟨bornAt at_ [b] fresh (.live g base' cap' l.len), Later.born hM hf hx hk, hM.born (by simp [hb]) hf hx hk, ?_⟩
  have hg : (bornAt at_ [b] fresh (.live g base' cap' l.len)).gn fresh = .live g base' cap' l.len := by simp only [bornAt, if_true]
  simp only [Rel, hg]
  refine ⟨by simp, by simp, fun g2 base2 cap2 n2 e => ?_, rfl⟩
  simp only [GN.shape, Option.some.injEq, Prod.mk.injEq] at e
  obtain ⟨rfl, rfl, rfl, rfl⟩ := e
  obtain ⟨_, _, _, _, hle, _⟩ := hG
  exact ⟨by omega, hle, ad, by rw [Nat.sub_zero], fun h => by rw [had h, Nat.add_zero]⟩

theorem drop_take_set {α : Type} (xs news : List α) (k m : Nat) (hk : k + news.length ≤ xs.length) (base n : Nat) (hb : base + n = k) (hm : m = n + news.length) :
    ((xs.take k ++ news ++ xs.drop (k + news.length)).drop base).take m = (xs.drop base).take n ++ news := by
  have _ := ‹GLob›
  subst hm; subst hb
  apply List.ext_getElem?
  intro q
  simp only [List.getElem?_take, List.getElem?_drop, List.getElem?_append, List.length_append, List.length_take, List.length_drop]
  by_cases h1 : q < n
  · rw [if_pos (by omega), if_pos (by omega), if_pos (by omega), if_pos (by omega), if_pos (by omega), if_pos h1]
  · by_cases h2 : q < n + news.length
    · rw [if_pos h2, if_pos (by omega), if_neg (by omega), if_neg (by omega)]
      congr 1; omega
    · rw [if_neg h2, if_neg (by omega), List.getElem?_eq_none (by omega)]

theorem ok_append (hT : TTOK P tt) (hM : MemOK at_ M w) (hlook : ∀ n cs, look n = some cs → M[n]? = some (some cs)) {fresh : Nat} (hf : M[fresh]? = some none) {x y : SV} {t : TypeId} {out : Out} (h : coreAppend tt look fresh x y t = some out) (hp : out.ok)
    {vx vy : Value} (rx : Rel at_ w x vx) (ry : Rel at_ w y vy) (ty : TypeId) : ∃ v w', (Builtin.append_ #[t, t] ty #[vx, vy]).run P w = .ok v w' ∧ Post at_ w M out.ws out.sv v w' := by
  unfold coreAppend at h
  split at h
  · rename_i e _ _ _ heq
    split at h
    · rename_i k by_ z heq'
      split at h
      · rename_i hby
        split at h
        · rename_i ny hny
          have hu := (hT _ _ heq).slice rfl
          obtain ⟨xi, zv, i1, i2, i3, i4, i5⟩ := (hT _ _ heq').ti
          simp only at i4 i5
          have hzs : zv.cells.size = 1 := by have := congrArg List.length i3; simpa using this
          obtain ⟨ad2, c2, rfl, hcells⟩ := rowOf_ok hM hlook hny ry
          -- onto nothing
          have onNil : ∀ (K : List Nat) (l' : LV), (∀ k ∈ K, ∃ l, M[k]? = some (some [.own l])) → l'.vals = ny.vals → l'.len = ny.len → l'.len ≤ appLim →
              ∃ v w', (Builtin.append_ #[t, t] ty #[.slice none 0 0, .slice ad2 ny.len c2]).run P w = .ok v w' ∧ Post at_ w M ((K.map fun k => (k, [])) ++ [(fresh, [.own l'])]) (.sl fresh 0 l'.len) v w' := by
            intro K l' hK e1 e2 e3
            by_cases hm : ny.len = 0
            · rw [hm]
              exact ⟨_, _, append_nothing t ty e xi hu i1 none ad2 0 0 c2 (Nat.le_refl _), Post.bare hM hK hf (by omega)⟩
            · have hl := ny.len_vals
              obtain ⟨u, hu0⟩ : ∃ u, ny.vals[0]? = some u := ⟨_, List.getElem?_eq_getElem (by omega)⟩
              obtain ⟨a, rfl, _⟩ := hcells 0 u hu0
              have hcell : ∀ (j : Nat) u, ny.vals[j]? = some u → w.cell? (a.add j) = some u := fun j u hj => by obtain ⟨a', ea, h'⟩ := hcells j u hj; cases ea; exact h'
              have hlim : ny.len ≤ 17592186044416 := by rw [← e2]; exact e3
              have hr := run_append_nil (P := P) w t ty e xi zv hu i1 i2 a ny.len c2 ny.vals (by rw [i4, Nat.mul_one]; exact hl) hcell (by omega) (by omega) (by rw [i5]; have := Nat.mul_le_mul hlim hby; omega)
              have hge := grownCap_ge w ny.len 0 e
              have hcm := grownCap_le_maxLen w ny.len 0 e (by unfold maxLen; omega)
              refine ⟨_, _, hr, ?_⟩
              have := Post.grown (fresh := fresh) (l := l') (c := grownCap w ny.len 0 e) (arr := ny.vals.toArray ++ Builtin.zeroCells zv.cells (grownCap w ny.len 0 e - ny.len)) e hM hK hf
                (by simp only [Array.size_append, List.size_toArray, size_zeroCells, hzs, hl]; omega) (by omega) hcm (by rw [e1, e2]; simp only [Array.toList_append]; rw [← hl]; exact List.take_left)
              rw [e2] at this ⊢
              exact this
          split at h
          · split at h
            · rename_i l0 hl0
              split at h
              · rename_i l' hl'
                simp only [Option.some.injEq] at h; subst h
                simp only [Rel] at rx
                obtain ⟨z1, z2⟩ := rep_zero hl0
                obtain ⟨a1, a2⟩ := app_ok hl'
                subst rx
                exact onNil [] l' (by simp) (by rw [a1, z1]; rfl) (by omega) hp
              · cases h
            · cases h
          · rename_i b lo len
            split at h
            · rename_i l hl
              split at h
              · rename_i l' hl'
                simp only [Option.some.injEq] at h; subst h
                have hb := hlook _ _ hl
                obtain ⟨p1, p2⟩ := hp
                obtain ⟨a1, a2⟩ := app_ok hl'
                rw [LV.vals_cut] at a1
                rw [LV.len_cut _ _ _ (Nat.le_refl _)] at a2
                have hlv := l.len_vals
                rcases sl_shape hM hb rx with ⟨e1, e2, e3, e4, e5⟩ | ⟨g, base, cap, ad, k1, ⟨arr, ty', g1, g2, g3, g4, g5⟩, k2, k3, k4, k5⟩
                · rw [e4]
                  have hv0 : l.vals = [] := List.eq_nil_of_length_eq_zero (by omega)
                  have := onNil [b] l' (by simp [hb]) (by rw [a1, hv0]; simp) (by omega) p2
                  exact this
                · rw [k4]
                  have hlen' : l'.len = len + ny.len := by omega
                  have hlim : l'.len ≤ 17592186044416 := p2
                  have hgs : g < w.heap.size := lt_of_heap g1
                  have hold : (arr.toList.drop (base + lo)).take len = l.vals.drop lo := by
                    rw [← g5, List.drop_take, List.drop_drop]
                    congr 1; omega
                  have hvals' : l'.vals = l.vals.drop lo ++ ny.vals := by rw [a1, List.take_of_length_le (by omega)]
                  by_cases hm : ny.len = 0
                  · rw [hm]
                    refine ⟨_, _, append_nothing t ty e xi hu i1 ad ad2 len (cap - lo) c2 (by omega), ?_⟩
                    have hnv : ny.vals = [] := List.eq_nil_of_length_eq_zero (by rw [ny.len_vals]; exact hm)
                    have := Post.stay (b := b) (fresh := fresh) (g := g) (base' := base + lo) (cap' := cap - lo) (l := l') (ad := ad) (w' := w) hM hb k1 hf ⟨arr, ty', g1, by omega, by omega, by omega, by rw [hlen', hm, Nat.add_zero, hold, hvals', hnv, List.append_nil]⟩ hgs ⟨rfl, rfl, rfl, Nat.le_refl _, fun _ _ _ => rfl⟩ (fun h => k5 (by omega))
                    rw [hlen', hm, Nat.add_zero] at this
                    rw [hlen', hm, Nat.add_zero]
                    exact this
                  · have hnl := ny.len_vals
                    obtain ⟨u, hu0⟩ : ∃ u, ny.vals[0]? = some u := ⟨_, List.getElem?_eq_getElem (by omega)⟩
                    obtain ⟨a, rfl, _⟩ := hcells 0 u hu0
                    have hcell : ∀ (j : Nat) u, ny.vals[j]? = some u → w.cell? (a.add j) = some u := fun j u hj => by obtain ⟨a', ea, h'⟩ := hcells j u hj; cases ea; exact h'
                    have hal : arr.toList.length = base + cap := by simp [g2]
                    by_cases hroom : len + ny.len ≤ cap - lo
                    · rw [k5 (by omega)]
                      have hr := append_room_off (P := P) (w := w) t ty e xi hu i1 g (base + lo) len (cap - lo) arr ty' g1 a ny.len c2 ny.vals (by rw [i4, Nat.mul_one]; exact hnl) hcell (vals_one ny) hroom (by rw [i4, Nat.mul_one, hnl]; omega)
                      refine ⟨_, _, hr, ?_⟩
                      rw [i4, Nat.mul_one]
                      have := Post.stay (b := b) (fresh := fresh) (g := g) (base' := base + lo) (cap' := cap - lo) (l := l') (ad := some ⟨g, base + lo, none⟩) (w' := w.setRow g (arr.toList.take (base + lo + len) ++ ny.vals ++ arr.toList.drop (base + lo + len + ny.vals.length)).toArray) hM hb k1 hf
                        ⟨_, ty', setRow_heap _ _ _ _ _ _ g1, by simp [hnl]; omega, by omega, by omega, by
                          rw [hvals', ← hold]
                          exact drop_take_set arr.toList ny.vals (base + lo + len) l'.len (by omega) (base + lo) len rfl (by omega)⟩ (by simpa using hgs)
                        ⟨rfl, rfl, rfl, by simp, fun q _ hq => setRow_other _ _ _ _ (fun e => by subst e; exact hq _ _ _ rfl)⟩ (fun _ => rfl)
                      rw [hlen'] at this ⊢
                      exact this
                    · have hge := grownCap_ge w (len + ny.len) (cap - lo) e
                      have hcm := grownCap_le_maxLen w (len + ny.len) (cap - lo) e (by unfold maxLen; omega)
                      have fin : Post at_ w M [(b, []), (fresh, [.own l'])] (.sl fresh 0 l'.len) (.slice (some ⟨w.heap.size, 0, none⟩) (len + ny.len) (grownCap w (len + ny.len) (cap - lo) e))
                          (w.drew.alloc (.cells ((l.vals.drop lo).toArray ++ ny.vals.toArray ++ Builtin.zeroCells zv.cells (grownCap w (len + ny.len) (cap - lo) e - (len + ny.len))) e)) := by
                        have hdl : (l.vals.drop lo).length = len := by rw [List.length_drop]; omega
                        have := Post.grown (K := [b]) (fresh := fresh) (l := l') (c := grownCap w (len + ny.len) (cap - lo) e) (arr := (l.vals.drop lo).toArray ++ ny.vals.toArray ++ Builtin.zeroCells zv.cells (grownCap w (len + ny.len) (cap - lo) e - (len + ny.len))) e hM (by simp [hb]) hf
                          (by simp only [Array.size_append, List.size_toArray, size_zeroCells, hzs, hnl, hdl]; omega) (by omega) hcm (by
                            rw [hvals']; simp only [Array.toList_append]
                            have : l'.len = (l.vals.drop lo ++ ny.vals).length := by rw [List.length_append, hdl, hnl, hlen']
                            rw [this]; exact List.take_left)
                        rw [hlen'] at this ⊢
                        exact this
                      have hdl : (l.vals.drop lo).length = len := by rw [List.length_drop]; omega
                      have hb8 : (len + ny.len) * xi.bytes ≤ 140737488355328 := by rw [i5]; have := Nat.mul_le_mul (show len + ny.len ≤ 17592186044416 by omega) hby; omega
                      have grow : ∀ a0 : Addr, (∀ (j : Nat) v, (l.vals.drop lo)[j]? = some v → w.cell? (a0.add j) = some v) →
                          ∃ v w', (Builtin.append_ #[t, t] ty #[.slice (some a0) len (cap - lo), .slice (some a) ny.len c2]).run P w = .ok v w' ∧ Post at_ w M [(b, []), (fresh, [.own l'])] (.sl fresh 0 l'.len) v w' := fun a0 h0 =>
                        ⟨_, _, run_append_grow (P := P) w t ty e xi zv hu i1 i2 a0 len (cap - lo) (l.vals.drop lo) (by rw [i4, Nat.mul_one]; exact hdl) h0 a ny.len c2 ny.vals (by rw [i4, Nat.mul_one]; exact hnl) hcell (by omega) (by omega) (growslice_fits (by omega) hb8), fin⟩
                      by_cases hlo : lo < cap
                      · rw [k5 hlo]
                        refine grow _ fun j v hj => ?_
                        rw [addr_add, cell_of_row w g _ _ ty' (0, 0) g1, ← Array.getElem?_toList]
                        rw [← hold, List.getElem?_take, List.getElem?_drop] at hj
                        split at hj
                        · exact hj
                        · cases hj
                      · have hl0 : len = 0 := by omega
                        have hc0 : cap - lo = 0 := by omega
                        have hv0 : l.vals.drop lo = [] := List.eq_nil_of_length_eq_zero (by omega)
                        cases ad with
                        | some a0 => exact grow a0 (fun j v hj => by rw [hv0] at hj; simp at hj)
                        | none =>
                          rw [hl0, hc0] at fin ⊢
                          rw [hv0] at fin
                          have hr := run_append_nil (P := P) w t ty e xi zv hu i1 i2 a ny.len c2 ny.vals (by rw [i4, Nat.mul_one]; exact hnl) hcell (by omega) (by omega) (by rw [hl0, Nat.zero_add] at hb8; omega)
                          refine ⟨_, _, hr, ?_⟩
                          simpa using fin
              · cases h
            · cases h
          · cases h
        · cases h
      · cases h
    · cases h
  · cases h

/-! Copies. -/
theorem over_ok {a b c : LV} {i : Nat} (h : a.over i b = some c) (hi : i + b.len ≤ a.len) : c.len = a.len ∧ c.vals = a.vals.take i ++ b.vals ++ a.vals.drop (i + b.vals.length) ∧ (b.len = 0 → c = a) := by
  have _ := ‹GLob›
  unfold LV.over at h
  split at h <;> first
    | (cases h; done)
    | (simp only [Option.some.injEq] at h; subst h
       simp only [LV.len] at hi ⊢
       refine ⟨by simp only [List.length_append, List.length_take, List.length_drop]; omega, by simp only [LV.vals, List.map_append, List.map_take, List.map_drop, List.length_map], fun h0 => ?_⟩
       have hb := List.eq_nil_of_length_eq_zero h0
       subst hb
       simp only [List.append_nil, List.length_nil, Nat.add_zero, List.take_append_drop])
theorem seg_over {α : Type} (xs news : List α) (base n j : Nat) (hj : j + news.length ≤ n) (hn : base + n ≤ xs.length) :
    ((xs.take (base + j) ++ news ++ xs.drop (base + j + news.length)).drop base).take n = ((xs.drop base).take n).take j ++ news ++ ((xs.drop base).take n).drop (j + news.length) := by
  have _ := ‹GLob›
  apply List.ext_getElem?
  intro q
  simp only [List.getElem?_take, List.getElem?_drop, List.getElem?_append, List.length_append, List.length_take, List.length_drop]
  by_cases h1 : q < j
  · rw [if_pos (by omega), if_pos (by omega), if_pos (by omega), if_pos (by omega), if_pos (by omega), if_pos (by omega), if_pos (by omega), if_pos (by omega)]
  · by_cases h2 : q < j + news.length
    · rw [if_pos (by omega), if_pos (by omega), if_neg (by omega), if_pos (by omega), if_neg (by omega)]
      congr 1; omega
    · by_cases h3 : q < n
      · rw [if_pos h3, if_neg (by omega), if_neg (by omega), if_pos (by omega)]
        congr 1; omega
      · rw [if_neg h3, if_neg (by omega), if_neg (by omega)]
theorem ok_copy (hT : TTOK P tt) (hM : MemOK at_ M w) (hlook : ∀ n cs, look n = some cs → M[n]? = some (some cs)) {x y : SV} {t t' : TypeId} {out : Out} (h : coreCopy tt look x y t = some out)
    {vx vy : Value} (rx : Rel at_ w x vx) (ry : Rel at_ w y vy) (ty : TypeId) : ∃ v w', (Builtin.copy_ #[t, t'] ty #[vx, vy]).run P w = .ok v w' ∧ Post at_ w M out.ws out.sv v w' := by
  unfold coreCopy at h
  split at h
  · rename_i e _ _ _ heq
    split at h
    · rename_i k by_ z heq'
      split at h
      · rename_i ny hny
        split at h
        · rename_i b lo len
          split at h
          · rename_i l hl
            split at h
            · rename_i l' hl'
              simp only [Option.some.injEq] at h; subst h
              have hu := (hT _ _ heq).slice rfl
              obtain ⟨xi, zv, i1, i2, i3, i4, i5⟩ := (hT _ _ heq').ti
              have hsz : (P.info? e).map (·.size) = some 1 := by rw [i1]; exact congrArg some i4
              obtain ⟨ad2, c2, rfl, hcells⟩ := rowOf_ok hM hlook hny ry
              have hb := hlook _ _ hl
              have hlen : (ny.cut 0 len).len = min len ny.len := by
                cases ny <;> simp [LV.cut, LV.len]
              have hvals : (ny.cut 0 len).vals = ny.vals.take len := by rw [LV.vals_cut, List.drop_zero]
              have hll : lo + len ≤ l.len := by
                rcases sl_shape hM hb rx with ⟨e1, e2, e3, _, _⟩ | ⟨_, _, _, _, _, _, h1, _⟩
                · omega
                · exact h1
              obtain ⟨o1, o2, o3⟩ := over_ok hl' (by rw [hlen]; omega)
              by_cases h0 : (ny.cut 0 len).len = 0
              · have hn : Nat.min ny.len len = 0 := by have : Nat.min ny.len len = min len ny.len := Nat.min_comm _ _; omega
                obtain ⟨ad, cp, hvx⟩ : ∃ ad cp, vx = .slice ad len cp := by
                  rcases sl_shape hM hb rx with ⟨e1, e2, e3, e4, _⟩ | ⟨_, _, _, ad, _, _, _, _, h4, _⟩
                  · exact ⟨none, 0, by rw [e4, e2]⟩
                  · exact ⟨_, _, h4⟩
                rw [hvx]
                refine ⟨_, _, run_copy_none w t t' ty e ad ad2 len cp ny.len c2 hu hsz hn, ?_⟩
                rw [o3 h0, h0]
                have hsame : applyWs M [(b, [.own l])] = M := by
                  simp only [applyWs, List.foldl_cons, List.foldl_nil]
                  apply List.ext_getElem?
                  intro q
                  by_cases hq : q = b
                  · subst hq; rw [List.getElem?_set_self (List.getElem?_eq_some_iff.1 hb).1, hb]
                  · rw [List.getElem?_set_ne (fun e => hq e.symm)]
                have := Post.same hM (sv := .i64 ((0 : Nat) : Int)) (v := goInt 0) (by simp only [Rel]; rfl)
                unfold Post at this ⊢
                rw [hsame]
                exact this
              · rcases sl_shape hM hb rx with ⟨e1, e2, e3, _, _⟩ | ⟨g, base, cap, ad, k1, ⟨arr, ty', g1, g2, g3, g4, g5⟩, k2, k3, k4, k5⟩
                · omega
                · rw [k4, k5 (by omega)]
                  have hny0 : 0 < ny.vals.length := by rw [ny.len_vals]; omega
                  obtain ⟨a, rfl, _⟩ := hcells 0 _ (List.getElem?_eq_getElem hny0)
                  have hcell : ∀ (j : Nat) u, (ny.vals.take len)[j]? = some u → w.cell? (a.add j) = some u := fun j u hj => by
                    rw [List.getElem?_take] at hj
                    split at hj
                    · obtain ⟨a', ea, h'⟩ := hcells j u hj; cases ea; exact h'
                    · cases hj
                  have hnl := ny.len_vals
                  have hcl : (ny.vals.take len).length = min len ny.len := by rw [List.length_take, hnl]
                  have hlv := l.len_vals
                  have hal : arr.toList.length = base + cap := by simp [g2]
                  have hr := run_copy_row (P := P) w t t' ty e g (base + lo) len (cap - lo) a ny.len c2 arr ty' (ny.vals.take len) hu hsz g1 (by rw [hcl]; exact Nat.min_comm _ _) hcell (by rw [hcl]; omega) (fun u hu => vals_one ny u (List.mem_of_mem_take hu))
                  refine ⟨_, _, hr, ?_⟩
                  refine Post.setOwn hM hb k1 o1 ⟨_, ty', setRow_heap _ _ _ _ _ _ g1, ?_, by omega, g4, ?_⟩ (by rw [← hvals, LV.len_vals]; simp only [Rel]; rfl)
                  · simp [hcl]; omega
                  · rw [o2, o1, hvals, ← g5]
                    have := seg_over arr.toList (ny.vals.take len) base l.len lo (by rw [hcl]; omega) (by omega)
                    simpa using this
            · cases h
          · cases h
        · cases h
      · cases h
    · cases h
  · cases h
end
end Go.Sym
/- The symbolic machine: results that are nobody's but the caller's. -/
namespace Go.Sym
open Go.RowKit

section
variable [GLob] {at_ : At} {M : List (Option Blk)} {w w' : World}
theorem Below.kept (hb : Below w.heap.size w w') (x : GN) : Kept w w' x := have _ := ‹GLob›; ⟨hb.os, hb.tape, hb.output, hb.size, fun k hk _ => hb.block k hk⟩
/-- A list that a call made. -/
theorem Post.thawL {fresh : Nat} {l : LV} {v : Value} (hM : MemOK at_ M w) (hf : M[fresh]? = some none) (hb : Below w.heap.size w w') {a : At} (h : FRel1 a w.heap.size w' (.lst l) v) :
    Post at_ w M [(fresh, [.own l])] (.sl fresh 0 l.len) v w' := by
  have hK : ∀ k ∈ ([] : List Nat), ∃ l, M[k]? = some (some [.own l]) := by simp
  simp only [FRel1] at h
  rcases h with ⟨hl, rfl⟩ | ⟨g, base, cap, ad, hge, hG, rfl, had⟩
  · have hx : BornOK at_ w w' [] .nil l := .inl ⟨rfl, hl⟩
    refine ⟨bornAt at_ [] fresh .nil, Later.born hM hf hx (Below.kept hb _), hM.born hK hf hx (Below.kept hb _), ?_⟩
    have hg : (bornAt at_ [] fresh .nil).gn fresh = .nil := by simp only [bornAt, if_true]
    simp only [Rel, hg, hl]
    exact ⟨by simp, by simp, by simp [GN.shape], rfl⟩
  · have hG' := hG
    obtain ⟨arr, ty, hh, hsz, hle, _⟩ := hG
    have hx : BornOK at_ w w' [] (.live g base cap l.len) l := .inr ⟨_, _, _, rfl, hG', lt_of_heap hh, .inr hge⟩
    refine ⟨bornAt at_ [] fresh (.live g base cap l.len), Later.born hM hf hx (Below.kept hb _), hM.born hK hf hx (Below.kept hb _), ?_⟩
    have hg : (bornAt at_ [] fresh (.live g base cap l.len)).gn fresh = .live g base cap l.len := by simp only [bornAt, if_true]
    simp only [Rel, hg]
    refine ⟨by simp, by simp, fun g2 base2 cap2 n2 e => ?_, rfl⟩
    simp only [GN.shape, Option.some.injEq, Prod.mk.injEq] at e
    obtain ⟨rfl, rfl, rfl, rfl⟩ := e
    exact ⟨by omega, hle, ad, by rw [Nat.sub_zero], fun h => by rw [had h, Nat.add_zero]⟩

/-- A block that a call made. -/
theorem Post.newAt {fresh g : Nat} {cs : List SV} {vs : List Value} {ty : TypeId} {sv : SV} {v : Value} (hM : MemOK at_ M w) (hf : M[fresh]? = some none) (hb : Below w.heap.size w w') (hge : w.heap.size ≤ g)
    (hh : w'.heap[g]? = some (.cells (List.toArray vs) ty (0, 0))) (hr : RelL (at_.hide g) w' cs vs) (hn : noNameL cs = true)
    (hv : ∀ at' : At, at' fresh = some g → Rel at' w' sv v) : Post at_ w M [(fresh, cs)] sv v w' := by
  obtain ⟨hnone, hgn⟩ := hM.fresh_none hf
  have hlt : fresh < M.length := (List.getElem?_eq_some_iff.1 hf).1
  have hgl := lt_of_heap hh
  let at' : At := ⟨fun n => if n = fresh then some g else at_ n, at_.out, at_.gn⟩
  have hl : Later at_ w at' w' := by
    refine ⟨hb.os, hb.tape, hb.output, hb.size, fun n k e => ?_, fun k hg hg' hlt' => ⟨fun n e => ?_, hg', hb.block k hlt'⟩, rfl, fun n k e => ?_, fun _ => .inr (.inl rfl), fun n _ b c k h => .inl ⟨n, b, c, k, h⟩⟩
    · by_cases hn : n = fresh
      · subst hn; rw [hnone] at e; cases e
      · simp [at', hn, e]
    · by_cases hn : n = fresh
      · simp [at', hn] at e; omega
      · simp [at', hn] at e; exact hg n e
    · by_cases hn : n = fresh
      · simp [at', hn] at e; exact .inr (by omega)
      · simp [at', hn] at e; exact .inl e
  have hfix : ∀ k, Fix (at_.hide g) k → Fix at' k := fun k h => by
    obtain ⟨h1, h2⟩ := Fix.of_hide h
    refine ⟨fun n e => ?_, h1.2.1, h1.2.2⟩
    by_cases hn : n = fresh
    · simp [at', hn] at e; exact h2 e.symm
    · simp [at', hn] at e; exact h1.1 n e
  have hr' : RelL at' w' cs vs := RelL.noName hfix _ _ hn hr
  refine ⟨at', hl, ⟨fun n k c e1 e => ?_, fun n m k e e' => ?_, fun n k e => ?_, fun k h => Nat.lt_of_lt_of_le (hM.outlt k h) hb.size, fun n l e => ?_, hM.ginj, fun n m k b c q e e' => ?_, fun n e => ?_, fun n k b c q e => Nat.lt_of_lt_of_le (hM.gsz n k b c q e) hb.size, hM.gout, fun n k e h => by
    by_cases hn : n = fresh
    · simp [at', hn] at e; subst e; have := hM.outlt _ h; omega
    · simp [at', hn] at e; exact hM.nout n k e h, hM.glb.later hl⟩, hv at' (by simp [at'])⟩
  · simp only [applyWs, List.foldl_cons, List.foldl_nil] at e
    by_cases hn : n = fresh
    · subst hn
      rw [List.getElem?_set_self hlt] at e
      simp at e; subst e
      simp [at'] at e1; subst e1
      exact ⟨ty, vs, hh, hr'⟩
    · rw [List.getElem?_set_ne (fun h => hn h.symm)] at e
      simp [at', hn] at e1
      obtain ⟨ty', vs', h2, h3⟩ := hM.blk n k c e1 e
      exact ⟨ty', vs', (hb.block _ (lt_of_heap h2)).trans h2, RelL.later hl _ _ h3⟩
  · by_cases hn : n = fresh <;> by_cases hm : m = fresh
    · rw [hn, hm]
    · simp [at', hn, hm] at e e'
      have := (hM.dom _ _ e').1; omega
    · simp [at', hn, hm] at e e'
      have := (hM.dom _ _ e).1; omega
    · simp [at', hn, hm] at e e'
      exact hM.inj n m k e e'
  · simp only [applyWs, List.foldl_cons, List.foldl_nil]
    by_cases hn : n = fresh
    · subst hn
      simp [at'] at e; subst e
      exact ⟨hgl, cs, List.getElem?_set_self hlt⟩
    · simp [at', hn] at e
      obtain ⟨h1, c, h2⟩ := hM.dom n k e
      exact ⟨Nat.lt_of_lt_of_le h1 hb.size, c, by rw [List.getElem?_set_ne (fun h => hn h.symm)]; exact h2⟩
  · simp only [applyWs, List.foldl_cons, List.foldl_nil] at e
    by_cases hn : n = fresh
    · subst hn
      rw [List.getElem?_set_self hlt] at e
      simp only [Option.some.injEq] at e
      exact (own_false hr' e).elim
    · rw [List.getElem?_set_ne (fun h => hn h.symm)] at e
      rcases hM.glk n l e with k | ⟨k, b, c, k1, k2⟩
      · exact .inl k
      · exact .inr ⟨k, b, c, k1, k2.mono (hb.block _ (hM.gsz _ _ _ _ _ k1))⟩
  · by_cases hn : n = fresh
    · simp [at', hn] at e
      have := hM.gsz m k b c q e'; omega
    · simp [at', hn] at e
      exact hM.gap n m k b c q e e'
  · obtain ⟨c, h2⟩ := hM.gdom n e
    simp only [applyWs, List.foldl_cons, List.foldl_nil]
    by_cases hn : n = fresh
    · subst hn; exact ⟨cs, List.getElem?_set_self hlt⟩
    · exact ⟨c, by rw [List.getElem?_set_ne (fun h => hn h.symm)]; exact h2⟩

theorem thaw1_ok {fresh : Nat} {r sv : SV} {v : Value} {ws : List (Nat × Blk)} (hM : MemOK at_ M w) (hf : M[fresh]? = some none) (hb : Below w.heap.size w w') (ht : thaw1 fresh r = some (sv, ws)) (hn : r.noName = true) (h : FRel1 at_ w.heap.size w' r v) : Post at_ w M ws sv v w' := by
  unfold thaw1 at ht
  split at ht
  · simp only [Option.some.injEq, Prod.mk.injEq] at ht
    obtain ⟨rfl, rfl⟩ := ht
    exact Post.thawL hM hf hb h
  · simp only [Option.some.injEq, Prod.mk.injEq] at ht
    obtain ⟨rfl, rfl⟩ := ht
    simp only [FRel1] at h
    obtain ⟨g, ty, vs, h1, rfl, h3, h4⟩ := h
    exact Post.newAt hM hf hb h1 h3 h4 hn (fun at' e => by simp only [Rel]; exact ⟨g, e, rfl⟩)
  · rename_i e1 e2
    split at ht
    · rename_i hfl
      simp only [Option.some.injEq, Prod.mk.injEq] at ht
      obtain ⟨rfl, rfl⟩ := ht
      have h' : Rel at_ w' r v := by
        unfold FRel1 at h
        split at h
        · exact absurd rfl (e1 _)
        · exact absurd rfl (e2 _)
        · exact h
      exact Post.below hM hb h'
    · cases ht
theorem thaw_ok {fresh : Nat} {r sv : SV} {v : Value} {ws : List (Nat × Blk)} (hM : MemOK at_ M w) (hf : M[fresh]? = some none) (hb : Below w.heap.size w w') (ht : thaw fresh r = some (sv, ws)) (hn : r.noName = true) (h : FRel at_ w.heap.size w' r v) : Post at_ w M ws sv v w' := by
  unfold thaw at ht
  split at ht
  · split at ht
    · rename_i hy
      split at ht
      · rename_i hfl
        simp only [Option.some.injEq, Prod.mk.injEq] at ht
        obtain ⟨rfl, rfl⟩ := ht
        simp only [FRel] at h
        obtain ⟨u, us, rfl, h1, h2⟩ := h
        simp only [SV.noName, noNameL, Bool.and_eq_true] at hn
        obtain ⟨at', k1, k2, k3⟩ := thaw1_ok hM hf hb hy hn.1 h1
        exact ⟨at', k1, k2, by simp only [Rel]; exact ⟨_, rfl, RelL.cons k3 (RelL.flat _ _ hfl h2)⟩⟩
      · cases ht
    · cases ht
  · rename_i e1
    refine thaw1_ok hM hf hb ht hn ?_
    unfold FRel at h
    split at h
    · exact absurd rfl (e1 _ _)
    · exact h
theorem shallow1_ok {a : At} {n : Nat} {r : SV} {v : Value} (hs : shallow1 r = true) (h : FRel1 a n w r v) : FRel1 at_ n w r v := by
  have _ := ‹GLob›
  unfold FRel1 at h
  split at h
  · exact h
  · obtain ⟨g, ty, vs, h1, h2, h3, h4⟩ := h
    exact ⟨g, ty, vs, h1, h2, h3, RelL.flat _ _ hs h4⟩
  · rename_i e1 e2
    have hfl : r.flat = true := by
      unfold shallow1 at hs
      split at hs
      · exact absurd rfl (e1 _)
      · exact absurd rfl (e2 _)
      · exact hs
    unfold FRel1
    split
    · exact absurd rfl (e1 _)
    · exact absurd rfl (e2 _)
    · exact Rel.flat _ _ hfl h
theorem shallow_ok {a : At} {n fresh : Nat} {r : SV} {v : Value} {q : SV × List (Nat × Blk)} (ht : thaw fresh r = some q) (hs : shallow r = true) (h : FRel a n w r v) : FRel at_ n w r v := by
  unfold FRel at h
  split at h
  · simp only [shallow] at hs
    simp only [thaw] at ht
    split at ht
    · split at ht
      · rename_i hfl
        obtain ⟨u, us, rfl, h1, h2⟩ := h
        simp only [FRel]
        exact ⟨u, us, rfl, shallow1_ok hs h1, RelL.flat _ _ hfl h2⟩
      · cases ht
    · cases ht
  · rename_i e1
    unfold shallow at hs
    split at hs
    · exact absurd rfl (e1 _ _)
    · unfold FRel
      split
      · exact absurd rfl (e1 _ _)
      · exact shallow1_ok hs h
theorem applyWs_append (M : List (Option Blk)) (a b : List (Nat × Blk)) : applyWs M (a ++ b) = applyWs (applyWs M a) b := by have _ := ‹GLob›; simp [applyWs, List.foldl_append]
/-- A call that makes its result. -/
theorem fresh_post {fresh : Nat} {r sv : SV} {v : Value} {ws : List (Nat × Blk)} (hM : MemOK at_ M w) (hf : M[fresh]? = some none) (hb : Below w.heap.size w w') (ht : thaw fresh r = some (sv, ws)) (hn : r.noName = true) {a : At} (hs : shallow r = true) (h : FRel a w.heap.size w' r v) : Post at_ w M ws sv v w' :=
  thaw_ok hM hf hb ht hn (shallow_ok ht hs h)
theorem fresh_post_kill {fresh : Nat} {r sv : SV} {v : Value} {ws : List (Nat × Blk)} {ks : List Nat} (hM : MemOK at_ M w) (hk : ∀ k ∈ ks, ∃ l, M[k]? = some (some [.own l])) (hf : M[fresh]? = some none) (hb : Below w.heap.size w w') (ht : thaw fresh r = some (sv, ws)) (hn : r.noName = true)
    (h : FRel (killAt at_ ks) w.heap.size w' r v) : Post at_ w M ((ks.map fun k => (k, [])) ++ ws) sv v w' := by
  have hlt : ∀ k ∈ ks, k < M.length := fun k h => by obtain ⟨l, h'⟩ := hk k h; exact (List.getElem?_eq_some_iff.1 h').1
  have hfk : fresh ∉ ks := fun h => by obtain ⟨l, h'⟩ := hk _ h; rw [hf] at h'; cases h'
  obtain ⟨at', h1, h2, h3⟩ := thaw_ok (hM.kill hk) (by rw [applyWs_kill ks M fresh hlt, if_neg hfk]; exact hf) hb ht hn h
  exact ⟨at', (Later.kill _ _ _).trans h1, by rw [applyWs_append]; exact h2, h3⟩
end
end Go.Sym
