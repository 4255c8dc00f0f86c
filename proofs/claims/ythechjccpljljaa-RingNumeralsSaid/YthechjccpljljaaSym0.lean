/- The ground of a small symbolic machine: symbolic values, and what it means that a Go value, in a world, is what a symbolic value says. No program is named here. -/
import Derived.Test.YthechjccpljljaaDig
import Derived.Below
import Derived.Orders
import Derived.Tactics
import Derived.Laws.Rows
import Derived.Laws.Externs
import Derived.Laws.StructEq
import Derived.Laws.Small
import Derived.Laws.Slices
import Derived.KernelRfl
namespace Go.Sym
open Go.RowKit

/-- Lists that are read only: of which kind the cells are; 'num': a number's digits of 24 bits. -/
inductive LV where
  | ints (xs : List Int)
  | bytes (xs : List UInt8)
  | words (xs : List UInt64)
  | halfs (xs : List UInt32)
  | num (n : Nat)

def LV.vals : LV → List Value
  | .ints xs => xs.map (.int .i64)
  | .bytes xs => xs.map fun x => .int .u8 (x.toNat : Int)
  | .words xs => xs.map fun x => .int .u64 (x.toNat : Int)
  | .halfs xs => xs.map fun x => .int .u32 (x.toNat : Int)
  | .num n => (Dig.dg n).map (.int .i64)
def LV.len : LV → Nat
  | .ints xs => xs.length
  | .bytes xs => xs.length
  | .words xs => xs.length
  | .halfs xs => xs.length
  | .num n => (Dig.dg n).length
theorem LV.len_vals (l : LV) : l.vals.length = l.len := by cases l <;> simp [LV.vals, LV.len]

/-- Symbolic values. 'ptr': into a block that is the machine's own (by its name); 'slc': a slice over such a block; 'lst', 'ro': a slice, a pointer, to what nobody writes; 'lel': a pointer to a cell of a list; 'sl', 'lp': a slice over a list that is the machine's own (by its name), a pointer into it; 'own': such a list, in memory. -/
inductive SV where
  | i64 (n : Int)
  | u64 (x : UInt64)
  | u32 (x : UInt32)
  | u8 (x : UInt8)
  | bool (b : Bool)
  | val (v : Value)
  | ptr (b off : Nat)
  | slc (b off len cap : Nat)
  | lst (l : LV)
  | lel (x : SV)
  | sl (b lo len : Nat)
  | lp (b i : Nat)
  | own (l : LV)
  | ro (cs : List SV) (off : Nat)
  | agg (cs : List SV)
  | tup (cs : List SV)
  | fn (f : FuncId) (cs : List SV)
  | undef
  | any

/-- An own list's name: not given yet; a list of no cells; n cells, from a block's cell 'base' on, with room for cap; given up. -/
inductive GN where
  | unborn
  | nil
  | live (g base cap n : Nat)
  | dead (g base cap n : Nat)
def GN.kill : GN → GN
  | .live g b c n => .dead g b c n
  | x => x
def GN.shape : GN → Option (Nat × Nat × Nat × Nat)
  | .live g b c n | .dead g b c n => some (g, b, c, n)
  | _ => none
theorem GN.kill_kill (x : GN) : x.kill.kill = x.kill := by cases x <;> rfl
theorem GN.kill_shape (x : GN) : x.kill.shape = x.shape := by cases x <;> rfl
theorem GN.kill_unborn {x : GN} : x.kill = .unborn ↔ x = .unborn := by cases x <;> simp [GN.kill]
theorem GN.kill_nil {x : GN} : x.kill = .nil ↔ x = .nil := by cases x <;> simp [GN.kill]
theorem GN.kill_live {x : GN} {g b c n : Nat} : x.kill ≠ .live g b c n := by cases x <;> simp [GN.kill]
/-- Which block has which name; which blocks are others', that may write them; which list has which name. -/
structure At where
  nm : Nat → Option Nat
  out : Nat → Prop
  gn : Nat → GN
instance : CoeFun At fun _ => Nat → Option Nat := ⟨At.nm⟩
/-- A block that nobody writes. -/
def Fix (at_ : At) (g : Nat) : Prop := (∀ n, at_ n ≠ some g) ∧ ¬ at_.out g ∧ ∀ n b c k, at_.gn n ≠ .live g b c k

mutual
def Rel (at_ : At) (w : World) : SV → Value → Prop
  | .i64 n, v => v = .int .i64 n
  | .u64 x, v => v = .int .u64 (x.toNat : Int)
  | .u32 x, v => v = .int .u32 (x.toNat : Int)
  | .u8 x, v => v = .int .u8 (x.toNat : Int)
  | .bool b, v => v = .bool b
  | .val u, v => v = u
  | .ptr b off, v => ∃ g, at_ b = some g ∧ v = .pointer (some ⟨g, off, none⟩)
  | .slc b off len cap, v => ∃ g, at_ b = some g ∧ v = .slice (some ⟨g, off, none⟩) len cap
  | .lst l, v => ∃ a c, v = .slice a l.len c ∧ l.len ≤ c ∧ ∀ j u, l.vals[j]? = some u → ∃ ad, a = some ad ∧ Fix at_ ad.block ∧ w.cell? (ad.add j) = some u
  | .lel x, v => ∃ ad u, v = .pointer (some ad) ∧ Fix at_ ad.block ∧ w.cell? ad = some u ∧ Rel at_ w x u
  | .sl b lo len, v => at_.gn b ≠ .unborn ∧ (at_.gn b = .nil → lo = 0 ∧ len = 0 ∧ v = .slice none 0 0) ∧ (∀ g base cap n, (at_.gn b).shape = some (g, base, cap, n) → lo + len ≤ n ∧ n ≤ cap ∧ ∃ ad, v = .slice ad len (cap - lo) ∧ (lo < cap → ad = some ⟨g, base + lo, none⟩)) ∧ v.oneCell' = true
  | .lp b i, v => at_.gn b ≠ .unborn ∧ at_.gn b ≠ .nil ∧ (∀ g base cap n, (at_.gn b).shape = some (g, base, cap, n) → i < n ∧ v = .pointer (some ⟨g, base + i, none⟩)) ∧ v.oneCell' = true
  | .own _, _ => False
  | .ro cs off, v => ∃ g ty fz vs, v = .pointer (some ⟨g, off, none⟩) ∧ Fix at_ g ∧ w.heap[g]? = some (.cells (List.toArray vs) ty fz) ∧ RelL at_ w cs vs
  | .agg cs, v => ∃ vs, v = .agg (List.toArray vs) ∧ RelL at_ w cs vs
  | .tup cs, v => ∃ vs, v = .tuple (List.toArray vs) ∧ RelL at_ w cs vs
  | .fn f cs, v => ∃ vs, v = .func (.func f) #[] (List.toArray vs) ∧ RelL at_ w cs vs
  | .undef, v => v = Go.undef
  | .any, _ => True
def RelL (at_ : At) (w : World) : List SV → List Value → Prop
  | [], vs => vs = []
  | c :: cs, vs => ∃ v vs', vs = v :: vs' ∧ Rel at_ w c v ∧ RelL at_ w cs vs'
end

/-- From one world to a later one: names stay; what has no name is as it was. -/
structure Later (at_ : At) (w : World) (at' : At) (w' : World) : Prop where
  os : w'.os = w.os
  tape : w'.tape = w.tape
  output : w'.output = w.output
  size : w.heap.size ≤ w'.heap.size
  name : ∀ n g, at_ n = some g → at' n = some g
  keep : ∀ g, (∀ n, at_ n ≠ some g) → (∀ n b c k, at_.gn n ≠ .live g b c k) → g < w.heap.size → (∀ n, at' n ≠ some g) ∧ (∀ n b c k, at'.gn n ≠ .live g b c k) ∧ w'.heap[g]? = w.heap[g]?
  out : at'.out = at_.out
  new : ∀ n g, at' n = some g → at_ n = some g ∨ w.heap.size ≤ g
  gname : ∀ n, at_.gn n = .unborn ∨ at'.gn n = at_.gn n ∨ at'.gn n = (at_.gn n).kill
  gnew : ∀ n g b c k, at'.gn n = .live g b c k → (∃ m b' c' k', at_.gn m = .live g b' c' k') ∨ w.heap.size ≤ g

theorem Later.fix {at_ at' : At} {w w' : World} (h : Later at_ w at' w') (g : Nat) (hg : Fix at_ g) (hl : g < w.heap.size) : Fix at' g ∧ w'.heap[g]? = w.heap[g]? := by
  obtain ⟨h1, h2, h3⟩ := h.keep g hg.1 hg.2.2 hl
  exact ⟨⟨h1, by rw [h.out]; exact hg.2.1, h2⟩, h3⟩
theorem Later.refl (at_ : At) (w : World) : Later at_ w at_ w := ⟨rfl, rfl, rfl, Nat.le_refl _, fun _ _ h => h, fun _ h h' _ => ⟨h, h', rfl⟩, rfl, fun _ _ h => .inl h, fun _ => .inr (.inl rfl), fun n _ b c k h => .inl ⟨n, b, c, k, h⟩⟩
theorem Later.trans {a b c : At} {u v w : World} (h : Later a u b v) (k : Later b v c w) : Later a u c w :=
  ⟨k.os.trans h.os, k.tape.trans h.tape, k.output.trans h.output, Nat.le_trans h.size k.size, fun n g e => k.name n g (h.name n g e),
   fun g hg hg' hl => by
    obtain ⟨h1, h2, h3⟩ := h.keep g hg hg' hl
    obtain ⟨k1, k2, k3⟩ := k.keep g h1 h2 (Nat.lt_of_lt_of_le hl h.size)
    exact ⟨k1, k2, k3.trans h3⟩, k.out.trans h.out, fun n g e => by
    rcases k.new n g e with e | e
    · exact h.new n g e
    · exact .inr (Nat.le_trans h.size e),
   fun n => by
    rcases h.gname n with e | e | e
    · exact .inl e
    · rcases k.gname n with f | f | f
      · exact .inl (e ▸ f)
      · exact .inr (.inl (f.trans e))
      · exact .inr (.inr (by rw [f, e]))
    · rcases k.gname n with f | f | f
      · rw [e, GN.kill_unborn] at f; exact .inl f
      · exact .inr (.inr (f.trans e))
      · exact .inr (.inr (by rw [f, e, GN.kill_kill])),
   fun n g b' c' k' e => by
    rcases k.gnew n g b' c' k' e with ⟨m, b2, c2, k2, e'⟩ | e'
    · exact h.gnew m g b2 c2 k2 e'
    · exact .inr (Nat.le_trans h.size e')⟩
theorem Later.drew (at_ : At) (w : World) : Later at_ w at_ w.drew := ⟨rfl, rfl, rfl, Nat.le_refl _, fun _ _ h => h, fun _ h h' _ => ⟨h, h', rfl⟩, rfl, fun _ _ h => .inl h, fun _ => .inr (.inl rfl), fun n _ b c k h => .inl ⟨n, b, c, k, h⟩⟩

theorem cell_of_heap {w w' : World} {a : Addr} (h : w'.heap[a.block]? = w.heap[a.block]?) : w'.cell? a = w.cell? a := World.cell?_of_block h
theorem block_add (a : Addr) (n : Nat) : (a.add n).block = a.block := by unfold Addr.add; split <;> rfl
theorem lt_of_heap {w : World} {g : Nat} {o : Obj} (h : w.heap[g]? = some o) : g < w.heap.size := (Array.getElem?_eq_some_iff.1 h).1

section
variable {at_ at' : At} {w w' : World}
mutual
theorem Rel.later (h : Later at_ w at' w') : ∀ (s : SV) (v : Value), Rel at_ w s v → Rel at' w' s v
  | .i64 _, _, r => by simpa only [Rel] using r
  | .u64 _, _, r => by simpa only [Rel] using r
  | .u32 _, _, r => by simpa only [Rel] using r
  | .u8 _, _, r => by simpa only [Rel] using r
  | .bool _, _, r => by simpa only [Rel] using r
  | .val _, _, r => by simpa only [Rel] using r
  | .undef, _, r => by simpa only [Rel] using r
  | .any, _, _ => by simp only [Rel]
  | .ptr _ _, _, r => by
    simp only [Rel] at r ⊢
    obtain ⟨g, h1, h2⟩ := r
    exact ⟨g, h.name _ _ h1, h2⟩
  | .slc _ _ _ _, _, r => by
    simp only [Rel] at r ⊢
    obtain ⟨g, h1, h2⟩ := r
    exact ⟨g, h.name _ _ h1, h2⟩
  | .sl b lo len, v, r => by
    simp only [Rel] at r ⊢
    obtain ⟨h1, h2, h3, h4⟩ := r
    rcases h.gname b with e | e | e
    · exact absurd e h1
    · rw [e]; exact ⟨h1, h2, h3, h4⟩
    · rw [e, GN.kill_shape]
      exact ⟨fun h => h1 (GN.kill_unborn.1 h), fun h => h2 (GN.kill_nil.1 h), h3, h4⟩
  | .lp b i, v, r => by
    simp only [Rel] at r ⊢
    obtain ⟨h1, h2, h3, h4⟩ := r
    rcases h.gname b with e | e | e
    · exact absurd e h1
    · rw [e]; exact ⟨h1, h2, h3, h4⟩
    · rw [e, GN.kill_shape]
      exact ⟨fun h => h1 (GN.kill_unborn.1 h), fun h => h2 (GN.kill_nil.1 h), h3, h4⟩
  | .own _, _, r => by simp only [Rel] at r
  | .lst _, _, r => by
    simp only [Rel] at r ⊢
    obtain ⟨a, c, h1, h2, h3⟩ := r
    refine ⟨a, c, h1, h2, fun j u hj => ?_⟩
    obtain ⟨ad, e1, e2, e3⟩ := h3 j u hj
    have hl : ad.block < w.heap.size := by have := block_lt_of_cell e3; rwa [block_add] at this
    obtain ⟨f1, f2⟩ := h.fix _ e2 hl
    exact ⟨ad, e1, f1, (cell_of_heap (by rw [block_add]; exact f2)).trans e3⟩
  | .lel x, _, r => by
    simp only [Rel] at r ⊢
    obtain ⟨ad, u, h1, h2, h3, h4⟩ := r
    obtain ⟨f1, f2⟩ := h.fix _ h2 (block_lt_of_cell h3)
    exact ⟨ad, u, h1, f1, (cell_of_heap f2).trans h3, Rel.later h x u h4⟩
  | .ro cs _, _, r => by
    simp only [Rel] at r ⊢
    obtain ⟨g, ty, fz, vs, h1, h2, h3, h4⟩ := r
    obtain ⟨f1, f2⟩ := h.fix _ h2 (lt_of_heap h3)
    exact ⟨g, ty, fz, vs, h1, f1, f2.trans h3, RelL.later h cs vs h4⟩
  | .agg cs, _, r => by
    simp only [Rel] at r ⊢
    obtain ⟨vs, h1, h2⟩ := r
    exact ⟨vs, h1, RelL.later h cs vs h2⟩
  | .tup cs, _, r => by
    simp only [Rel] at r ⊢
    obtain ⟨vs, h1, h2⟩ := r
    exact ⟨vs, h1, RelL.later h cs vs h2⟩
  | .fn _ cs, _, r => by
    simp only [Rel] at r ⊢
    obtain ⟨vs, h1, h2⟩ := r
    exact ⟨vs, h1, RelL.later h cs vs h2⟩
theorem RelL.later (h : Later at_ w at' w') : ∀ (s : List SV) (v : List Value), RelL at_ w s v → RelL at' w' s v
  | [], _, r => by simpa only [RelL] using r
  | c :: cs, _, r => by
    simp only [RelL] at r ⊢
    obtain ⟨v, vs, h1, h2, h3⟩ := r
    exact ⟨v, vs, h1, Rel.later h c v h2, RelL.later h cs vs h3⟩
end
end

section
variable {at_ : At} {w : World}
theorem RelL.length : ∀ {s : List SV} {v : List Value}, RelL at_ w s v → v.length = s.length
  | [], _, r => by simp only [RelL] at r; simp [r]
  | _ :: cs, _, r => by
    simp only [RelL] at r
    obtain ⟨v, vs, rfl, _, h3⟩ := r
    simp [RelL.length h3]
theorem RelL.get : ∀ {s : List SV} {v : List Value}, RelL at_ w s v → ∀ (i : Nat) (c : SV), s[i]? = some c → ∃ u, v[i]? = some u ∧ Rel at_ w c u
  | [], _, _, i, c, hi => by simp at hi
  | d :: cs, _, r, i, c, hi => by
    simp only [RelL] at r
    obtain ⟨v, vs, rfl, h2, h3⟩ := r
    cases i with
    | zero => simp at hi; subst hi; exact ⟨v, rfl, h2⟩
    | succ i => simp at hi; obtain ⟨u, h4, h5⟩ := RelL.get h3 i c hi; exact ⟨u, by simpa using h4, h5⟩
theorem RelL.set : ∀ {s : List SV} {v : List Value}, RelL at_ w s v → ∀ (i : Nat) (c : SV) (u : Value), Rel at_ w c u → RelL at_ w (s.set i c) (v.set i u)
  | [], _, r, i, c, u, _ => by simp only [RelL] at r; subst r; simp [RelL]
  | d :: cs, _, r, i, c, u, hu => by
    simp only [RelL] at r
    obtain ⟨v, vs, rfl, h2, h3⟩ := r
    cases i with
    | zero => simp only [List.set_cons_zero, RelL]; exact ⟨u, vs, rfl, hu, h3⟩
    | succ i => simp only [List.set_cons_succ, RelL]; exact ⟨v, vs.set i u, rfl, h2, RelL.set h3 i c u hu⟩
theorem RelL.take : ∀ {s : List SV} {v : List Value}, RelL at_ w s v → ∀ (n : Nat), RelL at_ w (s.take n) (v.take n)
  | [], _, r, n => by simp only [RelL] at r; subst r; simp [RelL]
  | d :: cs, _, r, n => by
    have r0 := r
    simp only [RelL] at r
    obtain ⟨v, vs, rfl, h2, h3⟩ := r
    cases n with
    | zero => simp [RelL]
    | succ n => simp only [List.take_succ_cons, RelL]; exact ⟨v, _, rfl, h2, RelL.take h3 n⟩
theorem RelL.drop : ∀ {s : List SV} {v : List Value}, RelL at_ w s v → ∀ (n : Nat), RelL at_ w (s.drop n) (v.drop n)
  | [], _, r, n => by simp only [RelL] at r; subst r; simp [RelL]
  | d :: cs, _, r, n => by
    have r0 := r
    simp only [RelL] at r
    obtain ⟨v, vs, rfl, h2, h3⟩ := r
    cases n with
    | zero => simpa using r0
    | succ n => simp only [List.drop_succ_cons]; exact RelL.drop h3 n
theorem RelL.append : ∀ {s t : List SV} {v u : List Value}, RelL at_ w s v → RelL at_ w t u → RelL at_ w (s ++ t) (v ++ u)
  | [], _, _, _, r, k => by simp only [RelL] at r; subst r; simpa using k
  | d :: cs, _, _, _, r, k => by
    simp only [RelL] at r
    obtain ⟨v, vs, rfl, h2, h3⟩ := r
    simp only [List.cons_append, RelL]
    exact ⟨v, _, rfl, h2, RelL.append h3 k⟩
theorem RelL.cons {c : SV} {cs : List SV} {v : Value} {vs : List Value} (h : Rel at_ w c v) (h' : RelL at_ w cs vs) : RelL at_ w (c :: cs) (v :: vs) := by
  simp only [RelL]; exact ⟨v, vs, rfl, h, h'⟩
theorem RelL.nil : RelL at_ w [] [] := by simp only [RelL]
theorem RelL.replicate (n : Nat) {c : SV} {v : Value} (h : Rel at_ w c v) : RelL at_ w (List.replicate n c) (List.replicate n v) := by
  induction n with
  | zero => exact RelL.nil
  | succ n ih => exact RelL.cons h ih
end

/-- A literal value as a symbolic one. -/
def SV.ofV : Value → SV
  | .int .i64 n => .i64 n
  | .int .u64 n => if 0 ≤ n ∧ n < 18446744073709551616 then .u64 (UInt64.ofNat n.toNat) else .val (.int .u64 n)
  | .int .u32 n => if 0 ≤ n ∧ n < 4294967296 then .u32 (UInt32.ofNat n.toNat) else .val (.int .u32 n)
  | .int .u8 n => if 0 ≤ n ∧ n < 256 then .u8 (UInt8.ofNat n.toNat) else .val (.int .u8 n)
  | .bool b => .bool b
  | v => .val v
theorem Rel.ofV (at_ : At) (w : World) (v : Value) : Rel at_ w (SV.ofV v) v := by
  unfold SV.ofV
  split <;> (try split) <;> simp only [Rel] <;> (rename_i n h; simp; omega)
theorem RelL.ofV (at_ : At) (w : World) : ∀ vs : List Value, RelL at_ w (vs.map SV.ofV) vs
  | [] => RelL.nil
  | v :: vs => RelL.cons (Rel.ofV at_ w v) (RelL.ofV at_ w vs)

end Go.Sym
