/- The symbolic machine's operations are right: what two arrays have in common; one operation on two numbers; parts laid into cells. -/
import Derived.Test.YthechjccpljljaaSym3
import Derived.ChangeKeysEq
namespace Go.Sym
open Go.RowKit

section
variable {P : Program} {at_ : At} {w : World}
theorem run_part_one {e : TypeId} {i : TI} (h : TIOK P e i) (ha : i.d.agg = false) {cs : Array Value} {off : Nat} {v : Value} (hv : cs[off]? = some v) : (part e cs off).run P w = .ok v w := by
  simp [part, h.isAgg, ha, hv]
theorem run_part_agg {e : TypeId} {i : TI} (h : TIOK P e i) (ha : i.d.agg = true) {vs : List Value} {off : Nat} : (part e (List.toArray vs) off).run P w = .ok (.agg (List.toArray ((vs.drop off).take i.size))) w := by
  simp [part, h.isAgg, ha, h.sizeOf]

theorem eqItems_cells {e : TypeId} {j : TI} (hj : TIOK P e j) (hjd : j.d = .int .u64) (l : List (UInt64 × UInt64)) (d : Nat) : ∀ (k m : Nat), m + k = l.length →
    (Op.eqItems (d + 1) e 1 (List.toArray (l.map fun p => .int .u64 (p.1.toNat : Int))) (List.toArray (l.map fun p => .int .u64 (p.2.toNat : Int))) (List.range' m k)).run P w = .ok ((l.drop m).all fun p => p.1 == p.2) w := by
  have he := hj.int hjd
  intro k
  induction k with
  | zero => intro m hm; have : l.drop m = [] := by simp; omega
            simp [this, Op.eqItems]
  | succ k ih =>
    intro m hm
    have hlt : m < l.length := by omega
    have h1 : (part e (List.toArray (l.map fun p => (.int .u64 (p.1.toNat : Int) : Value))) (m * 1)).run P w = .ok (.int .u64 (l[m].1.toNat : Int)) w := run_part_one hj (by rw [hjd]; rfl) (by simp [hlt])
    have h2 : (part e (List.toArray (l.map fun p => (.int .u64 (p.2.toNat : Int) : Value))) (m * 1)).run P w = .ok (.int .u64 (l[m].2.toNat : Int)) w := run_part_one hj (by rw [hjd]; rfl) (by simp [hlt])
    have h3 : (Op.equalIn (d + 1) e (.int .u64 (l[m].1.toNat : Int)) (.int .u64 (l[m].2.toNat : Int))).run P w = .ok (l[m].1 == l[m].2) w := by rw [run_equalIn_int w d e _ _ _ _ he, u64_beq]
    have hd : l.drop m = l[m] :: l.drop (m + 1) := List.drop_eq_getElem_cons hlt
    rw [List.range'_succ, Op.eqItems]
    simp only [Sem.run_bind, h1, h2, h3, Result.andThen_ok]
    rw [hd, List.all_cons]
    cases hb : l[m].1 == l[m].2
    · simp only [Bool.not_false, if_true, Sem.run_pure, Bool.false_and]
    · simp only [Bool.not_true, Bool.false_eq_true, if_false, Bool.true_and]
      exact ih (m + 1) (by omega)

theorem run_equal_cells {t e : TypeId} {n : Nat} {i j : TI} (hi : TIOK P t i) (hj : TIOK P e j) (hid : i.d = .array n e) (hjd : j.d = .int .u64) (hjs : j.size = 1) {xs ys : List SV} {us vs : List Value} {b : Bool}
    (h : eqCells xs ys = some b) (hx : RelL at_ w xs us) (hy : RelL at_ w ys vs) (hl : xs.length = n) :
    (Op.equal t (.agg (List.toArray us)) (.agg (List.toArray vs))).run P w = .ok b w := by
  obtain ⟨l, rfl, rfl, rfl⟩ := eqCells_ok h hx hy
  have hln : l.length = n := by have := hx.length; simp at this; omega
  obtain ⟨x, z, h1, h2, h3, h4, h5⟩ := hj.ti
  have hc : P.cellsOf e = 1 := by simp [Program.cellsOf, h1, h4, hjs]
  have := run_equalIn_array (P := P) w 9999 (List.toArray (l.map fun p => (.int .u64 (p.1.toNat : Int) : Value))) (List.toArray (l.map fun p => (.int .u64 (p.2.toNat : Int) : Value))) (hi.array hid) h1
  simp only [Op.equal, Op.maxDepth, this, hc, List.range_eq_range']
  have h6 := eqItems_cells (w := w) hj hjd l 9998 l.length 0 (by omega)
  rw [hln] at h6
  simpa using h6

theorem binN_ok {op : BinOp} {x y : SV} {a b : Value} {r : SV} (t : TypeId) (hx : Rel at_ w x a) (hy : Rel at_ w y b) (h : binN op x y = some r) :
    ∃ v, (binOp op t a b).run P w = .ok v w ∧ Rel at_ w r v := by
  have shiftCase : ∀ {z : BinOp}, (y.count.bind (Sym.shift z x)) = some r → ∃ v, (binOp z t a b).run P w = .ok v w ∧ Rel at_ w r v := by
    intro z h
    cases hc : y.count with
    | none => rw [hc] at h; cases h
    | some n =>
      rw [hc] at h
      obtain ⟨k, c, rfl, h1, h2⟩ := count_ok hc hy
      exact shift_ok t k c h1 h2 hx h
  unfold binN at h
  split at h
  · exact shiftCase h
  · exact shiftCase h
  · simp only [Rel] at hx hy; subst hx; subst hy; exact binI_ok t h
  · simp only [Rel] at hx hy; subst hx; subst hy; exact binU64_ok t h
  · simp only [Rel] at hx hy; subst hx; subst hy; exact binU32_ok t h
  · simp only [Rel] at hx hy; subst hx; subst hy; exact binU8_ok t h
  · cases h
/-- What binN takes: no aggregate, no interface. -/
theorem binN_num {op : BinOp} {x y : SV} {a : Value} {r : SV} (hx : Rel at_ w x a) (h : binN op x y = some r) : (∀ cs, a ≠ .agg cs) ∧ a ≠ .nilIface := by
  have key : (∃ k n, a = .int k n) → (∀ cs, a ≠ .agg cs) ∧ a ≠ .nilIface := by
    rintro ⟨k, n, rfl⟩; exact ⟨fun _ e => (by cases e), fun e => (by cases e)⟩
  have sh : ∀ {z : BinOp} {n : Nat}, Sym.shift z x n = some r → ∃ k n, a = .int k n := by
    intro z n h
    unfold shift at h
    split at h
    all_goals first
      | (cases h; done)
      | (simp only [Rel] at hx; exact ⟨_, _, hx⟩)
  unfold binN at h
  split at h
  · cases hc : y.count with
    | none => rw [hc] at h; cases h
    | some n => rw [hc] at h; exact key (sh h)
  · cases hc : y.count with
    | none => rw [hc] at h; cases h
    | some n => rw [hc] at h; exact key (sh h)
  · simp only [Rel] at hx; exact key ⟨_, _, hx⟩
  · simp only [Rel] at hx; exact key ⟨_, _, hx⟩
  · simp only [Rel] at hx; exact key ⟨_, _, hx⟩
  · simp only [Rel] at hx; exact key ⟨_, _, hx⟩
  · cases h
theorem binB_ok {op : BinOp} {x y : SV} {a b : Value} {r : SV} {t : TypeId} (ht : P.underlying t = some .bool) (hx : Rel at_ w x a) (hy : Rel at_ w y b) (h : binB op x y = some r) :
    ((∀ cs, a ≠ .agg cs) ∧ a ≠ .nilIface) ∧ ∃ v, (binOp op t a b).run P w = .ok v w ∧ Rel at_ w r v := by
  unfold binB at h
  split at h
  all_goals first
    | (cases h; done)
    | (simp only [Option.some.injEq] at h; subst h; simp only [Rel] at hx hy ⊢; subst hx; subst hy)
  · exact ⟨⟨fun _ e => (by cases e), fun e => (by cases e)⟩, _, run_eql_bool w t _ _ ht, rfl⟩
  · exact ⟨⟨fun _ e => (by cases e), fun e => (by cases e)⟩, _, run_neq_bool w t _ _ ht, rfl⟩
theorem binP_ok {op : BinOp} {x y : SV} {a b : Value} {r : SV} {t e : TypeId} (he : P.underlying t = some (.pointer e)) (hx : Rel at_ w x a) (hy : Rel at_ w y b) (h : binP op x y = some r) :
    ((∀ cs, a ≠ .agg cs) ∧ a ≠ .nilIface) ∧ ∃ v, (binOp op t a b).run P w = .ok v w ∧ Rel at_ w r v := by
  have key : (∃ p, a = .pointer p) → (∀ cs, a ≠ .agg cs) ∧ a ≠ .nilIface := by
    rintro ⟨p, rfl⟩; exact ⟨fun _ e => (by cases e), fun e => (by cases e)⟩
  unfold binP at h
  split at h
  all_goals first
    | (cases h; done)
    | skip
  all_goals
    simp only [Option.some.injEq] at h; subst h; simp only [Rel] at hx hy ⊢
    subst hy
  · obtain ⟨g, _, rfl⟩ := hx; exact ⟨key ⟨_, rfl⟩, _, run_eql_ptr_nil he _, rfl⟩
  · obtain ⟨g, _, _, _, rfl, _⟩ := hx; exact ⟨key ⟨_, rfl⟩, _, run_eql_ptr_nil he _, rfl⟩
  · obtain ⟨g, _, rfl⟩ := hx; exact ⟨key ⟨_, rfl⟩, _, run_neq_ptr_nil he _, rfl⟩
  · obtain ⟨g, _, _, _, rfl, _⟩ := hx; exact ⟨key ⟨_, rfl⟩, _, run_neq_ptr_nil he _, rfl⟩
  · subst hx; exact ⟨key ⟨_, rfl⟩, _, run_eql_nil_nil' he, rfl⟩
  · subst hx; exact ⟨key ⟨_, rfl⟩, _, run_neq_nil_nil' he, rfl⟩

theorem una_ok {op : UnOp} {x : SV} {a : Value} {r : SV} (hx : Rel at_ w x a) (h : una op x = some r) : ∃ v, (Op.unary op a).run P w = .ok v w ∧ Rel at_ w r v := by
  unfold una at h
  split at h
  all_goals first
    | (cases h; done)
    | (simp only [Option.some.injEq] at h; subst h; simp only [Rel] at hx ⊢; subst hx)
  · exact ⟨_, by simp [Op.unary], rfl⟩
  · rename_i x
    have hx := u64_lt x
    refine ⟨.int .u64 (IntKind.u64.wrap (0 - (x.toNat : Int))), by simp [Op.unary, Op.intArith], ?_⟩
    rw [wrap_u64, UInt64.toNat_sub]
    have : (0 : UInt64).toNat = 0 := rfl
    rw [this]
    congr 1
    omega
  · rename_i n
    exact ⟨.int .i64 (IntKind.i64.wrap (0 - n)), by simp [Op.unary, Op.intArith], rfl⟩
  · rename_i x
    have hx := u64_lt x
    refine ⟨.int .u64 (IntKind.u64.wrap ((BitVec.ofInt 64 IntKind.u64.max ^^^ BitVec.ofInt 64 (x.toNat : Int)).toNat : Int)), rfl, ?_⟩
    have e1 : BitVec.ofInt 64 IntKind.u64.max = BitVec.allOnes 64 := by decide
    rw [bv64, e1, BitVec.allOnes_xor]
    exact congrArg (Value.int .u64) (wrap_nat64 (~~~x))
  · rename_i x
    have hx := u32_lt x
    refine ⟨.int .u32 (IntKind.u32.wrap ((BitVec.ofInt 32 IntKind.u32.max ^^^ BitVec.ofInt 32 (x.toNat : Int)).toNat : Int)), rfl, ?_⟩
    have e1 : BitVec.ofInt 32 IntKind.u32.max = BitVec.allOnes 32 := by decide
    rw [bv32, e1, BitVec.allOnes_xor]
    exact congrArg (Value.int .u32) (wrap_nat32 (~~~x))

theorem wrap_i64_id {n : Int} (h : -9223372036854775808 ≤ n) (h' : n < 9223372036854775808) : IntKind.i64.wrap n = n := by
  simp [IntKind.wrap, IntKind.signed, IntKind.bits]
  split <;> omega

theorem ofInt64 (n : Int) : (UInt64.ofInt n).toNat = (n % 18446744073709551616).toNat := by simp [UInt64.ofInt]; omega
theorem ofInt32 (n : Int) : (UInt32.ofInt n).toNat = (n % 4294967296).toNat := by simp [UInt32.ofInt]; omega
theorem ofInt8 (n : Int) : (UInt8.ofInt n).toNat = (n % 256).toNat := by simp [UInt8.ofInt]; omega
theorem conv_ok {k : IntKind} {x : SV} {a : Value} {r : SV} {src dst : TypeId} (hs : ∃ d, P.underlying src = some d) (ht : P.underlying dst = some (.int k)) (hx : Rel at_ w x a) (h : conv k x = some r) :
    ∃ v, (convert src dst a).run P w = .ok v w ∧ Rel at_ w r v := by
  obtain ⟨d, hd⟩ := hs
  have run : ∀ j n, (convert src dst (.int j n)).run P w = .ok (.int k (k.wrap n)) w := fun j n => by
    simp only [convert, Sem.run_bind, run_underlying hd, run_underlying ht, Result.andThen_ok, Conv.intToInt, Sem.run_pure]
  unfold conv at h
  split at h
  all_goals first
    | (cases h; done)
    | (simp only [Option.some.injEq] at h; subst h; simp only [Rel] at hx ⊢; subst hx; refine ⟨_, run _ _, ?_⟩)
  · rfl
  · rfl
  · rename_i x; have := u32_lt x; rw [wrap_i64_id (by omega) (by omega)]
  · rename_i x; have := u8_lt x; rw [wrap_i64_id (by omega) (by omega)]
  · rename_i n
    rw [wrap_u64, ofInt64]
    congr 1
    omega
  · rename_i x; rw [wrap_nat64]
  · rename_i x; have := u32_lt x; rw [wrap_u64, UInt32.toNat_toUInt64]; congr 1; omega
  · rename_i x; have := u8_lt x; rw [wrap_u64, UInt8.toNat_toUInt64]; congr 1; omega
  · rename_i x; rw [wrap_u32, UInt64.toNat_toUInt32]; congr 1
  · rename_i x; rw [wrap_nat32]
  · rename_i x; have := u8_lt x; rw [wrap_u32, UInt8.toNat_toUInt32]; congr 1; omega
  · rename_i n
    rw [wrap_u32, ofInt32]
    congr 1
    omega
  · rename_i x; rw [wrap_u8, UInt64.toNat_toUInt8]; congr 1
  · rename_i x; rw [wrap_u8, UInt32.toNat_toUInt8]; congr 1
  · rename_i x; rw [wrap_nat8]
  · rename_i n
    rw [wrap_u8, ofInt8]
    congr 1
    omega

/-- Parts laid into cells: the model's way. -/
theorem foldl_set (vs : List Value) : ∀ (off k : Nat) (cells : Array Value), off + k + vs.length ≤ cells.size →
    (vs.zipIdx k).foldl (fun (cs : Array Value) (p : Value × Nat) => cs.setIfInBounds (off + p.2) p.1) cells = (cells.toList.take (off + k) ++ vs ++ cells.toList.drop (off + k + vs.length)).toArray := by
  induction vs with
  | nil => intro off k cells _; simp
  | cons v vs ih =>
    intro off k cells hl
    simp only [List.zipIdx_cons, List.foldl_cons]
    rw [ih off (k + 1) _ (by simp at hl ⊢; omega)]
    congr 1
    have hk : off + k < cells.toList.length := by simp only [List.length_cons] at hl; simp only [Array.length_toList]; omega
    simp only [Array.toList_setIfInBounds, List.length_cons]
    rw [show off + (k + 1) = off + k + 1 by omega, List.take_set, List.drop_set_of_lt (by omega), List.take_succ_eq_append_getElem hk, List.set_append_right _ _ (by simp; omega)]
    have hz : off + k - (List.take (off + k) cells.toList).length = 0 := by simp at hk ⊢; omega
    rw [hz]
    simp [Nat.add_assoc, Nat.add_comm 1]
theorem fill_ok {place : Nat → Option (Nat × Nat)} : ∀ (parts : List (Nat × SV)) (vparts : List (Nat × Value)) (cells : List SV) (vcells : List Value) (out : List SV), fillL place cells parts = some out → RelL at_ w cells vcells →
    vparts.map (·.1) = parts.map (·.1) → (∀ (i : Nat) (p : Nat × SV) (q : Nat × Value), parts[i]? = some p → vparts[i]? = some q → Rel at_ w p.2 q.2) → ∃ vout, Instr.fill place (List.toArray vcells) vparts = some (List.toArray vout) ∧ RelL at_ w out vout
  | [], vparts, cells, vcells, out, h, hc, hm, _ => by
    simp only [List.map_nil, List.map_eq_nil_iff] at hm
    subst hm
    simp only [fillL, Option.some.injEq] at h
    subst h
    exact ⟨vcells, rfl, hc⟩
  | (i, v) :: rest, vparts, cells, vcells, out, h, hc, hm, hp => by
    cases vparts with
    | nil => simp at hm
    | cons q vrest =>
      obtain ⟨i', u⟩ := q
      simp only [List.map_cons, List.cons.injEq] at hm
      obtain ⟨hi, hm⟩ := hm
      subst hi
      simp only [fillL] at h
      simp only [Instr.fill]
      cases hpl : place i' with
      | none => rw [hpl] at h; cases h
      | some os =>
        obtain ⟨off, size⟩ := os
        rw [hpl] at h
        cases hv : v.cells? with
        | none => simp only [hv] at h; cases h
        | some vs =>
          simp only [hv] at h
          split at h
          · rename_i hcond
            obtain ⟨h1, h2⟩ := hcond
            have hr := hp 0 (i', v) (i', u) rfl rfl
            obtain ⟨h3, _⟩ := Rel.cells hv hr
            have hlen := h3.length
            have hclen := hc.length
            have hne : ¬ (u.cells.size ≠ size ∨ off + u.cells.size > (List.toArray vcells).size) := by
              simp at hlen ⊢; omega
            have hfold : (u.cells.zipIdx.foldl (fun (cs : Array Value) (p : Value × Nat) => cs.setIfInBounds (off + p.2) p.1) (List.toArray vcells)) = (vcells.take off ++ u.cells.toList ++ vcells.drop (off + u.cells.toList.length)).toArray := by
              have := foldl_set u.cells.toList off 0 (List.toArray vcells) (by simp at hlen ⊢; omega)
              simp only [Nat.add_zero] at this
              rw [← this, ← Array.foldl_toList, Array.toList_zipIdx]
            have hb : (decide (u.cells.size ≠ size) || decide (off + u.cells.size > (List.toArray vcells).size)) = false := by
              simp at hne ⊢; exact hne
            simp only [hb, Bool.false_eq_true, if_false]
            rw [hfold]
            refine fill_ok rest vrest _ _ out h (RelL.append (RelL.append (hc.take off) h3) ?_) hm (fun j p q e1 e2 => hp (j + 1) p q (by simpa using e1) (by simpa using e2))
            rw [hlen]; exact hc.drop _
          · cases h
end
end Go.Sym
