/- The symbolic machine's operations are right: numbers. -/
import Derived.Test.YthechjccpljljaaSym2
namespace Go.Sym
open Go.RowKit

theorem wrap_u64 (n : Int) : IntKind.u64.wrap n = n % 18446744073709551616 := by simp [IntKind.wrap, IntKind.signed, IntKind.bits]
theorem wrap_u32 (n : Int) : IntKind.u32.wrap n = n % 4294967296 := by simp [IntKind.wrap, IntKind.signed, IntKind.bits]
theorem wrap_u8 (n : Int) : IntKind.u8.wrap n = n % 256 := by simp [IntKind.wrap, IntKind.signed, IntKind.bits]
theorem u64_lt (x : UInt64) : x.toNat < 18446744073709551616 := x.toNat_lt
theorem u32_lt (x : UInt32) : x.toNat < 4294967296 := x.toNat_lt
theorem u8_lt (x : UInt8) : x.toNat < 256 := x.toNat_lt

section
variable {P : Program} {at_ : At} {w : World}
theorem u64_beq (x y : UInt64) : ((x.toNat : Int) == (y.toNat : Int)) = (x == y) := by
  rw [Bool.eq_iff_iff]; simp [← UInt64.toNat_inj, Int.ofNat_inj]
theorem u32_beq (x y : UInt32) : ((x.toNat : Int) == (y.toNat : Int)) = (x == y) := by
  rw [Bool.eq_iff_iff]; simp [← UInt32.toNat_inj, Int.ofNat_inj]
theorem u8_beq (x y : UInt8) : ((x.toNat : Int) == (y.toNat : Int)) = (x == y) := by
  rw [Bool.eq_iff_iff]; simp [← UInt8.toNat_inj, Int.ofNat_inj]
theorem i_bne (x y : Int) : (x != y) = !(x == y) := rfl


theorem r_add (t : TypeId) (k : IntKind) (a b : Int) : (binOp .add t (.int k a) (.int k b)).run P w = .ok (.int k (k.wrap (a + b))) w := by simp [binOp, Op.intArith]
theorem r_sub (t : TypeId) (k : IntKind) (a b : Int) : (binOp .sub t (.int k a) (.int k b)).run P w = .ok (.int k (k.wrap (a - b))) w := by simp [binOp, Op.intArith]
theorem r_mul (t : TypeId) (k : IntKind) (a b : Int) : (binOp .mul t (.int k a) (.int k b)).run P w = .ok (.int k (k.wrap (a * b))) w := by simp [binOp, Op.intArith]
theorem r_quo (t : TypeId) (k : IntKind) (a b : Int) (h : b ≠ 0) : (binOp .quo t (.int k a) (.int k b)).run P w = .ok (.int k (k.wrap (a.tdiv b))) w := by simp [binOp, Op.intDiv, h]
theorem r_rem (t : TypeId) (k : IntKind) (a b : Int) (h : b ≠ 0) : (binOp .rem t (.int k a) (.int k b)).run P w = .ok (.int k (a.tmod b)) w := by simp [binOp, Op.intDiv, h]
theorem r_and (t : TypeId) (k : IntKind) (a b : Int) : (binOp .and t (.int k a) (.int k b)).run P w = .ok (.int k (k.wrap ((BitVec.ofInt k.bits a &&& BitVec.ofInt k.bits b).toNat : Int))) w := by simp [binOp, Op.intBits]
theorem r_or (t : TypeId) (k : IntKind) (a b : Int) : (binOp .or t (.int k a) (.int k b)).run P w = .ok (.int k (k.wrap ((BitVec.ofInt k.bits a ||| BitVec.ofInt k.bits b).toNat : Int))) w := by simp [binOp, Op.intBits]
theorem r_xor (t : TypeId) (k : IntKind) (a b : Int) : (binOp .xor t (.int k a) (.int k b)).run P w = .ok (.int k (k.wrap ((BitVec.ofInt k.bits a ^^^ BitVec.ofInt k.bits b).toNat : Int))) w := by simp [binOp, Op.intBits]
theorem r_andNot (t : TypeId) (k : IntKind) (a b : Int) : (binOp .andNot t (.int k a) (.int k b)).run P w = .ok (.int k (k.wrap ((BitVec.ofInt k.bits a &&& ~~~(BitVec.ofInt k.bits b)).toNat : Int))) w := by simp [binOp, Op.intBits]
theorem r_eql (t : TypeId) (k : IntKind) (a b : Int) : (binOp .eql t (.int k a) (.int k b)).run P w = .ok (.bool (a == b)) w := by simp [binOp, Op.intCmp]
theorem r_neq (t : TypeId) (k : IntKind) (a b : Int) : (binOp .neq t (.int k a) (.int k b)).run P w = .ok (.bool (a != b)) w := by simp [binOp, Op.intCmp]
theorem r_lss (t : TypeId) (k : IntKind) (a b : Int) : (binOp .lss t (.int k a) (.int k b)).run P w = .ok (.bool (decide (a < b))) w := by simp [binOp, Op.intCmp]
theorem r_leq (t : TypeId) (k : IntKind) (a b : Int) : (binOp .leq t (.int k a) (.int k b)).run P w = .ok (.bool (decide (a ≤ b))) w := by simp [binOp, Op.intCmp]
theorem r_gtr (t : TypeId) (k : IntKind) (a b : Int) : (binOp .gtr t (.int k a) (.int k b)).run P w = .ok (.bool (decide (a > b))) w := by simp [binOp, Op.intCmp]
theorem r_geq (t : TypeId) (k : IntKind) (a b : Int) : (binOp .geq t (.int k a) (.int k b)).run P w = .ok (.bool (decide (a ≥ b))) w := by simp [binOp, Op.intCmp]
theorem r_shl (t : TypeId) (k yk : IntKind) (a c : Int) (hc : 0 ≤ c) : (binOp .shl t (.int k a) (.int yk c)).run P w = .ok (.int k (k.wrap (a * 2 ^ (min c.toNat k.bits)))) w := by
  have hc' : ¬ c < 0 := by omega
  simp [binOp, Op.shift, hc']
theorem r_shr (t : TypeId) (k yk : IntKind) (a c : Int) (hc : 0 ≤ c) : (binOp .shr t (.int k a) (.int yk c)).run P w = .ok (.int k (a.fdiv (2 ^ (min c.toNat k.bits)))) w := by
  have hc' : ¬ c < 0 := by omega
  simp [binOp, Op.shift, hc']

theorem bv64 (x : UInt64) : BitVec.ofInt 64 (x.toNat : Int) = x.toBitVec := by simp
theorem bv32 (x : UInt32) : BitVec.ofInt 32 (x.toNat : Int) = x.toBitVec := by simp
theorem bv8 (x : UInt8) : BitVec.ofInt 8 (x.toNat : Int) = x.toBitVec := by simp
theorem wrap_nat64 (x : UInt64) : IntKind.u64.wrap (x.toNat : Int) = (x.toNat : Int) := by have := u64_lt x; rw [wrap_u64]; omega
theorem wrap_nat32 (x : UInt32) : IntKind.u32.wrap (x.toNat : Int) = (x.toNat : Int) := by have := u32_lt x; rw [wrap_u32]; omega
theorem wrap_nat8 (x : UInt8) : IntKind.u8.wrap (x.toNat : Int) = (x.toNat : Int) := by have := u8_lt x; rw [wrap_u8]; omega

theorem binI_ok {op : BinOp} {x y : Int} {r : SV} (t : TypeId) (h : binI op x y = some r) : ∃ v, (binOp op t (.int .i64 x) (.int .i64 y)).run P w = .ok v w ∧ Rel at_ w r v := by
  cases op <;> simp only [binI] at h
  case quo =>
    split at h
    · cases h
    · rename_i hy
      simp only [Option.some.injEq] at h; subst h; simp only [Rel]
      exact ⟨_, r_quo t _ x y hy, rfl⟩
  case rem =>
    split at h
    · cases h
    · rename_i hy
      simp only [Option.some.injEq] at h; subst h; simp only [Rel]
      exact ⟨_, r_rem t _ x y hy, rfl⟩
  all_goals first
    | (cases h; done)
    | (simp only [Option.some.injEq] at h; subst h; simp only [Rel])
  case add => exact ⟨_, r_add t _ x y, rfl⟩
  case sub => exact ⟨_, r_sub t _ x y, rfl⟩
  case mul => exact ⟨_, r_mul t _ x y, rfl⟩
  case eql => exact ⟨_, r_eql t _ x y, rfl⟩
  case neq => exact ⟨_, r_neq t _ x y, rfl⟩
  case lss => exact ⟨_, r_lss t _ x y, rfl⟩
  case leq => exact ⟨_, r_leq t _ x y, rfl⟩
  case gtr => exact ⟨_, r_gtr t _ x y, rfl⟩
  case geq => exact ⟨_, r_geq t _ x y, rfl⟩

theorem binU64_ok {op : BinOp} {x y : UInt64} {r : SV} (t : TypeId) (h : binU64 op x y = some r) : ∃ v, (binOp op t (.int .u64 (x.toNat : Int)) (.int .u64 (y.toNat : Int))).run P w = .ok v w ∧ Rel at_ w r v := by
  have hx := u64_lt x
  have hy := u64_lt y
  have hy0 : y = 0 ↔ (y.toNat : Int) = 0 := by rw [← UInt64.toNat_inj]; simp
  cases op <;> simp only [binU64] at h
  case shl => cases h
  case shr => cases h
  case quo =>
    split at h
    · cases h
    · rename_i h0
      rw [hy0] at h0
      simp only [Option.some.injEq] at h; subst h; simp only [Rel]
      refine ⟨_, r_quo t _ _ _ h0, ?_⟩
      congr 1
      have : x.toNat / y.toNat ≤ x.toNat := Nat.div_le_self _ _
      rw [wrap_u64, Int.tdiv_eq_ediv_of_nonneg (by omega), UInt64.toNat_div, ← Int.natCast_ediv]
      generalize x.toNat / y.toNat = q at *
      omega
  case rem =>
    split at h
    · cases h
    · rename_i h0
      rw [hy0] at h0
      simp only [Option.some.injEq] at h; subst h; simp only [Rel]
      refine ⟨_, r_rem t _ _ _ h0, ?_⟩
      rw [Int.tmod_eq_emod_of_nonneg (by omega), UInt64.toNat_mod, Int.natCast_emod]
  all_goals (simp only [Option.some.injEq] at h; subst h; simp only [Rel])
  case add => exact ⟨_, r_add t _ _ _, by rw [wrap_u64, UInt64.toNat_add]; congr 1⟩
  case sub => exact ⟨_, r_sub t _ _ _, by rw [wrap_u64, UInt64.toNat_sub]; congr 1; omega⟩
  case mul => exact ⟨_, r_mul t _ _ _, by rw [wrap_u64, UInt64.toNat_mul, Int.natCast_emod, Int.natCast_mul]; rfl⟩
  case and => exact ⟨_, r_and t _ _ _, by simp only [IntKind.bits, bv64]; exact congrArg (Value.int .u64) (wrap_nat64 (x &&& y))⟩
  case or => exact ⟨_, r_or t _ _ _, by simp only [IntKind.bits, bv64]; exact congrArg (Value.int .u64) (wrap_nat64 (x ||| y))⟩
  case xor => exact ⟨_, r_xor t _ _ _, by simp only [IntKind.bits, bv64]; exact congrArg (Value.int .u64) (wrap_nat64 (x ^^^ y))⟩
  case andNot => exact ⟨_, r_andNot t _ _ _, by simp only [IntKind.bits, bv64]; exact congrArg (Value.int .u64) (wrap_nat64 (x &&& ~~~y))⟩
  case eql => exact ⟨_, r_eql t _ _ _, by rw [u64_beq]⟩
  case neq => exact ⟨_, r_neq t _ _ _, by rw [i_bne, u64_beq]; rfl⟩
  case lss => exact ⟨_, r_lss t _ _ _, by congr 1; rw [decide_eq_decide, UInt64.lt_iff_toNat_lt]; omega⟩
  case leq => exact ⟨_, r_leq t _ _ _, by congr 1; rw [decide_eq_decide, UInt64.le_iff_toNat_le]; omega⟩
  case gtr => exact ⟨_, r_gtr t _ _ _, by congr 1; rw [decide_eq_decide, UInt64.lt_iff_toNat_lt]; omega⟩
  case geq => exact ⟨_, r_geq t _ _ _, by congr 1; rw [decide_eq_decide, UInt64.le_iff_toNat_le]; omega⟩

theorem binU32_ok {op : BinOp} {x y : UInt32} {r : SV} (t : TypeId) (h : binU32 op x y = some r) : ∃ v, (binOp op t (.int .u32 (x.toNat : Int)) (.int .u32 (y.toNat : Int))).run P w = .ok v w ∧ Rel at_ w r v := by
  have hx := u32_lt x
  have hy := u32_lt y
  cases op <;> simp only [binU32] at h
  all_goals first
    | (cases h; done)
    | (simp only [Option.some.injEq] at h; subst h; simp only [Rel])
  case add => exact ⟨_, r_add t _ _ _, by rw [wrap_u32, UInt32.toNat_add]; congr 1⟩
  case sub => exact ⟨_, r_sub t _ _ _, by rw [wrap_u32, UInt32.toNat_sub]; congr 1; omega⟩
  case and => exact ⟨_, r_and t _ _ _, by simp only [IntKind.bits, bv32]; exact congrArg (Value.int .u32) (wrap_nat32 (x &&& y))⟩
  case or => exact ⟨_, r_or t _ _ _, by simp only [IntKind.bits, bv32]; exact congrArg (Value.int .u32) (wrap_nat32 (x ||| y))⟩
  case xor => exact ⟨_, r_xor t _ _ _, by simp only [IntKind.bits, bv32]; exact congrArg (Value.int .u32) (wrap_nat32 (x ^^^ y))⟩
  case eql => exact ⟨_, r_eql t _ _ _, by rw [u32_beq]⟩
  case neq => exact ⟨_, r_neq t _ _ _, by rw [i_bne, u32_beq]; rfl⟩

theorem binU8_ok {op : BinOp} {x y : UInt8} {r : SV} (t : TypeId) (h : binU8 op x y = some r) : ∃ v, (binOp op t (.int .u8 (x.toNat : Int)) (.int .u8 (y.toNat : Int))).run P w = .ok v w ∧ Rel at_ w r v := by
  have hx := u8_lt x
  have hy := u8_lt y
  cases op <;> simp only [binU8] at h
  all_goals first
    | (cases h; done)
    | (simp only [Option.some.injEq] at h; subst h; simp only [Rel])
  case add => exact ⟨_, r_add t _ _ _, by rw [wrap_u8, UInt8.toNat_add]; congr 1⟩
  case sub => exact ⟨_, r_sub t _ _ _, by rw [wrap_u8, UInt8.toNat_sub]; congr 1; omega⟩
  case and => exact ⟨_, r_and t _ _ _, by simp only [IntKind.bits, bv8]; exact congrArg (Value.int .u8) (wrap_nat8 (x &&& y))⟩
  case or => exact ⟨_, r_or t _ _ _, by simp only [IntKind.bits, bv8]; exact congrArg (Value.int .u8) (wrap_nat8 (x ||| y))⟩
  case xor => exact ⟨_, r_xor t _ _ _, by simp only [IntKind.bits, bv8]; exact congrArg (Value.int .u8) (wrap_nat8 (x ^^^ y))⟩
  case eql => exact ⟨_, r_eql t _ _ _, by rw [u8_beq]⟩
  case neq => exact ⟨_, r_neq t _ _ _, by rw [i_bne, u8_beq]; rfl⟩
  case lss => exact ⟨_, r_lss t _ _ _, by congr 1; rw [decide_eq_decide, UInt8.lt_iff_toNat_lt]; omega⟩
  case leq => exact ⟨_, r_leq t _ _ _, by congr 1; rw [decide_eq_decide, UInt8.le_iff_toNat_le]; omega⟩
  case gtr => exact ⟨_, r_gtr t _ _ _, by congr 1; rw [decide_eq_decide, UInt8.lt_iff_toNat_lt]; omega⟩
  case geq => exact ⟨_, r_geq t _ _ _, by congr 1; rw [decide_eq_decide, UInt8.le_iff_toNat_le]; omega⟩

theorem pow_min (a n b : Nat) (ha : a < 2 ^ b) : a / 2 ^ (min n b) = a / 2 ^ n := by
  by_cases h : n ≤ b
  · rw [Nat.min_eq_left h]
  · rw [Nat.min_eq_right (by omega), Nat.div_eq_of_lt ha, Nat.div_eq_of_lt]
    exact Nat.lt_of_lt_of_le ha (Nat.pow_le_pow_right (by omega) (by omega))
theorem mul_pow_min (a n b : Nat) : a * 2 ^ (min n b) % 2 ^ b = a * 2 ^ n % 2 ^ b := by
  by_cases h : n ≤ b
  · rw [Nat.min_eq_left h]
  · rw [Nat.min_eq_right (by omega)]
    obtain ⟨k, rfl⟩ : ∃ k, n = b + k := ⟨n - b, by omega⟩
    rw [Nat.pow_add, show a * (2 ^ b * 2 ^ k) = a * 2 ^ k * 2 ^ b by rw [Nat.mul_assoc, Nat.mul_comm (2 ^ b)], Nat.mul_mod_left, Nat.mul_mod_left]

theorem fdiv_cast (a k : Nat) : (a : Int).fdiv (2 ^ k) = ((a / 2 ^ k : Nat) : Int) := by
  have h : ((2 : Int) ^ k) = ((2 ^ k : Nat) : Int) := by simp
  rw [h, Int.fdiv_eq_ediv_of_nonneg _ (Int.natCast_nonneg _), Int.natCast_ediv]
theorem mul_cast (a k : Nat) : (a : Int) * 2 ^ k = ((a * 2 ^ k : Nat) : Int) := by simp

theorem shl64_nat (x : UInt64) (n : Nat) : (shl64 x n).toNat = x.toNat * 2 ^ n % 2 ^ 64 := by simp [shl64]
theorem shl32_nat (x : UInt32) (n : Nat) : (shl32 x n).toNat = x.toNat * 2 ^ n % 2 ^ 32 := by simp [shl32]
theorem shl8_nat (x : UInt8) (n : Nat) : (shl8 x n).toNat = x.toNat * 2 ^ n % 2 ^ 8 := by simp [shl8]
theorem shr64_nat (x : UInt64) (n : Nat) : (shr64 x n).toNat = x.toNat / 2 ^ n := by
  have h1 := u64_lt x
  have h2 : x.toNat / 2 ^ n ≤ x.toNat := Nat.div_le_self _ _
  simp only [shr64, UInt64.toNat_ofNat']
  exact Nat.mod_eq_of_lt (by omega)
theorem shr32_nat (x : UInt32) (n : Nat) : (shr32 x n).toNat = x.toNat / 2 ^ n := by
  have h1 := u32_lt x
  have h2 : x.toNat / 2 ^ n ≤ x.toNat := Nat.div_le_self _ _
  simp only [shr32, UInt32.toNat_ofNat']
  exact Nat.mod_eq_of_lt (by omega)
theorem shr8_nat (x : UInt8) (n : Nat) : (shr8 x n).toNat = x.toNat / 2 ^ n := by
  have h1 := u8_lt x
  have h2 : x.toNat / 2 ^ n ≤ x.toNat := Nat.div_le_self _ _
  simp only [shr8, UInt8.toNat_ofNat']
  exact Nat.mod_eq_of_lt (by omega)
theorem wrap_shl (a n b : Nat) : ((a : Int) * 2 ^ (min n b)) % (2 ^ b : Int) = ((a * 2 ^ n % 2 ^ b : Nat) : Int) := by
  rw [mul_cast, show (2 ^ b : Int) = ((2 ^ b : Nat) : Int) by simp, ← Int.natCast_emod, mul_pow_min]

theorem shift_ok {op : BinOp} {x : SV} {u : Value} {n : Nat} {r : SV} (t : TypeId) (yk : IntKind) (c : Int) (hc : 0 ≤ c) (hn : c.toNat = n) (hx : Rel at_ w x u) (h : shift op x n = some r) :
    ∃ v, (binOp op t u (.int yk c)).run P w = .ok v w ∧ Rel at_ w r v := by
  unfold shift at h
  split at h
  all_goals first
    | (cases h; done)
    | (simp only [Option.some.injEq] at h; subst h; simp only [Rel] at hx ⊢; subst hx)
  · exact ⟨_, r_shl t _ yk _ c hc, by rw [hn, wrap_u64, shl64_nat]; exact congrArg _ (wrap_shl _ n 64)⟩
  · rename_i x; exact ⟨_, r_shr t _ yk _ c hc, by rw [hn, fdiv_cast, shr64_nat]; simp only [IntKind.bits]; rw [pow_min _ _ _ (u64_lt x)]⟩
  · exact ⟨_, r_shl t _ yk _ c hc, by rw [hn, wrap_u32, shl32_nat]; exact congrArg _ (wrap_shl _ n 32)⟩
  · rename_i x; exact ⟨_, r_shr t _ yk _ c hc, by rw [hn, fdiv_cast, shr32_nat]; simp only [IntKind.bits]; rw [pow_min _ _ _ (u32_lt x)]⟩
  · exact ⟨_, r_shl t _ yk _ c hc, by rw [hn, wrap_u8, shl8_nat]; exact congrArg _ (wrap_shl _ n 8)⟩
  · rename_i x; exact ⟨_, r_shr t _ yk _ c hc, by rw [hn, fdiv_cast, shr8_nat]; simp only [IntKind.bits]; rw [pow_min _ _ _ (u8_lt x)]⟩
  · exact ⟨_, r_shr t _ yk _ c hc, by rw [hn]; rfl⟩

theorem count_ok {y : SV} {u : Value} {n : Nat} (h : y.count = some n) (hy : Rel at_ w y u) : ∃ k c, u = .int k c ∧ 0 ≤ c ∧ c.toNat = n := by
  cases y <;> simp only [SV.count] at h <;> simp only [Rel] at hy
  all_goals first
    | (cases h; done)
    | skip
  · split at h
    · simp at h; exact ⟨_, _, hy, by assumption, h⟩
    · cases h
  all_goals (simp at h; exact ⟨_, _, hy, by omega, by simpa using h⟩)

theorem eqIn_ptr_nil {t e : TypeId} (ht : P.underlying t = some (.pointer e)) (a : Addr) (d : Nat) : (Op.equalIn (d + 1) t (.pointer (some a)) (.pointer none)).run P w = .ok false w := by
  simp only [Op.equalIn, Sem.run_bind, run_underlying ht, Result.andThen_ok, Sem.run_pure]
theorem eqIn_nil_nil {t e : TypeId} (ht : P.underlying t = some (.pointer e)) (d : Nat) : (Op.equalIn (d + 1) t (.pointer none) (.pointer none)).run P w = .ok true w := by
  simp only [Op.equalIn, Sem.run_bind, run_underlying ht, Result.andThen_ok, Sem.run_pure, Option.isNone_none]
theorem run_eql_ptr_nil {t e : TypeId} (ht : P.underlying t = some (.pointer e)) (a : Addr) : (binOp .eql t (.pointer (some a)) (.pointer none)).run P w = .ok (.bool false) w := by
  simp only [binOp]
  have := eqIn_ptr_nil (w := w) ht a 9999
  simp only [Op.equal, Op.maxDepth, Sem.run_bind, this, Result.andThen_ok, Sem.run_pure]
theorem run_neq_ptr_nil {t e : TypeId} (ht : P.underlying t = some (.pointer e)) (a : Addr) : (binOp .neq t (.pointer (some a)) (.pointer none)).run P w = .ok (.bool true) w := by
  simp only [binOp]
  have := eqIn_ptr_nil (w := w) ht a 9999
  simp only [Op.equal, Op.maxDepth, Sem.run_bind, this, Result.andThen_ok, Sem.run_pure, Bool.not_false]
theorem run_eql_nil_nil' {t e : TypeId} (ht : P.underlying t = some (.pointer e)) : (binOp .eql t (.pointer none) (.pointer none)).run P w = .ok (.bool true) w := by
  simp only [binOp]
  have := eqIn_nil_nil (w := w) ht 9999
  simp only [Op.equal, Op.maxDepth, Sem.run_bind, this, Result.andThen_ok, Sem.run_pure]
theorem run_neq_nil_nil' {t e : TypeId} (ht : P.underlying t = some (.pointer e)) : (binOp .neq t (.pointer none) (.pointer none)).run P w = .ok (.bool false) w := by
  simp only [binOp]
  have := eqIn_nil_nil (w := w) ht 9999
  simp only [Op.equal, Op.maxDepth, Sem.run_bind, this, Result.andThen_ok, Sem.run_pure, Bool.not_true]

/-- What a type says of '==' beside numbers. -/
def EqT (P : Program) (t : TypeId) : Prop := P.underlying t = some .bool ∨ ∃ e, P.underlying t = some (.pointer e)

theorem run_guard (op : BinOp) (t : TypeId) (x y : Operand) (a b : Value) (ha : ∀ cs, a ≠ .agg cs) (hi : a ≠ .nilIface) : (eqGuard op t x y a b).run P w = .ok () w := by
  unfold eqGuard
  by_cases h : op = .eql ∨ op = .neq
  · cases a <;> first | exact absurd rfl hi | exact absurd rfl (ha _) | (rcases h with rfl | rfl <;> simp)
  · cases op <;> simp at h <;> simp

theorem eqCells_ok : ∀ {xs ys : List SV} {us vs : List Value} {b : Bool}, eqCells xs ys = some b → RelL at_ w xs us → RelL at_ w ys vs →
    ∃ l : List (UInt64 × UInt64), us = l.map (fun p => .int .u64 (p.1.toNat : Int)) ∧ vs = l.map (fun p => .int .u64 (p.2.toNat : Int)) ∧ b = l.all fun p => p.1 == p.2 := by
  intro xs
  induction xs with
  | nil =>
    intro ys us vs b h hx hy
    cases ys with
    | nil =>
      simp only [eqCells, Option.some.injEq] at h
      simp only [RelL] at hx hy
      subst hx; subst hy
      exact ⟨[], rfl, rfl, by simp [← h]⟩
    | cons y ys => simp [eqCells] at h
  | cons x xs ih =>
    intro ys us vs b h hx hy
    cases ys with
    | nil => cases x <;> simp [eqCells] at h
    | cons y ys =>
      cases x <;> cases y <;> simp only [eqCells] at h <;> try (cases h; done)
      rename_i x y
      cases hb : eqCells xs ys with
      | none => rw [hb] at h; cases h
      | some c =>
        rw [hb] at h
        simp only [Option.map_some, Option.some.injEq] at h
        simp only [RelL] at hx hy
        obtain ⟨u, us', rfl, hu, hx'⟩ := hx
        obtain ⟨v, vs', rfl, hv, hy'⟩ := hy
        obtain ⟨l, h1, h2, h3⟩ := ih hb hx' hy'
        simp only [Rel] at hu hv
        exact ⟨(x, y) :: l, by simp [hu, h1], by simp [hv, h2], by simp [← h, h3]⟩

end
end Go.Sym
