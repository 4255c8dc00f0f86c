/- Package ring: what its functions come to (without powers). -/
import Derived.Test.YthechjccpljljaaLawsB
namespace Go.Proofs.Ythechjccpljljaa
open Go.Sym Go.Dig

--STOP R1.Sm, limb_Add, limb_Sub, limb_Select, limb_Mul, limb_Cmp

/-- A ring's words. -/
structure RingV where
  m : Four
  back : UInt64
  one : Four
  two : Four
def RingV.cells (r : RingV) : List SV := [.u64 r.m.w0, .u64 r.m.w1, .u64 r.m.w2, .u64 r.m.w3, .u64 r.back, .u64 r.one.w0, .u64 r.one.w1, .u64 r.one.w2, .u64 r.one.w3, .u64 r.two.w0, .u64 r.two.w1, .u64 r.two.w2, .u64 r.two.w3]
def dRingC : List SV → Option RingV
  | [.u64 a, .u64 b, .u64 c, .u64 d, .u64 k, .u64 e, .u64 f, .u64 g, .u64 h, .u64 i, .u64 j, .u64 l, .u64 n] => some ⟨⟨a, b, c, d⟩, k, ⟨e, f, g, h⟩, ⟨i, j, l, n⟩⟩
  | _ => none
theorem dRingC_ok {cs : List SV} {r : RingV} (h : dRingC cs = some r) : cs = r.cells := by
  unfold dRingC at h
  split at h
  · simp only [Option.some.injEq] at h; subst h; rfl
  · cases h
instance : Enc RingV where
  enc r := .ro r.cells 0
  dec | .ro cs 0 => dRingC cs
      | _ => none
  ok := by
    intro s a h at_ w v r
    split at h
    · rw [dRingC_ok h] at r; exact r
    · cases h
  nn _ := rfl
/-- A pointer to a ring, or to none. -/
instance : Enc (Option RingV) where
  enc | some r => .ro r.cells 0
      | none => .val (.pointer none)
  dec | .ro cs 0 => (dRingC cs).map some
      | .val (.pointer none) => some none
      | _ => none
  ok := by
    intro s a h at_ w v r
    split at h
    · obtain ⟨x, h1, h2⟩ := Option.map_eq_some_iff.1 h
      subst h2
      rw [dRingC_ok h1] at r; exact r
    · simp only [Option.some.injEq] at h; subst h; exact r
    · cases h
  nn a := by cases a <;> rfl
/-- A loop's own ring; a loop's own number of four words. -/
structure PRing where
  v : RingV
structure PFour where
  v : Four
instance : LEnc PRing where
  kind := none
  enc nx a := (.ptr nx 0, [a.v.cells])
  dec nx s M := match s, M with
    | .ptr b 0, some cs :: M' => if b = nx then (dRingC cs).map fun r => (none, ⟨r⟩, M') else none
    | _, _ => none
  all P := ∀ v, P ⟨v⟩
  all_ok h a := h a.v
  ok := by
    intro nx s M p a M' h hp
    split at h
    · split at h
      · rename_i hb
        obtain ⟨r, h1, h2⟩ := Option.map_eq_some_iff.1 h
        simp only [Prod.mk.injEq] at h2
        obtain ⟨_, rfl, rfl⟩ := h2
        subst hb
        rw [dRingC_ok h1]
        exact ⟨rfl, fun r => r⟩
      · cases h
    · cases h
def dFourC : List SV → Option Four
  | [.u64 a, .u64 b, .u64 c, .u64 d] => some ⟨a, b, c, d⟩
  | _ => none
theorem dFourC_ok {cs : List SV} {r : Four} (h : dFourC cs = some r) : cs = [.u64 r.w0, .u64 r.w1, .u64 r.w2, .u64 r.w3] := by
  unfold dFourC at h
  split at h
  · simp only [Option.some.injEq] at h; subst h; rfl
  · cases h
instance : LEnc PFour where
  kind := none
  enc nx a := (.ptr nx 0, [[.u64 a.v.w0, .u64 a.v.w1, .u64 a.v.w2, .u64 a.v.w3]])
  dec nx s M := match s, M with
    | .ptr b 0, some cs :: M' => if b = nx then (dFourC cs).map fun r => (none, ⟨r⟩, M') else none
    | _, _ => none
  all P := ∀ v, P ⟨v⟩
  all_ok h a := h a.v
  ok := by
    intro nx s M p a M' h hp
    split at h
    · split at h
      · rename_i hb
        obtain ⟨r, h1, h2⟩ := Option.map_eq_some_iff.1 h
        simp only [Prod.mk.injEq] at h2
        obtain ⟨_, rfl, rfl⟩ := h2
        subst hb
        rw [dFourC_ok h1]
        exact ⟨rfl, fun r => r⟩
      · cases h
    · cases h

def ringPlus (m a b : Four) : Four :=
  limb_Select ((limb_Add a b).2 ||| ((limb_Sub (limb_Add a b).1 m).2 ^^^ 1)) (limb_Sub (limb_Add a b).1 m).1 (limb_Add a b).1
def spG1 : Specs := spL0
theorem vcPlus (r : RingV) (a b : Four) (Q : SV → Prop) : LnRaw tt spG1 3 [] {} Try.f76 Q (r, a, b, ()) =
  (Q
  (SV.agg
    [SV.u64
        (Four.w0
          (limb_Select
            (Prod.snd (limb_Add a b) |||
              Prod.snd (limb_Sub (Prod.fst (limb_Add a b)) (RingV.m r)) ^^^ UInt64.ofNat (Int.toNat (1 : Int)))
            (Prod.fst (limb_Sub (Prod.fst (limb_Add a b)) (RingV.m r))) (Prod.fst (limb_Add a b)))),
      SV.u64
        (Four.w1
          (limb_Select
            (Prod.snd (limb_Add a b) |||
              Prod.snd (limb_Sub (Prod.fst (limb_Add a b)) (RingV.m r)) ^^^ UInt64.ofNat (Int.toNat (1 : Int)))
            (Prod.fst (limb_Sub (Prod.fst (limb_Add a b)) (RingV.m r))) (Prod.fst (limb_Add a b)))),
      SV.u64
        (Four.w2
          (limb_Select
            (Prod.snd (limb_Add a b) |||
              Prod.snd (limb_Sub (Prod.fst (limb_Add a b)) (RingV.m r)) ^^^ UInt64.ofNat (Int.toNat (1 : Int)))
            (Prod.fst (limb_Sub (Prod.fst (limb_Add a b)) (RingV.m r))) (Prod.fst (limb_Add a b)))),
      SV.u64
        (Four.w3
          (limb_Select
            (Prod.snd (limb_Add a b) |||
              Prod.snd (limb_Sub (Prod.fst (limb_Add a b)) (RingV.m r)) ^^^ UInt64.ofNat (Int.toNat (1 : Int)))
            (Prod.fst (limb_Sub (Prod.fst (limb_Add a b)) (RingV.m r))) (Prod.fst (limb_Add a b))))])) := by kernel_rfl
def sRPlus : SpecF := fspec (α := RingV × Four × Four × Unit) total (fun a => ringPlus a.1.m a.2.1 a.2.2.1)
def spG2 : Specs := (76, sRPlus) :: spG1
theorem vcTwice (r : RingV) (a : Four) (Q : SV → Prop) : LnRaw tt spG2 3 [] {} Try.f72 Q (r, a, ()) =
  (Q
  (SV.agg
    [SV.u64 (Four.w0 (ringPlus (RingV.m r) a a)), SV.u64 (Four.w1 (ringPlus (RingV.m r) a a)),
      SV.u64 (Four.w2 (ringPlus (RingV.m r) a a)), SV.u64 (Four.w3 (ringPlus (RingV.m r) a a))])) := by kernel_rfl
def sTwice : SpecF := fspec (α := RingV × Four × Unit) total (fun a => ringPlus a.1.m a.2.1 a.2.1)

def dblN (m : Four) : Nat → Four
  | 0 => ⟨1, 0, 0, 0⟩
  | n + 1 => ringPlus m (dblN m n) (dblN m n)
def oneN (m : Four) (i : Int) : Four := if i ≤ 255 then zero4 else dblN m 256
def iNew (r0 : RingV) (r : RingV) (x : Four) (i : Int) : Prop := 0 ≤ i ∧ i ≤ 512 ∧ r = ⟨r0.m, r0.back, oneN r0.m i, zero4⟩ ∧ x = dblN r0.m i.toNat
def newt (w : UInt64) : Nat → UInt64
  | 0 => 1
  | n + 1 => newt w n * (2 - w * newt w n)
def iInv (m0 : Four) (r0 : RingV) (m : Four) (r : RingV) (x : UInt64) (i : Int) : Prop := m = m0 ∧ r = r0 ∧ 0 ≤ i ∧ i ≤ 6 ∧ x = newt m.w0 i.toNat
def lNew : Plan := { loops := [(0, { β := Unit, α := PFour × PRing × UInt64 × Int × Unit, same := [], keep := [1, 4, 5, 21], inv := fun _ x0 x => iInv x0.1.v x0.2.1.v x.1.v x.2.1.v x.2.2.1 x.2.2.2.1, meas := fun _ x => (6 - x.2.2.2.1).toNat }), (2, { β := Unit, α := PRing × PFour × Int × Unit, same := [], keep := [4, 6, 38], inv := fun _ x0 x => iNew x0.1.v x.1.v x.2.1.v x.2.2.1, meas := fun _ x => (512 - x.2.2.1).toNat })] }
def spG3 : Specs := (72, sTwice) :: spG2
theorem vcNewA (m : Four) (Q : SV → Prop) : LnRaw tt spG3 9 [(1, 3, .b false), (1, 7, .b false)] lNew Try.f44 Q (m, ()) =
  (((Four.w0 m &&& UInt64.ofNat (Int.toNat (1 : Int)) == UInt64.ofNat (Int.toNat (0 : Int))) = false) ∧
  (((Four.w0 m == UInt64.ofNat (Int.toNat (1 : Int)) &&
    (Four.w1 m == UInt64.ofNat (Int.toNat (0 : Int)) &&
      (Four.w2 m == UInt64.ofNat (Int.toNat (0 : Int)) && (Four.w3 m == UInt64.ofNat (Int.toNat (0 : Int)) && true)))) =
  false) ∧
  ((iInv m
  (RingV.mk m (UInt64.ofNat (Int.toNat (0 : Int)))
    (Four.mk (UInt64.ofNat (Int.toNat (0 : Int))) (UInt64.ofNat (Int.toNat (0 : Int)))
      (UInt64.ofNat (Int.toNat (0 : Int))) (UInt64.ofNat (Int.toNat (0 : Int))))
    (Four.mk (UInt64.ofNat (Int.toNat (0 : Int))) (UInt64.ofNat (Int.toNat (0 : Int)))
      (UInt64.ofNat (Int.toNat (0 : Int))) (UInt64.ofNat (Int.toNat (0 : Int)))))
  m
  (RingV.mk m (UInt64.ofNat (Int.toNat (0 : Int)))
    (Four.mk (UInt64.ofNat (Int.toNat (0 : Int))) (UInt64.ofNat (Int.toNat (0 : Int)))
      (UInt64.ofNat (Int.toNat (0 : Int))) (UInt64.ofNat (Int.toNat (0 : Int))))
    (Four.mk (UInt64.ofNat (Int.toNat (0 : Int))) (UInt64.ofNat (Int.toNat (0 : Int)))
      (UInt64.ofNat (Int.toNat (0 : Int))) (UInt64.ofNat (Int.toNat (0 : Int)))))
  (UInt64.ofNat (Int.toNat (1 : Int))) (0 : Int)) ∧
  (∀ v : Four,
  (∀ v_1 : RingV,
  (∀ a : UInt64,
  (∀ a_1 : Int,
  ((iInv m
  (RingV.mk m (UInt64.ofNat (Int.toNat (0 : Int)))
    (Four.mk (UInt64.ofNat (Int.toNat (0 : Int))) (UInt64.ofNat (Int.toNat (0 : Int)))
      (UInt64.ofNat (Int.toNat (0 : Int))) (UInt64.ofNat (Int.toNat (0 : Int))))
    (Four.mk (UInt64.ofNat (Int.toNat (0 : Int))) (UInt64.ofNat (Int.toNat (0 : Int)))
      (UInt64.ofNat (Int.toNat (0 : Int))) (UInt64.ofNat (Int.toNat (0 : Int)))))
  v v_1 a a_1) →
  bcase (decide (a_1 < (6 : Int)))
    (((() = ()) ∧
    ((iInv m
  (RingV.mk m (UInt64.ofNat (Int.toNat (0 : Int)))
    (Four.mk (UInt64.ofNat (Int.toNat (0 : Int))) (UInt64.ofNat (Int.toNat (0 : Int)))
      (UInt64.ofNat (Int.toNat (0 : Int))) (UInt64.ofNat (Int.toNat (0 : Int))))
    (Four.mk (UInt64.ofNat (Int.toNat (0 : Int))) (UInt64.ofNat (Int.toNat (0 : Int)))
      (UInt64.ofNat (Int.toNat (0 : Int))) (UInt64.ofNat (Int.toNat (0 : Int)))))
  v v_1 (a * (UInt64.ofNat (Int.toNat (2 : Int)) - Four.w0 v * a)) (IntKind.wrap IntKind.i64 (a_1 + (1 : Int)))) ∧
    (Int.toNat ((6 : Int) - IntKind.wrap IntKind.i64 (a_1 + (1 : Int))) < Int.toNat ((6 : Int) - a_1)))))
    (((iNew (RingV.mk (RingV.m v_1) ((0 : UInt64) - a) (RingV.one v_1) (RingV.two v_1))
  (RingV.mk (RingV.m v_1) ((0 : UInt64) - a) (RingV.one v_1) (RingV.two v_1))
  (Four.mk (UInt64.ofNat (Int.toNat (1 : Int))) (UInt64.ofNat (Int.toNat (0 : Int)))
    (UInt64.ofNat (Int.toNat (0 : Int))) (UInt64.ofNat (Int.toNat (0 : Int))))
  (0 : Int)) ∧
    (∀ v_2 : RingV,
    (∀ v_3 : Four,
    (∀ a_2 : Int,
    ((iNew (RingV.mk (RingV.m v_1) ((0 : UInt64) - a) (RingV.one v_1) (RingV.two v_1)) v_2 v_3 a_2) →
    bcase (decide (a_2 < (512 : Int)))
      (bcase (a_2 == (255 : Int))
        (((() = ()) ∧
        ((iNew (RingV.mk (RingV.m v_1) ((0 : UInt64) - a) (RingV.one v_1) (RingV.two v_1))
  (RingV.mk (RingV.m v_2) (RingV.back v_2) (ringPlus (RingV.m v_2) v_3 v_3) (RingV.two v_2))
  (ringPlus (RingV.m v_2) v_3 v_3) (IntKind.wrap IntKind.i64 (a_2 + (1 : Int)))) ∧
        (Int.toNat ((512 : Int) - IntKind.wrap IntKind.i64 (a_2 + (1 : Int))) < Int.toNat ((512 : Int) - a_2)))))
        (((() = ()) ∧
        ((iNew (RingV.mk (RingV.m v_1) ((0 : UInt64) - a) (RingV.one v_1) (RingV.two v_1)) v_2 (ringPlus (RingV.m v_2) v_3 v_3)
  (IntKind.wrap IntKind.i64 (a_2 + (1 : Int)))) ∧
        (Int.toNat ((512 : Int) - IntKind.wrap IntKind.i64 (a_2 + (1 : Int))) < Int.toNat ((512 : Int) - a_2))))))
      ((Q
  (SV.tup
    [SV.ro
        [SV.u64 (Four.w0 (RingV.m v_2)), SV.u64 (Four.w1 (RingV.m v_2)), SV.u64 (Four.w2 (RingV.m v_2)),
          SV.u64 (Four.w3 (RingV.m v_2)), SV.u64 (RingV.back v_2), SV.u64 (Four.w0 (RingV.one v_2)),
          SV.u64 (Four.w1 (RingV.one v_2)), SV.u64 (Four.w2 (RingV.one v_2)), SV.u64 (Four.w3 (RingV.one v_2)),
          SV.u64 (Four.w0 v_3), SV.u64 (Four.w1 v_3), SV.u64 (Four.w2 v_3), SV.u64 (Four.w3 v_3)]
        (0 : Nat),
      SV.i64 (0 : Int)]))))))))))))))))) := by kernel_rfl
theorem vcNewB (m : Four) (Q : SV → Prop) : LnRaw tt spG3 9 [(1, 3, .b true)] lNew Try.f44 Q (m, ()) =
  (((Four.w0 m &&& UInt64.ofNat (Int.toNat (1 : Int)) == UInt64.ofNat (Int.toNat (0 : Int))) = true) ∧
  (Q (SV.tup [SV.val (Value.pointer none), SV.i64 (2 : Int)]))) := by kernel_rfl
theorem vcNewC (m : Four) (Q : SV → Prop) : LnRaw tt spG3 9 [(1, 3, .b false), (1, 7, .b true)] lNew Try.f44 Q (m, ()) =
  (((Four.w0 m &&& UInt64.ofNat (Int.toNat (1 : Int)) == UInt64.ofNat (Int.toNat (0 : Int))) = false) ∧
  (((Four.w0 m == UInt64.ofNat (Int.toNat (1 : Int)) &&
    (Four.w1 m == UInt64.ofNat (Int.toNat (0 : Int)) &&
      (Four.w2 m == UInt64.ofNat (Int.toNat (0 : Int)) && (Four.w3 m == UInt64.ofNat (Int.toNat (0 : Int)) && true)))) =
  true) ∧
  (Q (SV.tup [SV.val (Value.pointer none), SV.i64 (2 : Int)])))) := by kernel_rfl
end Go.Proofs.Ythechjccpljljaa
