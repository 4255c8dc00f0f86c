/- A symbolic machine for Go functions, and what the functions that the law reaches come to: DgA. -/
import Derived.Test.YtficbeeoafiiaaaGreatDoorQ5
import Derived.Test.YtficbeeoafiiaaaGreatDoorQ4
import Derived.Test.YtficbeeoafiiaaaGreatDoorQ7
/- Package digest: what its functions come to. -/
set_option maxRecDepth 10000
namespace Go.Proofs.YtficbeeoafiiaaaGreatDoor.H5
open Go.Sym

/-! Turns. -/
def rotl (x : UInt32) (k : Int) : UInt32 := shl32 x (UInt64.ofInt k &&& 31).toNat ||| shr32 x (32 - (UInt64.ofInt k &&& 31)).toNat
def sRotl : SpecF := fspec (α := UInt32 × Int × Unit) total (fun a => rotl a.1 a.2.1)
theorem vcRotl (x : UInt32) (k : Int) (Q : SV → Prop) : LnRaw tt [] 3 [] {} Tryz.f106 Q (x, k, ()) = Q (.u32 (rotl x k)) := by kernel_rfl
def turnF (x : UInt32) (n : Int) : UInt32 := rotl x (IntKind.wrap .i64 (0 - n))
def spH0 : Specs := [(106, sRotl)]
theorem vcTurn (x : UInt32) (k : Int) (Q : SV → Prop) : LnRaw tt spH0 3 [] {} Tryz.f100 Q (x, k, ()) = Q (.u32 (turnF x k)) := by kernel_rfl
def sTurn : SpecF := fspec (α := UInt32 × Int × Unit) total (fun a => turnF a.1 a.2.1)
def spH1 : Specs := [(100, sTurn)]

/-! The state. -/
structure St8 where
  a : UInt32
  b : UInt32
  c : UInt32
  d : UInt32
  e : UInt32
  f : UInt32
  g : UInt32
  h : UInt32
def St8.cells (s : St8) : List SV := [.u32 s.a, .u32 s.b, .u32 s.c, .u32 s.d, .u32 s.e, .u32 s.f, .u32 s.g, .u32 s.h]
def dSt8 : List SV → Option St8
  | [.u32 a, .u32 b, .u32 c, .u32 d, .u32 e, .u32 f, .u32 g, .u32 h] => some ⟨a, b, c, d, e, f, g, h⟩
  | _ => none
theorem dSt8_ok {cs : List SV} {s : St8} (h : dSt8 cs = some s) : cs = s.cells := by
  unfold dSt8 at h
  split at h
  · simp only [Option.some.injEq] at h; subst h; rfl
  · cases h
structure PSt where
  v : St8
instance : LEnc PSt where
  kind := none
  enc nx a := (.ptr nx 0, [a.v.cells])
  dec nx s M := match s, M with
    | .ptr b 0, some cs :: M' => if b = nx then (dSt8 cs).map fun r => (none, ⟨r⟩, M') else none
    | _, _ => none
  all P := ∀ v, P ⟨v⟩
  all_ok h a := h a.v
  ok := by
    intro nx s M p a M' h hp
    split at h
    · split at h
      · rename_i hb
        obtain ⟨r, h1, h2⟩ := Option.map_eq_some_iff.1 h
        simp only [Prod.mk.injEq] at h2
        obtain ⟨_, rfl, rfl⟩ := h2
        subst hb
        rw [dSt8_ok h1]
        exact ⟨rfl, fun r => r⟩
      · cases h
    · cases h
/-- A hash that is made: its state, the list that is left, a number. -/
structure HashV where
  s : St8
  l : List UInt8
  lo : Nat
  len : Nat
  n : UInt64
def HashV.cells (a : HashV) (k : Nat) : List SV := [.u32 a.s.a, .u32 a.s.b, .u32 a.s.c, .u32 a.s.d, .u32 a.s.e, .u32 a.s.f, .u32 a.s.g, .u32 a.s.h, .sl k a.lo a.len, .u64 a.n, .bool true]
/-- Its cells, and its list's name. -/
def dHashC (l : List UInt8) : List SV → Option (HashV × Nat)
  | [.u32 a, .u32 b, .u32 c, .u32 d, .u32 e, .u32 f, .u32 g, .u32 h, .sl k lo len, .u64 n, .bool true] => some (⟨⟨a, b, c, d, e, f, g, h⟩, l, lo, len, n⟩, k)
  | _ => none
theorem dHashC_ok {l : List UInt8} {cs : List SV} {r : HashV × Nat} (h : dHashC l cs = some r) : cs = r.1.cells r.2 ∧ r.1.l = l := by
  unfold dHashC at h
  split at h
  · simp only [Option.some.injEq] at h; subst h; exact ⟨rfl, rfl⟩
  · cases h
/-- A loop's own hash, with its list. -/
structure PHs where
  v : HashV
instance : LEnc PHs where
  kind := none
  enc nx a := (.ptr nx 0, [a.v.cells (nx + 1), [.own (.bytes a.v.l)]])
  dec nx s M := match s, M with
    | .ptr b 0, some cs :: some [.own (.bytes l)] :: M' => if b = nx then (match dHashC l cs with | some (r, k) => if k = nx + 1 then some (none, ⟨r⟩, M') else none | none => none) else none
    | _, _ => none
  all P := ∀ v, P ⟨v⟩
  all_ok h a := h a.v
  ok := by
    intro nx s M p a M' h hp
    split at h
    · split at h
      · rename_i hb
        split at h
        · rename_i r k hd
          split at h
          · rename_i hk
            simp only [Option.some.injEq, Prod.mk.injEq] at h
            obtain ⟨_, rfl, rfl⟩ := h
            subst hb; subst hk
            obtain ⟨e1, e2⟩ := dHashC_ok hd
            subst e2
            exact ⟨by rw [e1]; rfl, fun r => r⟩
          · cases h
        · cases h
      · cases h
    · cases h
/-! A block is taken. -/
/-- The words, with so many of the block's bytes. -/
def wB (b : List UInt8) : Nat → List UInt32
  | 0 => List.replicate 64 0
  | i + 1 => (wB b i).set (i / 4) (shl32 ((wB b i).getD (i / 4) 0) 8 ||| (b.getD i 0).toUInt32)
def sig0 (a : UInt32) : UInt32 := turnF a 7 ^^^ turnF a 18 ^^^ shr32 a 3
def sig1 (a : UInt32) : UInt32 := turnF a 17 ^^^ turnF a 19 ^^^ shr32 a 10
/-- The words from the 16th on. -/
def wX (b : List UInt8) : Nat → List UInt32
  | 0 => wB b 64
  | i + 1 => (wX b i).set (i + 16) ((wX b i).getD i 0 + sig0 ((wX b i).getD (i + 1) 0) + (wX b i).getD (i + 9) 0 + sig1 ((wX b i).getD (i + 14) 0))
def one (v : St8) (k w : UInt32) : UInt32 := v.h + (turnF v.e 6 ^^^ turnF v.e 11 ^^^ turnF v.e 25) + ((v.e &&& v.f) ^^^ (~~~v.e &&& v.g)) + k + w
def two (v : St8) : UInt32 := (turnF v.a 2 ^^^ turnF v.a 13 ^^^ turnF v.a 22) + ((v.a &&& v.b) ^^^ (v.a &&& v.c) ^^^ (v.b &&& v.c))
def round (v : St8) (k w : UInt32) : St8 := ⟨one v k w + two v, v.a, v.b, v.c, v.d + one v k w, v.e, v.f, v.g⟩
def rounds (w : List UInt32) (v : St8) : Nat → St8
  | 0 => v
  | t + 1 => round (rounds w v t) (glob0.getD t 0) (w.getD t 0)
def St8.plus (s v : St8) : St8 := ⟨s.a + v.a, s.b + v.b, s.c + v.c, s.d + v.d, s.e + v.e, s.f + v.f, s.g + v.g, s.h + v.h⟩
def mix0 (s : St8) (b : List UInt8) : St8 := s.plus (rounds (wX b 48) s 64)
theorem mix_ex : ∃ f : St8 → List UInt8 → St8, f = mix0 := ⟨_, rfl⟩
noncomputable def mixV : St8 → List UInt8 → St8 := Classical.choose mix_ex
theorem mixV_eq : mixV = mix0 := Classical.choose_spec mix_ex
--STOP rotl, turnF, sig0, sig1, one, two, glob0
def iB (b : List UInt8) (w : List UInt32) (i : Int) : Prop := 0 ≤ i ∧ i ≤ 64 ∧ w = wB b i.toNat
def iX (b : List UInt8) (w : List UInt32) (t : Int) : Prop := 16 ≤ t ∧ t ≤ 64 ∧ w = wX b (t.toNat - 16)
def iR (w0 : List UInt32) (v0 : St8) (w : List UInt32) (v : St8) (t : Int) : Prop := w = w0 ∧ 0 ≤ t ∧ t ≤ 64 ∧ v = rounds w0 v0 t.toNat
--STOP iB, iX, iR, wB, wX, rounds
abbrev cut (l : List UInt8) (lo : Nat) : List UInt8 := (l.drop lo).take 64
def lMixH (h : HashV) (lo : Nat) : Plan := { loops := [
  (0, { β := Int × Unit, α := PHs × ViewK 1 × Int × ArrH 64 × Unit, same := [22], keep := [0, 21, 23, 4], inv := fun _ _ x => x.1.v = h ∧ x.2.1.lo = lo ∧ x.2.1.len = 64 ∧ iB (cut h.l lo) x.2.2.2.1.l x.2.2.1, meas := fun _ x => (64 - x.2.2.1).toNat }),
  (2, { β := Unit, α := PHs × ArrH 64 × Int × Unit, same := [], keep := [0, 4, 7], inv := fun _ _ x => x.1.v = h ∧ iX (cut h.l lo) x.2.1.l x.2.2.1, meas := fun _ x => (64 - x.2.2.1).toNat }),
  (4, { β := Unit, α := PHs × ArrH 64 × PSt × Int × Unit, same := [], keep := [0, 4, 12, 86], inv := fun _ _ x => x.1.v = h ∧ iR (wX (cut h.l lo) 48) h.s x.2.1.l x.2.2.1.v x.2.2.2.1, meas := fun _ x => (64 - x.2.2.2.1).toNat })] }
theorem vcMixH (h : HashV) (lo : Nat) (Q : SV → List (Option Blk) → Prop) : NnRaw tt spH1 9 [] (lMixH h lo) Tryz.f79 [.ptr 0 0, .sl 1 lo 64] [h.cells 1, [.own (.bytes h.l)]] Q =
 (((64 : Nat) = (64 : Nat)) ∧ (((h = h) ∧ ((lo = lo) ∧ (((64 : Nat) = (64 : Nat)) ∧ (iB (cut (HashV.l h) lo) [UInt32.ofNat (Int.toNat (0 : Int)), UInt32.ofNat (Int.toNat (0 : Int)), UInt32.ofNat (Int.toNat (0 : Int)), UInt32.ofNat (Int.toNat (0 : Int)), UInt32.ofNat (Int.toNat (0 : Int)), UInt32.ofNat (Int.toNat (0 : Int)), UInt32.ofNat (Int.toNat (0 : Int)), UInt32.ofNat (Int.toNat (0 : Int)), UInt32.ofNat (Int.toNat (0 : Int)), UInt32.ofNat (Int.toNat (0 : Int)), UInt32.ofNat (Int.toNat (0 : Int)), UInt32.ofNat (Int.toNat (0 : Int)), UInt32.ofNat (Int.toNat (0 : Int)), UInt32.ofNat (Int.toNat (0 : Int)), UInt32.ofNat (Int.toNat (0 : Int)), UInt32.ofNat (Int.toNat (0 : Int)), UInt32.ofNat (Int.toNat (0 : Int)), UInt32.ofNat (Int.toNat (0 : Int)), UInt32.ofNat (Int.toNat (0 : Int)), UInt32.ofNat (Int.toNat (0 : Int)), UInt32.ofNat (Int.toNat (0 : Int)), UInt32.ofNat (Int.toNat (0 : Int)), UInt32.ofNat (Int.toNat (0 : Int)), UInt32.ofNat (Int.toNat (0 : Int)),
 UInt32.ofNat (Int.toNat (0 : Int)), UInt32.ofNat (Int.toNat (0 : Int)), UInt32.ofNat (Int.toNat (0 : Int)), UInt32.ofNat (Int.toNat (0 : Int)), UInt32.ofNat (Int.toNat (0 : Int)), UInt32.ofNat (Int.toNat (0 : Int)), UInt32.ofNat (Int.toNat (0 : Int)), UInt32.ofNat (Int.toNat (0 : Int)), UInt32.ofNat (Int.toNat (0 : Int)), UInt32.ofNat (Int.toNat (0 : Int)), UInt32.ofNat (Int.toNat (0 : Int)), UInt32.ofNat (Int.toNat (0 : Int)), UInt32.ofNat (Int.toNat (0 : Int)), UInt32.ofNat (Int.toNat (0 : Int)), UInt32.ofNat (Int.toNat (0 : Int)), UInt32.ofNat (Int.toNat (0 : Int)), UInt32.ofNat (Int.toNat (0 : Int)), UInt32.ofNat (Int.toNat (0 : Int)), UInt32.ofNat (Int.toNat (0 : Int)), UInt32.ofNat (Int.toNat (0 : Int)), UInt32.ofNat (Int.toNat (0 : Int)), UInt32.ofNat (Int.toNat (0 : Int)), UInt32.ofNat (Int.toNat (0 : Int)), UInt32.ofNat (Int.toNat (0 : Int)), UInt32.ofNat (Int.toNat (0 : Int)), UInt32.ofNat (Int.toNat (0 : Int)), UInt32.ofNat (Int.toNat (0 : Int)),
 UInt32.ofNat (Int.toNat (0 : Int)), UInt32.ofNat (Int.toNat (0 : Int)), UInt32.ofNat (Int.toNat (0 : Int)), UInt32.ofNat (Int.toNat (0 : Int)), UInt32.ofNat (Int.toNat (0 : Int)), UInt32.ofNat (Int.toNat (0 : Int)), UInt32.ofNat (Int.toNat (0 : Int)), UInt32.ofNat (Int.toNat (0 : Int)), UInt32.ofNat (Int.toNat (0 : Int)), UInt32.ofNat (Int.toNat (0 : Int)), UInt32.ofNat (Int.toNat (0 : Int)), UInt32.ofNat (Int.toNat (0 : Int)), UInt32.ofNat (Int.toNat (0 : Int))] (0 : Int))))) ∧ (∀ v : HashV, (∀ lo_1 : Nat, (∀ len : Nat, (∀ a : Int, (∀ l : List UInt32, (((v = h) ∧ ((lo_1 = lo) ∧ ((len = (64 : Nat)) ∧ (iB (cut (HashV.l h) lo) l a)))) → bcase (decide (a < (↑(64 : Nat) : Int))) (((((0 : Int) ≤ a) ∧ (a < (↑len : Int))) ∧ ((((0 : Int) ≤ IntKind.wrap IntKind.i64 (Int.tdiv a (4 : Int))) ∧ (IntKind.wrap IntKind.i64 (Int.tdiv a (4 : Int)) < (↑(64 : Nat) : Int))) ∧ ((((0 : Int) ≤ IntKind.wrap IntKind.i64 (Int.tdiv a (4 : Int))) ∧
 (IntKind.wrap IntKind.i64 (Int.tdiv a (4 : Int)) < (↑(64 : Nat) : Int))) ∧ ((List.length (List.set l (Int.toNat (IntKind.wrap IntKind.i64 (Int.tdiv a (4 : Int)))) (shl32 (List.getD l (Int.toNat (IntKind.wrap IntKind.i64 (Int.tdiv a (4 : Int)))) (0 : UInt32)) (UInt64.toNat (UInt64.ofNat (Int.toNat (8 : Int)))) ||| UInt8.toUInt32 (List.getD (HashV.l v) (lo_1 + Int.toNat a) (0 : UInt8)))) = (64 : Nat)) ∧ ((((↑(64 : Nat) : Int), ()) = ((↑(64 : Nat) : Int), ())) ∧ (((v = h) ∧ ((lo_1 = lo) ∧ ((len = (64 : Nat)) ∧ (iB (cut (HashV.l h) lo) (List.set l (Int.toNat (IntKind.wrap IntKind.i64 (Int.tdiv a (4 : Int)))) (shl32 (List.getD l (Int.toNat (IntKind.wrap IntKind.i64 (Int.tdiv a (4 : Int)))) (0 : UInt32)) (UInt64.toNat (UInt64.ofNat (Int.toNat (8 : Int)))) ||| UInt8.toUInt32 (List.getD (HashV.l v) (lo_1 + Int.toNat a) (0 : UInt8)))) (IntKind.wrap IntKind.i64 (a + (1 : Int))))))) ∧ (Int.toNat ((64 : Int) - IntKind.wrap IntKind.i64 (a + (1 : Int))) < Int.toNat ((64 : Int) - a)))))))))
 (((List.length l = (64 : Nat)) ∧ (((v = h) ∧ (iX (cut (HashV.l h) lo) l (16 : Int))) ∧ (∀ v_1 : HashV, (∀ l_1 : List UInt32, (∀ a_1 : Int, (((v_1 = h) ∧ (iX (cut (HashV.l h) lo) l_1 a_1)) → bcase (decide (a_1 < (64 : Int))) (((((0 : Int) ≤ IntKind.wrap IntKind.i64 (a_1 - (15 : Int))) ∧ (IntKind.wrap IntKind.i64 (a_1 - (15 : Int)) < (↑(64 : Nat) : Int))) ∧ ((((0 : Int) ≤ IntKind.wrap IntKind.i64 (a_1 - (2 : Int))) ∧ (IntKind.wrap IntKind.i64 (a_1 - (2 : Int)) < (↑(64 : Nat) : Int))) ∧ ((((0 : Int) ≤ IntKind.wrap IntKind.i64 (a_1 - (16 : Int))) ∧ (IntKind.wrap IntKind.i64 (a_1 - (16 : Int)) < (↑(64 : Nat) : Int))) ∧ ((((0 : Int) ≤ IntKind.wrap IntKind.i64 (a_1 - (7 : Int))) ∧ (IntKind.wrap IntKind.i64 (a_1 - (7 : Int)) < (↑(64 : Nat) : Int))) ∧ ((((0 : Int) ≤ a_1) ∧ (a_1 < (↑(64 : Nat) : Int))) ∧ ((List.length (List.set l_1 (Int.toNat a_1) (List.getD l_1 (Int.toNat (IntKind.wrap IntKind.i64 (a_1 - (16 : Int)))) (0 : UInt32) +
 (turnF (List.getD l_1 (Int.toNat (IntKind.wrap IntKind.i64 (a_1 - (15 : Int)))) (0 : UInt32)) (7 : Int) ^^^ turnF (List.getD l_1 (Int.toNat (IntKind.wrap IntKind.i64 (a_1 - (15 : Int)))) (0 : UInt32)) (18 : Int) ^^^ shr32 (List.getD l_1 (Int.toNat (IntKind.wrap IntKind.i64 (a_1 - (15 : Int)))) (0 : UInt32)) (UInt64.toNat (UInt64.ofNat (Int.toNat (3 : Int))))) + List.getD l_1 (Int.toNat (IntKind.wrap IntKind.i64 (a_1 - (7 : Int)))) (0 : UInt32) + (turnF (List.getD l_1 (Int.toNat (IntKind.wrap IntKind.i64 (a_1 - (2 : Int)))) (0 : UInt32)) (17 : Int) ^^^ turnF (List.getD l_1 (Int.toNat (IntKind.wrap IntKind.i64 (a_1 - (2 : Int)))) (0 : UInt32)) (19 : Int) ^^^ shr32 (List.getD l_1 (Int.toNat (IntKind.wrap IntKind.i64 (a_1 - (2 : Int)))) (0 : UInt32)) (UInt64.toNat (UInt64.ofNat (Int.toNat (10 : Int))))))) = (64 : Nat)) ∧ ((() = ()) ∧ (((v_1 = h) ∧ (iX (cut (HashV.l h) lo) (List.set l_1 (Int.toNat a_1) (List.getD l_1 (Int.toNat (IntKind.wrap IntKind.i64 (a_1 - (16 : Int)))) (0 : UInt32) +
 (turnF (List.getD l_1 (Int.toNat (IntKind.wrap IntKind.i64 (a_1 - (15 : Int)))) (0 : UInt32)) (7 : Int) ^^^ turnF (List.getD l_1 (Int.toNat (IntKind.wrap IntKind.i64 (a_1 - (15 : Int)))) (0 : UInt32)) (18 : Int) ^^^ shr32 (List.getD l_1 (Int.toNat (IntKind.wrap IntKind.i64 (a_1 - (15 : Int)))) (0 : UInt32)) (UInt64.toNat (UInt64.ofNat (Int.toNat (3 : Int))))) + List.getD l_1 (Int.toNat (IntKind.wrap IntKind.i64 (a_1 - (7 : Int)))) (0 : UInt32) + (turnF (List.getD l_1 (Int.toNat (IntKind.wrap IntKind.i64 (a_1 - (2 : Int)))) (0 : UInt32)) (17 : Int) ^^^ turnF (List.getD l_1 (Int.toNat (IntKind.wrap IntKind.i64 (a_1 - (2 : Int)))) (0 : UInt32)) (19 : Int) ^^^ shr32 (List.getD l_1 (Int.toNat (IntKind.wrap IntKind.i64 (a_1 - (2 : Int)))) (0 : UInt32)) (UInt64.toNat (UInt64.ofNat (Int.toNat (10 : Int))))))) (IntKind.wrap IntKind.i64 (a_1 + (1 : Int))))) ∧ (Int.toNat ((64 : Int) - IntKind.wrap IntKind.i64 (a_1 + (1 : Int))) < Int.toNat ((64 : Int) - a_1)))))))))))
 (((List.length l_1 = (64 : Nat)) ∧ (((v_1 = h) ∧ (iR (wX (cut (HashV.l h) lo) (48 : Nat)) (HashV.s h) l_1 (HashV.s v_1) (0 : Int))) ∧ (∀ v_2 : HashV, (∀ l_2 : List UInt32, (∀ v_3 : St8, (∀ a_2 : Int, (((v_2 = h) ∧ (iR (wX (cut (HashV.l h) lo) (48 : Nat)) (HashV.s h) l_2 v_3 a_2)) → bcase (decide (a_2 < (64 : Int))) (((((0 : Int) ≤ a_2) ∧ (a_2 < (↑(64 : Nat) : Int))) ∧ ((((0 : Int) ≤ a_2) ∧ (a_2 < (↑(64 : Nat) : Int))) ∧ ((List.length l_2 = (64 : Nat)) ∧ ((() = ()) ∧ (((v_2 = h) ∧ (iR (wX (cut (HashV.l h) lo) (48 : Nat)) (HashV.s h) l_2 (St8.mk (St8.h v_3 + (turnF (St8.e v_3) (6 : Int) ^^^ turnF (St8.e v_3) (11 : Int) ^^^ turnF (St8.e v_3) (25 : Int)) + (St8.e v_3 &&& St8.f v_3 ^^^ ~~~St8.e v_3 &&& St8.g v_3) + List.getD glob0 (Int.toNat a_2) (0 : UInt32) + List.getD l_2 (Int.toNat a_2) (0 : UInt32) + ((turnF (St8.a v_3) (2 : Int) ^^^ turnF (St8.a v_3) (13 : Int) ^^^ turnF (St8.a v_3) (22 : Int)) + (St8.a v_3 &&& St8.b v_3 ^^^ St8.a v_3 &&& St8.c v_3 ^^^ St8.b v_3 &&& St8.c v_3)))
 (St8.a v_3) (St8.b v_3) (St8.c v_3) (St8.d v_3 + (St8.h v_3 + (turnF (St8.e v_3) (6 : Int) ^^^ turnF (St8.e v_3) (11 : Int) ^^^ turnF (St8.e v_3) (25 : Int)) + (St8.e v_3 &&& St8.f v_3 ^^^ ~~~St8.e v_3 &&& St8.g v_3) + List.getD glob0 (Int.toNat a_2) (0 : UInt32) + List.getD l_2 (Int.toNat a_2) (0 : UInt32))) (St8.e v_3) (St8.f v_3) (St8.g v_3)) (IntKind.wrap IntKind.i64 (a_2 + (1 : Int))))) ∧ (Int.toNat ((64 : Int) - IntKind.wrap IntKind.i64 (a_2 + (1 : Int))) < Int.toNat ((64 : Int) - a_2)))))))) ((Q (retSV []) (applyWs [some [SV.u32 (St8.a (HashV.s v_2) + St8.a v_3), SV.u32 (St8.b (HashV.s v_2) + St8.b v_3), SV.u32 (St8.c (HashV.s v_2) + St8.c v_3), SV.u32 (St8.d (HashV.s v_2) + St8.d v_3), SV.u32 (St8.e (HashV.s v_2) + St8.e v_3), SV.u32 (St8.f (HashV.s v_2) + St8.f v_3), SV.u32 (St8.g (HashV.s v_2) + St8.g v_3), SV.u32 (St8.h (HashV.s v_2) + St8.h v_3), SV.sl ((0 : Nat) + (1 : Nat)) (HashV.lo v_2) (HashV.len v_2), SV.u64 (HashV.n v_2), SV.bool true],
 some [SV.own (LV.bytes (HashV.l v_2))], some [SV.own (LV.halfs l_2)], some [SV.u32 (St8.a v_3), SV.u32 (St8.b v_3), SV.u32 (St8.c v_3), SV.u32 (St8.d v_3), SV.u32 (St8.e v_3), SV.u32 (St8.f v_3), SV.u32 (St8.g v_3), SV.u32 (St8.h v_3)]] [])))))))))))))))))))))))))) := by kernel_rfl
def lMixS (s : St8) (l : List UInt8) (lo : Nat) : Plan := { loops := [
  (0, { β := Int × Unit, α := PSt × OwnV × Int × ArrH 64 × Unit, same := [22], keep := [0, 21, 23, 4], inv := fun _ _ x => x.1.v = s ∧ x.2.1 = ⟨l, lo, 64⟩ ∧ iB (cut l lo) x.2.2.2.1.l x.2.2.1, meas := fun _ x => (64 - x.2.2.1).toNat }),
  (2, { β := Unit, α := PSt × OwnV × ArrH 64 × Int × Unit, same := [], keep := [0, 21, 4, 7], inv := fun _ _ x => x.1.v = s ∧ x.2.1 = ⟨l, lo, 64⟩ ∧ iX (cut l lo) x.2.2.1.l x.2.2.2.1, meas := fun _ x => (64 - x.2.2.2.1).toNat }),
  (4, { β := Unit, α := PSt × OwnV × ArrH 64 × PSt × Int × Unit, same := [], keep := [0, 21, 4, 12, 86], inv := fun _ _ x => x.1.v = s ∧ x.2.1 = ⟨l, lo, 64⟩ ∧ iR (wX (cut l lo) 48) s x.2.2.1.l x.2.2.2.1.v x.2.2.2.2.1, meas := fun _ x => (64 - x.2.2.2.2.1).toNat })] }
theorem vcMixS (s : St8) (l : List UInt8) (lo : Nat) (Q : SV → List (Option Blk) → Prop) : NnRaw tt spH1 9 [] (lMixS s l lo) Tryz.f79 [.ptr 0 0, .sl 1 lo 64] [s.cells, [.own (.bytes l)]] Q =
 (((64 : Nat) = (64 : Nat)) ∧ (((s = s) ∧ ((OwnV.mk l lo (64 : Nat) = OwnV.mk l lo (64 : Nat)) ∧ (iB (cut l lo) [UInt32.ofNat (Int.toNat (0 : Int)), UInt32.ofNat (Int.toNat (0 : Int)), UInt32.ofNat (Int.toNat (0 : Int)), UInt32.ofNat (Int.toNat (0 : Int)), UInt32.ofNat (Int.toNat (0 : Int)), UInt32.ofNat (Int.toNat (0 : Int)), UInt32.ofNat (Int.toNat (0 : Int)), UInt32.ofNat (Int.toNat (0 : Int)), UInt32.ofNat (Int.toNat (0 : Int)), UInt32.ofNat (Int.toNat (0 : Int)), UInt32.ofNat (Int.toNat (0 : Int)), UInt32.ofNat (Int.toNat (0 : Int)), UInt32.ofNat (Int.toNat (0 : Int)), UInt32.ofNat (Int.toNat (0 : Int)), UInt32.ofNat (Int.toNat (0 : Int)), UInt32.ofNat (Int.toNat (0 : Int)), UInt32.ofNat (Int.toNat (0 : Int)), UInt32.ofNat (Int.toNat (0 : Int)), UInt32.ofNat (Int.toNat (0 : Int)), UInt32.ofNat (Int.toNat (0 : Int)), UInt32.ofNat (Int.toNat (0 : Int)), UInt32.ofNat (Int.toNat (0 : Int)), UInt32.ofNat (Int.toNat (0 : Int)), UInt32.ofNat (Int.toNat (0 : Int)),
 UInt32.ofNat (Int.toNat (0 : Int)), UInt32.ofNat (Int.toNat (0 : Int)), UInt32.ofNat (Int.toNat (0 : Int)), UInt32.ofNat (Int.toNat (0 : Int)), UInt32.ofNat (Int.toNat (0 : Int)), UInt32.ofNat (Int.toNat (0 : Int)), UInt32.ofNat (Int.toNat (0 : Int)), UInt32.ofNat (Int.toNat (0 : Int)), UInt32.ofNat (Int.toNat (0 : Int)), UInt32.ofNat (Int.toNat (0 : Int)), UInt32.ofNat (Int.toNat (0 : Int)), UInt32.ofNat (Int.toNat (0 : Int)), UInt32.ofNat (Int.toNat (0 : Int)), UInt32.ofNat (Int.toNat (0 : Int)), UInt32.ofNat (Int.toNat (0 : Int)), UInt32.ofNat (Int.toNat (0 : Int)), UInt32.ofNat (Int.toNat (0 : Int)), UInt32.ofNat (Int.toNat (0 : Int)), UInt32.ofNat (Int.toNat (0 : Int)), UInt32.ofNat (Int.toNat (0 : Int)), UInt32.ofNat (Int.toNat (0 : Int)), UInt32.ofNat (Int.toNat (0 : Int)), UInt32.ofNat (Int.toNat (0 : Int)), UInt32.ofNat (Int.toNat (0 : Int)), UInt32.ofNat (Int.toNat (0 : Int)), UInt32.ofNat (Int.toNat (0 : Int)), UInt32.ofNat (Int.toNat (0 : Int)),
 UInt32.ofNat (Int.toNat (0 : Int)), UInt32.ofNat (Int.toNat (0 : Int)), UInt32.ofNat (Int.toNat (0 : Int)), UInt32.ofNat (Int.toNat (0 : Int)), UInt32.ofNat (Int.toNat (0 : Int)), UInt32.ofNat (Int.toNat (0 : Int)), UInt32.ofNat (Int.toNat (0 : Int)), UInt32.ofNat (Int.toNat (0 : Int)), UInt32.ofNat (Int.toNat (0 : Int)), UInt32.ofNat (Int.toNat (0 : Int)), UInt32.ofNat (Int.toNat (0 : Int)), UInt32.ofNat (Int.toNat (0 : Int)), UInt32.ofNat (Int.toNat (0 : Int))] (0 : Int)))) ∧ (∀ v : St8, (∀ l_1 : List UInt8, (∀ lo_1 : Nat, (∀ len : Nat, (∀ a : Int, (∀ l_2 : List UInt32, (((v = s) ∧ ((OwnV.mk l_1 lo_1 len = OwnV.mk l lo (64 : Nat)) ∧ (iB (cut l lo) l_2 a))) → bcase (decide (a < (↑(64 : Nat) : Int))) (((((0 : Int) ≤ a) ∧ (a < (↑len : Int))) ∧ ((((0 : Int) ≤ IntKind.wrap IntKind.i64 (Int.tdiv a (4 : Int))) ∧ (IntKind.wrap IntKind.i64 (Int.tdiv a (4 : Int)) < (↑(64 : Nat) : Int))) ∧ ((((0 : Int) ≤ IntKind.wrap IntKind.i64 (Int.tdiv a (4 : Int))) ∧
 (IntKind.wrap IntKind.i64 (Int.tdiv a (4 : Int)) < (↑(64 : Nat) : Int))) ∧ ((List.length (List.set l_2 (Int.toNat (IntKind.wrap IntKind.i64 (Int.tdiv a (4 : Int)))) (shl32 (List.getD l_2 (Int.toNat (IntKind.wrap IntKind.i64 (Int.tdiv a (4 : Int)))) (0 : UInt32)) (UInt64.toNat (UInt64.ofNat (Int.toNat (8 : Int)))) ||| UInt8.toUInt32 (List.getD l_1 (lo_1 + Int.toNat a) (0 : UInt8)))) = (64 : Nat)) ∧ ((((↑(64 : Nat) : Int), ()) = ((↑(64 : Nat) : Int), ())) ∧ (((v = s) ∧ ((OwnV.mk l_1 lo_1 len = OwnV.mk l lo (64 : Nat)) ∧ (iB (cut l lo) (List.set l_2 (Int.toNat (IntKind.wrap IntKind.i64 (Int.tdiv a (4 : Int)))) (shl32 (List.getD l_2 (Int.toNat (IntKind.wrap IntKind.i64 (Int.tdiv a (4 : Int)))) (0 : UInt32)) (UInt64.toNat (UInt64.ofNat (Int.toNat (8 : Int)))) ||| UInt8.toUInt32 (List.getD l_1 (lo_1 + Int.toNat a) (0 : UInt8)))) (IntKind.wrap IntKind.i64 (a + (1 : Int)))))) ∧ (Int.toNat ((64 : Int) - IntKind.wrap IntKind.i64 (a + (1 : Int))) < Int.toNat ((64 : Int) - a)))))))))
 (((List.length l_2 = (64 : Nat)) ∧ (((v = s) ∧ ((OwnV.mk l_1 lo_1 len = OwnV.mk l lo (64 : Nat)) ∧ (iX (cut l lo) l_2 (16 : Int)))) ∧ (∀ v_1 : St8, (∀ l_3 : List UInt8, (∀ lo_2 : Nat, (∀ len_1 : Nat, (∀ l_4 : List UInt32, (∀ a_1 : Int, (((v_1 = s) ∧ ((OwnV.mk l_3 lo_2 len_1 = OwnV.mk l lo (64 : Nat)) ∧ (iX (cut l lo) l_4 a_1))) → bcase (decide (a_1 < (64 : Int))) (((((0 : Int) ≤ IntKind.wrap IntKind.i64 (a_1 - (15 : Int))) ∧ (IntKind.wrap IntKind.i64 (a_1 - (15 : Int)) < (↑(64 : Nat) : Int))) ∧ ((((0 : Int) ≤ IntKind.wrap IntKind.i64 (a_1 - (2 : Int))) ∧ (IntKind.wrap IntKind.i64 (a_1 - (2 : Int)) < (↑(64 : Nat) : Int))) ∧ ((((0 : Int) ≤ IntKind.wrap IntKind.i64 (a_1 - (16 : Int))) ∧ (IntKind.wrap IntKind.i64 (a_1 - (16 : Int)) < (↑(64 : Nat) : Int))) ∧ ((((0 : Int) ≤ IntKind.wrap IntKind.i64 (a_1 - (7 : Int))) ∧ (IntKind.wrap IntKind.i64 (a_1 - (7 : Int)) < (↑(64 : Nat) : Int))) ∧ ((((0 : Int) ≤ a_1) ∧ (a_1 < (↑(64 : Nat) : Int))) ∧ ((List.length (List.set l_4 (Int.toNat a_1)
 (List.getD l_4 (Int.toNat (IntKind.wrap IntKind.i64 (a_1 - (16 : Int)))) (0 : UInt32) + (turnF (List.getD l_4 (Int.toNat (IntKind.wrap IntKind.i64 (a_1 - (15 : Int)))) (0 : UInt32)) (7 : Int) ^^^ turnF (List.getD l_4 (Int.toNat (IntKind.wrap IntKind.i64 (a_1 - (15 : Int)))) (0 : UInt32)) (18 : Int) ^^^ shr32 (List.getD l_4 (Int.toNat (IntKind.wrap IntKind.i64 (a_1 - (15 : Int)))) (0 : UInt32)) (UInt64.toNat (UInt64.ofNat (Int.toNat (3 : Int))))) + List.getD l_4 (Int.toNat (IntKind.wrap IntKind.i64 (a_1 - (7 : Int)))) (0 : UInt32) + (turnF (List.getD l_4 (Int.toNat (IntKind.wrap IntKind.i64 (a_1 - (2 : Int)))) (0 : UInt32)) (17 : Int) ^^^ turnF (List.getD l_4 (Int.toNat (IntKind.wrap IntKind.i64 (a_1 - (2 : Int)))) (0 : UInt32)) (19 : Int) ^^^ shr32 (List.getD l_4 (Int.toNat (IntKind.wrap IntKind.i64 (a_1 - (2 : Int)))) (0 : UInt32)) (UInt64.toNat (UInt64.ofNat (Int.toNat (10 : Int))))))) = (64 : Nat)) ∧ ((() = ()) ∧ (((v_1 = s) ∧ ((OwnV.mk l_3 lo_2 len_1 = OwnV.mk l lo (64 : Nat)) ∧
 (iX (cut l lo) (List.set l_4 (Int.toNat a_1) (List.getD l_4 (Int.toNat (IntKind.wrap IntKind.i64 (a_1 - (16 : Int)))) (0 : UInt32) + (turnF (List.getD l_4 (Int.toNat (IntKind.wrap IntKind.i64 (a_1 - (15 : Int)))) (0 : UInt32)) (7 : Int) ^^^ turnF (List.getD l_4 (Int.toNat (IntKind.wrap IntKind.i64 (a_1 - (15 : Int)))) (0 : UInt32)) (18 : Int) ^^^ shr32 (List.getD l_4 (Int.toNat (IntKind.wrap IntKind.i64 (a_1 - (15 : Int)))) (0 : UInt32)) (UInt64.toNat (UInt64.ofNat (Int.toNat (3 : Int))))) + List.getD l_4 (Int.toNat (IntKind.wrap IntKind.i64 (a_1 - (7 : Int)))) (0 : UInt32) + (turnF (List.getD l_4 (Int.toNat (IntKind.wrap IntKind.i64 (a_1 - (2 : Int)))) (0 : UInt32)) (17 : Int) ^^^ turnF (List.getD l_4 (Int.toNat (IntKind.wrap IntKind.i64 (a_1 - (2 : Int)))) (0 : UInt32)) (19 : Int) ^^^ shr32 (List.getD l_4 (Int.toNat (IntKind.wrap IntKind.i64 (a_1 - (2 : Int)))) (0 : UInt32)) (UInt64.toNat (UInt64.ofNat (Int.toNat (10 : Int))))))) (IntKind.wrap IntKind.i64 (a_1 + (1 : Int)))))) ∧
 (Int.toNat ((64 : Int) - IntKind.wrap IntKind.i64 (a_1 + (1 : Int))) < Int.toNat ((64 : Int) - a_1))))))))))) (((List.length l_4 = (64 : Nat)) ∧ (((v_1 = s) ∧ ((OwnV.mk l_3 lo_2 len_1 = OwnV.mk l lo (64 : Nat)) ∧ (iR (wX (cut l lo) (48 : Nat)) s l_4 v_1 (0 : Int)))) ∧ (∀ v_2 : St8, (∀ l_5 : List UInt8, (∀ lo_3 : Nat, (∀ len_2 : Nat, (∀ l_6 : List UInt32, (∀ v_3 : St8, (∀ a_2 : Int, (((v_2 = s) ∧ ((OwnV.mk l_5 lo_3 len_2 = OwnV.mk l lo (64 : Nat)) ∧ (iR (wX (cut l lo) (48 : Nat)) s l_6 v_3 a_2))) → bcase (decide (a_2 < (64 : Int))) (((((0 : Int) ≤ a_2) ∧ (a_2 < (↑(64 : Nat) : Int))) ∧ ((((0 : Int) ≤ a_2) ∧ (a_2 < (↑(64 : Nat) : Int))) ∧ ((List.length l_6 = (64 : Nat)) ∧ ((() = ()) ∧ (((v_2 = s) ∧ ((OwnV.mk l_5 lo_3 len_2 = OwnV.mk l lo (64 : Nat)) ∧ (iR (wX (cut l lo) (48 : Nat)) s l_6 (St8.mk (St8.h v_3 + (turnF (St8.e v_3) (6 : Int) ^^^ turnF (St8.e v_3) (11 : Int) ^^^ turnF (St8.e v_3) (25 : Int)) + (St8.e v_3 &&& St8.f v_3 ^^^ ~~~St8.e v_3 &&& St8.g v_3) +
 List.getD glob0 (Int.toNat a_2) (0 : UInt32) + List.getD l_6 (Int.toNat a_2) (0 : UInt32) + ((turnF (St8.a v_3) (2 : Int) ^^^ turnF (St8.a v_3) (13 : Int) ^^^ turnF (St8.a v_3) (22 : Int)) + (St8.a v_3 &&& St8.b v_3 ^^^ St8.a v_3 &&& St8.c v_3 ^^^ St8.b v_3 &&& St8.c v_3))) (St8.a v_3) (St8.b v_3) (St8.c v_3) (St8.d v_3 + (St8.h v_3 + (turnF (St8.e v_3) (6 : Int) ^^^ turnF (St8.e v_3) (11 : Int) ^^^ turnF (St8.e v_3) (25 : Int)) + (St8.e v_3 &&& St8.f v_3 ^^^ ~~~St8.e v_3 &&& St8.g v_3) + List.getD glob0 (Int.toNat a_2) (0 : UInt32) + List.getD l_6 (Int.toNat a_2) (0 : UInt32))) (St8.e v_3) (St8.f v_3) (St8.g v_3)) (IntKind.wrap IntKind.i64 (a_2 + (1 : Int)))))) ∧ (Int.toNat ((64 : Int) - IntKind.wrap IntKind.i64 (a_2 + (1 : Int))) < Int.toNat ((64 : Int) - a_2)))))))) ((Q (retSV []) (applyWs [some [SV.u32 (St8.a v_2 + St8.a v_3), SV.u32 (St8.b v_2 + St8.b v_3), SV.u32 (St8.c v_2 + St8.c v_3),
 SV.u32 (St8.d v_2 + St8.d v_3), SV.u32 (St8.e v_2 + St8.e v_3), SV.u32 (St8.f v_2 + St8.f v_3), SV.u32 (St8.g v_2 + St8.g v_3), SV.u32 (St8.h v_2 + St8.h v_3)], some [SV.own (LV.bytes l_5)], some [SV.own (LV.halfs l_6)], some [SV.u32 (St8.a v_3), SV.u32 (St8.b v_3), SV.u32 (St8.c v_3), SV.u32 (St8.d v_3), SV.u32 (St8.e v_3), SV.u32 (St8.f v_3), SV.u32 (St8.g v_3), SV.u32 (St8.h v_3)]] []))))))))))))))))))))))))))))))))) := by kernel_rfl
end Go.Proofs.YtficbeeoafiiaaaGreatDoor.H5
