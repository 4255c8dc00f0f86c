/- A symbolic machine for Go functions, and what the functions that the law reaches come to: DgB, DgC, DgD, DgE, DgF, DgG, DgH, DgI. -/
import Derived.Test.YtficbeeoafiiaaaGreatDoorQ22
import Derived.Test.YtficbeeoafiiaaaGreatDoorQ7
/- Package digest: a block is taken. -/
set_option maxRecDepth 10000
namespace Go.Proofs.YtficbeeoafiiaaaGreatDoor.H5
open Go.Sym Go.Dig R1
theorem svf {y : SV} (x : SV) (h : (fun x => x = y) x) (at_ : At) (w : World) (v : Value) (r : Rel at_ w x v) : Rel at_ w y v := by have h' : x = y := h; subst h'; exact r
theorem ok_Rotl : SpecOK Tryz.prog 106 sRotl := by
  refine fn_okL (by kernel_rfl) tt_ok (SpecsOK.nil _) 3 Tryz.func106 (by decide +kernel) (by kernel_rfl) ?_
  rintro ⟨x, k, _⟩ _
  exact ⟨_, {}, fun t => t = _, LnVD.of (vcRotl x k _) rfl, svf⟩
theorem spH0_ok : SpecsOK Tryz.prog spH0 := .cons ok_Rotl (.nil _)
theorem ok_Turn : SpecOK Tryz.prog 100 sTurn := by
  refine fn_okL (by kernel_rfl) tt_ok spH0_ok 3 Tryz.func100 (by decide +kernel) (by kernel_rfl) ?_
  rintro ⟨x, k, _⟩ _
  exact ⟨_, {}, fun t => t = _, LnVD.of (vcTurn x k _) rfl, svf⟩
theorem spH1_ok : SpecsOK Tryz.prog spH1 := .cons ok_Turn (.nil _)

theorem wB_len (b : List UInt8) : ∀ i, (wB b i).length = 64
  | 0 => by simp [wB]
  | i + 1 => by rw [wB, List.length_set, wB_len b i]
theorem wX_len (b : List UInt8) : ∀ i, (wX b i).length = 64
  | 0 => wB_len b 64
  | i + 1 => by rw [wX, List.length_set, wX_len b i]
theorem getD_cut (l : List UInt8) (lo i : Nat) (h : i < 64) : l.getD (lo + i) 0 = (cut l lo).getD i 0 := by
  simp only [cut, List.getD_eq_getElem?_getD, List.getElem?_take, List.getElem?_drop, if_pos h]
theorem quo4 {a : Int} (h : 0 ≤ a) (h' : a < 64) : IntKind.wrap .i64 (Int.tdiv a 4) = ((a.toNat / 4 : Nat) : Int) := by
  rw [tdiv_nn h, wr (by omega)]; omega
theorem stepB {l : List UInt8} {lo : Nat} {a : Int} {w : List UInt32} (h : iB (cut l lo) w a) (ha : a < 64) :
    iB (cut l lo) (List.set w (Int.toNat (IntKind.wrap IntKind.i64 (Int.tdiv a 4))) (shl32 (List.getD w (Int.toNat (IntKind.wrap IntKind.i64 (Int.tdiv a 4))) 0) (UInt64.toNat (UInt64.ofNat (Int.toNat 8))) ||| UInt8.toUInt32 (List.getD l (lo + Int.toNat a) 0))) (IntKind.wrap IntKind.i64 (a + 1)) := by
  obtain ⟨h0, h1, rfl⟩ := h
  rw [quo4 h0 ha, wr (by omega), Int.toNat_natCast, getD_cut l lo _ (by omega)]
  refine ⟨by omega, by omega, ?_⟩
  rw [show (a + 1).toNat = a.toNat + 1 by omega, wB]
  rfl
theorem stepX {b : List UInt8} {a : Int} {w : List UInt32} (h : iX b w a) (ha : a < 64) :
    iX b (List.set w (Int.toNat a) (List.getD w (Int.toNat (IntKind.wrap IntKind.i64 (a - 16))) 0 +
          (turnF (List.getD w (Int.toNat (IntKind.wrap IntKind.i64 (a - 15))) 0) 7 ^^^ turnF (List.getD w (Int.toNat (IntKind.wrap IntKind.i64 (a - 15))) 0) 18 ^^^ shr32 (List.getD w (Int.toNat (IntKind.wrap IntKind.i64 (a - 15))) 0) (UInt64.toNat (UInt64.ofNat (Int.toNat 3)))) +
        List.getD w (Int.toNat (IntKind.wrap IntKind.i64 (a - 7))) 0 +
      (turnF (List.getD w (Int.toNat (IntKind.wrap IntKind.i64 (a - 2))) 0) 17 ^^^ turnF (List.getD w (Int.toNat (IntKind.wrap IntKind.i64 (a - 2))) 0) 19 ^^^ shr32 (List.getD w (Int.toNat (IntKind.wrap IntKind.i64 (a - 2))) 0) (UInt64.toNat (UInt64.ofNat (Int.toNat 10)))))) (IntKind.wrap IntKind.i64 (a + 1)) := by
  obtain ⟨h0, h1, rfl⟩ := h
  rw [wr (by omega), wr (by omega), wr (by omega), wr (by omega), wr (by omega)]
  refine ⟨by omega, by omega, ?_⟩
  obtain ⟨n, rfl⟩ : ∃ n : Nat, a = ((n + 16 : Nat) : Int) := ⟨(a - 16).toNat, by omega⟩
  rw [show (((n + 16 : Nat) : Int) + 1).toNat - 16 = n + 1 by omega, wX]
  rw [show (((n + 16 : Nat) : Int)).toNat = n + 16 by omega, show (((n + 16 : Nat) : Int) - 16).toNat = n by omega, show (((n + 16 : Nat) : Int) - 15).toNat = n + 1 by omega, show (((n + 16 : Nat) : Int) - 7).toNat = n + 9 by omega, show (((n + 16 : Nat) : Int) - 2).toNat = n + 14 by omega, show n + 16 - 16 = n by omega]
  rfl
theorem stepR {w0 w : List UInt32} {v0 v : St8} {a : Int} (h : iR w0 v0 w v a) (ha : a < 64) : iR w0 v0 w (round v (glob0.getD a.toNat 0) (w.getD a.toNat 0)) (IntKind.wrap IntKind.i64 (a + 1)) := by
  obtain ⟨rfl, h0, h1, rfl⟩ := h
  rw [wr (by omega)]
  refine ⟨rfl, by omega, by omega, ?_⟩
  rw [show (a + 1).toNat = a.toNat + 1 by omega, rounds]
theorem rng {a : Int} (h : 0 ≤ a) (h' : a < 64) {k : Int} (hk : 0 ≤ k ∧ k ≤ a) : 0 ≤ IntKind.wrap .i64 (a - k) ∧ IntKind.wrap .i64 (a - k) < ((64 : Nat) : Int) := by rw [wr (by omega)]; omega
theorem lenB {b : List UInt8} {w : List UInt32} {a : Int} (h : iB b w a) : w.length = 64 := by rw [h.2.2, wB_len]
theorem lenX {b : List UInt8} {w : List UInt32} {a : Int} (h : iX b w a) : w.length = 64 := by rw [h.2.2, wX_len]
theorem mix_of (s : St8) (b : List UInt8) (w : List UInt32) (v : St8) (a : Int) (h : iR (wX b 48) s w v a) (ha : ¬ a < 64) : s.plus v = mixV s b := by
  obtain ⟨_, h0, h1, rfl⟩ := h
  rw [mixV_eq, show a.toNat = 64 by omega]
  rfl
def Left (c : List SV) (l : List UInt8) (r : SV) (M : List (Option Blk)) : Prop := r = retSV [] ∧ ∃ x y, M = [some c, some [.own (.bytes l)], x, y]
theorem vcs (s : St8) (l : List UInt8) (lo : Nat) : NnVD tt spH1 9 Tryz.f79 [.ptr 0 0, .sl 1 lo 64] [s.cells, [.own (.bytes l)]] (Left (mixV s (cut l lo)).cells l) := by
  refine NnVD.of (vcMixS s l lo _) ?_
  refine ⟨rfl, ⟨rfl, rfl, ⟨by decide, by decide, rfl⟩⟩, ?_⟩
  rintro v l1 lo1 len a w ⟨rfl, hO, hB⟩
  cases hO
  rw [bcase_dec]
  refine ⟨fun ha => ?_, fun ha => ?_⟩
  · replace ha : a < 64 := ha
    have h0 := hB.1
    have q := quo4 h0 ha
    refine ⟨⟨h0, ha⟩, ⟨by rw [q]; omega, by rw [q]; omega⟩, ⟨by rw [q]; omega, by rw [q]; omega⟩, ?_, rfl, ⟨rfl, rfl, stepB hB ha⟩, ?_⟩
    · rw [List.length_set, lenB hB]
    · rw [wr (by omega)]; omega
  · replace ha : ¬ a < 64 := ha
    have h1 := hB.2.1
    have hw : w = wB (cut l lo) 64 := by rw [hB.2.2, show a.toNat = 64 by omega]
    refine ⟨lenB hB, ⟨rfl, rfl, ⟨by decide, by decide, hw⟩⟩, ?_⟩
    rintro v1 l2 lo2 len2 w2 a2 ⟨rfl, hO, hX⟩
    cases hO
    rw [bcase_dec]
    refine ⟨fun ha2 => ?_, fun ha2 => ?_⟩
    · have h2 := hX.1
      refine ⟨rng (by omega) ha2 (by omega), rng (by omega) ha2 (by omega), rng (by omega) ha2 (by omega), rng (by omega) ha2 (by omega), ⟨by omega, ha2⟩, ?_, rfl, ⟨rfl, rfl, stepX hX ha2⟩, ?_⟩
      · rw [List.length_set, lenX hX]
      · rw [wr (by omega)]; omega
    · have h2 := hX.2.1
      refine ⟨lenX hX, ⟨rfl, rfl, ⟨by rw [hX.2.2, show a2.toNat - 16 = 48 by omega], by decide, by decide, rfl⟩⟩, ?_⟩
      rintro v2 l3 lo3 len3 w3 v3 a3 ⟨rfl, hO, hR⟩
      cases hO
      rw [bcase_dec]
      refine ⟨fun ha3 => ?_, fun ha3 => ?_⟩
      · have h3 := hR.2.1
        refine ⟨⟨h3, ha3⟩, ⟨h3, ha3⟩, by rw [hR.1, wX_len], rfl, ⟨rfl, rfl, stepR hR ha3⟩, ?_⟩
        rw [wr (by omega)]; omega
      · refine ⟨rfl, ?_⟩
        rw [← mix_of _ _ _ _ _ hR ha3]
        exact ⟨_, _, rfl⟩
theorem vch (h : HashV) (lo : Nat) : NnVD tt spH1 9 Tryz.f79 [.ptr 0 0, .sl 1 lo 64] [h.cells 1, [.own (.bytes h.l)]] (Left (({ h with s := mixV h.s (cut h.l lo) } : HashV).cells 1) h.l) := by
  refine NnVD.of (vcMixH h lo _) ?_
  refine ⟨rfl, ⟨rfl, rfl, rfl, ⟨by decide, by decide, rfl⟩⟩, ?_⟩
  rintro v lo1 len a w ⟨rfl, rfl, rfl, hB⟩
  rw [bcase_dec]
  refine ⟨fun ha => ?_, fun ha => ?_⟩
  · replace ha : a < 64 := ha
    have h0 := hB.1
    have q := quo4 h0 ha
    refine ⟨⟨h0, ha⟩, ⟨by rw [q]; omega, by rw [q]; omega⟩, ⟨by rw [q]; omega, by rw [q]; omega⟩, ?_, rfl, ⟨rfl, rfl, rfl, stepB hB ha⟩, ?_⟩
    · rw [List.length_set, lenB hB]
    · rw [wr (by omega)]; omega
  · replace ha : ¬ a < 64 := ha
    have h1 := hB.2.1
    have hw : w = wB (cut v.l lo1) 64 := by rw [hB.2.2, show a.toNat = 64 by omega]
    refine ⟨lenB hB, ⟨rfl, ⟨by decide, by decide, hw⟩⟩, ?_⟩
    rintro v1 w2 a2 ⟨rfl, hX⟩
    rw [bcase_dec]
    refine ⟨fun ha2 => ?_, fun ha2 => ?_⟩
    · have h2 := hX.1
      refine ⟨rng (by omega) ha2 (by omega), rng (by omega) ha2 (by omega), rng (by omega) ha2 (by omega), rng (by omega) ha2 (by omega), ⟨by omega, ha2⟩, ?_, rfl, ⟨rfl, stepX hX ha2⟩, ?_⟩
      · rw [List.length_set, lenX hX]
      · rw [wr (by omega)]; omega
    · have h2 := hX.2.1
      refine ⟨lenX hX, ⟨rfl, ⟨by rw [hX.2.2, show a2.toNat - 16 = 48 by omega], by decide, by decide, rfl⟩⟩, ?_⟩
      rintro v2 w3 v3 a3 ⟨rfl, hR⟩
      rw [bcase_dec]
      refine ⟨fun ha3 => ?_, fun ha3 => ?_⟩
      · have h3 := hR.2.1
        refine ⟨⟨h3, ha3⟩, ⟨h3, ha3⟩, by rw [hR.1, wX_len], rfl, ⟨rfl, stepR hR ha3⟩, ?_⟩
        rw [wr (by omega)]; omega
      · refine ⟨rfl, ?_⟩
        rw [← mix_of _ _ _ _ _ hR ha3]
        exact ⟨_, _, rfl⟩
/-- Names of two blocks. -/
theorem nm2 {look : Nat → Option Blk} {b k : Nat} {c0 c1 d0 d1 : Blk} (h0 : look b = some d0) (h1 : look k = some d1) (r0 : renNL [some b, some k] c0 = some d0) (r1 : renNL [some b, some k] c1 = some d1) :
    ∀ (i n : Nat), ([some b, some k] : Nm)[i]? = some (some n) → ∃ a cs : Blk, [c0, c1][i]? = some a ∧ look n = some cs ∧ renNL [some b, some k] a = some cs
  | 0, n, h => by simp only [List.getElem?_cons_zero, Option.some.injEq] at h; subst h; exact ⟨c0, d0, rfl, h0, r0⟩
  | 1, n, h => by simp only [List.getElem?_cons_succ, List.getElem?_cons_zero, Option.some.injEq] at h; subst h; exact ⟨c1, d1, rfl, h1, r1⟩
  | i + 2, n, h => by simp at h
theorem nn2 {b k : Nat} {M0 : List Blk} : ∀ (i : Nat), ([some b, some k] : Nm)[i]? = some none → ∃ l : LV, M0[i]? = some [.own l] ∧ l.len = 0
  | 0, h => by simp at h
  | 1, h => by simp at h
  | i + 2, h => by simp at h
noncomputable def mixOf (cs : List SV) (l : List UInt8) (lo k : Nat) : Option Blk :=
  match dSt8 cs with
  | some s => some (mixV s (cut l lo)).cells
  | none => match dHashC l cs with
    | some (h, k') => if k' = k then some (({ h with s := mixV h.s (cut l lo) } : HashV).cells k) else none
    | none => none
noncomputable def sMix : NSpecF := fun look _ svs =>
  match svs with
  | [.ptr b 0, .sl k lo len] => if len = 64 ∧ b ≠ k then (match look b, look k with
    | some cs, some [.own (.bytes l)] => (mixOf cs l lo k).map fun d => ⟨none, retSV [], [(b, d), (k, [.own (.bytes l)])]⟩
    | _, _ => none) else none
  | _ => none
theorem ok_Mix : NSpecOK Tryz.prog 79 sMix := by
  refine fn_okN (by kernel_rfl) tt_ok spH1_ok 9 (fn := Tryz.f79) Tryz.func79 (by decide +kernel) (by kernel_rfl) (fun look fresh svs out h hp => ?_)
  unfold sMix at h
  split at h
  · rename_i b k lo len
    split at h
    · rename_i hc
      obtain ⟨rfl, hbk⟩ := hc
      split at h
      · rename_i cs l hb hk
        obtain ⟨d, hd, e⟩ := Option.map_eq_some_iff.1 h
        subst e
        have nd : ([some b, some k].filterMap id : List Nat).Nodup := by simp [hbk]
        have rs : renNL [some b, some k] [.ptr 0 0, .sl 1 lo 64] = some [.ptr b 0, .sl k lo 64] := rfl
        unfold mixOf at hd
        split at hd
        · rename_i s hs
          obtain rfl := dSt8_ok hs
          simp only [Option.some.injEq] at hd
          subst hd
          refine ⟨[some b, some k], _, _, _, _, nd, rfl, nm2 hb hk rfl rfl, nn2, fun _ _ _ r => r, rs, vcs s l lo, ?_⟩
          rintro r M' ⟨rfl, x, y, rfl⟩
          exact ⟨9, 0, rfl⟩
        · split at hd
          · rename_i h' k' hh
            split at hd
            · rename_i hk'
              subst hk'
              obtain ⟨rfl, rfl⟩ := dHashC_ok hh
              simp only [Option.some.injEq] at hd
              subst hd
              refine ⟨[some b, some k'], _, _, _, _, nd, rfl, nm2 hb hk rfl rfl, nn2, fun _ _ _ r => r, rs, vch h' lo, ?_⟩
              rintro r M' ⟨rfl, x, y, rfl⟩
              exact ⟨9, 0, rfl⟩
            · cases hd
          · cases hd
      · cases h
    · cases h
  · cases h
end Go.Proofs.YtficbeeoafiiaaaGreatDoor.H5
/- Package digest: bytes are written, the sum is told: what the bodies come to. -/
set_option maxRecDepth 10000
namespace Go.Proofs.YtficbeeoafiiaaaGreatDoor.H5
open Go.Sym Go.Dig R1
noncomputable def spH2 : Specs := [(79, .memf sMix)]
/-- The state, so many blocks on. -/
noncomputable def absN (s : St8) (r : List UInt8) : Nat → St8
  | 0 => s
  | i + 1 => mixV (absN s r i) (cut r (64 * i))
/-- A loop's own hash; its list in the block k, behind blocks that are dead. -/
structure PHw where
  v : HashV
instance : LEnc PHw where
  kind := none
  enc nx a := (.ptr nx 0, [a.v.cells (nx + 2), [], [.own (.bytes a.v.l)]])
  dec nx s M := match s, M with
    | .ptr b 0, some cs :: some [] :: some [.own (.bytes l)] :: M' => if b = nx then (match dHashC l cs with | some (r, k) => if k = nx + 2 then some (none, ⟨r⟩, M') else none | none => none) else none
    | _, _ => none
  all P := ∀ v, P ⟨v⟩
  all_ok h a := h a.v
  ok := by
    intro nx s M p a M' h hp
    split at h
    · split at h
      · rename_i hb
        split at h
        · rename_i r k hd
          split at h
          · rename_i hk
            simp only [Option.some.injEq, Prod.mk.injEq] at h
            obtain ⟨_, rfl, rfl⟩ := h
            subst hb; subst hk
            obtain ⟨e1, e2⟩ := dHashC_ok hd
            subst e2
            exact ⟨by rw [e1]; rfl, fun r => r⟩
          · cases h
        · cases h
      · cases h
    · cases h
/-- The same; what is written is one's own, too. -/
structure PHv where
  v : HashV
  p : List UInt8
instance : LEnc PHv where
  kind := none
  enc nx a := (.ptr nx 0, [a.v.cells (nx + 3), [], [.own (.bytes a.p)], [.own (.bytes a.v.l)]])
  dec nx s M := match s, M with
    | .ptr b 0, some cs :: some [] :: some [.own (.bytes p)] :: some [.own (.bytes l)] :: M' => if b = nx then (match dHashC l cs with | some (r, k) => if k = nx + 3 then some (none, ⟨r, p⟩, M') else none | none => none) else none
    | _, _ => none
  all P := ∀ v p, P ⟨v, p⟩
  all_ok h a := h a.v a.p
  ok := by
    intro nx s M p a M' h hp
    split at h
    · split at h
      · rename_i hb
        split at h
        · rename_i r k hd
          split at h
          · rename_i hk
            simp only [Option.some.injEq, Prod.mk.injEq] at h
            obtain ⟨_, rfl, rfl⟩ := h
            subst hb; subst hk
            obtain ⟨e1, e2⟩ := dHashC_ok hd
            subst e2
            exact ⟨by rw [e1]; rfl, fun r => r⟩
          · cases h
        · cases h
      · cases h
    · cases h
/-- Blocks are taken off. -/
def iW (s : St8) (r : List UInt8) (n : UInt64) (v : HashV) : Prop := ∃ i, v.l = r ∧ v.lo = 64 * i ∧ v.lo + v.len = r.length ∧ v.s = absN s r i ∧ v.n = n
--STOP iW, absN, mixV
def rOf (h : HashV) (p : List UInt8) : List UInt8 := (h.l.drop h.lo) ++ p
def nOf (h : HashV) (p : List UInt8) : UInt64 := h.n + UInt64.ofInt (p.length : Int)
--STOP rOf, nOf
def lWrA (h : HashV) (p : List UInt8) : Plan := { loops := [(0, { β := Unit, α := PHw × Unit, same := [], keep := [0], inv := fun _ _ x => iW h.s (rOf h p) (nOf h p) x.1.v, meas := fun _ x => x.1.v.len })] }
theorem vcWrA (h : HashV) (p : List UInt8) (Q : SV → List (Option Blk) → Prop) : NnRaw tt spH2 9 [] (lWrA h p) Tryz.f43 [.ptr 0 0, .lst (.bytes p)] [h.cells 1, [.own (.bytes h.l)]] Q =
 (((HashV.lo h + HashV.len h = List.length (HashV.l h)) ∧ (List.length (List.drop (HashV.lo h) (List.take (List.length (HashV.l h)) (HashV.l h)) ++ p) ≤ appLim)) ∧ ((iW (HashV.s h) (rOf h p) (nOf h p) (HashV.mk (HashV.s h) (List.drop (HashV.lo h) (List.take (List.length (HashV.l h)) (HashV.l h)) ++ p) (0 : Nat) (List.length (List.drop (HashV.lo h) (List.take (List.length (HashV.l h)) (HashV.l h)) ++ p)) (HashV.n h + UInt64.ofInt (↑(List.length p) : Int)))) ∧ (∀ v : HashV, ((iW (HashV.s h) (rOf h p) (nOf h p) v) → bcase (decide ((↑(HashV.len v) : Int) ≥ (64 : Int))) (((((0 : Int) ≤ (0 : Int)) ∧ (((0 : Int) ≤ (64 : Int)) ∧ ((64 : Int) ≤ (↑(HashV.len v) : Int)))) ∧ ((((0 : Int) ≤ (64 : Int)) ∧ (((64 : Int) ≤ (↑(HashV.len v) : Int)) ∧ ((↑(HashV.len v) : Int) ≤ (↑(HashV.len v) : Int)))) ∧ ((() = ()) ∧ ((iW (HashV.s h) (rOf h p) (nOf h p) (HashV.mk (mixV (HashV.s v) (cut (HashV.l v) (HashV.lo v + Int.toNat (0 : Int)))) (HashV.l v)
 (HashV.lo v + Int.toNat (64 : Int)) (Int.toNat (↑(HashV.len v) : Int) - Int.toNat (64 : Int)) (HashV.n v))) ∧ (Int.toNat (↑(HashV.len v) : Int) - Int.toNat (64 : Int) < HashV.len v)))))) ((Q (retSV []) (applyWs (applyWs (applyWs (applyWs (applyWs (applyWs [some [SV.u32 (St8.a (HashV.s v)), SV.u32 (St8.b (HashV.s v)), SV.u32 (St8.c (HashV.s v)), SV.u32 (St8.d (HashV.s v)), SV.u32 (St8.e (HashV.s v)), SV.u32 (St8.f (HashV.s v)), SV.u32 (St8.g (HashV.s v)), SV.u32 (St8.h (HashV.s v)), SV.sl ((0 : Nat) + (2 : Nat)) (HashV.lo v) (HashV.len v), SV.u64 (HashV.n v), SV.bool true], some [], some [SV.own (LV.bytes (HashV.l v))]] []) []) []) []) []) []))))))) := by kernel_rfl
def lWrB (h : HashV) (q : List UInt8) (lo len : Nat) : Plan := { loops := [(0, { β := Unit, α := PHv × Unit, same := [], keep := [0], inv := fun _ _ x => x.1.p = q ∧ iW h.s (rOf h ((q.drop lo).take len)) (nOf h ((q.drop lo).take len)) x.1.v, meas := fun _ x => x.1.v.len })] }
theorem vcWrB (h : HashV) (q : List UInt8) (lo len : Nat) (Q : SV → List (Option Blk) → Prop) : NnRaw tt spH2 9 [] (lWrB h q lo len) Tryz.f43 [.ptr 0 0, .sl 2 lo len] [h.cells 1, [.own (.bytes h.l)], [.own (.bytes q)]] Q =
 (((HashV.lo h + HashV.len h = List.length (HashV.l h)) ∧ (List.length (List.drop (HashV.lo h) (List.take (List.length (HashV.l h)) (HashV.l h)) ++ List.drop lo (List.take (lo + len) q)) ≤ appLim)) ∧ (((q = q) ∧ (iW (HashV.s h) (rOf h (List.take len (List.drop lo q))) (nOf h (List.take len (List.drop lo q))) (HashV.mk (HashV.s h) (List.drop (HashV.lo h) (List.take (List.length (HashV.l h)) (HashV.l h)) ++ List.drop lo (List.take (lo + len) q)) (0 : Nat) (List.length (List.drop (HashV.lo h) (List.take (List.length (HashV.l h)) (HashV.l h)) ++ List.drop lo (List.take (lo + len) q))) (HashV.n h + UInt64.ofInt (↑len : Int))))) ∧ (∀ v : HashV, (∀ p : List UInt8, (((p = q) ∧ (iW (HashV.s h) (rOf h (List.take len (List.drop lo q))) (nOf h (List.take len (List.drop lo q))) v)) → bcase (decide ((↑(HashV.len v) : Int) ≥ (64 : Int))) (((((0 : Int) ≤ (0 : Int)) ∧ (((0 : Int) ≤ (64 : Int)) ∧ ((64 : Int) ≤ (↑(HashV.len v) : Int)))) ∧ ((((0 : Int) ≤ (64 : Int)) ∧
 (((64 : Int) ≤ (↑(HashV.len v) : Int)) ∧ ((↑(HashV.len v) : Int) ≤ (↑(HashV.len v) : Int)))) ∧ ((() = ()) ∧ (((p = q) ∧ (iW (HashV.s h) (rOf h (List.take len (List.drop lo q))) (nOf h (List.take len (List.drop lo q))) (HashV.mk (mixV (HashV.s v) (cut (HashV.l v) (HashV.lo v + Int.toNat (0 : Int)))) (HashV.l v) (HashV.lo v + Int.toNat (64 : Int)) (Int.toNat (↑(HashV.len v) : Int) - Int.toNat (64 : Int)) (HashV.n v)))) ∧ (Int.toNat (↑(HashV.len v) : Int) - Int.toNat (64 : Int) < HashV.len v)))))) ((Q (retSV []) (applyWs (applyWs (applyWs (applyWs (applyWs (applyWs [some [SV.u32 (St8.a (HashV.s v)), SV.u32 (St8.b (HashV.s v)), SV.u32 (St8.c (HashV.s v)), SV.u32 (St8.d (HashV.s v)), SV.u32 (St8.e (HashV.s v)), SV.u32 (St8.f (HashV.s v)), SV.u32 (St8.g (HashV.s v)), SV.u32 (St8.h (HashV.s v)), SV.sl ((0 : Nat) + (3 : Nat)) (HashV.lo v) (HashV.len v), SV.u64 (HashV.n v), SV.bool true], some [], some [SV.own (LV.bytes p)], some [SV.own (LV.bytes (HashV.l v))]] []) []) []) []) [])
 [])))))))) := by kernel_rfl

end Go.Proofs.YtficbeeoafiiaaaGreatDoor.H5
/- Package digest: bytes are written. -/
set_option maxRecDepth 10000
namespace Go.Proofs.YtficbeeoafiiaaaGreatDoor.H5
open Go.Sym Go.Dig R1
theorem spH2_ok : SpecsOK Tryz.prog spH2 := .consN ok_Mix (.nil _)
noncomputable def absT (s : St8) (r : List UInt8) : St8 := absN s r (r.length / 64)
def absR (r : List UInt8) : List UInt8 := r.drop (64 * (r.length / 64))
theorem iW_start (h : HashV) (q : List UInt8) (l : List UInt8) (len : Nat) (n : UInt64) (hl : l = rOf h q) (hlen : len = l.length) (hn : n = nOf h q) : iW h.s (rOf h q) (nOf h q) ⟨h.s, l, 0, len, n⟩ := by
  subst hl hlen hn
  exact ⟨0, rfl, rfl, by simp, rfl, rfl⟩
theorem iW_step {s : St8} {r : List UInt8} {n : UInt64} {v : HashV} (h : iW s r n v) (hv : 64 ≤ v.len) : iW s r n (HashV.mk (mixV v.s (cut v.l (v.lo + Int.toNat 0))) v.l (v.lo + Int.toNat 64) (Int.toNat (v.len : Int) - Int.toNat 64) v.n) := by
  obtain ⟨i, h1, h2, h3, h4, h5⟩ := h
  refine ⟨i + 1, h1, ?_, ?_, ?_, h5⟩
  · simp only; omega
  · simp only; omega
  · simp only [absN]
    rw [← h4, h1, h2]; rfl
def LeftW (h : HashV) (q : List UInt8) (ms : List (Option Blk)) (r : SV) (M : List (Option Blk)) : Prop :=
  r = retSV [] ∧ ∃ v, iW h.s (rOf h q) (nOf h q) v ∧ v.len < 64 ∧ M = some (v.cells (2 + ms.length)) :: some [] :: ms ++ [some [.own (.bytes v.l)]]
theorem wrA (h : HashV) (q : List UInt8) (h1 : h.lo + h.len = h.l.length) (h2 : (rOf h q).length ≤ appLim) : NnVD tt spH2 9 Tryz.f43 [.ptr 0 0, .lst (.bytes q)] [h.cells 1, [.own (.bytes h.l)]] (LeftW h q []) := by
  have e : List.drop h.lo (List.take (List.length h.l) h.l) ++ q = rOf h q := by rw [List.take_length]; rfl
  refine NnVD.of (vcWrA h q _) ⟨⟨h1, by rw [e]; exact h2⟩, iW_start h q _ _ _ e rfl rfl, fun v hv => ?_⟩
  rw [bcase_dec]
  refine ⟨fun hc => ?_, fun hc => ⟨rfl, v, hv, by omega, rfl⟩⟩
  refine ⟨⟨by omega, by omega, by omega⟩, ⟨by omega, by omega, by omega⟩, rfl, iW_step hv (by omega), by omega⟩
theorem wrB (h : HashV) (q : List UInt8) (lo len : Nat) (h1 : h.lo + h.len = h.l.length) (h2 : (rOf h ((q.drop lo).take len)).length ≤ appLim) (h3 : lo + len ≤ q.length) : NnVD tt spH2 9 Tryz.f43 [.ptr 0 0, .sl 2 lo len] [h.cells 1, [.own (.bytes h.l)], [.own (.bytes q)]] (LeftW h ((q.drop lo).take len) [some [.own (.bytes q)]]) := by
  have e : List.drop h.lo (List.take (List.length h.l) h.l) ++ List.drop lo (List.take (lo + len) q) = rOf h ((q.drop lo).take len) := by rw [List.take_length, List.drop_take, Nat.add_sub_cancel_left]; rfl
  have el : ((q.drop lo).take len).length = len := by simp; omega
  refine NnVD.of (vcWrB h q lo len _) ⟨⟨h1, by rw [e]; exact h2⟩, ⟨rfl, iW_start h _ _ _ _ e rfl (by unfold nOf; rw [el])⟩, ?_⟩
  rintro v p ⟨rfl, hv⟩
  rw [bcase_dec]
  refine ⟨fun hc => ?_, fun hc => ⟨rfl, v, hv, by omega, rfl⟩⟩
  refine ⟨⟨by omega, by omega, by omega⟩, ⟨by omega, by omega, by omega⟩, rfl, ⟨rfl, iW_step hv (by omega)⟩, by omega⟩

/-! What a caller is told. -/
def dW : List SV → Option (St8 × SV × UInt64)
  | [.u32 a, .u32 b, .u32 c, .u32 d, .u32 e, .u32 f, .u32 g, .u32 h, r, .u64 n, .bool true] => some (⟨a, b, c, d, e, f, g, h⟩, r, n)
  | _ => none
def restOf (look : Nat → Option Blk) : SV → Option (List UInt8 × Nat × Nat × Option Nat)
  | .sl k lo len => match look k with
    | some [.own (.bytes l)] => some (l, lo, len, some k)
    | _ => none
  | .val (.slice none 0 0) => some ([], 0, 0, none)
  | _ => none
def hashIn (look : Nat → Option Blk) (b : Nat) : Option (HashV × Option Nat) :=
  match look b with
  | some cs => match dW cs with
    | some (s, r, n) => match restOf look r with
      | some (l, lo, len, k) => some (⟨s, l, lo, len, n⟩, k)
      | none => none
    | none => none
  | none => none
def cellsW (s : St8) (n : UInt64) (r : SV) : List SV := [.u32 s.a, .u32 s.b, .u32 s.c, .u32 s.d, .u32 s.e, .u32 s.f, .u32 s.g, .u32 s.h, r, .u64 n, .bool true]
theorem dW_ok {cs : List SV} {x : St8 × SV × UInt64} (h : dW cs = some x) : cs = cellsW x.1 x.2.2 x.2.1 := by
  unfold dW at h
  split at h
  · simp only [Option.some.injEq] at h; subst h; rfl
  · cases h
theorem hashIn_ok {look : Nat → Option Blk} {b : Nat} {h : HashV} {k : Option Nat} (e : hashIn look b = some (h, k)) :
    (∃ k', k = some k' ∧ look b = some (h.cells k') ∧ look k' = some [.own (.bytes h.l)]) ∨ (k = none ∧ look b = some (cellsW h.s h.n (.val (.slice none 0 0))) ∧ h.l = [] ∧ h.lo = 0 ∧ h.len = 0) := by
  unfold hashIn at e
  split at e
  · rename_i cs hb
    split at e
    · rename_i s r n hd
      split at e
      · rename_i l lo len k' hr
        simp only [Option.some.injEq, Prod.mk.injEq] at e
        obtain ⟨rfl, rfl⟩ := e
        have e1 := dW_ok hd
        unfold restOf at hr
        split at hr
        · split at hr
          · rename_i hk
            simp only [Option.some.injEq, Prod.mk.injEq] at hr
            obtain ⟨rfl, rfl, rfl, rfl⟩ := hr
            exact .inl ⟨_, rfl, by rw [hb, e1]; rfl, hk⟩
          · cases hr
        · simp only [Option.some.injEq, Prod.mk.injEq] at hr
          obtain ⟨rfl, rfl, rfl, rfl⟩ := hr
          exact .inr ⟨rfl, by rw [hb, e1], rfl, rfl, rfl⟩
        · cases hr
      · cases e
    · cases e
  · cases e
noncomputable def outW (h : HashV) (q : List UInt8) (k : Prop) (b fresh : Nat) (ws : List (Nat × Blk)) : Out :=
  ⟨some (h.lo + h.len = h.l.length ∧ (rOf h q).length ≤ appLim ∧ k), retSV [], (b, cellsW (absT h.s (rOf h q)) (nOf h q) (.sl fresh 0 (absR (rOf h q)).length)) :: ws ++ [(fresh, [.own (.bytes (absR (rOf h q)))])]⟩
def kW : Option Nat → List (Nat × Blk)
  | some k => [(k, [])]
  | none => []
def neO (b : Nat) : Option Nat → Bool
  | some k => b != k
  | none => true
noncomputable def sWrite : NSpecF := fun look fresh svs =>
  match svs with
  | [.ptr b 0, p] => match hashIn look b with
    | some (h, k) => match p with
      | .lst (.bytes q) => if neO b k = true then some (outW h q True b fresh (kW k)) else none
      | .val (.slice none 0 _) => if neO b k = true then some (outW h [] True b fresh (kW k)) else none
      | .sl kp lo len => match look kp with
        | some [.own (.bytes q)] => if neO b k = true ∧ neO kp k = true ∧ b ≠ kp then some (outW h ((q.drop lo).take len) (lo + len ≤ q.length) b fresh (kW k ++ [(kp, [.own (.bytes q)])])) else none
        | _ => none
      | _ => none
    | none => none
  | _ => none
theorem left_out {h : HashV} {q : List UInt8} {v : HashV} (hi : iW h.s (rOf h q) (nOf h q) v) (hv : v.len < 64) : v.lo ≤ v.l.length ∧ v.len = (absR (rOf h q)).length ∧ (v.l.take v.l.length).drop v.lo = absR (rOf h q) ∧ v.s = absT h.s (rOf h q) ∧ v.n = nOf h q := by
  obtain ⟨i, h1, h2, h3, h4, h5⟩ := hi
  have hi : (rOf h q).length / 64 = i := by omega
  have e : absR (rOf h q) = (rOf h q).drop (64 * i) := by rw [absR, hi]
  refine ⟨by rw [h1]; omega, ?_, ?_, ?_, h5⟩
  · rw [e, List.length_drop]; omega
  · rw [e, h1, h2, List.take_length]
  · rw [h4, absT, hi]
theorem backA {h : HashV} {q : List UInt8} {b fresh : Nat} {k : Option Nat} {r : SV} {M : List (Option Blk)} (hl : LeftW h q [] r M) :
    ∃ jf lo0, backAll [some b, k] fresh jf lo0 M r = some (retSV [], (b, cellsW (absT h.s (rOf h q)) (nOf h q) (.sl fresh 0 (absR (rOf h q)).length)) :: kW k ++ [(fresh, [.own (.bytes (absR (rOf h q)))])]) := by
  obtain ⟨rfl, v, hi, hv, rfl⟩ := hl
  obtain ⟨a1, a2, a3, a4, a5⟩ := left_out hi hv
  refine ⟨2, v.lo, ?_⟩
  rw [← a3, ← a4, ← a5]
  have a6 : ((v.l.take v.l.length).drop v.lo).length = v.len := by rw [a3, ← a2]
  rw [a6]
  cases k <;> simp [backAll, back1, backM, backL, newL, HashV.cells, cellsW, retSV, kW, nmOf, SV.noName, noNameL, LV.cut, LV.len, a1]
theorem backB {h : HashV} {q p : List UInt8} {b kp fresh : Nat} {k : Option Nat} {r : SV} {M : List (Option Blk)} (hl : LeftW h q [some [.own (.bytes p)]] r M) :
    ∃ jf lo0, backAll [some b, k, some kp] fresh jf lo0 M r = some (retSV [], (b, cellsW (absT h.s (rOf h q)) (nOf h q) (.sl fresh 0 (absR (rOf h q)).length)) :: (kW k ++ [(kp, [.own (.bytes p)])]) ++ [(fresh, [.own (.bytes (absR (rOf h q)))])]) := by
  obtain ⟨rfl, v, hi, hv, rfl⟩ := hl
  obtain ⟨a1, a2, a3, a4, a5⟩ := left_out hi hv
  refine ⟨3, v.lo, ?_⟩
  rw [← a3, ← a4, ← a5]
  have a6 : ((v.l.take v.l.length).drop v.lo).length = v.len := by rw [a3, ← a2]
  rw [a6]
  cases k <;> simp [backAll, back1, backM, backL, newL, HashV.cells, cellsW, retSV, kW, nmOf, SV.noName, noNameL, LV.cut, LV.len, a1]
theorem nmC {look : Nat → Option Blk} {bs cs : Nm} {ds : List Blk} {o : Option Nat} {a : Blk} (h0 : ∀ n, o = some n → ∃ d, look n = some d ∧ renNL bs a = some d) (h : ∀ (i n : Nat), cs[i]? = some (some n) → ∃ a d : Blk, ds[i]? = some a ∧ look n = some d ∧ renNL bs a = some d) :
    ∀ (i n : Nat), (o :: cs)[i]? = some (some n) → ∃ a' d : Blk, (a :: ds)[i]? = some a' ∧ look n = some d ∧ renNL bs a' = some d
  | 0, n, e => by
    simp only [List.getElem?_cons_zero, Option.some.injEq] at e
    obtain ⟨d, h1, h2⟩ := h0 n e
    exact ⟨a, d, rfl, h1, h2⟩
  | i + 1, n, e => by
    rw [List.getElem?_cons_succ] at e ⊢
    exact h i n e
theorem nmN {look : Nat → Option Blk} {bs : Nm} {ds : List Blk} : ∀ (i n : Nat), ([] : Nm)[i]? = some (some n) → ∃ a d : Blk, ds[i]? = some a ∧ look n = some d ∧ renNL bs a = some d := fun i n e => by simp at e
theorem nnC {cs : Nm} {ds : List Blk} {o : Option Nat} {a : Blk} (h0 : o = none → ∃ l : LV, a = [.own l] ∧ l.len = 0) (h : ∀ i : Nat, cs[i]? = some none → ∃ l : LV, ds[i]? = some [.own l] ∧ l.len = 0) : ∀ i : Nat, (o :: cs)[i]? = some none → ∃ l : LV, (a :: ds)[i]? = some [.own l] ∧ l.len = 0
  | 0, e => by
    simp only [List.getElem?_cons_zero, Option.some.injEq] at e
    obtain ⟨l, h1, h2⟩ := h0 e
    exact ⟨l, by rw [h1]; rfl, h2⟩
  | i + 1, e => by
    rw [List.getElem?_cons_succ] at e ⊢
    exact h i e
theorem nnN {ds : List Blk} : ∀ i : Nat, ([] : Nm)[i]? = some none → ∃ l : LV, ds[i]? = some [.own l] ∧ l.len = 0 := fun i e => by simp at e
/-- The hash's two blocks. -/
theorem nmH {look : Nat → Option Blk} {b : Nat} {k : Option Nat} {h : HashV} {cs : Nm} (e : hashIn look b = some (h, k)) :
    (∃ d, look b = some d ∧ renNL (some b :: k :: cs) (h.cells 1) = some d) ∧ (∀ n, k = some n → ∃ d, look n = some d ∧ renNL (some b :: k :: cs) [.own (.bytes h.l)] = some d) ∧ (k = none → ∃ l : LV, ([.own (.bytes h.l)] : Blk) = [.own l] ∧ l.len = 0) := by
  rcases hashIn_ok e with ⟨k', rfl, h1, h2⟩ | ⟨rfl, h1, h2, h3, h4⟩
  · exact ⟨⟨_, h1, rfl⟩, fun n hn => by cases hn; exact ⟨_, h2, rfl⟩, fun hn => by cases hn⟩
  · refine ⟨⟨_, h1, ?_⟩, (fun n hn => by cases hn), fun _ => ⟨_, rfl, by rw [h2]; rfl⟩⟩
    simp [HashV.cells, cellsW, renNL, renN, h3, h4, SV.noName]
theorem ok_Write : NSpecOK Tryz.prog 43 sWrite := by
  refine fn_okN (by kernel_rfl) tt_ok spH2_ok 9 (fn := Tryz.f43) Tryz.func43 (by decide +kernel) (by kernel_rfl) (fun look fresh svs out h hp => ?_)
  unfold sWrite at h
  split at h
  · rename_i b p
    split at h
    · rename_i hh k hin
      have caseA : ∀ (q : List UInt8), (∀ (at_ : At) w vs, RelL at_ w [.ptr b 0, p] vs → RelL at_ w [.ptr b 0, .lst (.bytes q)] vs) → neO b k = true → some (outW hh q True b fresh (kW k)) = some out → ∃ (bs : Nm) (M0 : List Blk) (svs0 svs1 : List SV) (Q : SV → List (Option Blk) → Prop),
          (bs.filterMap id).Nodup ∧ bs.length = M0.length ∧ (∀ (i b : Nat), bs[i]? = some (some b) → ∃ c0 cs : Blk, M0[i]? = some c0 ∧ look b = some cs ∧ renNL bs c0 = some cs) ∧
          (∀ (i : Nat), bs[i]? = some none → ∃ l : LV, M0[i]? = some [.own l] ∧ l.len = 0) ∧
          (∀ (at_ : At) w vs, RelL at_ w [.ptr b 0, p] vs → RelL at_ w svs1 vs) ∧ renNL bs svs0 = some svs1 ∧ NnVD tt spH2 9 Tryz.f43 svs0 M0 Q ∧
          (∀ r M', Q r M' → ∃ jf lo0, backAll bs fresh jf lo0 M' r = some (out.sv, out.ws)) := by
        intro q hrel hn e
        obtain rfl := Option.some.inj e
        obtain ⟨p1, p2, _⟩ := hp
        obtain ⟨n0, n1, n2⟩ := nmH (cs := []) hin
        refine ⟨[some b, k], [hh.cells 1, [.own (.bytes hh.l)]], [.ptr 0 0, .lst (.bytes q)], _, _, ?_, rfl, nmC (fun n e => by cases e; exact n0) (nmC n1 nmN), nnC (fun e => by cases e) (nnC n2 nnN), hrel, rfl, wrA hh q p1 p2, fun r M' hl => backA hl⟩
        cases k with
        | none => simp
        | some k => have := bne_iff_ne.1 hn; simp [this]
      split at h
      · rename_i q
        split at h
        · rename_i hn
          exact caseA q (fun _ _ _ r => r) hn h
        · cases h
      · rename_i c
        split at h
        · rename_i hn
          refine caseA [] (fun at_ w vs r => ?_) hn h
          simp only [RelL] at r ⊢
          obtain ⟨v, us, rfl, r1, v', us', rfl, r2, r3⟩ := r
          exact ⟨v, _, rfl, r1, v', us', rfl, nil_lst rfl ⟨_, rfl⟩ r2, r3⟩
        · cases h
      · rename_i kp lo len
        split at h
        · rename_i q hq
          split at h
          · rename_i hn
            obtain ⟨hn1, hn2, hn3⟩ := hn
            obtain rfl := Option.some.inj h
            obtain ⟨p1, p2, p3⟩ := hp
            obtain ⟨n0, n1, n2⟩ := nmH (cs := [some kp]) hin
            refine ⟨[some b, k, some kp], [hh.cells 1, [.own (.bytes hh.l)], [.own (.bytes q)]], [.ptr 0 0, .sl 2 lo len], _, _, ?_, rfl, nmC (fun n e => by cases e; exact n0) (nmC n1 (nmC (fun n e => by cases e; exact ⟨_, hq, rfl⟩) nmN)), nnC (fun e => by cases e) (nnC n2 (nnC (fun e => by cases e) nnN)), fun _ _ _ r => r, rfl, wrB hh q lo len p1 p2 p3, fun r M' hl => backB hl⟩
            cases k with
            | none => simp [hn3]
            | some k => have h1 := bne_iff_ne.1 hn1; have h2 := bne_iff_ne.1 hn2; simp [h1, hn3, Ne.symm h2]
          · cases h
        · cases h
      · cases h
    · cases h
  · cases h
end Go.Proofs.YtficbeeoafiiaaaGreatDoor.H5
/- Package digest: the sum is told: what its body comes to. -/
set_option maxRecDepth 10000
namespace Go.Proofs.YtficbeeoafiiaaaGreatDoor.H5
open Go.Sym Go.Dig R1
--STOP absN, mixV
/-! The sum. -/
structure RoH where
  s : St8
  l : List UInt8
  n : UInt64
def RoH.sv (a : RoH) : SV := .ro [.u32 a.s.a, .u32 a.s.b, .u32 a.s.c, .u32 a.s.d, .u32 a.s.e, .u32 a.s.f, .u32 a.s.g, .u32 a.s.h, .lst (.bytes a.l), .u64 a.n, .bool true] 0
def dRoH : SV → Option RoH
  | .ro [.u32 a, .u32 b, .u32 c, .u32 d, .u32 e, .u32 f, .u32 g, .u32 h, .lst (.bytes l), .u64 n, .bool true] 0 => some ⟨⟨a, b, c, d, e, f, g, h⟩, l, n⟩
  | _ => none
theorem dRoH_ok {s : SV} {r : RoH} (h : dRoH s = some r) : s = r.sv := by
  unfold dRoH at h
  split at h
  · simp only [Option.some.injEq] at h; subst h; rfl
  · cases h
instance : Enc RoH where
  enc := RoH.sv
  dec := dRoH
  ok := by
    intro s a h at_ w v r
    rw [dRoH_ok h] at r; exact r
  nn _ := rfl
/-- So many bytes of a number, from above. -/
def be8 (x : UInt64) : Nat → List UInt8
  | 0 => []
  | j + 1 => be8 x j ++ [(shr64 x (56 - 8 * j)).toUInt8]
def be4 (x : UInt32) : Nat → List UInt8
  | 0 => []
  | j + 1 => be4 x j ++ [(shr32 x (24 - 8 * j)).toUInt8]
def St8.l (s : St8) : List UInt32 := [s.a, s.b, s.c, s.d, s.e, s.f, s.g, s.h]
def outN (s : St8) : Nat → List UInt8
  | 0 => []
  | i + 1 => outN s i ++ be4 (s.l.getD i 0) 4
def zn (n : Nat) : Nat := (119 - n % 64) % 64
def padZ (r : List UInt8) (k : Nat) : List UInt8 := r ++ [128] ++ List.replicate k 0
def padded (r : List UInt8) (n : UInt64) : List UInt8 := padZ r (zn r.length) ++ be8 (n * 8) 8
noncomputable def sum0 (s : St8) (r : List UInt8) (n : UInt64) : List UInt8 := outN (absN s (padded r n) ((padded r n).length / 64)) 8
def iZ (r t : List UInt8) : Prop := ∃ k, k ≤ zn r.length ∧ t = padZ r k
def iE (r : List UInt8) (x : UInt64) (t : List UInt8) (i : Int) : Prop := ∃ j : Nat, j ≤ 8 ∧ i = 56 - 8 * (j : Int) ∧ t = padZ r (zn r.length) ++ be8 x j
def iM (s0 : St8) (m : List UInt8) (s : St8) (t : List UInt8) (lo : Nat) : Prop := t = m ∧ ∃ i, lo = 64 * i ∧ lo ≤ m.length ∧ s = absN s0 m i
def iO (v : St8) (out : List UInt8) (i : Int) : Prop := 0 ≤ i ∧ i ≤ 8 ∧ out = outN v i.toNat
def iQ (out0 : List UInt8) (x : UInt32) (out : List UInt8) (i : Int) : Prop := ∃ j : Nat, j ≤ 4 ∧ i = 24 - 8 * (j : Int) ∧ out = out0 ++ be4 x j
--STOP iZ, iE, iM, iO, iQ, padded, outN, be4, be8
def lSum (h : RoH) : Plan := { loops := [
  (0, { β := RoH × Unit, α := PSt × OwnB × Unit, same := [0], keep := [3, 4], inv := fun _ _ x => x.1.v = h.s ∧ iZ h.l x.2.1.l, meas := fun _ x => zn h.l.length + h.l.length + 1 - x.2.1.l.length }),
  (2, { β := RoH × Unit, α := PSt × OwnB × Int × Unit, same := [0], keep := [3, 4, 5], inv := fun _ _ x => x.1.v = h.s ∧ iE h.l (h.n * 8) x.2.1.l x.2.2.1, meas := fun _ x => (8 + x.2.2.1).toNat }),
  (4, { β := Unit, α := PSt × OwnBo × Unit, same := [], keep := [3, 4], inv := fun _ _ x => iM h.s (padded h.l h.n) x.1.v x.2.1.l x.2.1.lo, meas := fun _ x => x.2.1.l.length - x.2.1.lo })
  ] }
theorem vcSum (h : RoH) (Q : SV → Prop) : LfRaw tt spH2 9 [] (lSum h) Tryz.f44 Q (h, ()) =
 ((((0 : Nat) + (0 : Nat) = (0 : Nat)) ∧ (List.length ([] ++ RoH.l h) ≤ appLim)) ∧ ((((0 : Nat) + List.length ([] ++ RoH.l h) = List.length ([] ++ RoH.l h)) ∧ (List.length (List.drop (0 : Nat) (List.take (List.length ([] ++ RoH.l h)) ([] ++ RoH.l h)) ++ [UInt8.ofNat (Int.toNat (128 : Int))]) ≤ appLim)) ∧ ((((0 : Nat) = (0 : Nat)) ∧ (List.length (List.drop (0 : Nat) (List.take (List.length ([] ++ RoH.l h)) ([] ++ RoH.l h)) ++ [UInt8.ofNat (Int.toNat (128 : Int))]) = List.length (List.drop (0 : Nat) (List.take (List.length ([] ++ RoH.l h)) ([] ++ RoH.l h)) ++ [UInt8.ofNat (Int.toNat (128 : Int))]))) ∧ (((RoH.s h = RoH.s h) ∧ (iZ (RoH.l h) (List.drop (0 : Nat) (List.take (List.length ([] ++ RoH.l h)) ([] ++ RoH.l h)) ++ [UInt8.ofNat (Int.toNat (128 : Int))]))) ∧ (∀ v : St8, (∀ l : List UInt8, (((v = RoH.s h) ∧ (iZ (RoH.l h) l)) → bcase (Int.tmod (↑(List.length l) : Int) (64 : Int) != (56 : Int)) (((((0 : Nat) + List.length l = List.length l) ∧
 (List.length (List.drop (0 : Nat) (List.take (List.length l) l) ++ [UInt8.ofNat (Int.toNat (0 : Int))]) ≤ appLim)) ∧ ((((0 : Nat) = (0 : Nat)) ∧ (List.length (List.drop (0 : Nat) (List.take (List.length l) l) ++ [UInt8.ofNat (Int.toNat (0 : Int))]) = List.length (List.drop (0 : Nat) (List.take (List.length l) l) ++ [UInt8.ofNat (Int.toNat (0 : Int))]))) ∧ (((h, ()) = (h, ())) ∧ (((v = RoH.s h) ∧ (iZ (RoH.l h) (List.drop (0 : Nat) (List.take (List.length l) l) ++ [UInt8.ofNat (Int.toNat (0 : Int))]))) ∧ (zn (List.length (RoH.l h)) + List.length (RoH.l h) + (1 : Nat) - List.length (List.drop (0 : Nat) (List.take (List.length l) l) ++ [UInt8.ofNat (Int.toNat (0 : Int))]) < zn (List.length (RoH.l h)) + List.length (RoH.l h) + (1 : Nat) - List.length l)))))) (((((0 : Nat) = (0 : Nat)) ∧ (List.length l = List.length l)) ∧ (((v = RoH.s h) ∧ (iE (RoH.l h) (RoH.n h * (8 : UInt64)) l (56 : Int))) ∧ (∀ v_1 : St8, (∀ l_1 : List UInt8, (∀ a : Int, (((v_1 = RoH.s h) ∧
 (iE (RoH.l h) (RoH.n h * (8 : UInt64)) l_1 a)) → bcase (decide (a ≥ (0 : Int))) (((((0 : Nat) + List.length l_1 = List.length l_1) ∧ (List.length (List.drop (0 : Nat) (List.take (List.length l_1) l_1) ++ [UInt64.toUInt8 (shr64 (RoH.n h * UInt64.ofNat (Int.toNat (8 : Int))) (UInt64.toNat (UInt64.ofInt a)))]) ≤ appLim)) ∧ ((((0 : Nat) = (0 : Nat)) ∧ (List.length (List.drop (0 : Nat) (List.take (List.length l_1) l_1) ++ [UInt64.toUInt8 (shr64 (RoH.n h * UInt64.ofNat (Int.toNat (8 : Int))) (UInt64.toNat (UInt64.ofInt a)))]) = List.length (List.drop (0 : Nat) (List.take (List.length l_1) l_1) ++ [UInt64.toUInt8 (shr64 (RoH.n h * UInt64.ofNat (Int.toNat (8 : Int))) (UInt64.toNat (UInt64.ofInt a)))]))) ∧ (((h, ()) = (h, ())) ∧ (((v_1 = RoH.s h) ∧ (iE (RoH.l h) (RoH.n h * (8 : UInt64)) (List.drop (0 : Nat) (List.take (List.length l_1) l_1) ++ [UInt64.toUInt8 (shr64 (RoH.n h * UInt64.ofNat (Int.toNat (8 : Int))) (UInt64.toNat (UInt64.ofInt a)))]) (IntKind.wrap IntKind.i64 (a - (8 : Int))))) ∧
 (Int.toNat ((8 : Int) + IntKind.wrap IntKind.i64 (a - (8 : Int))) < Int.toNat ((8 : Int) + a))))))) (((List.length l_1 = List.length l_1 - (0 : Nat)) ∧ ((iM (RoH.s h) (padded (RoH.l h) (RoH.n h)) v_1 l_1 (0 : Nat)) ∧ (∀ v_2 : St8, (∀ l_2 : List UInt8, (∀ lo : Nat, ((iM (RoH.s h) (padded (RoH.l h) (RoH.n h)) v_2 l_2 lo) → bcase (decide ((↑(List.length l_2 - lo) : Int) > (0 : Int))) (((((0 : Int) ≤ (0 : Int)) ∧ (((0 : Int) ≤ (64 : Int)) ∧ ((64 : Int) ≤ (↑(List.length l_2 - lo) : Int)))) ∧ ((((0 : Int) ≤ (64 : Int)) ∧ (((64 : Int) ≤ (↑(List.length l_2 - lo) : Int)) ∧ ((↑(List.length l_2 - lo) : Int) ≤ (↑(List.length l_2 - lo) : Int)))) ∧ ((Int.toNat (↑(List.length l_2 - lo) : Int) - Int.toNat (64 : Int) = List.length l_2 - (lo + Int.toNat (64 : Int))) ∧ ((() = ()) ∧ ((iM (RoH.s h) (padded (RoH.l h) (RoH.n h)) (mixV v_2 (cut l_2 (lo + Int.toNat (0 : Int)))) l_2 (lo + Int.toNat (64 : Int))) ∧ (List.length l_2 - (lo + Int.toNat (64 : Int)) < List.length l_2 - lo)))))))
 ((((1 : Nat) ≤ appLim) ∧ ((((0 : Nat) + (1 : Nat) = (1 : Nat)) ∧ ((2 : Nat) ≤ appLim)) ∧ ((((0 : Nat) + (2 : Nat) = (2 : Nat)) ∧ ((3 : Nat) ≤ appLim)) ∧ ((((0 : Nat) + (3 : Nat) = (3 : Nat)) ∧ ((4 : Nat) ≤ appLim)) ∧ ((((0 : Nat) + (4 : Nat) = (4 : Nat)) ∧ ((5 : Nat) ≤ appLim)) ∧ ((((0 : Nat) + (5 : Nat) = (5 : Nat)) ∧ ((6 : Nat) ≤ appLim)) ∧ ((((0 : Nat) + (6 : Nat) = (6 : Nat)) ∧ ((7 : Nat) ≤ appLim)) ∧ ((((0 : Nat) + (7 : Nat) = (7 : Nat)) ∧ ((8 : Nat) ≤ appLim)) ∧ ((((0 : Nat) + (8 : Nat) = (8 : Nat)) ∧ ((9 : Nat) ≤ appLim)) ∧ ((((0 : Nat) + (9 : Nat) = (9 : Nat)) ∧ ((10 : Nat) ≤ appLim)) ∧ ((((0 : Nat) + (10 : Nat) = (10 : Nat)) ∧ ((11 : Nat) ≤ appLim)) ∧ ((((0 : Nat) + (11 : Nat) = (11 : Nat)) ∧ ((12 : Nat) ≤ appLim)) ∧ ((((0 : Nat) + (12 : Nat) = (12 : Nat)) ∧ ((13 : Nat) ≤ appLim)) ∧ ((((0 : Nat) + (13 : Nat) = (13 : Nat)) ∧ ((14 : Nat) ≤ appLim)) ∧ ((((0 : Nat) + (14 : Nat) = (14 : Nat)) ∧ ((15 : Nat) ≤ appLim)) ∧ ((((0 : Nat) + (15 : Nat) = (15 : Nat)) ∧
 ((16 : Nat) ≤ appLim)) ∧ ((((0 : Nat) + (16 : Nat) = (16 : Nat)) ∧ ((17 : Nat) ≤ appLim)) ∧ ((((0 : Nat) + (17 : Nat) = (17 : Nat)) ∧ ((18 : Nat) ≤ appLim)) ∧ ((((0 : Nat) + (18 : Nat) = (18 : Nat)) ∧ ((19 : Nat) ≤ appLim)) ∧ ((((0 : Nat) + (19 : Nat) = (19 : Nat)) ∧ ((20 : Nat) ≤ appLim)) ∧ ((((0 : Nat) + (20 : Nat) = (20 : Nat)) ∧ ((21 : Nat) ≤ appLim)) ∧ ((((0 : Nat) + (21 : Nat) = (21 : Nat)) ∧ ((22 : Nat) ≤ appLim)) ∧ ((((0 : Nat) + (22 : Nat) = (22 : Nat)) ∧ ((23 : Nat) ≤ appLim)) ∧ ((((0 : Nat) + (23 : Nat) = (23 : Nat)) ∧ ((24 : Nat) ≤ appLim)) ∧ ((((0 : Nat) + (24 : Nat) = (24 : Nat)) ∧ ((25 : Nat) ≤ appLim)) ∧ ((((0 : Nat) + (25 : Nat) = (25 : Nat)) ∧ ((26 : Nat) ≤ appLim)) ∧ ((((0 : Nat) + (26 : Nat) = (26 : Nat)) ∧ ((27 : Nat) ≤ appLim)) ∧ ((((0 : Nat) + (27 : Nat) = (27 : Nat)) ∧ ((28 : Nat) ≤ appLim)) ∧ ((((0 : Nat) + (28 : Nat) = (28 : Nat)) ∧ ((29 : Nat) ≤ appLim)) ∧ ((((0 : Nat) + (29 : Nat) = (29 : Nat)) ∧ ((30 : Nat) ≤ appLim)) ∧
 ((((0 : Nat) + (30 : Nat) = (30 : Nat)) ∧ ((31 : Nat) ≤ appLim)) ∧ ((((0 : Nat) + (31 : Nat) = (31 : Nat)) ∧ ((32 : Nat) ≤ appLim)) ∧ (Q (SV.lst (LV.bytes [UInt32.toUInt8 (shr32 (St8.a v_2) (UInt64.toNat (UInt64.ofInt (24 : Int)))), UInt32.toUInt8 (shr32 (St8.a v_2) (UInt64.toNat (UInt64.ofInt (IntKind.wrap IntKind.i64 ((24 : Int) - (8 : Int)))))), UInt32.toUInt8 (shr32 (St8.a v_2) (UInt64.toNat (UInt64.ofInt (IntKind.wrap IntKind.i64 (IntKind.wrap IntKind.i64 ((24 : Int) - (8 : Int)) - (8 : Int)))))), UInt32.toUInt8 (shr32 (St8.a v_2) (UInt64.toNat (UInt64.ofInt (IntKind.wrap IntKind.i64 (IntKind.wrap IntKind.i64 (IntKind.wrap IntKind.i64 ((24 : Int) - (8 : Int)) - (8 : Int)) - (8 : Int)))))), UInt32.toUInt8 (shr32 (St8.b v_2) (UInt64.toNat (UInt64.ofInt (24 : Int)))), UInt32.toUInt8 (shr32 (St8.b v_2) (UInt64.toNat (UInt64.ofInt (IntKind.wrap IntKind.i64 ((24 : Int) - (8 : Int)))))), UInt32.toUInt8 (shr32 (St8.b v_2) (UInt64.toNat (UInt64.ofInt
 (IntKind.wrap IntKind.i64 (IntKind.wrap IntKind.i64 ((24 : Int) - (8 : Int)) - (8 : Int)))))), UInt32.toUInt8 (shr32 (St8.b v_2) (UInt64.toNat (UInt64.ofInt (IntKind.wrap IntKind.i64 (IntKind.wrap IntKind.i64 (IntKind.wrap IntKind.i64 ((24 : Int) - (8 : Int)) - (8 : Int)) - (8 : Int)))))), UInt32.toUInt8 (shr32 (St8.c v_2) (UInt64.toNat (UInt64.ofInt (24 : Int)))), UInt32.toUInt8 (shr32 (St8.c v_2) (UInt64.toNat (UInt64.ofInt (IntKind.wrap IntKind.i64 ((24 : Int) - (8 : Int)))))), UInt32.toUInt8 (shr32 (St8.c v_2) (UInt64.toNat (UInt64.ofInt (IntKind.wrap IntKind.i64 (IntKind.wrap IntKind.i64 ((24 : Int) - (8 : Int)) - (8 : Int)))))), UInt32.toUInt8 (shr32 (St8.c v_2) (UInt64.toNat (UInt64.ofInt (IntKind.wrap IntKind.i64 (IntKind.wrap IntKind.i64 (IntKind.wrap IntKind.i64 ((24 : Int) - (8 : Int)) - (8 : Int)) - (8 : Int)))))), UInt32.toUInt8 (shr32 (St8.d v_2) (UInt64.toNat (UInt64.ofInt (24 : Int)))), UInt32.toUInt8
 (shr32 (St8.d v_2) (UInt64.toNat (UInt64.ofInt (IntKind.wrap IntKind.i64 ((24 : Int) - (8 : Int)))))), UInt32.toUInt8 (shr32 (St8.d v_2) (UInt64.toNat (UInt64.ofInt (IntKind.wrap IntKind.i64 (IntKind.wrap IntKind.i64 ((24 : Int) - (8 : Int)) - (8 : Int)))))), UInt32.toUInt8 (shr32 (St8.d v_2) (UInt64.toNat (UInt64.ofInt (IntKind.wrap IntKind.i64 (IntKind.wrap IntKind.i64 (IntKind.wrap IntKind.i64 ((24 : Int) - (8 : Int)) - (8 : Int)) - (8 : Int)))))), UInt32.toUInt8 (shr32 (St8.e v_2) (UInt64.toNat (UInt64.ofInt (24 : Int)))), UInt32.toUInt8 (shr32 (St8.e v_2) (UInt64.toNat (UInt64.ofInt (IntKind.wrap IntKind.i64 ((24 : Int) - (8 : Int)))))), UInt32.toUInt8 (shr32 (St8.e v_2) (UInt64.toNat (UInt64.ofInt (IntKind.wrap IntKind.i64 (IntKind.wrap IntKind.i64 ((24 : Int) - (8 : Int)) - (8 : Int)))))), UInt32.toUInt8 (shr32 (St8.e v_2) (UInt64.toNat (UInt64.ofInt (IntKind.wrap IntKind.i64 (IntKind.wrap IntKind.i64 (IntKind.wrap IntKind.i64 ((24 : Int) - (8 : Int)) - (8 : Int)) -
 (8 : Int)))))), UInt32.toUInt8 (shr32 (St8.f v_2) (UInt64.toNat (UInt64.ofInt (24 : Int)))), UInt32.toUInt8 (shr32 (St8.f v_2) (UInt64.toNat (UInt64.ofInt (IntKind.wrap IntKind.i64 ((24 : Int) - (8 : Int)))))), UInt32.toUInt8 (shr32 (St8.f v_2) (UInt64.toNat (UInt64.ofInt (IntKind.wrap IntKind.i64 (IntKind.wrap IntKind.i64 ((24 : Int) - (8 : Int)) - (8 : Int)))))), UInt32.toUInt8 (shr32 (St8.f v_2) (UInt64.toNat (UInt64.ofInt (IntKind.wrap IntKind.i64 (IntKind.wrap IntKind.i64 (IntKind.wrap IntKind.i64 ((24 : Int) - (8 : Int)) - (8 : Int)) - (8 : Int)))))), UInt32.toUInt8 (shr32 (St8.g v_2) (UInt64.toNat (UInt64.ofInt (24 : Int)))), UInt32.toUInt8 (shr32 (St8.g v_2) (UInt64.toNat (UInt64.ofInt (IntKind.wrap IntKind.i64 ((24 : Int) - (8 : Int)))))), UInt32.toUInt8 (shr32 (St8.g v_2) (UInt64.toNat (UInt64.ofInt (IntKind.wrap IntKind.i64 (IntKind.wrap IntKind.i64 ((24 : Int) - (8 : Int)) - (8 : Int)))))), UInt32.toUInt8 (shr32 (St8.g v_2) (UInt64.toNat (UInt64.ofInt
 (IntKind.wrap IntKind.i64 (IntKind.wrap IntKind.i64 (IntKind.wrap IntKind.i64 ((24 : Int) - (8 : Int)) - (8 : Int)) - (8 : Int)))))), UInt32.toUInt8 (shr32 (St8.h v_2) (UInt64.toNat (UInt64.ofInt (24 : Int)))), UInt32.toUInt8 (shr32 (St8.h v_2) (UInt64.toNat (UInt64.ofInt (IntKind.wrap IntKind.i64 ((24 : Int) - (8 : Int)))))), UInt32.toUInt8 (shr32 (St8.h v_2) (UInt64.toNat (UInt64.ofInt (IntKind.wrap IntKind.i64 (IntKind.wrap IntKind.i64 ((24 : Int) - (8 : Int)) - (8 : Int)))))), UInt32.toUInt8 (shr32 (St8.h v_2) (UInt64.toNat (UInt64.ofInt (IntKind.wrap IntKind.i64 (IntKind.wrap IntKind.i64 (IntKind.wrap IntKind.i64 ((24 : Int) - (8 : Int)) - (8 : Int)) - (8 : Int))))))]))))))))))))))))))))))))))))))))))))))))))))))))))))))))) := by kernel_rfl
end Go.Proofs.YtficbeeoafiiaaaGreatDoor.H5
/- Package digest: the sum is told. -/
set_option maxRecDepth 10000
namespace Go.Proofs.YtficbeeoafiiaaaGreatDoor.H5
open Go.Sym Go.Dig R1
theorem full {l : List UInt8} : List.drop 0 (List.take l.length l) = l := by rw [List.take_length]; rfl
theorem zn_lt (n : Nat) : zn n < 64 := Nat.mod_lt _ (by decide)
theorem padZ_len (r : List UInt8) (k : Nat) : (padZ r k).length = r.length + 1 + k := by simp [padZ]; omega
theorem be8_len (x : UInt64) : ∀ j, (be8 x j).length = j
  | 0 => rfl
  | j + 1 => by rw [be8, List.length_append, be8_len x j]; rfl
theorem be4_len (x : UInt32) : ∀ j, (be4 x j).length = j
  | 0 => rfl
  | j + 1 => by rw [be4, List.length_append, be4_len x j]; rfl
theorem padded_len (r : List UInt8) (n : UInt64) : (padded r n).length = r.length + 9 + zn r.length := by
  rw [padded, List.length_append, padZ_len, be8_len]; omega
theorem padded_64 (r : List UInt8) (n : UInt64) : (padded r n).length % 64 = 0 := by
  rw [padded_len, zn]; omega
theorem iZ_step {r t : List UInt8} (h : iZ r t) (hc : ¬ t.length % 64 = 56) : iZ r (t ++ [0]) ∧ t.length < zn r.length + r.length + 1 := by
  obtain ⟨k, hk, rfl⟩ := h
  rw [padZ_len] at hc ⊢
  have hk' : k ≠ zn r.length := by
    intro e
    apply hc
    rw [e, zn]
    omega
  refine ⟨⟨k + 1, by omega, ?_⟩, by omega⟩
  simp only [padZ, List.append_assoc, List.replicate_succ']
theorem iZ_done {r t : List UInt8} (h : iZ r t) (hc : t.length % 64 = 56) : t = padZ r (zn r.length) := by
  obtain ⟨k, hk, rfl⟩ := h
  rw [padZ_len] at hc
  have := zn_lt r.length
  have : k = zn r.length := by rw [zn] at *; omega
  rw [this]
theorem iE_step {r t : List UInt8} {n : UInt64} {i : Int} (h : iE r (n * 8) t i) (hc : 0 ≤ i) : iE r (n * 8) (t ++ [UInt64.toUInt8 (shr64 (n * UInt64.ofNat (Int.toNat 8)) (UInt64.toNat (UInt64.ofInt i)))]) (IntKind.wrap .i64 (i - 8)) := by
  obtain ⟨j, hj, rfl, rfl⟩ := h
  rw [wr (by omega)]
  refine ⟨j + 1, by omega, by omega, ?_⟩
  rw [be8, ← List.append_assoc]
  have e : (UInt64.ofInt (56 - 8 * (j : Int))).toNat = 56 - 8 * j := by
    rw [show (56 : Int) - 8 * (j : Int) = ((56 - 8 * j : Nat) : Int) by omega]
    rw [ofInt64]; omega
  rw [e]; rfl
theorem iE_done {r t : List UInt8} {n : UInt64} {i : Int} (h : iE r (n * 8) t i) (hc : ¬ 0 ≤ i) : t = padded r n := by
  obtain ⟨j, hj, rfl, rfl⟩ := h
  rw [padded, show j = 8 by omega]
theorem iE_len {r t : List UInt8} {n : UInt64} {i : Int} (h : iE r n t i) : t.length ≤ r.length + 100 := by
  obtain ⟨j, hj, rfl, rfl⟩ := h
  have := zn_lt r.length
  rw [List.length_append, padZ_len, be8_len]; omega
theorem iM_step {s0 s : St8} {m t : List UInt8} {lo : Nat} (h : iM s0 m s t lo) (hm : m.length % 64 = 0) (hc : 0 < t.length - lo) : iM s0 m (mixV s (cut t (lo + Int.toNat 0))) t (lo + Int.toNat 64) ∧ lo + 64 ≤ t.length := by
  obtain ⟨rfl, i, rfl, h2, rfl⟩ := h
  refine ⟨⟨rfl, i + 1, by omega, by omega, rfl⟩, by omega⟩
theorem iM_done {s0 s : St8} {m t : List UInt8} {lo : Nat} (h : iM s0 m s t lo) (hc : ¬ 0 < t.length - lo) : s = absN s0 m (m.length / 64) := by
  obtain ⟨rfl, i, rfl, h2, rfl⟩ := h
  rw [show t.length / 64 = i by omega]
theorem sum_ex : ∃ f : St8 → List UInt8 → UInt64 → List UInt8, f = sum0 := ⟨_, rfl⟩
noncomputable def sumV : St8 → List UInt8 → UInt64 → List UInt8 := Classical.choose sum_ex
theorem sumV_eq : sumV = sum0 := Classical.choose_spec sum_ex
noncomputable def sHSum : SpecF := fspec (α := RoH × Unit) (fun a => some (a.1.l.length ≤ 65536)) (fun a => sumV a.1.s a.1.l a.1.n)
theorem ok_HSum : FSpecOK Tryz.prog 44 sHSum := by
  unfold sHSum
  rw [sumV_eq]
  refine fn_okF (by kernel_rfl) tt_ok spH2_ok 9 Tryz.func44 (by decide +kernel) (by kernel_rfl) ?_
  rintro ⟨h, _⟩ hp
  replace hp : h.l.length ≤ 65536 := hp
  have hz := zn_lt h.l.length
  refine ⟨[], lSum h, fun x => x = .lst (.bytes (sum0 h.s h.l h.n)), LfVD.of (vcSum h _) ?_, fun x h at_ n w v r => by have h' : x = _ := h; subst h'; exact r⟩
  rw [full, List.nil_append]
  refine ⟨⟨rfl, by simp only [appLim]; omega⟩, ⟨by omega, by simp only [appLim, List.length_append, List.length_singleton]; omega⟩, ⟨rfl, rfl⟩, ⟨rfl, ⟨0, by omega, by simp [padZ]⟩⟩, ?_⟩
  rintro s t ⟨rfl, hZ⟩
  have lt : t.length ≤ h.l.length + 65 := by obtain ⟨k, hk, rfl⟩ := hZ; rw [padZ_len]; omega
  have em : Int.tmod (t.length : Int) 64 = ((t.length % 64 : Nat) : Int) := by rw [tmod_nn (by omega)]; omega
  rw [em, bcase_iff, full]
  refine ⟨fun hc => ?_, fun hc => ?_⟩
  · have hc' : ¬ t.length % 64 = 56 := by
      intro e; rw [e] at hc; exact absurd hc (by decide)
    obtain ⟨z1, z2⟩ := iZ_step hZ hc'
    refine ⟨⟨by omega, by simp only [appLim, List.length_append, List.length_singleton]; omega⟩, ⟨rfl, rfl⟩, rfl, ⟨rfl, z1⟩, ?_⟩
    rw [List.length_append, List.length_singleton]
    omega
  · have hc' : t.length % 64 = 56 := by
      have := bne_eq_false_iff_eq.1 hc
      omega
    have ht := iZ_done hZ hc'
    refine ⟨⟨rfl, rfl⟩, ⟨rfl, ⟨0, by omega, rfl, by rw [ht]; simp [be8]⟩⟩, ?_⟩
    rintro s1 t1 a ⟨rfl, hE⟩
    have l1 := iE_len hE
    rw [bcase_dec, full]
    refine ⟨fun ha => ?_, fun ha => ?_⟩
    · refine ⟨⟨by omega, by simp only [appLim, List.length_append, List.length_singleton]; omega⟩, ⟨rfl, rfl⟩, rfl, ⟨rfl, iE_step hE ha⟩, ?_⟩
      obtain ⟨j, hj, rfl, _⟩ := hE
      rw [wr (by omega)]; omega
    · have e1 := iE_done hE ha
      refine ⟨by omega, ⟨e1, 0, rfl, by omega, rfl⟩, ?_⟩
      intro s2 t2 lo hM
      rw [bcase_dec]
      refine ⟨fun hm => ?_, fun hm => ?_⟩
      · obtain ⟨m1, m2⟩ := iM_step hM (padded_64 _ _) (by omega)
        refine ⟨⟨by omega, by omega, by omega⟩, ⟨by omega, by omega, by omega⟩, by omega, rfl, m1, by omega⟩
      · have e2 := iM_done hM (by omega)
        have e3 : sum0 h.s h.l h.n = outN s2 8 := by rw [e2]; rfl
        refine ⟨by simp only [appLim]; omega, ?_⟩
        repeat (refine ⟨⟨rfl, by simp only [appLim]; omega⟩, ?_⟩)
        rw [e3]
        kernel_rfl
end Go.Proofs.YtficbeeoafiiaaaGreatDoor.H5
/- Package digest: a hash of nothing, how many bytes came, the sum of bytes: what the bodies come to. -/
set_option maxRecDepth 10000
namespace Go.Proofs.YtficbeeoafiiaaaGreatDoor.H5
open Go.Sym Go.Dig R1
def beg : St8 := ⟨1779033703, 3144134277, 1013904242, 2773480762, 1359893119, 2600822924, 528734635, 1541459225⟩
instance : RetL St8 := ⟨fun s => [.agg s.cells]⟩
def sBegin : SpecF := fspec (α := Unit) total (fun _ => beg)
theorem vcBegin (Q : SV → Prop) : LnRaw tt [] 9 [] {} Tryz.f78 Q () = Q (.agg [.u32 1779033703, .u32 3144134277, .u32 1013904242, .u32 2773480762, .u32 1359893119, .u32 2600822924, .u32 528734635, .u32 1541459225]) := by kernel_rfl
def spBeg : Specs := [(78, sBegin)]
structure HNew where
instance : RetL HNew := ⟨fun _ => [.ro (cellsW beg 0 (.val (.slice none 0 0))) 0]⟩
def sNewH : SpecF := fspec (α := Unit) total (fun _ => HNew.mk)
theorem vcNewH (Q : SV → Prop) : LfRaw tt spBeg 9 [] {} Tryz.f42 Q () = Q (.ro (cellsW beg 0 (.val (.slice none 0 0))) 0) := by kernel_rfl
/-- A hash that is read, or none. -/
inductive OH where
  | none
  | some (h : RoH)
instance : Enc OH where
  enc | .none => .val (.pointer none)
      | .some h => h.sv
  dec s := match dRoH s with
    | Option.some h => Option.some (.some h)
    | Option.none => match s with
      | .val (.pointer Option.none) => Option.some .none
      | _ => Option.none
  ok := by
    intro s a h at_ w v r
    split at h
    · rename_i x hx
      simp only [Option.some.injEq] at h
      subst h
      rw [dRoH_ok hx] at r; exact r
    · split at h
      · simp only [Option.some.injEq] at h
        subst h; exact r
      · cases h
  nn a := by cases a <;> rfl
theorem vcSumN (Q : SV → Prop) : LfRaw tt spH2 9 [] {} Tryz.f44 Q (OH.none, ()) = Q (.val (.slice none 0 0)) := by kernel_rfl
theorem vcWriteN (p : SV) (Q : SV → List (Option Blk) → Prop) : NnRaw tt spH2 9 [] {} Tryz.f43 [.val (.pointer none), p] [] Q = Q (retSV []) [] := by kernel_rfl
end Go.Proofs.YtficbeeoafiiaaaGreatDoor.H5
/- Package digest: its functions as others call them. -/
set_option maxRecDepth 10000
namespace Go.Proofs.YtficbeeoafiiaaaGreatDoor.H5
open Go.Sym Go.Dig R1
theorem ok_Begin : SpecOK Tryz.prog 78 sBegin := by
  refine fn_okL (by kernel_rfl) tt_ok (.nil _) 9 Tryz.func78 (by decide +kernel) (by kernel_rfl) ?_
  rintro ⟨⟩ _
  exact ⟨_, {}, fun t => t = _, LnVD.of (vcBegin _) rfl, svf⟩
theorem spBeg_ok : SpecsOK Tryz.prog spBeg := .cons ok_Begin (.nil _)
theorem ok_NewH : FSpecOK Tryz.prog 42 sNewH := by
  refine fn_okF (by kernel_rfl) tt_ok spBeg_ok 9 Tryz.func42 (by decide +kernel) (by kernel_rfl) ?_
  rintro ⟨⟩ _
  exact ⟨[], {}, fun x => x = _, LfVD.of (vcNewH _) rfl, fun x h at_ n w v r => by have h' : x = _ := h; subst h'; exact r⟩
def sLen : SpecF := fspec (α := OH × Unit) total (fun a => match a.1 with | .none => (0 : Int) | .some h => IntKind.wrap .i64 (h.n.toNat : Int))
theorem ok_Len : SpecOK Tryz.prog 1000000 Sym.sNo := Sym.sNo_ok _ _
noncomputable def sumO : OH → List UInt8
  | .none => []
  | .some h => sumV h.s h.l h.n
noncomputable def sHSumO : SpecF := fspec (α := OH × Unit) (fun a => some (match a.1 with | .none => True | .some h => h.l.length ≤ 65536)) (fun a => sumO a.1)
theorem ok_HSumO : FSpecOK Tryz.prog 44 sHSumO := by
  intro at_ w svs vs pr r hat hout hgl hs hp hr
  unfold sHSumO fspec at hs
  split at hs
  · rename_i a ha
    obtain ⟨o, _⟩ := a
    simp only [Option.some.injEq, Prod.mk.injEq] at hs
    obtain ⟨rfl, rfl⟩ := hs
    have hr' := Args.ok ha hr
    cases o with
    | some h => exact ok_HSum at_ w _ vs (some (h.l.length ≤ 65536)) _ hat hout hgl (by rfl) hp hr'
    | none =>
      have k : FSpecOK Tryz.prog 44 (fspec (α := OH × Unit) (fun a => some (a.1 = .none)) (fun _ => ([] : List UInt8))) := by
        refine fn_okF (by kernel_rfl) tt_ok spH2_ok 9 Tryz.func44 (by decide +kernel) (by kernel_rfl) ?_
        rintro ⟨o, _⟩ hp
        replace hp : o = .none := hp
        subst hp
        refine ⟨[], {}, fun x => x = .val (.slice none 0 0), LfVD.of (vcSumN _) rfl, fun x h at_ n w v r => ?_⟩
        have h' : x = _ := h
        subst h'
        simp only [FRel, FRel1, Rel] at r
        subst r
        exact .inl ⟨rfl, rfl⟩
      exact k at_ w _ vs (some (OH.none = .none)) _ hat hout hgl (by rfl) rfl hr'
  · cases hs
theorem renN_nn {bs : Nm} {p : SV} (h : p.noName = true) : renN bs p = some p := by
  cases p <;> first | (simp [SV.noName] at h; done) | (simp [renN, h])
def sWriteN : NSpecF := fun _ _ svs =>
  match svs with
  | [.val (.pointer none), p] => if p.noName = true then some ⟨none, retSV [], []⟩ else none
  | _ => none
theorem ok_WriteN : NSpecOK Tryz.prog 43 sWriteN := by
  refine fn_okN (by kernel_rfl) tt_ok spH2_ok 9 (fn := Tryz.f43) Tryz.func43 (by decide +kernel) (by kernel_rfl) (fun look fresh svs out h hp => ?_)
  unfold sWriteN at h
  split at h
  · rename_i p
    split at h
    · rename_i hn
      obtain rfl := Option.some.inj h
      refine ⟨[], [], [.val (.pointer none), p], [.val (.pointer none), p], fun r M => r = retSV [] ∧ M = [], by simp, rfl, nmN, nnN, fun _ _ _ r => r, ?_, NnVD.of (vcWriteN p _) ⟨rfl, rfl⟩, ?_⟩
      · simp only [renNL, renN_nn hn]; rfl
      · rintro r M' ⟨rfl, rfl⟩
        exact ⟨0, 0, rfl⟩
    · cases h
  · cases h
noncomputable def sWriteO : NSpecF := fun look fresh svs =>
  match sWriteN look fresh svs with
  | some o => some o
  | none => sWrite look fresh svs
theorem ok_WriteO : NSpecOK Tryz.prog 43 sWriteO := by
  intro at_ M w look fresh svs vs out hM hl hf h hp hr
  unfold sWriteO at h
  split at h
  · rename_i o ho
    obtain rfl := Option.some.inj h
    exact ok_WriteN at_ M w look fresh svs vs _ hM hl hf ho hp hr
  · exact ok_Write at_ M w look fresh svs vs _ hM hl hf h hp hr
noncomputable def spD : Specs := [(42, .fresh sNewH), (43, .memf sWriteO), (44, .fresh sHSumO)]
theorem spD_ok : SpecsOK Tryz.prog spD := .consF ok_NewH (.consN ok_WriteO (.consF ok_HSumO (.nil _)))
--STOP rOf, nOf, absT, absR, sumV, beg
end Go.Proofs.YtficbeeoafiiaaaGreatDoor.H5
/- The reference of layer 5: what the bodies come to. -/
set_option maxRecDepth 10000
namespace Go.Proofs.YtficbeeoafiiaaaGreatDoor.H5
open Go.Sym Go.Dig R1
instance : Enc (List UInt32) where
  enc l := .lst (.halfs l)
  dec | .lst (.halfs l) => some l
      | _ => none
  ok := by
    intro s a h at_ w v r
    split at h
    · simp only [Option.some.injEq] at h; subst h; exact r
    · cases h
  nn _ := rfl
/-- Eight words as a list. -/
structure L8 where
  v : St8
def dL8 : SV → Option L8
  | .lst (.halfs [a, b, c, d, e, f, g, h]) => some ⟨⟨a, b, c, d, e, f, g, h⟩⟩
  | _ => none
theorem dL8_ok {s : SV} {a : L8} (h : dL8 s = some a) : s = .lst (.halfs a.v.l) := by
  unfold dL8 at h
  split at h
  · simp only [Option.some.injEq] at h; subst h; rfl
  · cases h
instance : Enc L8 where
  enc a := .lst (.halfs a.v.l)
  dec := dL8
  ok := by
    intro s a h at_ w v r
    rw [dL8_ok h] at r; exact r
  nn _ := rfl
instance : RetL L8 := ⟨fun a => [.lst (.halfs a.v.l)]⟩
instance : RetL (List UInt32) := ⟨fun a => [.lst (.halfs a)]⟩
/-- The same, one's own. -/
structure O8 where
  v : St8
def dO8 (l : List UInt32) : Option O8 :=
  match l with
  | [a, b, c, d, e, f, g, h] => some ⟨⟨a, b, c, d, e, f, g, h⟩⟩
  | _ => none
theorem dO8_ok {l : List UInt32} {a : O8} (h : dO8 l = some a) : l = a.v.l := by
  unfold dO8 at h
  split at h
  · simp only [Option.some.injEq] at h; subst h; rfl
  · cases h
instance : LEnc O8 where
  kind := none
  enc nx a := (.sl nx 0 8, [[.own (.halfs a.v.l)]])
  dec nx s M := match ownDec nx s M with
    | some (p, .halfs l, M') => (dO8 l).map fun r => (p, r, M')
    | _ => none
  all P := ∀ v, P ⟨v⟩
  all_ok h a := h a.v
  ok := by
    intro nx s M p a M' h hp
    split at h
    · rename_i p' l M1 hd
      obtain ⟨r, h1, h2⟩ := Option.map_eq_some_iff.1 h
      simp only [Prod.mk.injEq] at h2
      obtain ⟨rfl, rfl, rfl⟩ := h2
      obtain ⟨rfl, rfl⟩ := ownDec_ok hd hp
      rw [dO8_ok h1]
      exact ⟨rfl, fun r => r⟩
    · cases h
theorem vcTurnR7 (x : UInt32) (Q : SV → Prop) : LnRaw tt [] 3 [] {} Tryz.f94 Q (x, (7 : Int), ()) = Q (.u32 (shr32 x 7 ||| shl32 x 25)) := by kernel_rfl
theorem vcTurnR18 (x : UInt32) (Q : SV → Prop) : LnRaw tt [] 3 [] {} Tryz.f94 Q (x, (18 : Int), ()) = Q (.u32 (shr32 x 18 ||| shl32 x 14)) := by kernel_rfl
theorem vcTurnR17 (x : UInt32) (Q : SV → Prop) : LnRaw tt [] 3 [] {} Tryz.f94 Q (x, (17 : Int), ()) = Q (.u32 (shr32 x 17 ||| shl32 x 15)) := by kernel_rfl
theorem vcTurnR19 (x : UInt32) (Q : SV → Prop) : LnRaw tt [] 3 [] {} Tryz.f94 Q (x, (19 : Int), ()) = Q (.u32 (shr32 x 19 ||| shl32 x 13)) := by kernel_rfl
theorem vcTurnR6 (x : UInt32) (Q : SV → Prop) : LnRaw tt [] 3 [] {} Tryz.f94 Q (x, (6 : Int), ()) = Q (.u32 (shr32 x 6 ||| shl32 x 26)) := by kernel_rfl
theorem vcTurnR11 (x : UInt32) (Q : SV → Prop) : LnRaw tt [] 3 [] {} Tryz.f94 Q (x, (11 : Int), ()) = Q (.u32 (shr32 x 11 ||| shl32 x 21)) := by kernel_rfl
theorem vcTurnR25 (x : UInt32) (Q : SV → Prop) : LnRaw tt [] 3 [] {} Tryz.f94 Q (x, (25 : Int), ()) = Q (.u32 (shr32 x 25 ||| shl32 x 7)) := by kernel_rfl
theorem vcTurnR2 (x : UInt32) (Q : SV → Prop) : LnRaw tt [] 3 [] {} Tryz.f94 Q (x, (2 : Int), ()) = Q (.u32 (shr32 x 2 ||| shl32 x 30)) := by kernel_rfl
theorem vcTurnR13 (x : UInt32) (Q : SV → Prop) : LnRaw tt [] 3 [] {} Tryz.f94 Q (x, (13 : Int), ()) = Q (.u32 (shr32 x 13 ||| shl32 x 19)) := by kernel_rfl
theorem vcTurnR22 (x : UInt32) (Q : SV → Prop) : LnRaw tt [] 3 [] {} Tryz.f94 Q (x, (22 : Int), ()) = Q (.u32 (shr32 x 22 ||| shl32 x 10)) := by kernel_rfl
def nOK (n : Int) : Prop := n ∈ ([7, 18, 17, 19, 6, 11, 25, 2, 13, 22] : List Int)
def sTurnR : SpecF := fspec (α := UInt32 × Int × Unit) (fun a => some (nOK a.2.1)) (fun a => turnF a.1 a.2.1)
def kTab : List UInt32 := glob0
theorem vcConst (Q : SV → Prop) : LnRaw tt [] 9 [] {} Tryz.f93 Q () = Q (.lst (.halfs kTab)) := by kernel_rfl
def sConst : SpecF := fspec (α := Unit) total (fun _ => kTab)
theorem vcBegR (Q : SV → Prop) : LfRaw tt [] 9 [] {} Tryz.f63 Q () = Q (.lst (.halfs beg.l)) := by kernel_rfl
def sBegR : SpecF := fspec (α := Unit) total (fun _ => L8.mk beg)
def spR5 : Specs := [(94, sTurnR), (93, sConst)]
def iw (b : List UInt8) (w : List UInt32) (i : Int) : Prop := 0 ≤ i ∧ i ≤ 16 ∧ w = (wB b (4 * i.toNat)).take i.toNat
def ix (b : List UInt8) (i : Int) (x : UInt32) (j : Int) : Prop := 0 ≤ j ∧ j ≤ 4 ∧ x = (wB b (4 * i.toNat + j.toNat)).getD i.toNat 0
def it (b : List UInt8) (w : List UInt32) (t : Int) : Prop := 16 ≤ t ∧ t ≤ 64 ∧ w = (wX b (t.toNat - 16)).take t.toNat
def ir (w0 : List UInt32) (s : St8) (w : List UInt32) (v : St8) (t : Int) : Prop := w = w0 ∧ 0 ≤ t ∧ t ≤ 64 ∧ v = rounds w0 s t.toNat
end Go.Proofs.YtficbeeoafiiaaaGreatDoor.H5
