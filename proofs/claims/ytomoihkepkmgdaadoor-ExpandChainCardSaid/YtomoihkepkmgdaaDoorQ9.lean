/- A symbolic machine for Go functions, and what the functions that the law reaches come to: SymL, RefA, Ref0, BdB, BdC, BdD, BdE, BdF, BdG, BdH, RefP, RefQ, RefR, RefB, RefS, RefT, RefU, BdI. -/
import Derived.Test.YtomoihkepkmgdaaDoorQ3
import Derived.WalkKit
import Derived.ProofKit
import Derived.OpenShut
import Derived.ChangeOld
import Derived.SizedLaws
import Derived.ChangeSlices
import Derived.Test.YtomoihkepkmgdaaDoorQ7
import Derived.Test.YtomoihkepkmgdaaDoorQ8
/- Laws' rows: what an argument reads as, told as symbolic values. -/
namespace Go.Sym
open Go.RowKit Go.ChangeShapes Go.WideShapes

section
variable {H : Type} {enc : TypeId × Value → H} {P : Program} {W : World} {base b0 : Nat} {spare : Nat → Bool} {held : Bool} {t e : TypeId} {v : Value} {d : DataW H} {ps : List MemPlace}

theorem four_list {l : List Value} (h : l.length = 4) : ∃ a b c d, l = [a, b, c, d] := by
  match l, h with
  | [a, b, c, d], _ => exact ⟨a, b, c, d, rfl⟩
theorem u64_of_wf {n : Int} (h : (Lit.int .u64 n).wf = true) : ∃ x : UInt64, (.int .u64 n : Value) = .int .u64 (x.toNat : Int) := by
  simp [Lit.wf, IntKind.min, IntKind.max, IntKind.signed, IntKind.bits] at h
  refine ⟨UInt64.ofNat n.toNat, ?_⟩
  simp; omega
theorem open_u64 (ht : P.underlying t = some (.int .u64)) (hval : Value.okWide P W .any b0 t v) (hd : DataW.Trod enc P W base spare held t v d ps) : ∃ x : UInt64, Rel noAt W (.u64 x) v := by
  obtain ⟨n, rfl, _, _, hw⟩ := open_int ht hval hd
  obtain ⟨x, hx⟩ := u64_of_wf hw
  exact ⟨x, by simp only [Rel]; exact hx⟩
theorem open_i64 (ht : P.underlying t = some (.int .i64)) (hval : Value.okWide P W .any b0 t v) (hd : DataW.Trod enc P W base spare held t v d ps) : ∃ x : Int, Rel noAt W (.i64 x) v := by
  obtain ⟨n, rfl, _, _, hw⟩ := open_int ht hval hd
  exact ⟨n, by simp only [Rel]⟩
theorem open_bool' (ht : P.underlying t = some .bool) (hval : Value.okWide P W .any b0 t v) : ∃ x : Bool, Rel noAt W (.bool x) v := by
  obtain ⟨n, rfl⟩ := okWide_bool ht hval
  exact ⟨n, by simp only [Rel]⟩
theorem open_four (ht : P.underlying t = some (.array 4 e)) (he : P.underlying e = some (.int .u64)) (hc : P.cellsOf t = 4) (hce : P.cellsOf e = 1) (hval : Value.okWide P W .any b0 t v) (hd : DataW.Trod enc P W base spare held t v d ps) :
    ∃ x : Four, Rel noAt W x.sv v := by
  obtain ⟨cs, rfl, hsz, _⟩ : ∃ cs, v = .agg cs ∧ cs.size = P.cellsOf t ∧ Row.okWide P W .any b0 t cs := by simpa [Value.okWide, ht] using hval
  rw [hc] at hsz
  obtain ⟨l⟩ := cs
  obtain ⟨c0, c1, c2, c3, rfl⟩ := four_list (by simpa using hsz)
  obtain ⟨fuel, hf⟩ := hd
  obtain ⟨y0, y1, y2, y3, m, hx, hy0, hy1, hy2, hy3⟩ := trod_array4 ht hce hf
  obtain ⟨x0, e0, rfl, w0⟩ := DataW.trod_int he hy0
  obtain ⟨x1, e1, rfl, w1⟩ := DataW.trod_int he hy1
  obtain ⟨x2, e2, rfl, w2⟩ := DataW.trod_int he hy2
  obtain ⟨x3, e3, rfl, w3⟩ := DataW.trod_int he hy3
  simp at e0 e1 e2 e3
  subst e0 e1 e2 e3
  obtain ⟨a0, h0⟩ := u64_of_wf w0
  obtain ⟨a1, h1⟩ := u64_of_wf w1
  obtain ⟨a2, h2⟩ := u64_of_wf w2
  obtain ⟨a3, h3⟩ := u64_of_wf w3
  refine ⟨⟨a0, a1, a2, a3⟩, ?_⟩
  simp only [Four.sv, Rel, RelL]
  rw [h0, h1, h2, h3]
  exact ⟨_, rfl, _, _, rfl, rfl, _, _, rfl, rfl, _, _, rfl, rfl, _, _, rfl, rfl, rfl⟩
theorem u8_of_wf {n : Int} (h : (Lit.int .u8 n).wf = true) : 0 ≤ n ∧ n < 256 := by
  simp [Lit.wf, IntKind.min, IntKind.max, IntKind.signed, IntKind.bits] at h
  omega
theorem open_bytes (ht : P.underlying t = some (.slice e)) (he : P.underlying e = some (.int .u8)) (hc : P.cellsOf e = 1) (hval : Value.okWide P W .any b0 t v) (hd : DataW.Trod enc P W base spare held t v d ps) :
    ∃ l : List UInt8, Rel noAt W (.lst (.bytes l)) v := by
  obtain ⟨a0, len0, cap0, rfl⟩ := okWide_slice ht hval
  obtain ⟨fuel, hf⟩ := hd
  rcases open_ints ht he hc hf with ⟨h1, _⟩ | ⟨a, len, cap, zs, h1, _, h3, _, h5, _, h7, h8⟩
  · have : Value.slice a0 len0 cap0 = .slice none 0 0 := by simpa [Value.cells] using h1
    rw [this]
    refine ⟨[], ?_⟩
    simp only [Rel]
    exact ⟨none, 0, rfl, by simp [LV.len], fun j u hj => by simp [LV.vals] at hj⟩
  · have : Value.slice a0 len0 cap0 = .slice (some a) len cap := by simpa [Value.cells] using h1
    rw [this]
    have hlen : len ≤ zs.length := by rw [h5]; split <;> omega
    refine ⟨(zs.take len).map fun n => UInt8.ofNat n.toNat, ?_⟩
    simp only [Rel]
    refine ⟨some a, cap, by simp [LV.len, Nat.min_eq_left hlen], by simp [LV.len, Nat.min_eq_left hlen]; omega, fun j u hj => ⟨a, rfl, ⟨fun n e => by simp [noAt] at e, fun e => by simp [noAt] at e, fun n b c k e => by simp [noAt] at e⟩, ?_⟩⟩
    simp only [LV.vals, List.map_map, List.getElem?_map, Option.map_eq_some_iff] at hj
    obtain ⟨z, hz, rfl⟩ := hj
    rw [List.getElem?_take] at hz
    split at hz
    · rename_i hjl
      have hjz : j < zs.length := by omega
      rw [List.getElem?_eq_getElem hjz] at hz
      simp only [Option.some.injEq] at hz
      have h9 := h7 j hjz
      rw [List.getD_eq_getElem?_getD, List.getElem?_eq_getElem hjz] at h9
      simp only [Option.getD_some, hz] at h9
      have hw := u8_of_wf (h8 z (hz ▸ List.getElem_mem hjz))
      rw [h9]
      simp only [Function.comp, UInt8.toNat_ofNat']
      congr 2
      omega
    · cases hz
end

/-- A law's call, from its specification. -/
theorem calls_of_spec [GLob] {P : Program} {f : FuncId} {fn : Func} {s : SpecF} (hs : SpecOK P f s) (hf : P.funcs[f]? = some fn) (hname : (fn.name == "runtime.NumGoroutine") = false) (hb : fn.body.isSome = true) {svs : List SV} {vs : List Value} {w : World} {pre : Option Prop} {r : SV}
    (hg : GLOK noAt w) (h : s svs = some (pre, r)) (hp : Ok pre) (hr : RelL noAt w svs vs) : Calls P f (List.toArray vs) w fun e w' => ∃ v, e = .returned v ∧ Rel noAt w' r v ∧ Below w.heap.size w w' := by
  have h1 := hs noAt w svs vs pre r (fun n g e => by simp [noAt] at e) (fun g e => by simp [noAt] at e) hg h hp hr
  obtain ⟨c, hc⟩ := Option.isSome_iff_exists.1 hb
  have hrun : (callFunc f (List.toArray vs)).run P w = .ok (.enter f (List.toArray vs)) w := by
    have h1 : fn.name ≠ "runtime.NumGoroutine" := by simpa using hname
    simp [callFunc, hf, h1, hc]
  rw [hrun] at h1
  exact Calls.mono h1 fun e w' ⟨v, k1, k2, k3⟩ => ⟨v, k1, k2, k3⟩
end Go.Sym
/- The reference's functions on digits (1): what they say, and what their bodies come to. -/
set_option maxRecDepth 10000
namespace Go.Proofs.YtomoihkepkmgdaaDoor.R1
open Go.Sym Go.Dig

/-- A number out of its digits. -/
def nv (l : List Int) : Nat := (val l).toNat
/-- Digits, not too many. -/
def Dg (l : List Int) : Prop := Dig l ∧ l.length ≤ 1073741824
/-- A number's digits, not too many. -/
def Can (l : List Int) : Prop := l = dg (nv l) ∧ l.length ≤ 1073741824

--STOP Go.Dig.Dig, Dg, Can

def iTrim (a : List Int) (n : Int) : Prop := 0 ≤ n ∧ n ≤ a.length ∧ val (a.take n.toNat) = val a
def lTrim : Plan := { loops := [(0, { β := List Int × Unit, α := Int × Unit, same := [0], keep := [3], inv := fun b _ x => iTrim b.1 x.1, meas := fun _ x => x.1.toNat })] }
theorem vcTrim (a : List Int) (Q : SV → Prop) : LnRaw tt [] 3 [] lTrim Tryd.f80 Q (a, ()) =
  ((iTrim a (↑(List.length a) : Int)) ∧
  (∀ a_1 : Int,
  ((iTrim a a_1) →
  bcase (decide (a_1 > (0 : Int)))
    (((((0 : Int) ≤ IntKind.wrap IntKind.i64 (a_1 - (1 : Int))) ∧
     (IntKind.wrap IntKind.i64 (a_1 - (1 : Int)) < (↑(List.length a) : Int))) ∧
    bcase (List.getD a (Int.toNat (IntKind.wrap IntKind.i64 (a_1 - (1 : Int)))) (0 : Int) == (0 : Int))
      ((((a, ()) = (a, ())) ∧
      ((iTrim a (IntKind.wrap IntKind.i64 (a_1 - (1 : Int)))) ∧
      (Int.toNat (IntKind.wrap IntKind.i64 (a_1 - (1 : Int))) < Int.toNat a_1))))
      (((((0 : Int) ≤ (0 : Int)) ∧
       (((0 : Int) ≤ a_1) ∧
       (a_1 ≤ (↑(List.length a) : Int)))) ∧
      (Q (SV.lst (LV.ints (List.drop (Int.toNat (0 : Int)) (List.take (Int.toNat a_1) a)))))))))
    (((((0 : Int) ≤ (0 : Int)) ∧
     (((0 : Int) ≤ a_1) ∧
     (a_1 ≤ (↑(List.length a) : Int)))) ∧
    (Q (SV.lst (LV.ints (List.drop (Int.toNat (0 : Int)) (List.take (Int.toNat a_1) a)))))))))) := by kernel_rfl
def sTrim : SpecF := fspec (α := List Int × Unit) (β := Num) (fun a => some (Dig a.1 ∧ a.1.length ≤ 4294967296)) (fun a => ⟨nv a.1⟩)
def spRT : Specs := [(80, sTrim)]

def iInt (n0 : Int) (n : Int) (out : List Int) : Prop := 0 ≤ n ∧ n ≤ n0 ∧ n0 < 9223372036854775808 ∧ out ++ dg n.toNat = dg n0.toNat
def lInt : Plan := { loops := [(0, { β := Unit, α := Int × OwnI × Unit, same := [], keep := [0, 3], inv := fun _ x0 x => iInt x0.1 x.1 x.2.1.l, meas := fun _ x => x.1.toNat })] }
theorem vcInt (n : Int) (Q : SV → Prop) : LnRaw tt [] 3 [] lInt Tryd.f41 Q (n, ()) =
  ((((0 : Nat) = (0 : Nat)) ∧
   ((0 : Nat) = List.length (List.replicate (0 : Nat) (0 : Int)))) ∧
  ((iInt n n (List.replicate (0 : Nat) (0 : Int))) ∧
  (∀ a : Int,
  (∀ l : List Int,
  ((iInt n a l) →
  bcase (decide (a > (0 : Int)))
    (((((0 : Nat) + List.length l = List.length l) ∧
     (List.length
    (List.drop (0 : Nat) (List.take (List.length l) l) ++
      List.drop (0 : Nat) (List.take ((0 : Nat) + (1 : Nat)) [Int.tmod a (16777216 : Int)])) ≤
  appLim)) ∧
    ((((0 : Nat) = (0 : Nat)) ∧
     (List.length
    (List.drop (0 : Nat) (List.take (List.length l) l) ++
      List.drop (0 : Nat) (List.take ((0 : Nat) + (1 : Nat)) [Int.tmod a (16777216 : Int)])) =
  List.length
    (List.drop (0 : Nat) (List.take (List.length l) l) ++
      List.drop (0 : Nat) (List.take ((0 : Nat) + (1 : Nat)) [Int.tmod a (16777216 : Int)])))) ∧
    ((() = ()) ∧
    ((iInt n (IntKind.wrap IntKind.i64 (Int.tdiv a (16777216 : Int)))
  (List.drop (0 : Nat) (List.take (List.length l) l) ++
    List.drop (0 : Nat) (List.take ((0 : Nat) + (1 : Nat)) [Int.tmod a (16777216 : Int)]))) ∧
    (Int.toNat (IntKind.wrap IntKind.i64 (Int.tdiv a (16777216 : Int))) < Int.toNat a))))))
    ((Q (SV.lst (LV.ints (List.drop (0 : Nat) (List.take ((0 : Nat) + List.length l) l))))))))))) := by kernel_rfl
def sInt : SpecF := fspec (α := Int × Unit) (β := Num) (fun a => some (0 ≤ a.1 ∧ a.1 < 9223372036854775808)) (fun a => ⟨a.1.toNat⟩)

def iAdd (a b : List Int) (i c : Int) (out : List Int) : Prop := 0 ≤ i ∧ i ≤ (max a.length b.length : Nat) + 1 ∧ 0 ≤ c ∧ c ≤ 1 ∧ (i = (max a.length b.length : Nat) + 1 → c = 0) ∧ Dig out ∧ (out.length : Int) = i ∧
  val out + 16777216 ^ i.toNat * c = val (a.take i.toNat) + val (b.take i.toNat)
def lAdd : Plan := { loops := [(0, { β := List Int × List Int × Unit, α := OwnI × Int × Int × Unit, same := [0, 1], keep := [5, 6, 7], inv := fun b _ x => iAdd b.1 b.2.1 x.2.2.1 x.2.1 x.1.l, meas := fun b x => (max b.1.length b.2.1.length + 2 - x.2.2.1).toNat })], cuts := [(4, { β := List Int × List Int × Int × Int × Unit, γ := OwnI × Unit, α := OwnI × Bool × Unit, same := [0, 1, 6, 7], pre := [5], keep := [5, 21], inv := fun b g x => x.1.l = g.1.l ∧ x.2.1 = (decide (b.2.2.2.1 < b.1.length) || decide (b.2.2.2.1 < b.2.1.length) || decide (0 < b.2.2.1)) })], forks := [(6, { β := List Int × List Int × Int × Unit, γ := OwnI × Int × Unit, α := OwnI × Int × Unit, same := [0, 1, 7], pre := [5, 6], keep := [5, 6], inv := fun b g x => x.1.l = g.1.l ∧ x.2.1 = g.2.1 + b.1.getD b.2.2.1.toNat 0 }), (8, { β := List Int × List Int × Int × Unit, γ := OwnI × Int × Unit, α := OwnI × Int × Unit, same := [0, 1, 7], pre := [5, 6], keep := [5, 6], inv := fun b g x => x.1.l = g.1.l ∧ x.2.1 = g.2.1 + b.2.1.getD b.2.2.1.toNat 0 })] }
theorem vcAdd (a b : List Int) (Q : SV → Prop) : LnRaw tt spRT 3 [] lAdd Tryd.f73 Q (a, b, ()) =
  ((((0 : Nat) = (0 : Nat)) ∧
   ((0 : Nat) = List.length (List.replicate (0 : Nat) (0 : Int)))) ∧
  ((iAdd a b (0 : Int) (0 : Int) (List.replicate (0 : Nat) (0 : Int))) ∧
  (∀ l : List Int,
  (∀ a_1 : Int,
  (∀ a_2 : Int,
  ((iAdd a b a_2 a_1 l) →
  ((((0 : Nat) = (0 : Nat)) ∧
   (List.length l = List.length l)) ∧
  (bcase (decide (a_2 < (↑(List.length a) : Int)))
     (((((0 : Nat) = (0 : Nat)) ∧
      (List.length l = List.length l)) ∧
     (((a, b, a_1, a_2, ()) = (a, b, a_1, a_2, ())) ∧
     ((l = l) ∧
     (true = (decide (a_2 < (↑(List.length a) : Int)) || decide (a_2 < (↑(List.length b) : Int)) || decide ((0 : Int) < a_1)))))))
     (bcase (decide (a_2 < (↑(List.length b) : Int)))
       (((((0 : Nat) = (0 : Nat)) ∧
        (List.length l = List.length l)) ∧
       (((a, b, a_1, a_2, ()) = (a, b, a_1, a_2, ())) ∧
       ((l = l) ∧
       (true = (decide (a_2 < (↑(List.length a) : Int)) || decide (a_2 < (↑(List.length b) : Int)) || decide ((0 : Int) < a_1)))))))
       (((((0 : Nat) = (0 : Nat)) ∧
        (List.length l = List.length l)) ∧
       (((a, b, a_1, a_2, ()) = (a, b, a_1, a_2, ())) ∧
       ((l = l) ∧
       (decide (a_1 > (0 : Int)) =
  (decide (a_2 < (↑(List.length a) : Int)) || decide (a_2 < (↑(List.length b) : Int)) || decide ((0 : Int) < a_1)))))))) ∧
  (∀ l_1 : List Int,
  (∀ a_3 : Bool,
  (((l_1 = l) ∧
  (a_3 = (decide (a_2 < (↑(List.length a) : Int)) || decide (a_2 < (↑(List.length b) : Int)) || decide ((0 : Int) < a_1)))) →
  bcase (a_3)
    (((((0 : Nat) = (0 : Nat)) ∧
     (List.length l_1 = List.length l_1)) ∧
    (bcase (decide (a_2 < (↑(List.length a) : Int)))
       (((((0 : Int) ≤ a_2) ∧
        (a_2 < (↑(List.length a) : Int))) ∧
       ((((0 : Nat) = (0 : Nat)) ∧
        (List.length l_1 = List.length l_1)) ∧
       (((a, b, a_2, ()) = (a, b, a_2, ())) ∧
       ((l_1 = l_1) ∧
       (IntKind.wrap IntKind.i64 (a_1 + List.getD a (Int.toNat a_2) (0 : Int)) = a_1 + List.getD a (Int.toNat a_2) (0 : Int)))))))
       (((((0 : Nat) = (0 : Nat)) ∧
        (List.length l_1 = List.length l_1)) ∧
       (((a, b, a_2, ()) = (a, b, a_2, ())) ∧
       ((l_1 = l_1) ∧
       (a_1 = a_1 + List.getD a (Int.toNat a_2) (0 : Int)))))) ∧
    (∀ l_2 : List Int,
    (∀ a_4 : Int,
    (((l_2 = l_1) ∧
    (a_4 = a_1 + List.getD a (Int.toNat a_2) (0 : Int))) →
    ((((0 : Nat) = (0 : Nat)) ∧
     (List.length l_2 = List.length l_2)) ∧
    (bcase (decide (a_2 < (↑(List.length b) : Int)))
       (((((0 : Int) ≤ a_2) ∧
        (a_2 < (↑(List.length b) : Int))) ∧
       ((((0 : Nat) = (0 : Nat)) ∧
        (List.length l_2 = List.length l_2)) ∧
       (((a, b, a_2, ()) = (a, b, a_2, ())) ∧
       ((l_2 = l_2) ∧
       (IntKind.wrap IntKind.i64 (a_4 + List.getD b (Int.toNat a_2) (0 : Int)) = a_4 + List.getD b (Int.toNat a_2) (0 : Int)))))))
       (((((0 : Nat) = (0 : Nat)) ∧
        (List.length l_2 = List.length l_2)) ∧
       (((a, b, a_2, ()) = (a, b, a_2, ())) ∧
       ((l_2 = l_2) ∧
       (a_4 = a_4 + List.getD b (Int.toNat a_2) (0 : Int)))))) ∧
    (∀ l_3 : List Int,
    (∀ a_5 : Int,
    (((l_3 = l_2) ∧
    (a_5 = a_4 + List.getD b (Int.toNat a_2) (0 : Int))) →
    ((((0 : Nat) + List.length l_3 = List.length l_3) ∧
     (List.length
    (List.drop (0 : Nat) (List.take (List.length l_3) l_3) ++
      List.drop (0 : Nat) (List.take ((0 : Nat) + (1 : Nat)) [Int.tmod a_5 (16777216 : Int)])) ≤
  appLim)) ∧
    ((((0 : Nat) = (0 : Nat)) ∧
     (List.length
    (List.drop (0 : Nat) (List.take (List.length l_3) l_3) ++
      List.drop (0 : Nat) (List.take ((0 : Nat) + (1 : Nat)) [Int.tmod a_5 (16777216 : Int)])) =
  List.length
    (List.drop (0 : Nat) (List.take (List.length l_3) l_3) ++
      List.drop (0 : Nat) (List.take ((0 : Nat) + (1 : Nat)) [Int.tmod a_5 (16777216 : Int)])))) ∧
    (((a, b, ()) = (a, b, ())) ∧
    ((iAdd a b (IntKind.wrap IntKind.i64 (a_2 + (1 : Int))) (IntKind.wrap IntKind.i64 (Int.tdiv a_5 (16777216 : Int)))
  (List.drop (0 : Nat) (List.take (List.length l_3) l_3) ++
    List.drop (0 : Nat) (List.take ((0 : Nat) + (1 : Nat)) [Int.tmod a_5 (16777216 : Int)]))) ∧
    (Int.toNat ((↑(max (List.length a) (List.length b)) : Int) + (2 : Int) - IntKind.wrap IntKind.i64 (a_2 + (1 : Int))) <
  Int.toNat ((↑(max (List.length a) (List.length b)) : Int) + (2 : Int) - a_2)))))))))))))))))
    ((((Dig (List.drop (0 : Nat) (List.take ((0 : Nat) + List.length l_1) l_1))) ∧
     (List.length (List.drop (0 : Nat) (List.take ((0 : Nat) + List.length l_1) l_1)) ≤ (4294967296 : Nat))) ∧
    (Q (SV.lst (LV.num (nv (List.drop (0 : Nat) (List.take ((0 : Nat) + List.length l_1) l_1))))))))))))))))))) := by kernel_rfl
def sAdd : SpecF := fspec (α := List Int × List Int × Unit) (β := Num) (fun a => some (Dg a.1 ∧ Dg a.2.1)) (fun a => ⟨nv a.1 + nv a.2.1⟩)

def iSub (a b : List Int) (i c : Int) (out : List Int) : Prop := 0 ≤ i ∧ i ≤ a.length ∧ 0 ≤ c ∧ c ≤ 1 ∧ Dig out ∧ (out.length : Int) = i ∧
  val out + val (b.take i.toNat) = val (a.take i.toNat) + 16777216 ^ i.toNat * c
def lSub : Plan := { loops := [(0, { β := List Int × List Int × Unit, α := OwnI × Int × Int × Unit, same := [0, 1], keep := [5, 6, 7], inv := fun b _ x => iSub b.1 b.2.1 x.2.2.1 x.2.1 x.1.l, meas := fun b x => (b.1.length - x.2.2.1).toNat })], forks := [(8, { β := List Int × List Int × Int × Unit, γ := OwnI × Int × Int × Unit, α := OwnI × Int × Int × Unit, same := [0, 1, 7], pre := [5, 6, 8], keep := [5, 6, 8], inv := fun b g x => x.1.l = g.1.l ∧ x.2.1 = g.2.1 ∧ x.2.2.1 = g.2.2.1 - b.2.1.getD b.2.2.1.toNat 0 }), (10, { β := List Int × List Int × Int × Unit, γ := OwnI × Int × Int × Unit, α := OwnI × Int × Int × Unit, same := [0, 1, 7], pre := [5, 6, 8], keep := [5, 6, 8], inv := fun _ g x => x.1.l = g.1.l ∧ x.2.1 = (if g.2.2.1 < 0 then 1 else 0) ∧ x.2.2.1 = (if g.2.2.1 < 0 then g.2.2.1 + 16777216 else g.2.2.1) })] }
theorem vcSub (a b : List Int) (Q : SV → Prop) : LnRaw tt spRT 3 [] lSub Tryd.f92 Q (a, b, ()) =
  ((((0 : Nat) = (0 : Nat)) ∧
   ((0 : Nat) = List.length (List.replicate (0 : Nat) (0 : Int)))) ∧
  ((iSub a b (0 : Int) (0 : Int) (List.replicate (0 : Nat) (0 : Int))) ∧
  (∀ l : List Int,
  (∀ a_1 : Int,
  (∀ a_2 : Int,
  ((iSub a b a_2 a_1 l) →
  bcase (decide (a_2 < (↑(List.length a) : Int)))
    (((((0 : Int) ≤ a_2) ∧
     (a_2 < (↑(List.length a) : Int))) ∧
    ((((0 : Nat) = (0 : Nat)) ∧
     (List.length l = List.length l)) ∧
    (bcase (decide (a_2 < (↑(List.length b) : Int)))
       (((((0 : Int) ≤ a_2) ∧
        (a_2 < (↑(List.length b) : Int))) ∧
       ((((0 : Nat) = (0 : Nat)) ∧
        (List.length l = List.length l)) ∧
       (((a, b, a_2, ()) = (a, b, a_2, ())) ∧
       ((l = l) ∧
       (((0 : Int) = (0 : Int)) ∧
       (IntKind.wrap IntKind.i64
    (IntKind.wrap IntKind.i64 (List.getD a (Int.toNat a_2) (0 : Int) - a_1) - List.getD b (Int.toNat a_2) (0 : Int)) =
  IntKind.wrap IntKind.i64 (List.getD a (Int.toNat a_2) (0 : Int) - a_1) - List.getD b (Int.toNat a_2) (0 : Int))))))))
       (((((0 : Nat) = (0 : Nat)) ∧
        (List.length l = List.length l)) ∧
       (((a, b, a_2, ()) = (a, b, a_2, ())) ∧
       ((l = l) ∧
       (((0 : Int) = (0 : Int)) ∧
       (IntKind.wrap IntKind.i64 (List.getD a (Int.toNat a_2) (0 : Int) - a_1) =
  IntKind.wrap IntKind.i64 (List.getD a (Int.toNat a_2) (0 : Int) - a_1) - List.getD b (Int.toNat a_2) (0 : Int))))))) ∧
    (∀ l_1 : List Int,
    (∀ a_3 : Int,
    (∀ a_4 : Int,
    (((l_1 = l) ∧
    ((a_3 = (0 : Int)) ∧
    (a_4 = IntKind.wrap IntKind.i64 (List.getD a (Int.toNat a_2) (0 : Int) - a_1) - List.getD b (Int.toNat a_2) (0 : Int)))) →
    ((((0 : Nat) = (0 : Nat)) ∧
     (List.length l_1 = List.length l_1)) ∧
    (bcase (decide (a_4 < (0 : Int)))
       (((((0 : Nat) = (0 : Nat)) ∧
        (List.length l_1 = List.length l_1)) ∧
       (((a, b, a_2, ()) = (a, b, a_2, ())) ∧
       ((l_1 = l_1) ∧
       (((1 : Int) = if a_4 < (0 : Int) then (1 : Int) else (0 : Int)) ∧
       (IntKind.wrap IntKind.i64 (a_4 + (16777216 : Int)) = if a_4 < (0 : Int) then a_4 + (16777216 : Int) else a_4))))))
       (((((0 : Nat) = (0 : Nat)) ∧
        (List.length l_1 = List.length l_1)) ∧
       (((a, b, a_2, ()) = (a, b, a_2, ())) ∧
       ((l_1 = l_1) ∧
       ((a_3 = if a_4 < (0 : Int) then (1 : Int) else (0 : Int)) ∧
       (a_4 = if a_4 < (0 : Int) then a_4 + (16777216 : Int) else a_4)))))) ∧
    (∀ l_2 : List Int,
    (∀ a_5 : Int,
    (∀ a_6 : Int,
    (((l_2 = l_1) ∧
    ((a_5 = if a_4 < (0 : Int) then (1 : Int) else (0 : Int)) ∧
    (a_6 = if a_4 < (0 : Int) then a_4 + (16777216 : Int) else a_4))) →
    ((((0 : Nat) + List.length l_2 = List.length l_2) ∧
     (List.length
    (List.drop (0 : Nat) (List.take (List.length l_2) l_2) ++
      List.drop (0 : Nat) (List.take ((0 : Nat) + (1 : Nat)) [a_6])) ≤
  appLim)) ∧
    ((((0 : Nat) = (0 : Nat)) ∧
     (List.length
    (List.drop (0 : Nat) (List.take (List.length l_2) l_2) ++
      List.drop (0 : Nat) (List.take ((0 : Nat) + (1 : Nat)) [a_6])) =
  List.length
    (List.drop (0 : Nat) (List.take (List.length l_2) l_2) ++
      List.drop (0 : Nat) (List.take ((0 : Nat) + (1 : Nat)) [a_6])))) ∧
    (((a, b, ()) = (a, b, ())) ∧
    ((iSub a b (IntKind.wrap IntKind.i64 (a_2 + (1 : Int))) a_5
  (List.drop (0 : Nat) (List.take (List.length l_2) l_2) ++
    List.drop (0 : Nat) (List.take ((0 : Nat) + (1 : Nat)) [a_6]))) ∧
    (Int.toNat ((↑(List.length a) : Int) - IntKind.wrap IntKind.i64 (a_2 + (1 : Int))) <
  Int.toNat ((↑(List.length a) : Int) - a_2))))))))))))))))))))
    ((((Dig (List.drop (0 : Nat) (List.take ((0 : Nat) + List.length l) l))) ∧
     (List.length (List.drop (0 : Nat) (List.take ((0 : Nat) + List.length l) l)) ≤ (4294967296 : Nat))) ∧
    (Q (SV.lst (LV.num (nv (List.drop (0 : Nat) (List.take ((0 : Nat) + List.length l) l)))))))))))))) := by kernel_rfl
def sSub : SpecF := fspec (α := List Int × List Int × Unit) (β := Num) (fun a => some (Dg a.1 ∧ Dg a.2.1 ∧ nv a.2.1 ≤ nv a.1)) (fun a => ⟨nv a.1 - nv a.2.1⟩)

def iMulA (a b : List Int) (i : Int) (out : List Int) : Prop := 0 ≤ i ∧ i ≤ a.length ∧ Dig out ∧ out.length = a.length + b.length + 1 ∧ (∀ k, i.toNat + b.length ≤ k → out.getD k 0 = 0) ∧ val out = val (a.take i.toNat) * val b
def iMulB (a b : List Int) (i : Int) (out0 : List Int) (c j : Int) (out : List Int) : Prop := 0 ≤ j ∧ j ≤ b.length ∧ 0 ≤ c ∧ c < 16777216 ∧ Dig out ∧ out.length = a.length + b.length + 1 ∧ (∀ k, i.toNat + b.length ≤ k → out.getD k 0 = 0) ∧
  val out + 16777216 ^ (i.toNat + j.toNat) * c = val out0 + 16777216 ^ i.toNat * (a.getD i.toNat 0 * val (b.take j.toNat))
def lMul : Plan := { loops := [(0, { β := List Int × List Int × Unit, α := OwnI × Int × Unit, same := [0, 1], keep := [5, 6], inv := fun b _ x => iMulA b.1 b.2.1 x.2.1 x.1.l, meas := fun b x => (b.1.length - x.2.1).toNat }), (2, { β := List Int × List Int × Int × Unit, α := OwnI × Int × Int × Unit, same := [0, 1, 6], keep := [5, 7, 8], inv := fun b x0 x => iMulB b.1 b.2.1 b.2.2.1 x0.1.l x.2.1 x.2.2.1 x.1.l, meas := fun b x => (b.2.1.length - x.2.2.1).toNat })] }
theorem vcMul (a b : List Int) (Q : SV → Prop) : LnRaw tt spRT 3 [] lMul Tryd.f89 Q (a, b, ()) =
  ((((0 : Int) ≤
  IntKind.wrap IntKind.i64 (IntKind.wrap IntKind.i64 ((↑(List.length a) : Int) + (↑(List.length b) : Int)) + (1 : Int))) ∧
   ((IntKind.wrap IntKind.i64 (IntKind.wrap IntKind.i64 ((↑(List.length a) : Int) + (↑(List.length b) : Int)) + (1 : Int)) =
  IntKind.wrap IntKind.i64 (IntKind.wrap IntKind.i64 ((↑(List.length a) : Int) + (↑(List.length b) : Int)) + (1 : Int))) ∧
   (IntKind.wrap IntKind.i64 (IntKind.wrap IntKind.i64 ((↑(List.length a) : Int) + (↑(List.length b) : Int)) + (1 : Int)) ≤
  (1099511627776 : Int)))) ∧
  ((((0 : Nat) = (0 : Nat)) ∧
   (Int.toNat
    (IntKind.wrap IntKind.i64
      (IntKind.wrap IntKind.i64 ((↑(List.length a) : Int) + (↑(List.length b) : Int)) + (1 : Int))) =
  List.length
    (List.replicate
      (Int.toNat
        (IntKind.wrap IntKind.i64
          (IntKind.wrap IntKind.i64 ((↑(List.length a) : Int) + (↑(List.length b) : Int)) + (1 : Int))))
      (0 : Int)))) ∧
  ((iMulA a b (0 : Int)
  (List.replicate
    (Int.toNat
      (IntKind.wrap IntKind.i64
        (IntKind.wrap IntKind.i64 ((↑(List.length a) : Int) + (↑(List.length b) : Int)) + (1 : Int))))
    (0 : Int))) ∧
  (∀ l : List Int,
  (∀ a_1 : Int,
  ((iMulA a b a_1 l) →
  bcase (decide (a_1 < (↑(List.length a) : Int)))
    (((((0 : Nat) = (0 : Nat)) ∧
     (List.length l = List.length l)) ∧
    ((iMulB a b a_1 l (0 : Int) (0 : Int) l) ∧
    (∀ l_1 : List Int,
    (∀ a_2 : Int,
    (∀ a_3 : Int,
    ((iMulB a b a_1 l a_2 a_3 l_1) →
    bcase (decide (a_3 < (↑(List.length b) : Int)))
      (((((0 : Int) ≤ IntKind.wrap IntKind.i64 (a_1 + a_3)) ∧
       (IntKind.wrap IntKind.i64 (a_1 + a_3) < (↑(List.length l_1) : Int))) ∧
      ((((0 : Int) ≤ a_1) ∧
       (a_1 < (↑(List.length a) : Int))) ∧
      ((((0 : Int) ≤ a_3) ∧
       (a_3 < (↑(List.length b) : Int))) ∧
      ((((0 : Int) ≤ IntKind.wrap IntKind.i64 (a_1 + a_3)) ∧
       (IntKind.wrap IntKind.i64 (a_1 + a_3) < (↑(List.length l_1) : Int))) ∧
      ((((0 : Nat) = (0 : Nat)) ∧
       (List.length l_1 =
  List.length
    (List.set l_1 ((0 : Nat) + Int.toNat (IntKind.wrap IntKind.i64 (a_1 + a_3)))
      (Int.tmod
        (IntKind.wrap IntKind.i64
          (IntKind.wrap IntKind.i64
              (a_2 + List.getD l_1 ((0 : Nat) + Int.toNat (IntKind.wrap IntKind.i64 (a_1 + a_3))) (0 : Int)) +
            IntKind.wrap IntKind.i64 (List.getD a (Int.toNat a_1) (0 : Int) * List.getD b (Int.toNat a_3) (0 : Int))))
        (16777216 : Int))))) ∧
      (((a, b, a_1, ()) = (a, b, a_1, ())) ∧
      ((iMulB a b a_1 l
  (IntKind.wrap IntKind.i64
    (Int.tdiv
      (IntKind.wrap IntKind.i64
        (IntKind.wrap IntKind.i64
            (a_2 + List.getD l_1 ((0 : Nat) + Int.toNat (IntKind.wrap IntKind.i64 (a_1 + a_3))) (0 : Int)) +
          IntKind.wrap IntKind.i64 (List.getD a (Int.toNat a_1) (0 : Int) * List.getD b (Int.toNat a_3) (0 : Int))))
      (16777216 : Int)))
  (IntKind.wrap IntKind.i64 (a_3 + (1 : Int)))
  (List.set l_1 ((0 : Nat) + Int.toNat (IntKind.wrap IntKind.i64 (a_1 + a_3)))
    (Int.tmod
      (IntKind.wrap IntKind.i64
        (IntKind.wrap IntKind.i64
            (a_2 + List.getD l_1 ((0 : Nat) + Int.toNat (IntKind.wrap IntKind.i64 (a_1 + a_3))) (0 : Int)) +
          IntKind.wrap IntKind.i64 (List.getD a (Int.toNat a_1) (0 : Int) * List.getD b (Int.toNat a_3) (0 : Int))))
      (16777216 : Int)))) ∧
      (Int.toNat ((↑(List.length b) : Int) - IntKind.wrap IntKind.i64 (a_3 + (1 : Int))) <
  Int.toNat ((↑(List.length b) : Int) - a_3))))))))))
      (((((0 : Int) ≤ IntKind.wrap IntKind.i64 (a_1 + (↑(List.length b) : Int))) ∧
       (IntKind.wrap IntKind.i64 (a_1 + (↑(List.length b) : Int)) < (↑(List.length l_1) : Int))) ∧
      ((((0 : Int) ≤ IntKind.wrap IntKind.i64 (a_1 + (↑(List.length b) : Int))) ∧
       (IntKind.wrap IntKind.i64 (a_1 + (↑(List.length b) : Int)) < (↑(List.length l_1) : Int))) ∧
      ((((0 : Nat) = (0 : Nat)) ∧
       (List.length l_1 =
  List.length
    (List.set l_1 ((0 : Nat) + Int.toNat (IntKind.wrap IntKind.i64 (a_1 + (↑(List.length b) : Int))))
      (IntKind.wrap IntKind.i64
        (List.getD l_1 ((0 : Nat) + Int.toNat (IntKind.wrap IntKind.i64 (a_1 + (↑(List.length b) : Int)))) (0 : Int) +
          a_2))))) ∧
      (((a, b, ()) = (a, b, ())) ∧
      ((iMulA a b (IntKind.wrap IntKind.i64 (a_1 + (1 : Int)))
  (List.set l_1 ((0 : Nat) + Int.toNat (IntKind.wrap IntKind.i64 (a_1 + (↑(List.length b) : Int))))
    (IntKind.wrap IntKind.i64
      (List.getD l_1 ((0 : Nat) + Int.toNat (IntKind.wrap IntKind.i64 (a_1 + (↑(List.length b) : Int)))) (0 : Int) +
        a_2)))) ∧
      (Int.toNat ((↑(List.length a) : Int) - IntKind.wrap IntKind.i64 (a_1 + (1 : Int))) <
  Int.toNat ((↑(List.length a) : Int) - a_1)))))))))))))))
    ((((Dig (List.drop (0 : Nat) (List.take ((0 : Nat) + List.length l) l))) ∧
     (List.length (List.drop (0 : Nat) (List.take ((0 : Nat) + List.length l) l)) ≤ (4294967296 : Nat))) ∧
    (Q (SV.lst (LV.num (nv (List.drop (0 : Nat) (List.take ((0 : Nat) + List.length l) l)))))))))))))) := by kernel_rfl
def sMul' : SpecF := fspec (α := List Int × List Int × Unit) (β := Num) (fun a => some (Dg a.1 ∧ Dg a.2.1)) (fun a => ⟨nv a.1 * nv a.2.1⟩)
def spRM : Specs := (89, sMul') :: (41, sInt) :: spRT

theorem vcSmall (a : List Int) (n : Int) (Q : SV → Prop) : LnRaw tt spRM 3 [] {} Tryd.f74 Q (a, n, ()) =
  ((((0 : Int) ≤ n) ∧
   (n < (9223372036854775808 : Int))) ∧
  (((Dg a) ∧
   (Dg (dg (Int.toNat n)))) ∧
  (Q (SV.lst (LV.num (nv a * nv (dg (Int.toNat n)))))))) := by kernel_rfl
def sSmall : SpecF := fspec (α := List Int × Int × Unit) (β := Num) (fun a => some (Dg a.1 ∧ 0 ≤ a.2.1 ∧ a.2.1 < 9223372036854775808)) (fun a => ⟨nv a.1 * a.2.1.toNat⟩)

def iPow2 (n i x : Int) : Prop := 0 ≤ i ∧ i ≤ n ∧ x = 2 ^ i.toNat
def lPow2 : Plan := { loops := [(0, { β := Int × Unit, α := Int × Int × Unit, same := [0], keep := [3, 4], inv := fun b _ x => iPow2 b.1 x.2.1 x.1, meas := fun b x => (b.1 - x.2.1).toNat })] }
theorem vcPow2 (n : Int) (Q : SV → Prop) : LnRaw tt [] 3 [] lPow2 Tryd.f90 Q (n, ()) =
  ((iPow2 n (0 : Int) (1 : Int)) ∧
  (∀ a : Int,
  (∀ a_1 : Int,
  ((iPow2 n a_1 a) →
  bcase (decide (a_1 < n))
    ((((n, ()) = (n, ())) ∧
    ((iPow2 n (IntKind.wrap IntKind.i64 (a_1 + (1 : Int))) (IntKind.wrap IntKind.i64 ((2 : Int) * a))) ∧
    (Int.toNat (n - IntKind.wrap IntKind.i64 (a_1 + (1 : Int))) < Int.toNat (n - a_1)))))
    ((Q (SV.i64 a))))))) := by kernel_rfl
def sPow2 : SpecF := fspec (α := Int × Unit) (β := Int) (fun a => some (0 ≤ a.1 ∧ a.1 ≤ 62)) (fun a => 2 ^ a.1.toNat)

def spRS : Specs := (74, sSmall) :: (90, sPow2) :: spRM
theorem vcShift (a : List Int) (n : Int) (Q : SV → Prop) : LnRaw tt spRS 3 [] {} Tryd.f79 Q (a, n, ()) =
  bcase ((↑(List.length a) : Int) == (0 : Int))
    ((Q (SV.val (Value.slice none (0 : Nat) (0 : Nat)))))
    (((((0 : Int) ≤ IntKind.wrap IntKind.i64 (Int.tdiv n (24 : Int))) ∧
     ((IntKind.wrap IntKind.i64 (Int.tdiv n (24 : Int)) = IntKind.wrap IntKind.i64 (Int.tdiv n (24 : Int))) ∧
     (IntKind.wrap IntKind.i64 (Int.tdiv n (24 : Int)) ≤ (1099511627776 : Int)))) ∧
    ((((0 : Nat) + Int.toNat (IntKind.wrap IntKind.i64 (Int.tdiv n (24 : Int))) =
  List.length (List.replicate (Int.toNat (IntKind.wrap IntKind.i64 (Int.tdiv n (24 : Int)))) (0 : Int))) ∧
     (List.length
    (List.drop (0 : Nat)
        (List.take
          (List.length (List.replicate (Int.toNat (IntKind.wrap IntKind.i64 (Int.tdiv n (24 : Int)))) (0 : Int)))
          (List.replicate (Int.toNat (IntKind.wrap IntKind.i64 (Int.tdiv n (24 : Int)))) (0 : Int))) ++
      a) ≤
  appLim)) ∧
    ((((0 : Int) ≤ Int.tmod n (24 : Int)) ∧
     (Int.tmod n (24 : Int) ≤ (62 : Int))) ∧
    (((Dg
  (List.drop (0 : Nat)
    (List.take
      ((0 : Nat) +
        List.length
          (List.drop (0 : Nat)
              (List.take
                (List.length (List.replicate (Int.toNat (IntKind.wrap IntKind.i64 (Int.tdiv n (24 : Int)))) (0 : Int)))
                (List.replicate (Int.toNat (IntKind.wrap IntKind.i64 (Int.tdiv n (24 : Int)))) (0 : Int))) ++
            a))
      (List.drop (0 : Nat)
          (List.take
            (List.length (List.replicate (Int.toNat (IntKind.wrap IntKind.i64 (Int.tdiv n (24 : Int)))) (0 : Int)))
            (List.replicate (Int.toNat (IntKind.wrap IntKind.i64 (Int.tdiv n (24 : Int)))) (0 : Int))) ++
        a)))) ∧
     (((0 : Int) ≤ (2 : Int) ^ Int.toNat (Int.tmod n (24 : Int))) ∧
     ((2 : Int) ^ Int.toNat (Int.tmod n (24 : Int)) < (9223372036854775808 : Int)))) ∧
    (Q
  (SV.lst
    (LV.num
      (nv
          (List.drop (0 : Nat)
            (List.take
              ((0 : Nat) +
                List.length
                  (List.drop (0 : Nat)
                      (List.take
                        (List.length
                          (List.replicate (Int.toNat (IntKind.wrap IntKind.i64 (Int.tdiv n (24 : Int)))) (0 : Int)))
                        (List.replicate (Int.toNat (IntKind.wrap IntKind.i64 (Int.tdiv n (24 : Int)))) (0 : Int))) ++
                    a))
              (List.drop (0 : Nat)
                  (List.take
                    (List.length
                      (List.replicate (Int.toNat (IntKind.wrap IntKind.i64 (Int.tdiv n (24 : Int)))) (0 : Int)))
                    (List.replicate (Int.toNat (IntKind.wrap IntKind.i64 (Int.tdiv n (24 : Int)))) (0 : Int))) ++
                a))) *
        Int.toNat ((2 : Int) ^ Int.toNat (Int.tmod n (24 : Int)))))))))))) := by kernel_rfl
def sShift : SpecF := fspec (α := List Int × Int × Unit) (β := Num) (fun a => some (Dig a.1 ∧ a.1.length ≤ 536870912 ∧ 0 ≤ a.2.1 ∧ a.2.1 ≤ 1073741824)) (fun a => ⟨nv a.1 * 2 ^ a.2.1.toNat⟩)
def spRP : Specs := (79, sShift) :: spRS
def sPower : SpecF := fspec (α := Int × Unit) (β := Num) (fun a => some (0 ≤ a.1 ∧ a.1 ≤ 1073741824)) (fun a => ⟨2 ^ a.1.toNat⟩)

def iCmp (a b : List Int) (i : Int) : Prop := -1 ≤ i ∧ i < a.length ∧ a.length = b.length ∧ a.drop (i + 1).toNat = b.drop (i + 1).toNat
def lCmp : Plan := { loops := [(0, { β := List Int × List Int × Unit, α := Int × Unit, same := [0, 1], keep := [5], inv := fun b _ x => iCmp b.1 b.2.1 x.1, meas := fun _ x => (x.1 + 1).toNat })] }
theorem vcCmp (a b : List Int) (Q : SV → Prop) : LnRaw tt [] 3 [] lCmp Tryd.f55 Q (a, b, ()) =
  bcase (decide ((↑(List.length a) : Int) < (↑(List.length b) : Int)))
    ((Q (SV.i64 (-1 : Int))))
    (bcase (decide ((↑(List.length a) : Int) > (↑(List.length b) : Int)))
      ((Q (SV.i64 (1 : Int))))
      (((iCmp a b (IntKind.wrap IntKind.i64 ((↑(List.length a) : Int) - (1 : Int)))) ∧
      (∀ a_1 : Int,
      ((iCmp a b a_1) →
      bcase (decide (a_1 ≥ (0 : Int)))
        (((((0 : Int) ≤ a_1) ∧
         (a_1 < (↑(List.length a) : Int))) ∧
        ((((0 : Int) ≤ a_1) ∧
         (a_1 < (↑(List.length b) : Int))) ∧
        bcase (decide (List.getD a (Int.toNat a_1) (0 : Int) < List.getD b (Int.toNat a_1) (0 : Int)))
          ((Q (SV.i64 (-1 : Int))))
          (((((0 : Int) ≤ a_1) ∧
           (a_1 < (↑(List.length a) : Int))) ∧
          ((((0 : Int) ≤ a_1) ∧
           (a_1 < (↑(List.length b) : Int))) ∧
          bcase (decide (List.getD a (Int.toNat a_1) (0 : Int) > List.getD b (Int.toNat a_1) (0 : Int)))
            ((Q (SV.i64 (1 : Int))))
            ((((a, b, ()) = (a, b, ())) ∧
            ((iCmp a b (IntKind.wrap IntKind.i64 (a_1 - (1 : Int)))) ∧
            (Int.toNat (IntKind.wrap IntKind.i64 (a_1 - (1 : Int)) + (1 : Int)) < Int.toNat (a_1 + (1 : Int))))))))))))
        ((Q (SV.i64 (0 : Int))))))))) := by kernel_rfl
def cmpN (x y : Nat) : Int := if x < y then -1 else if y < x then 1 else 0
def sCmp : SpecF := fspec (α := List Int × List Int × Unit) (β := Int) (fun a => some (Can a.1 ∧ Can a.2.1)) (fun a => cmpN (nv a.1) (nv a.2.1))

def sBit : SpecF := fspec (α := List Int × Int × Unit) (β := Int) (fun a => some (Dg a.1 ∧ 0 ≤ a.2.1 ∧ a.2.1 ≤ 1073741824)) (fun a => ((nv a.1 / 2 ^ a.2.1.toNat % 2 : Nat) : Int))

def iBits (a : List Int) (n x : Int) : Prop := ∃ k : Nat, k ≤ 24 ∧ x = (((a.getD (a.length - 1) 0).toNat / 2 ^ k : Nat) : Int) ∧ n = 24 * ((a.length : Int) - 1) + k ∧ (0 < k → (a.getD (a.length - 1) 0).toNat / 2 ^ (k - 1) ≠ 0)
def lBits : Plan := { loops := [(0, { β := List Int × Unit, α := Int × Int × Unit, same := [0], keep := [3, 4], inv := fun b _ x => iBits b.1 x.1 x.2.1, meas := fun _ x => x.2.1.toNat })] }
theorem vcBits (a : List Int) (Q : SV → Prop) : LnRaw tt [] 3 [] lBits Tryd.f50 Q (a, ()) =
  bcase ((↑(List.length a) : Int) == (0 : Int))
    ((Q (SV.i64 (0 : Int))))
    (((((0 : Int) ≤ IntKind.wrap IntKind.i64 ((↑(List.length a) : Int) - (1 : Int))) ∧
     (IntKind.wrap IntKind.i64 ((↑(List.length a) : Int) - (1 : Int)) < (↑(List.length a) : Int))) ∧
    ((iBits a (IntKind.wrap IntKind.i64 ((24 : Int) * IntKind.wrap IntKind.i64 ((↑(List.length a) : Int) - (1 : Int))))
  (List.getD a (Int.toNat (IntKind.wrap IntKind.i64 ((↑(List.length a) : Int) - (1 : Int)))) (0 : Int))) ∧
    (∀ a_1 : Int,
    (∀ a_2 : Int,
    ((iBits a a_1 a_2) →
    bcase (decide (a_2 > (0 : Int)))
      ((((a, ()) = (a, ())) ∧
      ((iBits a (IntKind.wrap IntKind.i64 (a_1 + (1 : Int))) (IntKind.wrap IntKind.i64 (Int.tdiv a_2 (2 : Int)))) ∧
      (Int.toNat (IntKind.wrap IntKind.i64 (Int.tdiv a_2 (2 : Int))) < Int.toNat a_2))))
      ((Q (SV.i64 a_1))))))))) := by kernel_rfl
def bitsN (n : Nat) : Nat := if n = 0 then 0 else Nat.log2 n + 1
def sBits : SpecF := fspec (α := List Int × Unit) (β := Int) (fun a => some (Can a.1)) (fun a => bitsN (nv a.1))
end Go.Proofs.YtomoihkepkmgdaaDoor.R1
/- Plain facts that the reference's functions on digits need. -/
set_option maxRecDepth 10000
namespace Go.Proofs.YtomoihkepkmgdaaDoor.R1
open Go.Sym Go.Dig

theorem bcase_iff {b : Bool} {x y : Prop} : bcase b x y ↔ (b = true → x) ∧ (b = false → y) := by cases b <;> simp [bcase]
theorem bcase_dec {p : Prop} [Decidable p] {x y : Prop} : bcase (decide p) x y ↔ (p → x) ∧ (¬ p → y) := by rw [bcase_iff]; simp
theorem wr {x : Int} (h : -9223372036854775808 ≤ x ∧ x < 9223372036854775808) : IntKind.wrap .i64 x = x := wrap_i64_id h.1 h.2
theorem nv_dg (n : Nat) : nv (dg n) = n := by simp [nv, val_dg]
theorem nv_val {l : List Int} (h : Dig l) : (nv l : Int) = val l := by have := val_nonneg h; simp only [nv]; omega
theorem nv_nil : nv [] = 0 := rfl
theorem dg_nv {l : List Int} (h : Dig l) (hl : ∀ d, l.getLast? = some d → d ≠ 0) : dg (nv l) = l := dg_val_cons h hl
theorem dig_dg (n : Nat) : Dig (Dig.dg n) := Go.Dig.Dig.dg n
theorem Dg.dg {n : Nat} (h : (Dig.dg n).length ≤ 1073741824) : Dg (Dig.dg n) := ⟨dig_dg n, h⟩
theorem Can.dg {n : Nat} (h : (dg n).length ≤ 1073741824) : Can (dg n) := ⟨by rw [nv_dg], h⟩
theorem Can.dig {l : List Int} (h : Can l) : Dig l := by rw [h.1]; exact dig_dg _
theorem getD_dig {l : List Int} (h : Dig l) (i : Nat) : 0 ≤ l.getD i 0 ∧ l.getD i 0 < 16777216 := by
  rw [List.getD_eq_getElem?_getD]
  by_cases hi : i < l.length
  · rw [List.getElem?_eq_getElem hi]; exact h.get i hi
  · rw [List.getElem?_eq_none (by omega)]; simp
theorem getD_lt {l : List Int} {i : Nat} (hi : i < l.length) : l.getD i 0 = l[i] := by
  rw [List.getD_eq_getElem?_getD, List.getElem?_eq_getElem hi]; rfl
theorem getD_ge {l : List Int} {i : Nat} (hi : l.length ≤ i) : l.getD i 0 = 0 := by
  rw [List.getD_eq_getElem?_getD, List.getElem?_eq_none hi]; rfl
/-- One digit more, whether it is there or not. -/
theorem val_take_getD (l : List Int) (i : Nat) : val (l.take (i + 1)) = val (l.take i) + 16777216 ^ i * l.getD i 0 := by
  by_cases hi : i < l.length
  · rw [val_take_succ l i hi, getD_lt hi]
  · rw [List.take_of_length_le (by omega), List.take_of_length_le (by omega), getD_ge (by omega)]; omega
theorem take_cut (l : List Int) (n : Int) : List.drop (Int.toNat 0) (l.take n.toNat) = l.take n.toNat := by simp
theorem tdiv_nn {x : Int} (h : 0 ≤ x) (d : Int) : Int.tdiv x d = x / d := Int.tdiv_eq_ediv_of_nonneg h
theorem tmod_nn {x : Int} (h : 0 ≤ x) (d : Int) : Int.tmod x d = x % d := Int.tmod_eq_emod_of_nonneg h

theorem ok_Trim : SpecOK Tryd.prog 80 sTrim := by
  refine fn_okL (by kernel_rfl) tt_ok (SpecsOK.nil _) 3 Tryd.func80 (by decide +kernel) (by kernel_rfl) ?_
  rintro ⟨a, _⟩ ⟨hd, hl⟩
  simp only at hd hl
  refine ⟨[], lTrim, isNum (nv a), LnVD.of (vcTrim a _) ?_, fun x h at_ w v r => isNum_ok h r⟩
  have done : ∀ n : Int, iTrim a n → (n ≤ 0 ∨ a.getD (n - 1).toNat 0 ≠ 0) → isNum (nv a) (.lst (.ints (List.drop (Int.toNat 0) (List.take n.toNat a)))) := by
    intro n ⟨h0, h1, h2⟩ h3
    right; left
    rw [take_cut a n]
    have e : nv a = nv (a.take n.toNat) := by simp only [nv, h2]
    rw [e, dg_nv (hd.take _)]
    intro d hd'
    rcases h3 with h3 | h3
    · have : n.toNat = 0 := by omega
      rw [this] at hd'; simp at hd'
    · rw [List.getLast?_take] at hd'
      split at hd'
      · cases hd'
      · rename_i hn
        have hlt : n.toNat - 1 < a.length := by omega
        rw [List.getElem?_eq_getElem hlt] at hd'
        simp only [Option.some_or, Option.some.injEq] at hd'
        rw [getD_lt (by omega)] at h3
        have : (n - 1).toNat = n.toNat - 1 := by omega
        simp only [this] at h3
        rw [← hd']; exact h3
  refine ⟨⟨by omega, by omega, by simp⟩, fun n hI => ?_⟩
  have hI' := hI
  obtain ⟨h0, h1, h2⟩ := hI
  rw [bcase_dec]
  refine ⟨fun hn => ?_, fun hn => ⟨⟨by omega, by omega, by omega⟩, done n hI' (.inl (by omega))⟩⟩
  rw [wr (by omega)]
  refine ⟨⟨by omega, by omega⟩, ?_⟩
  rw [bcase_iff]
  refine ⟨fun hz => ⟨rfl, ⟨by omega, by omega, ?_⟩, by omega⟩, fun hz => ⟨⟨by omega, by omega, by omega⟩, done n hI' (.inr (by simpa using hz))⟩⟩
  have e : n.toNat = (n - 1).toNat + 1 := by omega
  rw [e, val_take_getD] at h2
  have hz : a.getD (n - 1).toNat 0 = 0 := by simpa using hz
  rw [hz] at h2
  omega

end Go.Proofs.YtomoihkepkmgdaaDoor.R1
/- Package broad: a block is taken. -/
set_option maxRecDepth 10000
namespace Go.Proofs.YtomoihkepkmgdaaDoor.H6
open Go.Sym Go.Dig R1
theorem svf {y : SV} (x : SV) (h : (fun x => x = y) x) (at_ : At) (w : World) (v : Value) (r : Rel at_ w x v) : Rel at_ w y v := by have h' : x = y := h; subst h'; exact r
theorem ok_Rotl : SpecOK Tryd.prog 83 sRotl := by
  refine fn_okL (by kernel_rfl) tt_ok (SpecsOK.nil _) 3 Tryd.func83 (by decide +kernel) (by kernel_rfl) ?_
  rintro ⟨x, k, _⟩ _
  exact ⟨_, {}, fun t => t = _, LnVD.of (vcRotl x k _) rfl, svf⟩
theorem spH0_ok : SpecsOK Tryd.prog spH0 := .cons ok_Rotl (.nil _)
theorem ok_Turn : SpecOK Tryd.prog 67 sTurn := by
  refine fn_okL (by kernel_rfl) tt_ok spH0_ok 3 Tryd.func67 (by decide +kernel) (by kernel_rfl) ?_
  rintro ⟨x, k, _⟩ _
  exact ⟨_, {}, fun t => t = _, LnVD.of (vcTurn x k _) rfl, svf⟩
theorem spH1_ok : SpecsOK Tryd.prog spH1 := .cons ok_Turn (.nil _)

theorem wB_len (b : List UInt8) : ∀ i, (wB b i).length = 80
  | 0 => by simp [wB]
  | i + 1 => by rw [wB, List.length_set, wB_len b i]
theorem wX_len (b : List UInt8) : ∀ i, (wX b i).length = 80
  | 0 => wB_len b 128
  | i + 1 => by rw [wX, List.length_set, wX_len b i]
theorem getD_cut (l : List UInt8) (lo i : Nat) (h : i < 128) : l.getD (lo + i) 0 = (cut l lo).getD i 0 := by
  simp only [cut, List.getD_eq_getElem?_getD, List.getElem?_take, List.getElem?_drop, if_pos h]
theorem quo4 {a : Int} (h : 0 ≤ a) (h' : a < 128) : IntKind.wrap .i64 (Int.tdiv a 8) = ((a.toNat / 8 : Nat) : Int) := by
  rw [tdiv_nn h, wr (by omega)]; omega
theorem stepB {l : List UInt8} {lo : Nat} {a : Int} {w : List UInt64} (h : iB (cut l lo) w a) (ha : a < 128) :
    iB (cut l lo) (List.set w (Int.toNat (IntKind.wrap IntKind.i64 (Int.tdiv a 8))) (shl64 (List.getD w (Int.toNat (IntKind.wrap IntKind.i64 (Int.tdiv a 8))) 0) (UInt64.toNat (UInt64.ofNat (Int.toNat 8))) ||| UInt8.toUInt64 (List.getD l (lo + Int.toNat a) 0))) (IntKind.wrap IntKind.i64 (a + 1)) := by
  obtain ⟨h0, h1, rfl⟩ := h
  rw [quo4 h0 ha, wr (by omega), Int.toNat_natCast, getD_cut l lo _ (by omega)]
  refine ⟨by omega, by omega, ?_⟩
  rw [show (a + 1).toNat = a.toNat + 1 by omega, wB]
  rfl
theorem stepX {b : List UInt8} {a : Int} {w : List UInt64} (h : iX b w a) (ha : a < 80) :
    iX b (List.set w (Int.toNat a) (List.getD w (Int.toNat (IntKind.wrap IntKind.i64 (a - 16))) 0 +
          (turnF (List.getD w (Int.toNat (IntKind.wrap IntKind.i64 (a - 15))) 0) 1 ^^^ turnF (List.getD w (Int.toNat (IntKind.wrap IntKind.i64 (a - 15))) 0) 8 ^^^ shr64 (List.getD w (Int.toNat (IntKind.wrap IntKind.i64 (a - 15))) 0) (UInt64.toNat (UInt64.ofNat (Int.toNat 7)))) +
        List.getD w (Int.toNat (IntKind.wrap IntKind.i64 (a - 7))) 0 +
      (turnF (List.getD w (Int.toNat (IntKind.wrap IntKind.i64 (a - 2))) 0) 19 ^^^ turnF (List.getD w (Int.toNat (IntKind.wrap IntKind.i64 (a - 2))) 0) 61 ^^^ shr64 (List.getD w (Int.toNat (IntKind.wrap IntKind.i64 (a - 2))) 0) (UInt64.toNat (UInt64.ofNat (Int.toNat 6)))))) (IntKind.wrap IntKind.i64 (a + 1)) := by
  obtain ⟨h0, h1, rfl⟩ := h
  rw [wr (by omega), wr (by omega), wr (by omega), wr (by omega), wr (by omega)]
  refine ⟨by omega, by omega, ?_⟩
  obtain ⟨n, rfl⟩ : ∃ n : Nat, a = ((n + 16 : Nat) : Int) := ⟨(a - 16).toNat, by omega⟩
  rw [show (((n + 16 : Nat) : Int) + 1).toNat - 16 = n + 1 by omega, wX]
  rw [show (((n + 16 : Nat) : Int)).toNat = n + 16 by omega, show (((n + 16 : Nat) : Int) - 16).toNat = n by omega, show (((n + 16 : Nat) : Int) - 15).toNat = n + 1 by omega, show (((n + 16 : Nat) : Int) - 7).toNat = n + 9 by omega, show (((n + 16 : Nat) : Int) - 2).toNat = n + 14 by omega, show n + 16 - 16 = n by omega]
  rfl
theorem stepR {w0 w : List UInt64} {v0 v : St8} {a : Int} (h : iR w0 v0 w v a) (ha : a < 80) : iR w0 v0 w (round v (glob1.getD a.toNat 0) (w.getD a.toNat 0)) (IntKind.wrap IntKind.i64 (a + 1)) := by
  obtain ⟨rfl, h0, h1, rfl⟩ := h
  rw [wr (by omega)]
  refine ⟨rfl, by omega, by omega, ?_⟩
  rw [show (a + 1).toNat = a.toNat + 1 by omega, rounds]
theorem rng {a : Int} (h : 0 ≤ a) (h' : a < 80) {k : Int} (hk : 0 ≤ k ∧ k ≤ a) : 0 ≤ IntKind.wrap .i64 (a - k) ∧ IntKind.wrap .i64 (a - k) < ((80 : Nat) : Int) := by rw [wr (by omega)]; omega
theorem lenB {b : List UInt8} {w : List UInt64} {a : Int} (h : iB b w a) : w.length = 80 := by rw [h.2.2, wB_len]
theorem lenX {b : List UInt8} {w : List UInt64} {a : Int} (h : iX b w a) : w.length = 80 := by rw [h.2.2, wX_len]
theorem mix_of (s : St8) (b : List UInt8) (w : List UInt64) (v : St8) (a : Int) (h : iR (wX b 64) s w v a) (ha : ¬ a < 80) : s.plus v = mixV s b := by
  obtain ⟨_, h0, h1, rfl⟩ := h
  rw [mixV_eq, show a.toNat = 80 by omega]
  rfl
def Left (c : List SV) (l : List UInt8) (r : SV) (M : List (Option Blk)) : Prop := r = retSV [] ∧ ∃ x y, M = [some c, some [.own (.bytes l)], x, y]
theorem vcs (s : St8) (l : List UInt8) (lo : Nat) : NnVD tt spH1 9 Tryd.f44 [.ptr 0 0, .sl 1 lo 128] [s.cells, [.own (.bytes l)]] (Left (mixV s (cut l lo)).cells l) := by
  refine NnVD.of (vcMixS s l lo _) ?_
  refine ⟨rfl, ⟨rfl, rfl, ⟨by decide, by decide, rfl⟩⟩, ?_⟩
  rintro v l1 lo1 len a w ⟨rfl, hO, hB⟩
  cases hO
  rw [bcase_dec]
  refine ⟨fun ha => ?_, fun ha => ?_⟩
  · replace ha : a < 128 := ha
    have h0 := hB.1
    have q := quo4 h0 ha
    refine ⟨⟨h0, ha⟩, ⟨by rw [q]; omega, by rw [q]; omega⟩, ⟨by rw [q]; omega, by rw [q]; omega⟩, ?_, rfl, ⟨rfl, rfl, stepB hB ha⟩, ?_⟩
    · rw [List.length_set, lenB hB]
    · rw [wr (by omega)]; omega
  · replace ha : ¬ a < 128 := ha
    have h1 := hB.2.1
    have hw : w = wB (cut l lo) 128 := by rw [hB.2.2, show a.toNat = 128 by omega]
    refine ⟨lenB hB, ⟨rfl, rfl, ⟨by decide, by decide, hw⟩⟩, ?_⟩
    rintro v1 l2 lo2 len2 w2 a2 ⟨rfl, hO, hX⟩
    cases hO
    rw [bcase_dec]
    refine ⟨fun ha2 => ?_, fun ha2 => ?_⟩
    · have h2 := hX.1
      refine ⟨rng (by omega) ha2 (by omega), rng (by omega) ha2 (by omega), rng (by omega) ha2 (by omega), rng (by omega) ha2 (by omega), ⟨by omega, ha2⟩, ?_, rfl, ⟨rfl, rfl, stepX hX ha2⟩, ?_⟩
      · rw [List.length_set, lenX hX]
      · rw [wr (by omega)]; omega
    · have h2 := hX.2.1
      refine ⟨lenX hX, ⟨rfl, rfl, ⟨by rw [hX.2.2, show a2.toNat - 16 = 64 by omega], by decide, by decide, rfl⟩⟩, ?_⟩
      rintro v2 l3 lo3 len3 w3 v3 a3 ⟨rfl, hO, hR⟩
      cases hO
      rw [bcase_dec]
      refine ⟨fun ha3 => ?_, fun ha3 => ?_⟩
      · have h3 := hR.2.1
        refine ⟨⟨h3, ha3⟩, ⟨h3, ha3⟩, by rw [hR.1, wX_len], rfl, ⟨rfl, rfl, stepR hR ha3⟩, ?_⟩
        rw [wr (by omega)]; omega
      · refine ⟨rfl, ?_⟩
        rw [← mix_of _ _ _ _ _ hR ha3]
        exact ⟨_, _, rfl⟩
theorem vch (h : HashV) (lo : Nat) : NnVD tt spH1 9 Tryd.f44 [.ptr 0 0, .sl 1 lo 128] [h.cells 1, [.own (.bytes h.l)]] (Left (({ h with s := mixV h.s (cut h.l lo) } : HashV).cells 1) h.l) := by
  refine NnVD.of (vcMixH h lo _) ?_
  refine ⟨rfl, ⟨rfl, rfl, rfl, ⟨by decide, by decide, rfl⟩⟩, ?_⟩
  rintro v lo1 len a w ⟨rfl, rfl, rfl, hB⟩
  rw [bcase_dec]
  refine ⟨fun ha => ?_, fun ha => ?_⟩
  · replace ha : a < 128 := ha
    have h0 := hB.1
    have q := quo4 h0 ha
    refine ⟨⟨h0, ha⟩, ⟨by rw [q]; omega, by rw [q]; omega⟩, ⟨by rw [q]; omega, by rw [q]; omega⟩, ?_, rfl, ⟨rfl, rfl, rfl, stepB hB ha⟩, ?_⟩
    · rw [List.length_set, lenB hB]
    · rw [wr (by omega)]; omega
  · replace ha : ¬ a < 128 := ha
    have h1 := hB.2.1
    have hw : w = wB (cut v.l lo1) 128 := by rw [hB.2.2, show a.toNat = 128 by omega]
    refine ⟨lenB hB, ⟨rfl, ⟨by decide, by decide, hw⟩⟩, ?_⟩
    rintro v1 w2 a2 ⟨rfl, hX⟩
    rw [bcase_dec]
    refine ⟨fun ha2 => ?_, fun ha2 => ?_⟩
    · have h2 := hX.1
      refine ⟨rng (by omega) ha2 (by omega), rng (by omega) ha2 (by omega), rng (by omega) ha2 (by omega), rng (by omega) ha2 (by omega), ⟨by omega, ha2⟩, ?_, rfl, ⟨rfl, stepX hX ha2⟩, ?_⟩
      · rw [List.length_set, lenX hX]
      · rw [wr (by omega)]; omega
    · have h2 := hX.2.1
      refine ⟨lenX hX, ⟨rfl, ⟨by rw [hX.2.2, show a2.toNat - 16 = 64 by omega], by decide, by decide, rfl⟩⟩, ?_⟩
      rintro v2 w3 v3 a3 ⟨rfl, hR⟩
      rw [bcase_dec]
      refine ⟨fun ha3 => ?_, fun ha3 => ?_⟩
      · have h3 := hR.2.1
        refine ⟨⟨h3, ha3⟩, ⟨h3, ha3⟩, by rw [hR.1, wX_len], rfl, ⟨rfl, stepR hR ha3⟩, ?_⟩
        rw [wr (by omega)]; omega
      · refine ⟨rfl, ?_⟩
        rw [← mix_of _ _ _ _ _ hR ha3]
        exact ⟨_, _, rfl⟩
/-- Names of two blocks. -/
theorem nm2 {look : Nat → Option Blk} {b k : Nat} {c0 c1 d0 d1 : Blk} (h0 : look b = some d0) (h1 : look k = some d1) (r0 : renNL [some b, some k] c0 = some d0) (r1 : renNL [some b, some k] c1 = some d1) :
    ∀ (i n : Nat), ([some b, some k] : Nm)[i]? = some (some n) → ∃ a cs : Blk, [c0, c1][i]? = some a ∧ look n = some cs ∧ renNL [some b, some k] a = some cs
  | 0, n, h => by simp only [List.getElem?_cons_zero, Option.some.injEq] at h; subst h; exact ⟨c0, d0, rfl, h0, r0⟩
  | 1, n, h => by simp only [List.getElem?_cons_succ, List.getElem?_cons_zero, Option.some.injEq] at h; subst h; exact ⟨c1, d1, rfl, h1, r1⟩
  | i + 2, n, h => by simp at h
theorem nn2 {b k : Nat} {M0 : List Blk} : ∀ (i : Nat), ([some b, some k] : Nm)[i]? = some none → ∃ l : LV, M0[i]? = some [.own l] ∧ l.len = 0
  | 0, h => by simp at h
  | 1, h => by simp at h
  | i + 2, h => by simp at h
noncomputable def mixOf (cs : List SV) (l : List UInt8) (lo k : Nat) : Option Blk :=
  match dSt8 cs with
  | some s => some (mixV s (cut l lo)).cells
  | none => match dHashC l cs with
    | some (h, k') => if k' = k then some (({ h with s := mixV h.s (cut l lo) } : HashV).cells k) else none
    | none => none
noncomputable def sMix : NSpecF := fun look _ svs =>
  match svs with
  | [.ptr b 0, .sl k lo len] => if len = 128 ∧ b ≠ k then (match look b, look k with
    | some cs, some [.own (.bytes l)] => (mixOf cs l lo k).map fun d => ⟨none, retSV [], [(b, d), (k, [.own (.bytes l)])]⟩
    | _, _ => none) else none
  | _ => none
theorem ok_Mix : NSpecOK Tryd.prog 44 sMix := by
  refine fn_okN (by kernel_rfl) tt_ok spH1_ok 9 (fn := Tryd.f44) Tryd.func44 (by decide +kernel) (by kernel_rfl) (fun look fresh svs out h hp => ?_)
  unfold sMix at h
  split at h
  · rename_i b k lo len
    split at h
    · rename_i hc
      obtain ⟨rfl, hbk⟩ := hc
      split at h
      · rename_i cs l hb hk
        obtain ⟨d, hd, e⟩ := Option.map_eq_some_iff.1 h
        subst e
        have nd : ([some b, some k].filterMap id : List Nat).Nodup := by simp [hbk]
        have rs : renNL [some b, some k] [.ptr 0 0, .sl 1 lo 128] = some [.ptr b 0, .sl k lo 128] := rfl
        unfold mixOf at hd
        split at hd
        · rename_i s hs
          obtain rfl := dSt8_ok hs
          simp only [Option.some.injEq] at hd
          subst hd
          refine ⟨[some b, some k], _, _, _, _, nd, rfl, nm2 hb hk rfl rfl, nn2, fun _ _ _ r => r, rs, vcs s l lo, ?_⟩
          rintro r M' ⟨rfl, x, y, rfl⟩
          exact ⟨9, 0, rfl⟩
        · split at hd
          · rename_i h' k' hh
            split at hd
            · rename_i hk'
              subst hk'
              obtain ⟨rfl, rfl⟩ := dHashC_ok hh
              simp only [Option.some.injEq] at hd
              subst hd
              refine ⟨[some b, some k'], _, _, _, _, nd, rfl, nm2 hb hk rfl rfl, nn2, fun _ _ _ r => r, rs, vch h' lo, ?_⟩
              rintro r M' ⟨rfl, x, y, rfl⟩
              exact ⟨9, 0, rfl⟩
            · cases hd
          · cases hd
      · cases h
    · cases h
  · cases h
end Go.Proofs.YtomoihkepkmgdaaDoor.H6
/- Package broad: bytes are written, the sum is told: what the bodies come to. -/
set_option maxRecDepth 10000
namespace Go.Proofs.YtomoihkepkmgdaaDoor.H6
open Go.Sym Go.Dig R1
noncomputable def spH2 : Specs := [(44, .memf sMix)]
/-- The state, so many blocks on. -/
noncomputable def absN (s : St8) (r : List UInt8) : Nat → St8
  | 0 => s
  | i + 1 => mixV (absN s r i) (cut r (128 * i))
/-- A loop's own hash; its list in the block k, behind blocks that are dead. -/
structure PHw where
  v : HashV
instance : LEnc PHw where
  kind := none
  enc nx a := (.ptr nx 0, [a.v.cells (nx + 2), [], [.own (.bytes a.v.l)]])
  dec nx s M := match s, M with
    | .ptr b 0, some cs :: some [] :: some [.own (.bytes l)] :: M' => if b = nx then (match dHashC l cs with | some (r, k) => if k = nx + 2 then some (none, ⟨r⟩, M') else none | none => none) else none
    | _, _ => none
  all P := ∀ v, P ⟨v⟩
  all_ok h a := h a.v
  ok := by
    intro nx s M p a M' h hp
    split at h
    · split at h
      · rename_i hb
        split at h
        · rename_i r k hd
          split at h
          · rename_i hk
            simp only [Option.some.injEq, Prod.mk.injEq] at h
            obtain ⟨_, rfl, rfl⟩ := h
            subst hb; subst hk
            obtain ⟨e1, e2⟩ := dHashC_ok hd
            subst e2
            exact ⟨by rw [e1]; rfl, fun r => r⟩
          · cases h
        · cases h
      · cases h
    · cases h
/-- The same; what is written is one's own, too. -/
structure PHv where
  v : HashV
  p : List UInt8
instance : LEnc PHv where
  kind := none
  enc nx a := (.ptr nx 0, [a.v.cells (nx + 3), [], [.own (.bytes a.p)], [.own (.bytes a.v.l)]])
  dec nx s M := match s, M with
    | .ptr b 0, some cs :: some [] :: some [.own (.bytes p)] :: some [.own (.bytes l)] :: M' => if b = nx then (match dHashC l cs with | some (r, k) => if k = nx + 3 then some (none, ⟨r, p⟩, M') else none | none => none) else none
    | _, _ => none
  all P := ∀ v p, P ⟨v, p⟩
  all_ok h a := h a.v a.p
  ok := by
    intro nx s M p a M' h hp
    split at h
    · split at h
      · rename_i hb
        split at h
        · rename_i r k hd
          split at h
          · rename_i hk
            simp only [Option.some.injEq, Prod.mk.injEq] at h
            obtain ⟨_, rfl, rfl⟩ := h
            subst hb; subst hk
            obtain ⟨e1, e2⟩ := dHashC_ok hd
            subst e2
            exact ⟨by rw [e1]; rfl, fun r => r⟩
          · cases h
        · cases h
      · cases h
    · cases h
/-- Blocks are taken off. -/
def iW (s : St8) (r : List UInt8) (n : UInt64) (v : HashV) : Prop := ∃ i, v.l = r ∧ v.lo = 128 * i ∧ v.lo + v.len = r.length ∧ v.s = absN s r i ∧ v.n = n
--STOP iW, absN, mixV
def rOf (h : HashV) (p : List UInt8) : List UInt8 := (h.l.drop h.lo) ++ p
def nOf (h : HashV) (p : List UInt8) : UInt64 := h.n + UInt64.ofInt (p.length : Int)
--STOP rOf, nOf
def lWrA (h : HashV) (p : List UInt8) : Plan := { loops := [(0, { β := Unit, α := PHw × Unit, same := [], keep := [0], inv := fun _ _ x => iW h.s (rOf h p) (nOf h p) x.1.v, meas := fun _ x => x.1.v.len })] }
theorem vcWrA (h : HashV) (p : List UInt8) (Q : SV → List (Option Blk) → Prop) : NnRaw tt spH2 9 [] (lWrA h p) Tryd.f19 [.ptr 0 0, .lst (.bytes p)] [h.cells 1, [.own (.bytes h.l)]] Q =
  (((HashV.lo h + HashV.len h = List.length (HashV.l h)) ∧
   (List.length (List.drop (HashV.lo h) (List.take (List.length (HashV.l h)) (HashV.l h)) ++ p) ≤ appLim)) ∧
  ((iW (HashV.s h) (rOf h p) (nOf h p)
  (HashV.mk (HashV.s h) (List.drop (HashV.lo h) (List.take (List.length (HashV.l h)) (HashV.l h)) ++ p) (0 : Nat)
    (List.length (List.drop (HashV.lo h) (List.take (List.length (HashV.l h)) (HashV.l h)) ++ p))
    (HashV.n h + UInt64.ofInt (↑(List.length p) : Int)))) ∧
  (∀ v : HashV,
  ((iW (HashV.s h) (rOf h p) (nOf h p) v) →
  bcase (decide ((↑(HashV.len v) : Int) ≥ (128 : Int)))
    (((((0 : Int) ≤ (0 : Int)) ∧
     (((0 : Int) ≤ (128 : Int)) ∧
     ((128 : Int) ≤ (↑(HashV.len v) : Int)))) ∧
    ((((0 : Int) ≤ (128 : Int)) ∧
     (((128 : Int) ≤ (↑(HashV.len v) : Int)) ∧
     ((↑(HashV.len v) : Int) ≤ (↑(HashV.len v) : Int)))) ∧
    ((() = ()) ∧
    ((iW (HashV.s h) (rOf h p) (nOf h p)
  (HashV.mk (mixV (HashV.s v) (cut (HashV.l v) (HashV.lo v + Int.toNat (0 : Int)))) (HashV.l v)
    (HashV.lo v + Int.toNat (128 : Int)) (Int.toNat (↑(HashV.len v) : Int) - Int.toNat (128 : Int)) (HashV.n v))) ∧
    (Int.toNat (↑(HashV.len v) : Int) - Int.toNat (128 : Int) < HashV.len v))))))
    ((Q (retSV [])
  (applyWs
    (applyWs
      (applyWs
        (applyWs
          (applyWs
            (applyWs
              [some
                  [SV.u64 (St8.a (HashV.s v)), SV.u64 (St8.b (HashV.s v)), SV.u64 (St8.c (HashV.s v)),
                    SV.u64 (St8.d (HashV.s v)), SV.u64 (St8.e (HashV.s v)), SV.u64 (St8.f (HashV.s v)),
                    SV.u64 (St8.g (HashV.s v)), SV.u64 (St8.h (HashV.s v)),
                    SV.sl ((0 : Nat) + (2 : Nat)) (HashV.lo v) (HashV.len v), SV.u64 (HashV.n v), SV.bool true],
                some [], some [SV.own (LV.bytes (HashV.l v))]]
              [])
            [])
          [])
        [])
      [])
    []))))))) := by kernel_rfl
def lWrB (h : HashV) (q : List UInt8) (lo len : Nat) : Plan := { loops := [(0, { β := Unit, α := PHv × Unit, same := [], keep := [0], inv := fun _ _ x => x.1.p = q ∧ iW h.s (rOf h ((q.drop lo).take len)) (nOf h ((q.drop lo).take len)) x.1.v, meas := fun _ x => x.1.v.len })] }
theorem vcWrB (h : HashV) (q : List UInt8) (lo len : Nat) (Q : SV → List (Option Blk) → Prop) : NnRaw tt spH2 9 [] (lWrB h q lo len) Tryd.f19 [.ptr 0 0, .sl 2 lo len] [h.cells 1, [.own (.bytes h.l)], [.own (.bytes q)]] Q =
  (((HashV.lo h + HashV.len h = List.length (HashV.l h)) ∧
   (List.length
    (List.drop (HashV.lo h) (List.take (List.length (HashV.l h)) (HashV.l h)) ++
      List.drop lo (List.take (lo + len) q)) ≤
  appLim)) ∧
  (((q = q) ∧
   (iW (HashV.s h) (rOf h (List.take len (List.drop lo q))) (nOf h (List.take len (List.drop lo q)))
  (HashV.mk (HashV.s h)
    (List.drop (HashV.lo h) (List.take (List.length (HashV.l h)) (HashV.l h)) ++ List.drop lo (List.take (lo + len) q))
    (0 : Nat)
    (List.length
      (List.drop (HashV.lo h) (List.take (List.length (HashV.l h)) (HashV.l h)) ++
        List.drop lo (List.take (lo + len) q)))
    (HashV.n h + UInt64.ofInt (↑len : Int))))) ∧
  (∀ v : HashV,
  (∀ p : List UInt8,
  (((p = q) ∧
  (iW (HashV.s h) (rOf h (List.take len (List.drop lo q))) (nOf h (List.take len (List.drop lo q))) v)) →
  bcase (decide ((↑(HashV.len v) : Int) ≥ (128 : Int)))
    (((((0 : Int) ≤ (0 : Int)) ∧
     (((0 : Int) ≤ (128 : Int)) ∧
     ((128 : Int) ≤ (↑(HashV.len v) : Int)))) ∧
    ((((0 : Int) ≤ (128 : Int)) ∧
     (((128 : Int) ≤ (↑(HashV.len v) : Int)) ∧
     ((↑(HashV.len v) : Int) ≤ (↑(HashV.len v) : Int)))) ∧
    ((() = ()) ∧
    (((p = q) ∧
     (iW (HashV.s h) (rOf h (List.take len (List.drop lo q))) (nOf h (List.take len (List.drop lo q)))
  (HashV.mk (mixV (HashV.s v) (cut (HashV.l v) (HashV.lo v + Int.toNat (0 : Int)))) (HashV.l v)
    (HashV.lo v + Int.toNat (128 : Int)) (Int.toNat (↑(HashV.len v) : Int) - Int.toNat (128 : Int)) (HashV.n v)))) ∧
    (Int.toNat (↑(HashV.len v) : Int) - Int.toNat (128 : Int) < HashV.len v))))))
    ((Q (retSV [])
  (applyWs
    (applyWs
      (applyWs
        (applyWs
          (applyWs
            (applyWs
              [some
                  [SV.u64 (St8.a (HashV.s v)), SV.u64 (St8.b (HashV.s v)), SV.u64 (St8.c (HashV.s v)),
                    SV.u64 (St8.d (HashV.s v)), SV.u64 (St8.e (HashV.s v)), SV.u64 (St8.f (HashV.s v)),
                    SV.u64 (St8.g (HashV.s v)), SV.u64 (St8.h (HashV.s v)),
                    SV.sl ((0 : Nat) + (3 : Nat)) (HashV.lo v) (HashV.len v), SV.u64 (HashV.n v), SV.bool true],
                some [], some [SV.own (LV.bytes p)], some [SV.own (LV.bytes (HashV.l v))]]
              [])
            [])
          [])
        [])
      [])
    [])))))))) := by kernel_rfl

end Go.Proofs.YtomoihkepkmgdaaDoor.H6
/- Package broad: bytes are written. -/
set_option maxRecDepth 10000
namespace Go.Proofs.YtomoihkepkmgdaaDoor.H6
open Go.Sym Go.Dig R1
theorem spH2_ok : SpecsOK Tryd.prog spH2 := .consN ok_Mix (.nil _)
noncomputable def absT (s : St8) (r : List UInt8) : St8 := absN s r (r.length / 128)
def absR (r : List UInt8) : List UInt8 := r.drop (128 * (r.length / 128))
theorem iW_start (h : HashV) (q : List UInt8) (l : List UInt8) (len : Nat) (n : UInt64) (hl : l = rOf h q) (hlen : len = l.length) (hn : n = nOf h q) : iW h.s (rOf h q) (nOf h q) ⟨h.s, l, 0, len, n⟩ := by
  subst hl hlen hn
  exact ⟨0, rfl, rfl, by simp, rfl, rfl⟩
theorem iW_step {s : St8} {r : List UInt8} {n : UInt64} {v : HashV} (h : iW s r n v) (hv : 128 ≤ v.len) : iW s r n (HashV.mk (mixV v.s (cut v.l (v.lo + Int.toNat 0))) v.l (v.lo + Int.toNat 128) (Int.toNat (v.len : Int) - Int.toNat 128) v.n) := by
  obtain ⟨i, h1, h2, h3, h4, h5⟩ := h
  refine ⟨i + 1, h1, ?_, ?_, ?_, h5⟩
  · simp only; omega
  · simp only; omega
  · simp only [absN]
    rw [← h4, h1, h2]; rfl
def LeftW (h : HashV) (q : List UInt8) (ms : List (Option Blk)) (r : SV) (M : List (Option Blk)) : Prop :=
  r = retSV [] ∧ ∃ v, iW h.s (rOf h q) (nOf h q) v ∧ v.len < 128 ∧ M = some (v.cells (2 + ms.length)) :: some [] :: ms ++ [some [.own (.bytes v.l)]]
theorem wrA (h : HashV) (q : List UInt8) (h1 : h.lo + h.len = h.l.length) (h2 : (rOf h q).length ≤ appLim) : NnVD tt spH2 9 Tryd.f19 [.ptr 0 0, .lst (.bytes q)] [h.cells 1, [.own (.bytes h.l)]] (LeftW h q []) := by
  have e : List.drop h.lo (List.take (List.length h.l) h.l) ++ q = rOf h q := by rw [List.take_length]; rfl
  refine NnVD.of (vcWrA h q _) ⟨⟨h1, by rw [e]; exact h2⟩, iW_start h q _ _ _ e rfl rfl, fun v hv => ?_⟩
  rw [bcase_dec]
  refine ⟨fun hc => ?_, fun hc => ⟨rfl, v, hv, by omega, rfl⟩⟩
  refine ⟨⟨by omega, by omega, by omega⟩, ⟨by omega, by omega, by omega⟩, rfl, iW_step hv (by omega), by omega⟩
theorem wrB (h : HashV) (q : List UInt8) (lo len : Nat) (h1 : h.lo + h.len = h.l.length) (h2 : (rOf h ((q.drop lo).take len)).length ≤ appLim) (h3 : lo + len ≤ q.length) : NnVD tt spH2 9 Tryd.f19 [.ptr 0 0, .sl 2 lo len] [h.cells 1, [.own (.bytes h.l)], [.own (.bytes q)]] (LeftW h ((q.drop lo).take len) [some [.own (.bytes q)]]) := by
  have e : List.drop h.lo (List.take (List.length h.l) h.l) ++ List.drop lo (List.take (lo + len) q) = rOf h ((q.drop lo).take len) := by rw [List.take_length, List.drop_take, Nat.add_sub_cancel_left]; rfl
  have el : ((q.drop lo).take len).length = len := by simp; omega
  refine NnVD.of (vcWrB h q lo len _) ⟨⟨h1, by rw [e]; exact h2⟩, ⟨rfl, iW_start h _ _ _ _ e rfl (by unfold nOf; rw [el])⟩, ?_⟩
  rintro v p ⟨rfl, hv⟩
  rw [bcase_dec]
  refine ⟨fun hc => ?_, fun hc => ⟨rfl, v, hv, by omega, rfl⟩⟩
  refine ⟨⟨by omega, by omega, by omega⟩, ⟨by omega, by omega, by omega⟩, rfl, ⟨rfl, iW_step hv (by omega)⟩, by omega⟩

/-! What a caller is told. -/
def dW : List SV → Option (St8 × SV × UInt64)
  | [.u64 a, .u64 b, .u64 c, .u64 d, .u64 e, .u64 f, .u64 g, .u64 h, r, .u64 n, .bool true] => some (⟨a, b, c, d, e, f, g, h⟩, r, n)
  | _ => none
def restOf (look : Nat → Option Blk) : SV → Option (List UInt8 × Nat × Nat × Option Nat)
  | .sl k lo len => match look k with
    | some [.own (.bytes l)] => some (l, lo, len, some k)
    | _ => none
  | .val (.slice none 0 0) => some ([], 0, 0, none)
  | _ => none
def hashIn (look : Nat → Option Blk) (b : Nat) : Option (HashV × Option Nat) :=
  match look b with
  | some cs => match dW cs with
    | some (s, r, n) => match restOf look r with
      | some (l, lo, len, k) => some (⟨s, l, lo, len, n⟩, k)
      | none => none
    | none => none
  | none => none
def cellsW (s : St8) (n : UInt64) (r : SV) : List SV := [.u64 s.a, .u64 s.b, .u64 s.c, .u64 s.d, .u64 s.e, .u64 s.f, .u64 s.g, .u64 s.h, r, .u64 n, .bool true]
theorem dW_ok {cs : List SV} {x : St8 × SV × UInt64} (h : dW cs = some x) : cs = cellsW x.1 x.2.2 x.2.1 := by
  unfold dW at h
  split at h
  · simp only [Option.some.injEq] at h; subst h; rfl
  · cases h
theorem hashIn_ok {look : Nat → Option Blk} {b : Nat} {h : HashV} {k : Option Nat} (e : hashIn look b = some (h, k)) :
    (∃ k', k = some k' ∧ look b = some (h.cells k') ∧ look k' = some [.own (.bytes h.l)]) ∨ (k = none ∧ look b = some (cellsW h.s h.n (.val (.slice none 0 0))) ∧ h.l = [] ∧ h.lo = 0 ∧ h.len = 0) := by
  unfold hashIn at e
  split at e
  · rename_i cs hb
    split at e
    · rename_i s r n hd
      split at e
      · rename_i l lo len k' hr
        simp only [Option.some.injEq, Prod.mk.injEq] at e
        obtain ⟨rfl, rfl⟩ := e
        have e1 := dW_ok hd
        unfold restOf at hr
        split at hr
        · split at hr
          · rename_i hk
            simp only [Option.some.injEq, Prod.mk.injEq] at hr
            obtain ⟨rfl, rfl, rfl, rfl⟩ := hr
            exact .inl ⟨_, rfl, by rw [hb, e1]; rfl, hk⟩
          · cases hr
        · simp only [Option.some.injEq, Prod.mk.injEq] at hr
          obtain ⟨rfl, rfl, rfl, rfl⟩ := hr
          exact .inr ⟨rfl, by rw [hb, e1], rfl, rfl, rfl⟩
        · cases hr
      · cases e
    · cases e
  · cases e
noncomputable def outW (h : HashV) (q : List UInt8) (k : Prop) (b fresh : Nat) (ws : List (Nat × Blk)) : Out :=
  ⟨some (h.lo + h.len = h.l.length ∧ (rOf h q).length ≤ appLim ∧ k), retSV [], (b, cellsW (absT h.s (rOf h q)) (nOf h q) (.sl fresh 0 (absR (rOf h q)).length)) :: ws ++ [(fresh, [.own (.bytes (absR (rOf h q)))])]⟩
def kW : Option Nat → List (Nat × Blk)
  | some k => [(k, [])]
  | none => []
def neO (b : Nat) : Option Nat → Bool
  | some k => b != k
  | none => true
noncomputable def sWrite : NSpecF := fun look fresh svs =>
  match svs with
  | [.ptr b 0, p] => match hashIn look b with
    | some (h, k) => match p with
      | .lst (.bytes q) => if neO b k = true then some (outW h q True b fresh (kW k)) else none
      | .val (.slice none 0 _) => if neO b k = true then some (outW h [] True b fresh (kW k)) else none
      | .sl kp lo len => match look kp with
        | some [.own (.bytes q)] => if neO b k = true ∧ neO kp k = true ∧ b ≠ kp then some (outW h ((q.drop lo).take len) (lo + len ≤ q.length) b fresh (kW k ++ [(kp, [.own (.bytes q)])])) else none
        | _ => none
      | _ => none
    | none => none
  | _ => none
theorem left_out {h : HashV} {q : List UInt8} {v : HashV} (hi : iW h.s (rOf h q) (nOf h q) v) (hv : v.len < 128) : v.lo ≤ v.l.length ∧ v.len = (absR (rOf h q)).length ∧ (v.l.take v.l.length).drop v.lo = absR (rOf h q) ∧ v.s = absT h.s (rOf h q) ∧ v.n = nOf h q := by
  obtain ⟨i, h1, h2, h3, h4, h5⟩ := hi
  have hi : (rOf h q).length / 128 = i := by omega
  have e : absR (rOf h q) = (rOf h q).drop (128 * i) := by rw [absR, hi]
  refine ⟨by rw [h1]; omega, ?_, ?_, ?_, h5⟩
  · rw [e, List.length_drop]; omega
  · rw [e, h1, h2, List.take_length]
  · rw [h4, absT, hi]
theorem backA {h : HashV} {q : List UInt8} {b fresh : Nat} {k : Option Nat} {r : SV} {M : List (Option Blk)} (hl : LeftW h q [] r M) :
    ∃ jf lo0, backAll [some b, k] fresh jf lo0 M r = some (retSV [], (b, cellsW (absT h.s (rOf h q)) (nOf h q) (.sl fresh 0 (absR (rOf h q)).length)) :: kW k ++ [(fresh, [.own (.bytes (absR (rOf h q)))])]) := by
  obtain ⟨rfl, v, hi, hv, rfl⟩ := hl
  obtain ⟨a1, a2, a3, a4, a5⟩ := left_out hi hv
  refine ⟨2, v.lo, ?_⟩
  rw [← a3, ← a4, ← a5]
  have a6 : ((v.l.take v.l.length).drop v.lo).length = v.len := by rw [a3, ← a2]
  rw [a6]
  cases k <;> simp [backAll, back1, backM, backL, newL, HashV.cells, cellsW, retSV, kW, nmOf, SV.noName, noNameL, LV.cut, LV.len, a1]
theorem backB {h : HashV} {q p : List UInt8} {b kp fresh : Nat} {k : Option Nat} {r : SV} {M : List (Option Blk)} (hl : LeftW h q [some [.own (.bytes p)]] r M) :
    ∃ jf lo0, backAll [some b, k, some kp] fresh jf lo0 M r = some (retSV [], (b, cellsW (absT h.s (rOf h q)) (nOf h q) (.sl fresh 0 (absR (rOf h q)).length)) :: (kW k ++ [(kp, [.own (.bytes p)])]) ++ [(fresh, [.own (.bytes (absR (rOf h q)))])]) := by
  obtain ⟨rfl, v, hi, hv, rfl⟩ := hl
  obtain ⟨a1, a2, a3, a4, a5⟩ := left_out hi hv
  refine ⟨3, v.lo, ?_⟩
  rw [← a3, ← a4, ← a5]
  have a6 : ((v.l.take v.l.length).drop v.lo).length = v.len := by rw [a3, ← a2]
  rw [a6]
  cases k <;> simp [backAll, back1, backM, backL, newL, HashV.cells, cellsW, retSV, kW, nmOf, SV.noName, noNameL, LV.cut, LV.len, a1]
theorem nmC {look : Nat → Option Blk} {bs cs : Nm} {ds : List Blk} {o : Option Nat} {a : Blk} (h0 : ∀ n, o = some n → ∃ d, look n = some d ∧ renNL bs a = some d) (h : ∀ (i n : Nat), cs[i]? = some (some n) → ∃ a d : Blk, ds[i]? = some a ∧ look n = some d ∧ renNL bs a = some d) :
    ∀ (i n : Nat), (o :: cs)[i]? = some (some n) → ∃ a' d : Blk, (a :: ds)[i]? = some a' ∧ look n = some d ∧ renNL bs a' = some d
  | 0, n, e => by
    simp only [List.getElem?_cons_zero, Option.some.injEq] at e
    obtain ⟨d, h1, h2⟩ := h0 n e
    exact ⟨a, d, rfl, h1, h2⟩
  | i + 1, n, e => by
    rw [List.getElem?_cons_succ] at e ⊢
    exact h i n e
theorem nmN {look : Nat → Option Blk} {bs : Nm} {ds : List Blk} : ∀ (i n : Nat), ([] : Nm)[i]? = some (some n) → ∃ a d : Blk, ds[i]? = some a ∧ look n = some d ∧ renNL bs a = some d := fun i n e => by simp at e
theorem nnC {cs : Nm} {ds : List Blk} {o : Option Nat} {a : Blk} (h0 : o = none → ∃ l : LV, a = [.own l] ∧ l.len = 0) (h : ∀ i : Nat, cs[i]? = some none → ∃ l : LV, ds[i]? = some [.own l] ∧ l.len = 0) : ∀ i : Nat, (o :: cs)[i]? = some none → ∃ l : LV, (a :: ds)[i]? = some [.own l] ∧ l.len = 0
  | 0, e => by
    simp only [List.getElem?_cons_zero, Option.some.injEq] at e
    obtain ⟨l, h1, h2⟩ := h0 e
    exact ⟨l, by rw [h1]; rfl, h2⟩
  | i + 1, e => by
    rw [List.getElem?_cons_succ] at e ⊢
    exact h i e
theorem nnN {ds : List Blk} : ∀ i : Nat, ([] : Nm)[i]? = some none → ∃ l : LV, ds[i]? = some [.own l] ∧ l.len = 0 := fun i e => by simp at e
/-- The hash's two blocks. -/
theorem nmH {look : Nat → Option Blk} {b : Nat} {k : Option Nat} {h : HashV} {cs : Nm} (e : hashIn look b = some (h, k)) :
    (∃ d, look b = some d ∧ renNL (some b :: k :: cs) (h.cells 1) = some d) ∧ (∀ n, k = some n → ∃ d, look n = some d ∧ renNL (some b :: k :: cs) [.own (.bytes h.l)] = some d) ∧ (k = none → ∃ l : LV, ([.own (.bytes h.l)] : Blk) = [.own l] ∧ l.len = 0) := by
  rcases hashIn_ok e with ⟨k', rfl, h1, h2⟩ | ⟨rfl, h1, h2, h3, h4⟩
  · exact ⟨⟨_, h1, rfl⟩, fun n hn => by cases hn; exact ⟨_, h2, rfl⟩, fun hn => by cases hn⟩
  · refine ⟨⟨_, h1, ?_⟩, (fun n hn => by cases hn), fun _ => ⟨_, rfl, by rw [h2]; rfl⟩⟩
    simp [HashV.cells, cellsW, renNL, renN, h3, h4, SV.noName]
theorem ok_Write : NSpecOK Tryd.prog 19 sWrite := by
  refine fn_okN (by kernel_rfl) tt_ok spH2_ok 9 (fn := Tryd.f19) Tryd.func19 (by decide +kernel) (by kernel_rfl) (fun look fresh svs out h hp => ?_)
  unfold sWrite at h
  split at h
  · rename_i b p
    split at h
    · rename_i hh k hin
      have caseA : ∀ (q : List UInt8), (∀ (at_ : At) w vs, RelL at_ w [.ptr b 0, p] vs → RelL at_ w [.ptr b 0, .lst (.bytes q)] vs) → neO b k = true → some (outW hh q True b fresh (kW k)) = some out → ∃ (bs : Nm) (M0 : List Blk) (svs0 svs1 : List SV) (Q : SV → List (Option Blk) → Prop),
          (bs.filterMap id).Nodup ∧ bs.length = M0.length ∧ (∀ (i b : Nat), bs[i]? = some (some b) → ∃ c0 cs : Blk, M0[i]? = some c0 ∧ look b = some cs ∧ renNL bs c0 = some cs) ∧
          (∀ (i : Nat), bs[i]? = some none → ∃ l : LV, M0[i]? = some [.own l] ∧ l.len = 0) ∧
          (∀ (at_ : At) w vs, RelL at_ w [.ptr b 0, p] vs → RelL at_ w svs1 vs) ∧ renNL bs svs0 = some svs1 ∧ NnVD tt spH2 9 Tryd.f19 svs0 M0 Q ∧
          (∀ r M', Q r M' → ∃ jf lo0, backAll bs fresh jf lo0 M' r = some (out.sv, out.ws)) := by
        intro q hrel hn e
        obtain rfl := Option.some.inj e
        obtain ⟨p1, p2, _⟩ := hp
        obtain ⟨n0, n1, n2⟩ := nmH (cs := []) hin
        refine ⟨[some b, k], [hh.cells 1, [.own (.bytes hh.l)]], [.ptr 0 0, .lst (.bytes q)], _, _, ?_, rfl, nmC (fun n e => by cases e; exact n0) (nmC n1 nmN), nnC (fun e => by cases e) (nnC n2 nnN), hrel, rfl, wrA hh q p1 p2, fun r M' hl => backA hl⟩
        cases k with
        | none => simp
        | some k => have := bne_iff_ne.1 hn; simp [this]
      split at h
      · rename_i q
        split at h
        · rename_i hn
          exact caseA q (fun _ _ _ r => r) hn h
        · cases h
      · rename_i c
        split at h
        · rename_i hn
          refine caseA [] (fun at_ w vs r => ?_) hn h
          simp only [RelL] at r ⊢
          obtain ⟨v, us, rfl, r1, v', us', rfl, r2, r3⟩ := r
          exact ⟨v, _, rfl, r1, v', us', rfl, nil_lst rfl ⟨_, rfl⟩ r2, r3⟩
        · cases h
      · rename_i kp lo len
        split at h
        · rename_i q hq
          split at h
          · rename_i hn
            obtain ⟨hn1, hn2, hn3⟩ := hn
            obtain rfl := Option.some.inj h
            obtain ⟨p1, p2, p3⟩ := hp
            obtain ⟨n0, n1, n2⟩ := nmH (cs := [some kp]) hin
            refine ⟨[some b, k, some kp], [hh.cells 1, [.own (.bytes hh.l)], [.own (.bytes q)]], [.ptr 0 0, .sl 2 lo len], _, _, ?_, rfl, nmC (fun n e => by cases e; exact n0) (nmC n1 (nmC (fun n e => by cases e; exact ⟨_, hq, rfl⟩) nmN)), nnC (fun e => by cases e) (nnC n2 (nnC (fun e => by cases e) nnN)), fun _ _ _ r => r, rfl, wrB hh q lo len p1 p2 p3, fun r M' hl => backB hl⟩
            cases k with
            | none => simp [hn3]
            | some k => have h1 := bne_iff_ne.1 hn1; have h2 := bne_iff_ne.1 hn2; simp [h1, hn3, Ne.symm h2]
          · cases h
        · cases h
      · cases h
    · cases h
  · cases h
end Go.Proofs.YtomoihkepkmgdaaDoor.H6
/- Package broad: the sum is told: what its body comes to. -/
set_option maxRecDepth 10000
namespace Go.Proofs.YtomoihkepkmgdaaDoor.H6
open Go.Sym Go.Dig R1
--STOP absN, mixV
/-! The sum. -/
structure RoH where
  s : St8
  l : List UInt8
  n : UInt64
def RoH.sv (a : RoH) : SV := .ro [.u64 a.s.a, .u64 a.s.b, .u64 a.s.c, .u64 a.s.d, .u64 a.s.e, .u64 a.s.f, .u64 a.s.g, .u64 a.s.h, .lst (.bytes a.l), .u64 a.n, .bool true] 0
def dRoH : SV → Option RoH
  | .ro [.u64 a, .u64 b, .u64 c, .u64 d, .u64 e, .u64 f, .u64 g, .u64 h, .lst (.bytes l), .u64 n, .bool true] 0 => some ⟨⟨a, b, c, d, e, f, g, h⟩, l, n⟩
  | _ => none
theorem dRoH_ok {s : SV} {r : RoH} (h : dRoH s = some r) : s = r.sv := by
  unfold dRoH at h
  split at h
  · simp only [Option.some.injEq] at h; subst h; rfl
  · cases h
instance : Enc RoH where
  enc := RoH.sv
  dec := dRoH
  ok := by
    intro s a h at_ w v r
    rw [dRoH_ok h] at r; exact r
  nn _ := rfl
/-- So many bytes of a number, from above. -/
def be8 (x : UInt64) : Nat → List UInt8
  | 0 => []
  | j + 1 => be8 x j ++ [(shr64 x (56 - 8 * j)).toUInt8]
def St8.l (s : St8) : List UInt64 := [s.a, s.b, s.c, s.d, s.e, s.f, s.g, s.h]
def outN (s : St8) : Nat → List UInt8
  | 0 => []
  | i + 1 => outN s i ++ be8 (s.l.getD i 0) 8
def zn (n : Nat) : Nat := (239 - n % 128) % 128
def padZ (r : List UInt8) (k : Nat) : List UInt8 := r ++ [128] ++ List.replicate k 0
def padded (r : List UInt8) (n : UInt64) : List UInt8 := padZ r (zn r.length) ++ [0, 0, 0, 0, 0, 0, 0, 0] ++ be8 (n * 8) 8
noncomputable def sum0 (s : St8) (r : List UInt8) (n : UInt64) : List UInt8 := outN (absN s (padded r n) ((padded r n).length / 128)) 8
def iZ (r t : List UInt8) : Prop := ∃ k, k ≤ zn r.length ∧ t = padZ r k
def iE (r : List UInt8) (x : UInt64) (t : List UInt8) (i : Int) : Prop := ∃ j : Nat, j ≤ 8 ∧ i = 56 - 8 * (j : Int) ∧ t = padZ r (zn r.length) ++ [0, 0, 0, 0, 0, 0, 0, 0] ++ be8 x j
def iM (s0 : St8) (m : List UInt8) (s : St8) (t : List UInt8) (lo : Nat) : Prop := t = m ∧ ∃ i, lo = 128 * i ∧ lo ≤ m.length ∧ s = absN s0 m i
def iO (v : St8) (out : List UInt8) (i : Int) : Prop := 0 ≤ i ∧ i ≤ 8 ∧ out = outN v i.toNat
--STOP iZ, iE, iM, iO, padded, outN, be8
def lSum (h : RoH) : Plan := { loops := [
  (0, { β := RoH × Unit, α := PSt × OwnB × Unit, same := [0], keep := [3, 4], inv := fun _ _ x => x.1.v = h.s ∧ iZ h.l x.2.1.l, meas := fun _ x => zn h.l.length + h.l.length + 1 - x.2.1.l.length }),
  (2, { β := RoH × Unit, α := PSt × OwnB × Int × Unit, same := [0], keep := [3, 4, 5], inv := fun _ _ x => x.1.v = h.s ∧ iE h.l (h.n * 8) x.2.1.l x.2.2.1, meas := fun _ x => (8 + x.2.2.1).toNat }),
  (4, { β := Unit, α := PSt × OwnBo × Unit, same := [], keep := [3, 4], inv := fun _ _ x => iM h.s (padded h.l h.n) x.1.v x.2.1.l x.2.1.lo, meas := fun _ x => x.2.1.l.length - x.2.1.lo })
  ] }
theorem vcSum (h : RoH) (Q : SV → Prop) : LfRaw tt spH2 9 [] (lSum h) Tryd.f20 Q (h, ()) =
  ((((0 : Nat) + (0 : Nat) = (0 : Nat)) ∧
   (List.length ([] ++ RoH.l h) ≤ appLim)) ∧
  ((((0 : Nat) + List.length ([] ++ RoH.l h) = List.length ([] ++ RoH.l h)) ∧
   (List.length
    (List.drop (0 : Nat) (List.take (List.length ([] ++ RoH.l h)) ([] ++ RoH.l h)) ++
      [UInt8.ofNat (Int.toNat (128 : Int))]) ≤
  appLim)) ∧
  ((((0 : Nat) = (0 : Nat)) ∧
   (List.length
    (List.drop (0 : Nat) (List.take (List.length ([] ++ RoH.l h)) ([] ++ RoH.l h)) ++
      [UInt8.ofNat (Int.toNat (128 : Int))]) =
  List.length
    (List.drop (0 : Nat) (List.take (List.length ([] ++ RoH.l h)) ([] ++ RoH.l h)) ++
      [UInt8.ofNat (Int.toNat (128 : Int))]))) ∧
  (((RoH.s h = RoH.s h) ∧
   (iZ (RoH.l h)
  (List.drop (0 : Nat) (List.take (List.length ([] ++ RoH.l h)) ([] ++ RoH.l h)) ++
    [UInt8.ofNat (Int.toNat (128 : Int))]))) ∧
  (∀ v : St8,
  (∀ l : List UInt8,
  (((v = RoH.s h) ∧
  (iZ (RoH.l h) l)) →
  bcase (Int.tmod (↑(List.length l) : Int) (128 : Int) != (112 : Int))
    (((((0 : Nat) + List.length l = List.length l) ∧
     (List.length (List.drop (0 : Nat) (List.take (List.length l) l) ++ [UInt8.ofNat (Int.toNat (0 : Int))]) ≤ appLim)) ∧
    ((((0 : Nat) = (0 : Nat)) ∧
     (List.length (List.drop (0 : Nat) (List.take (List.length l) l) ++ [UInt8.ofNat (Int.toNat (0 : Int))]) =
  List.length (List.drop (0 : Nat) (List.take (List.length l) l) ++ [UInt8.ofNat (Int.toNat (0 : Int))]))) ∧
    (((h, ()) = (h, ())) ∧
    (((v = RoH.s h) ∧
     (iZ (RoH.l h) (List.drop (0 : Nat) (List.take (List.length l) l) ++ [UInt8.ofNat (Int.toNat (0 : Int))]))) ∧
    (zn (List.length (RoH.l h)) + List.length (RoH.l h) + (1 : Nat) -
    List.length (List.drop (0 : Nat) (List.take (List.length l) l) ++ [UInt8.ofNat (Int.toNat (0 : Int))]) <
  zn (List.length (RoH.l h)) + List.length (RoH.l h) + (1 : Nat) - List.length l))))))
    (((((0 : Nat) + List.length l = List.length l) ∧
     (List.length
    (List.drop (0 : Nat) (List.take (List.length l) l) ++
      [UInt8.ofNat (Int.toNat (0 : Int)), UInt8.ofNat (Int.toNat (0 : Int)), UInt8.ofNat (Int.toNat (0 : Int)),
        UInt8.ofNat (Int.toNat (0 : Int)), UInt8.ofNat (Int.toNat (0 : Int)), UInt8.ofNat (Int.toNat (0 : Int)),
        UInt8.ofNat (Int.toNat (0 : Int)), UInt8.ofNat (Int.toNat (0 : Int))]) ≤
  appLim)) ∧
    ((((0 : Nat) = (0 : Nat)) ∧
     (List.length
    (List.drop (0 : Nat) (List.take (List.length l) l) ++
      [UInt8.ofNat (Int.toNat (0 : Int)), UInt8.ofNat (Int.toNat (0 : Int)), UInt8.ofNat (Int.toNat (0 : Int)),
        UInt8.ofNat (Int.toNat (0 : Int)), UInt8.ofNat (Int.toNat (0 : Int)), UInt8.ofNat (Int.toNat (0 : Int)),
        UInt8.ofNat (Int.toNat (0 : Int)), UInt8.ofNat (Int.toNat (0 : Int))]) =
  List.length
    (List.drop (0 : Nat) (List.take (List.length l) l) ++
      [UInt8.ofNat (Int.toNat (0 : Int)), UInt8.ofNat (Int.toNat (0 : Int)), UInt8.ofNat (Int.toNat (0 : Int)),
        UInt8.ofNat (Int.toNat (0 : Int)), UInt8.ofNat (Int.toNat (0 : Int)), UInt8.ofNat (Int.toNat (0 : Int)),
        UInt8.ofNat (Int.toNat (0 : Int)), UInt8.ofNat (Int.toNat (0 : Int))]))) ∧
    (((v = RoH.s h) ∧
     (iE (RoH.l h) (RoH.n h * (8 : UInt64))
  (List.drop (0 : Nat) (List.take (List.length l) l) ++
    [UInt8.ofNat (Int.toNat (0 : Int)), UInt8.ofNat (Int.toNat (0 : Int)), UInt8.ofNat (Int.toNat (0 : Int)),
      UInt8.ofNat (Int.toNat (0 : Int)), UInt8.ofNat (Int.toNat (0 : Int)), UInt8.ofNat (Int.toNat (0 : Int)),
      UInt8.ofNat (Int.toNat (0 : Int)), UInt8.ofNat (Int.toNat (0 : Int))])
  (56 : Int))) ∧
    (∀ v_1 : St8,
    (∀ l_1 : List UInt8,
    (∀ a : Int,
    (((v_1 = RoH.s h) ∧
    (iE (RoH.l h) (RoH.n h * (8 : UInt64)) l_1 a)) →
    bcase (decide (a ≥ (0 : Int)))
      (((((0 : Nat) + List.length l_1 = List.length l_1) ∧
       (List.length
    (List.drop (0 : Nat) (List.take (List.length l_1) l_1) ++
      [UInt64.toUInt8 (shr64 (RoH.n h * UInt64.ofNat (Int.toNat (8 : Int))) (UInt64.toNat (UInt64.ofInt a)))]) ≤
  appLim)) ∧
      ((((0 : Nat) = (0 : Nat)) ∧
       (List.length
    (List.drop (0 : Nat) (List.take (List.length l_1) l_1) ++
      [UInt64.toUInt8 (shr64 (RoH.n h * UInt64.ofNat (Int.toNat (8 : Int))) (UInt64.toNat (UInt64.ofInt a)))]) =
  List.length
    (List.drop (0 : Nat) (List.take (List.length l_1) l_1) ++
      [UInt64.toUInt8 (shr64 (RoH.n h * UInt64.ofNat (Int.toNat (8 : Int))) (UInt64.toNat (UInt64.ofInt a)))]))) ∧
      (((h, ()) = (h, ())) ∧
      (((v_1 = RoH.s h) ∧
       (iE (RoH.l h) (RoH.n h * (8 : UInt64))
  (List.drop (0 : Nat) (List.take (List.length l_1) l_1) ++
    [UInt64.toUInt8 (shr64 (RoH.n h * UInt64.ofNat (Int.toNat (8 : Int))) (UInt64.toNat (UInt64.ofInt a)))])
  (IntKind.wrap IntKind.i64 (a - (8 : Int))))) ∧
      (Int.toNat ((8 : Int) + IntKind.wrap IntKind.i64 (a - (8 : Int))) < Int.toNat ((8 : Int) + a)))))))
      (((List.length l_1 = List.length l_1 - (0 : Nat)) ∧
      ((iM (RoH.s h) (padded (RoH.l h) (RoH.n h)) v_1 l_1 (0 : Nat)) ∧
      (∀ v_2 : St8,
      (∀ l_2 : List UInt8,
      (∀ lo : Nat,
      ((iM (RoH.s h) (padded (RoH.l h) (RoH.n h)) v_2 l_2 lo) →
      bcase (decide ((↑(List.length l_2 - lo) : Int) > (0 : Int)))
        (((((0 : Int) ≤ (0 : Int)) ∧
         (((0 : Int) ≤ (128 : Int)) ∧
         ((128 : Int) ≤ (↑(List.length l_2 - lo) : Int)))) ∧
        ((((0 : Int) ≤ (128 : Int)) ∧
         (((128 : Int) ≤ (↑(List.length l_2 - lo) : Int)) ∧
         ((↑(List.length l_2 - lo) : Int) ≤ (↑(List.length l_2 - lo) : Int)))) ∧
        ((Int.toNat (↑(List.length l_2 - lo) : Int) - Int.toNat (128 : Int) = List.length l_2 - (lo + Int.toNat (128 : Int))) ∧
        ((() = ()) ∧
        ((iM (RoH.s h) (padded (RoH.l h) (RoH.n h)) (mixV v_2 (cut l_2 (lo + Int.toNat (0 : Int)))) l_2
  (lo + Int.toNat (128 : Int))) ∧
        (List.length l_2 - (lo + Int.toNat (128 : Int)) < List.length l_2 - lo)))))))
        ((((1 : Nat) ≤ appLim) ∧
        ((((0 : Nat) + (1 : Nat) = (1 : Nat)) ∧
         ((2 : Nat) ≤ appLim)) ∧
        ((((0 : Nat) + (2 : Nat) = (2 : Nat)) ∧
         ((3 : Nat) ≤ appLim)) ∧
        ((((0 : Nat) + (3 : Nat) = (3 : Nat)) ∧
         ((4 : Nat) ≤ appLim)) ∧
        ((((0 : Nat) + (4 : Nat) = (4 : Nat)) ∧
         ((5 : Nat) ≤ appLim)) ∧
        ((((0 : Nat) + (5 : Nat) = (5 : Nat)) ∧
         ((6 : Nat) ≤ appLim)) ∧
        ((((0 : Nat) + (6 : Nat) = (6 : Nat)) ∧
         ((7 : Nat) ≤ appLim)) ∧
        ((((0 : Nat) + (7 : Nat) = (7 : Nat)) ∧
         ((8 : Nat) ≤ appLim)) ∧
        ((((0 : Nat) + (8 : Nat) = (8 : Nat)) ∧
         ((9 : Nat) ≤ appLim)) ∧
        ((((0 : Nat) + (9 : Nat) = (9 : Nat)) ∧
         ((10 : Nat) ≤ appLim)) ∧
        ((((0 : Nat) + (10 : Nat) = (10 : Nat)) ∧
         ((11 : Nat) ≤ appLim)) ∧
        ((((0 : Nat) + (11 : Nat) = (11 : Nat)) ∧
         ((12 : Nat) ≤ appLim)) ∧
        ((((0 : Nat) + (12 : Nat) = (12 : Nat)) ∧
         ((13 : Nat) ≤ appLim)) ∧
        ((((0 : Nat) + (13 : Nat) = (13 : Nat)) ∧
         ((14 : Nat) ≤ appLim)) ∧
        ((((0 : Nat) + (14 : Nat) = (14 : Nat)) ∧
         ((15 : Nat) ≤ appLim)) ∧
        ((((0 : Nat) + (15 : Nat) = (15 : Nat)) ∧
         ((16 : Nat) ≤ appLim)) ∧
        ((((0 : Nat) + (16 : Nat) = (16 : Nat)) ∧
         ((17 : Nat) ≤ appLim)) ∧
        ((((0 : Nat) + (17 : Nat) = (17 : Nat)) ∧
         ((18 : Nat) ≤ appLim)) ∧
        ((((0 : Nat) + (18 : Nat) = (18 : Nat)) ∧
         ((19 : Nat) ≤ appLim)) ∧
        ((((0 : Nat) + (19 : Nat) = (19 : Nat)) ∧
         ((20 : Nat) ≤ appLim)) ∧
        ((((0 : Nat) + (20 : Nat) = (20 : Nat)) ∧
         ((21 : Nat) ≤ appLim)) ∧
        ((((0 : Nat) + (21 : Nat) = (21 : Nat)) ∧
         ((22 : Nat) ≤ appLim)) ∧
        ((((0 : Nat) + (22 : Nat) = (22 : Nat)) ∧
         ((23 : Nat) ≤ appLim)) ∧
        ((((0 : Nat) + (23 : Nat) = (23 : Nat)) ∧
         ((24 : Nat) ≤ appLim)) ∧
        ((((0 : Nat) + (24 : Nat) = (24 : Nat)) ∧
         ((25 : Nat) ≤ appLim)) ∧
        ((((0 : Nat) + (25 : Nat) = (25 : Nat)) ∧
         ((26 : Nat) ≤ appLim)) ∧
        ((((0 : Nat) + (26 : Nat) = (26 : Nat)) ∧
         ((27 : Nat) ≤ appLim)) ∧
        ((((0 : Nat) + (27 : Nat) = (27 : Nat)) ∧
         ((28 : Nat) ≤ appLim)) ∧
        ((((0 : Nat) + (28 : Nat) = (28 : Nat)) ∧
         ((29 : Nat) ≤ appLim)) ∧
        ((((0 : Nat) + (29 : Nat) = (29 : Nat)) ∧
         ((30 : Nat) ≤ appLim)) ∧
        ((((0 : Nat) + (30 : Nat) = (30 : Nat)) ∧
         ((31 : Nat) ≤ appLim)) ∧
        ((((0 : Nat) + (31 : Nat) = (31 : Nat)) ∧
         ((32 : Nat) ≤ appLim)) ∧
        ((((0 : Nat) + (32 : Nat) = (32 : Nat)) ∧
         ((33 : Nat) ≤ appLim)) ∧
        ((((0 : Nat) + (33 : Nat) = (33 : Nat)) ∧
         ((34 : Nat) ≤ appLim)) ∧
        ((((0 : Nat) + (34 : Nat) = (34 : Nat)) ∧
         ((35 : Nat) ≤ appLim)) ∧
        ((((0 : Nat) + (35 : Nat) = (35 : Nat)) ∧
         ((36 : Nat) ≤ appLim)) ∧
        ((((0 : Nat) + (36 : Nat) = (36 : Nat)) ∧
         ((37 : Nat) ≤ appLim)) ∧
        ((((0 : Nat) + (37 : Nat) = (37 : Nat)) ∧
         ((38 : Nat) ≤ appLim)) ∧
        ((((0 : Nat) + (38 : Nat) = (38 : Nat)) ∧
         ((39 : Nat) ≤ appLim)) ∧
        ((((0 : Nat) + (39 : Nat) = (39 : Nat)) ∧
         ((40 : Nat) ≤ appLim)) ∧
        ((((0 : Nat) + (40 : Nat) = (40 : Nat)) ∧
         ((41 : Nat) ≤ appLim)) ∧
        ((((0 : Nat) + (41 : Nat) = (41 : Nat)) ∧
         ((42 : Nat) ≤ appLim)) ∧
        ((((0 : Nat) + (42 : Nat) = (42 : Nat)) ∧
         ((43 : Nat) ≤ appLim)) ∧
        ((((0 : Nat) + (43 : Nat) = (43 : Nat)) ∧
         ((44 : Nat) ≤ appLim)) ∧
        ((((0 : Nat) + (44 : Nat) = (44 : Nat)) ∧
         ((45 : Nat) ≤ appLim)) ∧
        ((((0 : Nat) + (45 : Nat) = (45 : Nat)) ∧
         ((46 : Nat) ≤ appLim)) ∧
        ((((0 : Nat) + (46 : Nat) = (46 : Nat)) ∧
         ((47 : Nat) ≤ appLim)) ∧
        ((((0 : Nat) + (47 : Nat) = (47 : Nat)) ∧
         ((48 : Nat) ≤ appLim)) ∧
        ((((0 : Nat) + (48 : Nat) = (48 : Nat)) ∧
         ((49 : Nat) ≤ appLim)) ∧
        ((((0 : Nat) + (49 : Nat) = (49 : Nat)) ∧
         ((50 : Nat) ≤ appLim)) ∧
        ((((0 : Nat) + (50 : Nat) = (50 : Nat)) ∧
         ((51 : Nat) ≤ appLim)) ∧
        ((((0 : Nat) + (51 : Nat) = (51 : Nat)) ∧
         ((52 : Nat) ≤ appLim)) ∧
        ((((0 : Nat) + (52 : Nat) = (52 : Nat)) ∧
         ((53 : Nat) ≤ appLim)) ∧
        ((((0 : Nat) + (53 : Nat) = (53 : Nat)) ∧
         ((54 : Nat) ≤ appLim)) ∧
        ((((0 : Nat) + (54 : Nat) = (54 : Nat)) ∧
         ((55 : Nat) ≤ appLim)) ∧
        ((((0 : Nat) + (55 : Nat) = (55 : Nat)) ∧
         ((56 : Nat) ≤ appLim)) ∧
        ((((0 : Nat) + (56 : Nat) = (56 : Nat)) ∧
         ((57 : Nat) ≤ appLim)) ∧
        ((((0 : Nat) + (57 : Nat) = (57 : Nat)) ∧
         ((58 : Nat) ≤ appLim)) ∧
        ((((0 : Nat) + (58 : Nat) = (58 : Nat)) ∧
         ((59 : Nat) ≤ appLim)) ∧
        ((((0 : Nat) + (59 : Nat) = (59 : Nat)) ∧
         ((60 : Nat) ≤ appLim)) ∧
        ((((0 : Nat) + (60 : Nat) = (60 : Nat)) ∧
         ((61 : Nat) ≤ appLim)) ∧
        ((((0 : Nat) + (61 : Nat) = (61 : Nat)) ∧
         ((62 : Nat) ≤ appLim)) ∧
        ((((0 : Nat) + (62 : Nat) = (62 : Nat)) ∧
         ((63 : Nat) ≤ appLim)) ∧
        ((((0 : Nat) + (63 : Nat) = (63 : Nat)) ∧
         ((64 : Nat) ≤ appLim)) ∧
        (Q
  (SV.lst
    (LV.bytes
      [UInt64.toUInt8 (shr64 (St8.a v_2) (UInt64.toNat (UInt64.ofInt (56 : Int)))),
        UInt64.toUInt8
          (shr64 (St8.a v_2) (UInt64.toNat (UInt64.ofInt (IntKind.wrap IntKind.i64 ((56 : Int) - (8 : Int)))))),
        UInt64.toUInt8
          (shr64 (St8.a v_2)
            (UInt64.toNat
              (UInt64.ofInt
                (IntKind.wrap IntKind.i64 (IntKind.wrap IntKind.i64 ((56 : Int) - (8 : Int)) - (8 : Int)))))),
        UInt64.toUInt8
          (shr64 (St8.a v_2)
            (UInt64.toNat
              (UInt64.ofInt
                (IntKind.wrap IntKind.i64
                  (IntKind.wrap IntKind.i64 (IntKind.wrap IntKind.i64 ((56 : Int) - (8 : Int)) - (8 : Int)) -
                    (8 : Int)))))),
        UInt64.toUInt8
          (shr64 (St8.a v_2)
            (UInt64.toNat
              (UInt64.ofInt
                (IntKind.wrap IntKind.i64
                  (IntKind.wrap IntKind.i64
                      (IntKind.wrap IntKind.i64 (IntKind.wrap IntKind.i64 ((56 : Int) - (8 : Int)) - (8 : Int)) -
                        (8 : Int)) -
                    (8 : Int)))))),
        UInt64.toUInt8
          (shr64 (St8.a v_2)
            (UInt64.toNat
              (UInt64.ofInt
                (IntKind.wrap IntKind.i64
                  (IntKind.wrap IntKind.i64
                      (IntKind.wrap IntKind.i64
                          (IntKind.wrap IntKind.i64 (IntKind.wrap IntKind.i64 ((56 : Int) - (8 : Int)) - (8 : Int)) -
                            (8 : Int)) -
                        (8 : Int)) -
                    (8 : Int)))))),
        UInt64.toUInt8
          (shr64 (St8.a v_2)
            (UInt64.toNat
              (UInt64.ofInt
                (IntKind.wrap IntKind.i64
                  (IntKind.wrap IntKind.i64
                      (IntKind.wrap IntKind.i64
                          (IntKind.wrap IntKind.i64
                              (IntKind.wrap IntKind.i64
                                  (IntKind.wrap IntKind.i64 ((56 : Int) - (8 : Int)) - (8 : Int)) -
                                (8 : Int)) -
                            (8 : Int)) -
                        (8 : Int)) -
                    (8 : Int)))))),
        UInt64.toUInt8
          (shr64 (St8.a v_2)
            (UInt64.toNat
              (UInt64.ofInt
                (IntKind.wrap IntKind.i64
                  (IntKind.wrap IntKind.i64
                      (IntKind.wrap IntKind.i64
                          (IntKind.wrap IntKind.i64
                              (IntKind.wrap IntKind.i64
                                  (IntKind.wrap IntKind.i64
                                      (IntKind.wrap IntKind.i64 ((56 : Int) - (8 : Int)) - (8 : Int)) -
                                    (8 : Int)) -
                                (8 : Int)) -
                            (8 : Int)) -
                        (8 : Int)) -
                    (8 : Int)))))),
        UInt64.toUInt8 (shr64 (St8.b v_2) (UInt64.toNat (UInt64.ofInt (56 : Int)))),
        UInt64.toUInt8
          (shr64 (St8.b v_2) (UInt64.toNat (UInt64.ofInt (IntKind.wrap IntKind.i64 ((56 : Int) - (8 : Int)))))),
        UInt64.toUInt8
          (shr64 (St8.b v_2)
            (UInt64.toNat
              (UInt64.ofInt
                (IntKind.wrap IntKind.i64 (IntKind.wrap IntKind.i64 ((56 : Int) - (8 : Int)) - (8 : Int)))))),
        UInt64.toUInt8
          (shr64 (St8.b v_2)
            (UInt64.toNat
              (UInt64.ofInt
                (IntKind.wrap IntKind.i64
                  (IntKind.wrap IntKind.i64 (IntKind.wrap IntKind.i64 ((56 : Int) - (8 : Int)) - (8 : Int)) -
                    (8 : Int)))))),
        UInt64.toUInt8
          (shr64 (St8.b v_2)
            (UInt64.toNat
              (UInt64.ofInt
                (IntKind.wrap IntKind.i64
                  (IntKind.wrap IntKind.i64
                      (IntKind.wrap IntKind.i64 (IntKind.wrap IntKind.i64 ((56 : Int) - (8 : Int)) - (8 : Int)) -
                        (8 : Int)) -
                    (8 : Int)))))),
        UInt64.toUInt8
          (shr64 (St8.b v_2)
            (UInt64.toNat
              (UInt64.ofInt
                (IntKind.wrap IntKind.i64
                  (IntKind.wrap IntKind.i64
                      (IntKind.wrap IntKind.i64
                          (IntKind.wrap IntKind.i64 (IntKind.wrap IntKind.i64 ((56 : Int) - (8 : Int)) - (8 : Int)) -
                            (8 : Int)) -
                        (8 : Int)) -
                    (8 : Int)))))),
        UInt64.toUInt8
          (shr64 (St8.b v_2)
            (UInt64.toNat
              (UInt64.ofInt
                (IntKind.wrap IntKind.i64
                  (IntKind.wrap IntKind.i64
                      (IntKind.wrap IntKind.i64
                          (IntKind.wrap IntKind.i64
                              (IntKind.wrap IntKind.i64
                                  (IntKind.wrap IntKind.i64 ((56 : Int) - (8 : Int)) - (8 : Int)) -
                                (8 : Int)) -
                            (8 : Int)) -
                        (8 : Int)) -
                    (8 : Int)))))),
        UInt64.toUInt8
          (shr64 (St8.b v_2)
            (UInt64.toNat
              (UInt64.ofInt
                (IntKind.wrap IntKind.i64
                  (IntKind.wrap IntKind.i64
                      (IntKind.wrap IntKind.i64
                          (IntKind.wrap IntKind.i64
                              (IntKind.wrap IntKind.i64
                                  (IntKind.wrap IntKind.i64
                                      (IntKind.wrap IntKind.i64 ((56 : Int) - (8 : Int)) - (8 : Int)) -
                                    (8 : Int)) -
                                (8 : Int)) -
                            (8 : Int)) -
                        (8 : Int)) -
                    (8 : Int)))))),
        UInt64.toUInt8 (shr64 (St8.c v_2) (UInt64.toNat (UInt64.ofInt (56 : Int)))),
        UInt64.toUInt8
          (shr64 (St8.c v_2) (UInt64.toNat (UInt64.ofInt (IntKind.wrap IntKind.i64 ((56 : Int) - (8 : Int)))))),
        UInt64.toUInt8
          (shr64 (St8.c v_2)
            (UInt64.toNat
              (UInt64.ofInt
                (IntKind.wrap IntKind.i64 (IntKind.wrap IntKind.i64 ((56 : Int) - (8 : Int)) - (8 : Int)))))),
        UInt64.toUInt8
          (shr64 (St8.c v_2)
            (UInt64.toNat
              (UInt64.ofInt
                (IntKind.wrap IntKind.i64
                  (IntKind.wrap IntKind.i64 (IntKind.wrap IntKind.i64 ((56 : Int) - (8 : Int)) - (8 : Int)) -
                    (8 : Int)))))),
        UInt64.toUInt8
          (shr64 (St8.c v_2)
            (UInt64.toNat
              (UInt64.ofInt
                (IntKind.wrap IntKind.i64
                  (IntKind.wrap IntKind.i64
                      (IntKind.wrap IntKind.i64 (IntKind.wrap IntKind.i64 ((56 : Int) - (8 : Int)) - (8 : Int)) -
                        (8 : Int)) -
                    (8 : Int)))))),
        UInt64.toUInt8
          (shr64 (St8.c v_2)
            (UInt64.toNat
              (UInt64.ofInt
                (IntKind.wrap IntKind.i64
                  (IntKind.wrap IntKind.i64
                      (IntKind.wrap IntKind.i64
                          (IntKind.wrap IntKind.i64 (IntKind.wrap IntKind.i64 ((56 : Int) - (8 : Int)) - (8 : Int)) -
                            (8 : Int)) -
                        (8 : Int)) -
                    (8 : Int)))))),
        UInt64.toUInt8
          (shr64 (St8.c v_2)
            (UInt64.toNat
              (UInt64.ofInt
                (IntKind.wrap IntKind.i64
                  (IntKind.wrap IntKind.i64
                      (IntKind.wrap IntKind.i64
                          (IntKind.wrap IntKind.i64
                              (IntKind.wrap IntKind.i64
                                  (IntKind.wrap IntKind.i64 ((56 : Int) - (8 : Int)) - (8 : Int)) -
                                (8 : Int)) -
                            (8 : Int)) -
                        (8 : Int)) -
                    (8 : Int)))))),
        UInt64.toUInt8
          (shr64 (St8.c v_2)
            (UInt64.toNat
              (UInt64.ofInt
                (IntKind.wrap IntKind.i64
                  (IntKind.wrap IntKind.i64
                      (IntKind.wrap IntKind.i64
                          (IntKind.wrap IntKind.i64
                              (IntKind.wrap IntKind.i64
                                  (IntKind.wrap IntKind.i64
                                      (IntKind.wrap IntKind.i64 ((56 : Int) - (8 : Int)) - (8 : Int)) -
                                    (8 : Int)) -
                                (8 : Int)) -
                            (8 : Int)) -
                        (8 : Int)) -
                    (8 : Int)))))),
        UInt64.toUInt8 (shr64 (St8.d v_2) (UInt64.toNat (UInt64.ofInt (56 : Int)))),
        UInt64.toUInt8
          (shr64 (St8.d v_2) (UInt64.toNat (UInt64.ofInt (IntKind.wrap IntKind.i64 ((56 : Int) - (8 : Int)))))),
        UInt64.toUInt8
          (shr64 (St8.d v_2)
            (UInt64.toNat
              (UInt64.ofInt
                (IntKind.wrap IntKind.i64 (IntKind.wrap IntKind.i64 ((56 : Int) - (8 : Int)) - (8 : Int)))))),
        UInt64.toUInt8
          (shr64 (St8.d v_2)
            (UInt64.toNat
              (UInt64.ofInt
                (IntKind.wrap IntKind.i64
                  (IntKind.wrap IntKind.i64 (IntKind.wrap IntKind.i64 ((56 : Int) - (8 : Int)) - (8 : Int)) -
                    (8 : Int)))))),
        UInt64.toUInt8
          (shr64 (St8.d v_2)
            (UInt64.toNat
              (UInt64.ofInt
                (IntKind.wrap IntKind.i64
                  (IntKind.wrap IntKind.i64
                      (IntKind.wrap IntKind.i64 (IntKind.wrap IntKind.i64 ((56 : Int) - (8 : Int)) - (8 : Int)) -
                        (8 : Int)) -
                    (8 : Int)))))),
        UInt64.toUInt8
          (shr64 (St8.d v_2)
            (UInt64.toNat
              (UInt64.ofInt
                (IntKind.wrap IntKind.i64
                  (IntKind.wrap IntKind.i64
                      (IntKind.wrap IntKind.i64
                          (IntKind.wrap IntKind.i64 (IntKind.wrap IntKind.i64 ((56 : Int) - (8 : Int)) - (8 : Int)) -
                            (8 : Int)) -
                        (8 : Int)) -
                    (8 : Int)))))),
        UInt64.toUInt8
          (shr64 (St8.d v_2)
            (UInt64.toNat
              (UInt64.ofInt
                (IntKind.wrap IntKind.i64
                  (IntKind.wrap IntKind.i64
                      (IntKind.wrap IntKind.i64
                          (IntKind.wrap IntKind.i64
                              (IntKind.wrap IntKind.i64
                                  (IntKind.wrap IntKind.i64 ((56 : Int) - (8 : Int)) - (8 : Int)) -
                                (8 : Int)) -
                            (8 : Int)) -
                        (8 : Int)) -
                    (8 : Int)))))),
        UInt64.toUInt8
          (shr64 (St8.d v_2)
            (UInt64.toNat
              (UInt64.ofInt
                (IntKind.wrap IntKind.i64
                  (IntKind.wrap IntKind.i64
                      (IntKind.wrap IntKind.i64
                          (IntKind.wrap IntKind.i64
                              (IntKind.wrap IntKind.i64
                                  (IntKind.wrap IntKind.i64
                                      (IntKind.wrap IntKind.i64 ((56 : Int) - (8 : Int)) - (8 : Int)) -
                                    (8 : Int)) -
                                (8 : Int)) -
                            (8 : Int)) -
                        (8 : Int)) -
                    (8 : Int)))))),
        UInt64.toUInt8 (shr64 (St8.e v_2) (UInt64.toNat (UInt64.ofInt (56 : Int)))),
        UInt64.toUInt8
          (shr64 (St8.e v_2) (UInt64.toNat (UInt64.ofInt (IntKind.wrap IntKind.i64 ((56 : Int) - (8 : Int)))))),
        UInt64.toUInt8
          (shr64 (St8.e v_2)
            (UInt64.toNat
              (UInt64.ofInt
                (IntKind.wrap IntKind.i64 (IntKind.wrap IntKind.i64 ((56 : Int) - (8 : Int)) - (8 : Int)))))),
        UInt64.toUInt8
          (shr64 (St8.e v_2)
            (UInt64.toNat
              (UInt64.ofInt
                (IntKind.wrap IntKind.i64
                  (IntKind.wrap IntKind.i64 (IntKind.wrap IntKind.i64 ((56 : Int) - (8 : Int)) - (8 : Int)) -
                    (8 : Int)))))),
        UInt64.toUInt8
          (shr64 (St8.e v_2)
            (UInt64.toNat
              (UInt64.ofInt
                (IntKind.wrap IntKind.i64
                  (IntKind.wrap IntKind.i64
                      (IntKind.wrap IntKind.i64 (IntKind.wrap IntKind.i64 ((56 : Int) - (8 : Int)) - (8 : Int)) -
                        (8 : Int)) -
                    (8 : Int)))))),
        UInt64.toUInt8
          (shr64 (St8.e v_2)
            (UInt64.toNat
              (UInt64.ofInt
                (IntKind.wrap IntKind.i64
                  (IntKind.wrap IntKind.i64
                      (IntKind.wrap IntKind.i64
                          (IntKind.wrap IntKind.i64 (IntKind.wrap IntKind.i64 ((56 : Int) - (8 : Int)) - (8 : Int)) -
                            (8 : Int)) -
                        (8 : Int)) -
                    (8 : Int)))))),
        UInt64.toUInt8
          (shr64 (St8.e v_2)
            (UInt64.toNat
              (UInt64.ofInt
                (IntKind.wrap IntKind.i64
                  (IntKind.wrap IntKind.i64
                      (IntKind.wrap IntKind.i64
                          (IntKind.wrap IntKind.i64
                              (IntKind.wrap IntKind.i64
                                  (IntKind.wrap IntKind.i64 ((56 : Int) - (8 : Int)) - (8 : Int)) -
                                (8 : Int)) -
                            (8 : Int)) -
                        (8 : Int)) -
                    (8 : Int)))))),
        UInt64.toUInt8
          (shr64 (St8.e v_2)
            (UInt64.toNat
              (UInt64.ofInt
                (IntKind.wrap IntKind.i64
                  (IntKind.wrap IntKind.i64
                      (IntKind.wrap IntKind.i64
                          (IntKind.wrap IntKind.i64
                              (IntKind.wrap IntKind.i64
                                  (IntKind.wrap IntKind.i64
                                      (IntKind.wrap IntKind.i64 ((56 : Int) - (8 : Int)) - (8 : Int)) -
                                    (8 : Int)) -
                                (8 : Int)) -
                            (8 : Int)) -
                        (8 : Int)) -
                    (8 : Int)))))),
        UInt64.toUInt8 (shr64 (St8.f v_2) (UInt64.toNat (UInt64.ofInt (56 : Int)))),
        UInt64.toUInt8
          (shr64 (St8.f v_2) (UInt64.toNat (UInt64.ofInt (IntKind.wrap IntKind.i64 ((56 : Int) - (8 : Int)))))),
        UInt64.toUInt8
          (shr64 (St8.f v_2)
            (UInt64.toNat
              (UInt64.ofInt
                (IntKind.wrap IntKind.i64 (IntKind.wrap IntKind.i64 ((56 : Int) - (8 : Int)) - (8 : Int)))))),
        UInt64.toUInt8
          (shr64 (St8.f v_2)
            (UInt64.toNat
              (UInt64.ofInt
                (IntKind.wrap IntKind.i64
                  (IntKind.wrap IntKind.i64 (IntKind.wrap IntKind.i64 ((56 : Int) - (8 : Int)) - (8 : Int)) -
                    (8 : Int)))))),
        UInt64.toUInt8
          (shr64 (St8.f v_2)
            (UInt64.toNat
              (UInt64.ofInt
                (IntKind.wrap IntKind.i64
                  (IntKind.wrap IntKind.i64
                      (IntKind.wrap IntKind.i64 (IntKind.wrap IntKind.i64 ((56 : Int) - (8 : Int)) - (8 : Int)) -
                        (8 : Int)) -
                    (8 : Int)))))),
        UInt64.toUInt8
          (shr64 (St8.f v_2)
            (UInt64.toNat
              (UInt64.ofInt
                (IntKind.wrap IntKind.i64
                  (IntKind.wrap IntKind.i64
                      (IntKind.wrap IntKind.i64
                          (IntKind.wrap IntKind.i64 (IntKind.wrap IntKind.i64 ((56 : Int) - (8 : Int)) - (8 : Int)) -
                            (8 : Int)) -
                        (8 : Int)) -
                    (8 : Int)))))),
        UInt64.toUInt8
          (shr64 (St8.f v_2)
            (UInt64.toNat
              (UInt64.ofInt
                (IntKind.wrap IntKind.i64
                  (IntKind.wrap IntKind.i64
                      (IntKind.wrap IntKind.i64
                          (IntKind.wrap IntKind.i64
                              (IntKind.wrap IntKind.i64
                                  (IntKind.wrap IntKind.i64 ((56 : Int) - (8 : Int)) - (8 : Int)) -
                                (8 : Int)) -
                            (8 : Int)) -
                        (8 : Int)) -
                    (8 : Int)))))),
        UInt64.toUInt8
          (shr64 (St8.f v_2)
            (UInt64.toNat
              (UInt64.ofInt
                (IntKind.wrap IntKind.i64
                  (IntKind.wrap IntKind.i64
                      (IntKind.wrap IntKind.i64
                          (IntKind.wrap IntKind.i64
                              (IntKind.wrap IntKind.i64
                                  (IntKind.wrap IntKind.i64
                                      (IntKind.wrap IntKind.i64 ((56 : Int) - (8 : Int)) - (8 : Int)) -
                                    (8 : Int)) -
                                (8 : Int)) -
                            (8 : Int)) -
                        (8 : Int)) -
                    (8 : Int)))))),
        UInt64.toUInt8 (shr64 (St8.g v_2) (UInt64.toNat (UInt64.ofInt (56 : Int)))),
        UInt64.toUInt8
          (shr64 (St8.g v_2) (UInt64.toNat (UInt64.ofInt (IntKind.wrap IntKind.i64 ((56 : Int) - (8 : Int)))))),
        UInt64.toUInt8
          (shr64 (St8.g v_2)
            (UInt64.toNat
              (UInt64.ofInt
                (IntKind.wrap IntKind.i64 (IntKind.wrap IntKind.i64 ((56 : Int) - (8 : Int)) - (8 : Int)))))),
        UInt64.toUInt8
          (shr64 (St8.g v_2)
            (UInt64.toNat
              (UInt64.ofInt
                (IntKind.wrap IntKind.i64
                  (IntKind.wrap IntKind.i64 (IntKind.wrap IntKind.i64 ((56 : Int) - (8 : Int)) - (8 : Int)) -
                    (8 : Int)))))),
        UInt64.toUInt8
          (shr64 (St8.g v_2)
            (UInt64.toNat
              (UInt64.ofInt
                (IntKind.wrap IntKind.i64
                  (IntKind.wrap IntKind.i64
                      (IntKind.wrap IntKind.i64 (IntKind.wrap IntKind.i64 ((56 : Int) - (8 : Int)) - (8 : Int)) -
                        (8 : Int)) -
                    (8 : Int)))))),
        UInt64.toUInt8
          (shr64 (St8.g v_2)
            (UInt64.toNat
              (UInt64.ofInt
                (IntKind.wrap IntKind.i64
                  (IntKind.wrap IntKind.i64
                      (IntKind.wrap IntKind.i64
                          (IntKind.wrap IntKind.i64 (IntKind.wrap IntKind.i64 ((56 : Int) - (8 : Int)) - (8 : Int)) -
                            (8 : Int)) -
                        (8 : Int)) -
                    (8 : Int)))))),
        UInt64.toUInt8
          (shr64 (St8.g v_2)
            (UInt64.toNat
              (UInt64.ofInt
                (IntKind.wrap IntKind.i64
                  (IntKind.wrap IntKind.i64
                      (IntKind.wrap IntKind.i64
                          (IntKind.wrap IntKind.i64
                              (IntKind.wrap IntKind.i64
                                  (IntKind.wrap IntKind.i64 ((56 : Int) - (8 : Int)) - (8 : Int)) -
                                (8 : Int)) -
                            (8 : Int)) -
                        (8 : Int)) -
                    (8 : Int)))))),
        UInt64.toUInt8
          (shr64 (St8.g v_2)
            (UInt64.toNat
              (UInt64.ofInt
                (IntKind.wrap IntKind.i64
                  (IntKind.wrap IntKind.i64
                      (IntKind.wrap IntKind.i64
                          (IntKind.wrap IntKind.i64
                              (IntKind.wrap IntKind.i64
                                  (IntKind.wrap IntKind.i64
                                      (IntKind.wrap IntKind.i64 ((56 : Int) - (8 : Int)) - (8 : Int)) -
                                    (8 : Int)) -
                                (8 : Int)) -
                            (8 : Int)) -
                        (8 : Int)) -
                    (8 : Int)))))),
        UInt64.toUInt8 (shr64 (St8.h v_2) (UInt64.toNat (UInt64.ofInt (56 : Int)))),
        UInt64.toUInt8
          (shr64 (St8.h v_2) (UInt64.toNat (UInt64.ofInt (IntKind.wrap IntKind.i64 ((56 : Int) - (8 : Int)))))),
        UInt64.toUInt8
          (shr64 (St8.h v_2)
            (UInt64.toNat
              (UInt64.ofInt
                (IntKind.wrap IntKind.i64 (IntKind.wrap IntKind.i64 ((56 : Int) - (8 : Int)) - (8 : Int)))))),
        UInt64.toUInt8
          (shr64 (St8.h v_2)
            (UInt64.toNat
              (UInt64.ofInt
                (IntKind.wrap IntKind.i64
                  (IntKind.wrap IntKind.i64 (IntKind.wrap IntKind.i64 ((56 : Int) - (8 : Int)) - (8 : Int)) -
                    (8 : Int)))))),
        UInt64.toUInt8
          (shr64 (St8.h v_2)
            (UInt64.toNat
              (UInt64.ofInt
                (IntKind.wrap IntKind.i64
                  (IntKind.wrap IntKind.i64
                      (IntKind.wrap IntKind.i64 (IntKind.wrap IntKind.i64 ((56 : Int) - (8 : Int)) - (8 : Int)) -
                        (8 : Int)) -
                    (8 : Int)))))),
        UInt64.toUInt8
          (shr64 (St8.h v_2)
            (UInt64.toNat
              (UInt64.ofInt
                (IntKind.wrap IntKind.i64
                  (IntKind.wrap IntKind.i64
                      (IntKind.wrap IntKind.i64
                          (IntKind.wrap IntKind.i64 (IntKind.wrap IntKind.i64 ((56 : Int) - (8 : Int)) - (8 : Int)) -
                            (8 : Int)) -
                        (8 : Int)) -
                    (8 : Int)))))),
        UInt64.toUInt8
          (shr64 (St8.h v_2)
            (UInt64.toNat
              (UInt64.ofInt
                (IntKind.wrap IntKind.i64
                  (IntKind.wrap IntKind.i64
                      (IntKind.wrap IntKind.i64
                          (IntKind.wrap IntKind.i64
                              (IntKind.wrap IntKind.i64
                                  (IntKind.wrap IntKind.i64 ((56 : Int) - (8 : Int)) - (8 : Int)) -
                                (8 : Int)) -
                            (8 : Int)) -
                        (8 : Int)) -
                    (8 : Int)))))),
        UInt64.toUInt8
          (shr64 (St8.h v_2)
            (UInt64.toNat
              (UInt64.ofInt
                (IntKind.wrap IntKind.i64
                  (IntKind.wrap IntKind.i64
                      (IntKind.wrap IntKind.i64
                          (IntKind.wrap IntKind.i64
                              (IntKind.wrap IntKind.i64
                                  (IntKind.wrap IntKind.i64
                                      (IntKind.wrap IntKind.i64 ((56 : Int) - (8 : Int)) - (8 : Int)) -
                                    (8 : Int)) -
                                (8 : Int)) -
                            (8 : Int)) -
                        (8 : Int)) -
                    (8 : Int))))))])))))))))))))))))))))))))))))))))))))))))))))))))))))))))))))))))))))))))))))))))))))))))) := by kernel_rfl
end Go.Proofs.YtomoihkepkmgdaaDoor.H6
/- Package broad: the sum is told. -/
set_option maxRecDepth 10000
namespace Go.Proofs.YtomoihkepkmgdaaDoor.H6
open Go.Sym Go.Dig R1
theorem full {l : List UInt8} : List.drop 0 (List.take l.length l) = l := by rw [List.take_length]; rfl
theorem zn_lt (n : Nat) : zn n < 128 := Nat.mod_lt _ (by decide)
theorem padZ_len (r : List UInt8) (k : Nat) : (padZ r k).length = r.length + 1 + k := by simp [padZ]; omega
theorem be8_len (x : UInt64) : ∀ j, (be8 x j).length = j
  | 0 => rfl
  | j + 1 => by rw [be8, List.length_append, be8_len x j]; rfl
theorem padded_len (r : List UInt8) (n : UInt64) : (padded r n).length = r.length + 17 + zn r.length := by
  rw [padded, List.length_append, List.length_append, padZ_len, be8_len]; simp only [List.length_cons, List.length_nil]; omega
theorem padded_64 (r : List UInt8) (n : UInt64) : (padded r n).length % 128 = 0 := by
  rw [padded_len, zn]; omega
theorem iZ_step {r t : List UInt8} (h : iZ r t) (hc : ¬ t.length % 128 = 112) : iZ r (t ++ [0]) ∧ t.length < zn r.length + r.length + 1 := by
  obtain ⟨k, hk, rfl⟩ := h
  rw [padZ_len] at hc ⊢
  have hk' : k ≠ zn r.length := by
    intro e
    apply hc
    rw [e, zn]
    omega
  refine ⟨⟨k + 1, by omega, ?_⟩, by omega⟩
  simp only [padZ, List.append_assoc, List.replicate_succ']
theorem iZ_done {r t : List UInt8} (h : iZ r t) (hc : t.length % 128 = 112) : t = padZ r (zn r.length) := by
  obtain ⟨k, hk, rfl⟩ := h
  rw [padZ_len] at hc
  have := zn_lt r.length
  have : k = zn r.length := by rw [zn] at *; omega
  rw [this]
theorem iE_step {r t : List UInt8} {n : UInt64} {i : Int} (h : iE r (n * 8) t i) (hc : 0 ≤ i) : iE r (n * 8) (t ++ [UInt64.toUInt8 (shr64 (n * UInt64.ofNat (Int.toNat 8)) (UInt64.toNat (UInt64.ofInt i)))]) (IntKind.wrap .i64 (i - 8)) := by
  obtain ⟨j, hj, rfl, rfl⟩ := h
  rw [wr (by omega)]
  refine ⟨j + 1, by omega, by omega, ?_⟩
  rw [be8, ← List.append_assoc]
  have e : (UInt64.ofInt (56 - 8 * (j : Int))).toNat = 56 - 8 * j := by
    rw [show (56 : Int) - 8 * (j : Int) = ((56 - 8 * j : Nat) : Int) by omega]
    rw [ofInt64]; omega
  rw [e]; rfl
theorem iE_done {r t : List UInt8} {n : UInt64} {i : Int} (h : iE r (n * 8) t i) (hc : ¬ 0 ≤ i) : t = padded r n := by
  obtain ⟨j, hj, rfl, rfl⟩ := h
  rw [padded, show j = 8 by omega]
theorem iE_len {r t : List UInt8} {n : UInt64} {i : Int} (h : iE r n t i) : t.length ≤ r.length + 200 := by
  obtain ⟨j, hj, rfl, rfl⟩ := h
  have := zn_lt r.length
  rw [List.length_append, List.length_append, padZ_len, be8_len]; simp only [List.length_cons, List.length_nil]; omega
theorem iM_step {s0 s : St8} {m t : List UInt8} {lo : Nat} (h : iM s0 m s t lo) (hm : m.length % 128 = 0) (hc : 0 < t.length - lo) : iM s0 m (mixV s (cut t (lo + Int.toNat 0))) t (lo + Int.toNat 128) ∧ lo + 128 ≤ t.length := by
  obtain ⟨rfl, i, rfl, h2, rfl⟩ := h
  refine ⟨⟨rfl, i + 1, by omega, by omega, rfl⟩, by omega⟩
theorem iM_done {s0 s : St8} {m t : List UInt8} {lo : Nat} (h : iM s0 m s t lo) (hc : ¬ 0 < t.length - lo) : s = absN s0 m (m.length / 128) := by
  obtain ⟨rfl, i, rfl, h2, rfl⟩ := h
  rw [show t.length / 128 = i by omega]
theorem sum_ex : ∃ f : St8 → List UInt8 → UInt64 → List UInt8, f = sum0 := ⟨_, rfl⟩
noncomputable def sumV : St8 → List UInt8 → UInt64 → List UInt8 := Classical.choose sum_ex
theorem sumV_eq : sumV = sum0 := Classical.choose_spec sum_ex
noncomputable def sHSum : SpecF := fspec (α := RoH × Unit) (fun a => some (a.1.l.length ≤ 65536)) (fun a => sumV a.1.s a.1.l a.1.n)
theorem ok_HSum : FSpecOK Tryd.prog 20 sHSum := by
  unfold sHSum
  rw [sumV_eq]
  refine fn_okF (by kernel_rfl) tt_ok spH2_ok 9 Tryd.func20 (by decide +kernel) (by kernel_rfl) ?_
  rintro ⟨h, _⟩ hp
  replace hp : h.l.length ≤ 65536 := hp
  have hz := zn_lt h.l.length
  refine ⟨[], lSum h, fun x => x = .lst (.bytes (sum0 h.s h.l h.n)), LfVD.of (vcSum h _) ?_, fun x h at_ n w v r => by have h' : x = _ := h; subst h'; exact r⟩
  rw [full, List.nil_append]
  refine ⟨⟨rfl, by simp only [appLim]; omega⟩, ⟨by omega, by simp only [appLim, List.length_append, List.length_singleton]; omega⟩, ⟨rfl, rfl⟩, ⟨rfl, ⟨0, by omega, by simp [padZ]⟩⟩, ?_⟩
  rintro s t ⟨rfl, hZ⟩
  have lt : t.length ≤ h.l.length + 129 := by obtain ⟨k, hk, rfl⟩ := hZ; rw [padZ_len]; omega
  have em : Int.tmod (t.length : Int) 128 = ((t.length % 128 : Nat) : Int) := by rw [tmod_nn (by omega)]; omega
  rw [em, bcase_iff, full]
  refine ⟨fun hc => ?_, fun hc => ?_⟩
  · have hc' : ¬ t.length % 128 = 112 := by
      intro e; rw [e] at hc; exact absurd hc (by decide)
    obtain ⟨z1, z2⟩ := iZ_step hZ hc'
    refine ⟨⟨by omega, by simp only [appLim, List.length_append, List.length_singleton]; omega⟩, ⟨rfl, rfl⟩, rfl, ⟨rfl, z1⟩, ?_⟩
    rw [List.length_append, List.length_singleton]
    omega
  · have hc' : t.length % 128 = 112 := by
      have := bne_eq_false_iff_eq.1 hc
      omega
    have ht := iZ_done hZ hc'
    refine ⟨⟨by omega, by simp only [appLim, List.length_append, List.length_cons, List.length_nil]; omega⟩, ⟨rfl, rfl⟩, ⟨rfl, ⟨0, by omega, rfl, by rw [ht]; show _ = _ ++ be8 _ 0; rw [be8, List.append_nil]; rfl⟩⟩, ?_⟩
    rintro s1 t1 a ⟨rfl, hE⟩
    have l1 := iE_len hE
    rw [bcase_dec, full]
    refine ⟨fun ha => ?_, fun ha => ?_⟩
    · refine ⟨⟨by omega, by simp only [appLim, List.length_append, List.length_singleton]; omega⟩, ⟨rfl, rfl⟩, rfl, ⟨rfl, iE_step hE ha⟩, ?_⟩
      obtain ⟨j, hj, rfl, _⟩ := hE
      rw [wr (by omega)]; omega
    · have e1 := iE_done hE ha
      refine ⟨by omega, ⟨e1, 0, rfl, by omega, rfl⟩, ?_⟩
      intro s2 t2 lo hM
      rw [bcase_dec]
      refine ⟨fun hm => ?_, fun hm => ?_⟩
      · obtain ⟨m1, m2⟩ := iM_step hM (padded_64 _ _) (by omega)
        refine ⟨⟨by omega, by omega, by omega⟩, ⟨by omega, by omega, by omega⟩, by omega, rfl, m1, by omega⟩
      · have e2 := iM_done hM (by omega)
        have e3 : sum0 h.s h.l h.n = outN s2 8 := by rw [e2]; rfl
        refine ⟨by simp only [appLim]; omega, ?_⟩
        repeat (refine ⟨⟨rfl, by simp only [appLim]; omega⟩, ?_⟩)
        rw [e3]
        kernel_rfl
end Go.Proofs.YtomoihkepkmgdaaDoor.H6
/- Package broad: a hash of nothing, how many bytes came, the sum of bytes: what the bodies come to. -/
set_option maxRecDepth 10000
namespace Go.Proofs.YtomoihkepkmgdaaDoor.H6
open Go.Sym Go.Dig R1
def beg : St8 := ⟨7640891576956012808, 13503953896175478587, 4354685564936845355, 11912009170470909681, 5840696475078001361, 11170449401992604703, 2270897969802886507, 6620516959819538809⟩
instance : RetL St8 := ⟨fun s => [.agg s.cells]⟩
def sBegin : SpecF := fspec (α := Unit) total (fun _ => beg)
theorem vcBegin (Q : SV → Prop) : LnRaw tt [] 9 [] {} Tryd.f43 Q () = Q (.agg [.u64 7640891576956012808, .u64 13503953896175478587, .u64 4354685564936845355, .u64 11912009170470909681, .u64 5840696475078001361, .u64 11170449401992604703, .u64 2270897969802886507, .u64 6620516959819538809]) := by kernel_rfl
def spBeg : Specs := [(43, sBegin)]
structure HNew where
instance : RetL HNew := ⟨fun _ => [.ro (cellsW beg 0 (.val (.slice none 0 0))) 0]⟩
def sNewH : SpecF := fspec (α := Unit) total (fun _ => HNew.mk)
theorem vcNewH (Q : SV → Prop) : LfRaw tt spBeg 9 [] {} Tryd.f18 Q () = Q (.ro (cellsW beg 0 (.val (.slice none 0 0))) 0) := by kernel_rfl
/-- A hash that is read, or none. -/
inductive OH where
  | none
  | some (h : RoH)
instance : Enc OH where
  enc | .none => .val (.pointer none)
      | .some h => h.sv
  dec s := match dRoH s with
    | Option.some h => Option.some (.some h)
    | Option.none => match s with
      | .val (.pointer Option.none) => Option.some .none
      | _ => Option.none
  ok := by
    intro s a h at_ w v r
    split at h
    · rename_i x hx
      simp only [Option.some.injEq] at h
      subst h
      rw [dRoH_ok hx] at r; exact r
    · split at h
      · simp only [Option.some.injEq] at h
        subst h; exact r
      · cases h
  nn a := by cases a <;> rfl
theorem vcSumN (Q : SV → Prop) : LfRaw tt spH2 9 [] {} Tryd.f20 Q (OH.none, ()) = Q (.val (.slice none 0 0)) := by kernel_rfl
theorem vcWriteN (p : SV) (Q : SV → List (Option Blk) → Prop) : NnRaw tt spH2 9 [] {} Tryd.f19 [.val (.pointer none), p] [] Q = Q (retSV []) [] := by kernel_rfl
end Go.Proofs.YtomoihkepkmgdaaDoor.H6
/- Package broad: its functions as others call them. -/
set_option maxRecDepth 10000
namespace Go.Proofs.YtomoihkepkmgdaaDoor.H6
open Go.Sym Go.Dig R1
theorem ok_Begin : SpecOK Tryd.prog 43 sBegin := by
  refine fn_okL (by kernel_rfl) tt_ok (.nil _) 9 Tryd.func43 (by decide +kernel) (by kernel_rfl) ?_
  rintro ⟨⟩ _
  exact ⟨_, {}, fun t => t = _, LnVD.of (vcBegin _) rfl, svf⟩
theorem spBeg_ok : SpecsOK Tryd.prog spBeg := .cons ok_Begin (.nil _)
theorem ok_NewH : FSpecOK Tryd.prog 18 sNewH := by
  refine fn_okF (by kernel_rfl) tt_ok spBeg_ok 9 Tryd.func18 (by decide +kernel) (by kernel_rfl) ?_
  rintro ⟨⟩ _
  exact ⟨[], {}, fun x => x = _, LfVD.of (vcNewH _) rfl, fun x h at_ n w v r => by have h' : x = _ := h; subst h'; exact r⟩
def sLen : SpecF := fspec (α := OH × Unit) total (fun a => match a.1 with | .none => (0 : Int) | .some h => IntKind.wrap .i64 (h.n.toNat : Int))
theorem ok_Len : SpecOK Tryd.prog 1000000 Sym.sNo := Sym.sNo_ok _ _
noncomputable def sumO : OH → List UInt8
  | .none => []
  | .some h => sumV h.s h.l h.n
noncomputable def sHSumO : SpecF := fspec (α := OH × Unit) (fun a => some (match a.1 with | .none => True | .some h => h.l.length ≤ 65536)) (fun a => sumO a.1)
theorem ok_HSumO : FSpecOK Tryd.prog 20 sHSumO := by
  intro at_ w svs vs pr r hat hout hgl hs hp hr
  unfold sHSumO fspec at hs
  split at hs
  · rename_i a ha
    obtain ⟨o, _⟩ := a
    simp only [Option.some.injEq, Prod.mk.injEq] at hs
    obtain ⟨rfl, rfl⟩ := hs
    have hr' := Args.ok ha hr
    cases o with
    | some h => exact ok_HSum at_ w _ vs (some (h.l.length ≤ 65536)) _ hat hout hgl (by rfl) hp hr'
    | none =>
      have k : FSpecOK Tryd.prog 20 (fspec (α := OH × Unit) (fun a => some (a.1 = .none)) (fun _ => ([] : List UInt8))) := by
        refine fn_okF (by kernel_rfl) tt_ok spH2_ok 9 Tryd.func20 (by decide +kernel) (by kernel_rfl) ?_
        rintro ⟨o, _⟩ hp
        replace hp : o = .none := hp
        subst hp
        refine ⟨[], {}, fun x => x = .val (.slice none 0 0), LfVD.of (vcSumN _) rfl, fun x h at_ n w v r => ?_⟩
        have h' : x = _ := h
        subst h'
        simp only [FRel, FRel1, Rel] at r
        subst r
        exact .inl ⟨rfl, rfl⟩
      exact k at_ w _ vs (some (OH.none = .none)) _ hat hout hgl (by rfl) rfl hr'
  · cases hs
theorem renN_nn {bs : Nm} {p : SV} (h : p.noName = true) : renN bs p = some p := by
  cases p <;> first | (simp [SV.noName] at h; done) | (simp [renN, h])
def sWriteN : NSpecF := fun _ _ svs =>
  match svs with
  | [.val (.pointer none), p] => if p.noName = true then some ⟨none, retSV [], []⟩ else none
  | _ => none
theorem ok_WriteN : NSpecOK Tryd.prog 19 sWriteN := by
  refine fn_okN (by kernel_rfl) tt_ok spH2_ok 9 (fn := Tryd.f19) Tryd.func19 (by decide +kernel) (by kernel_rfl) (fun look fresh svs out h hp => ?_)
  unfold sWriteN at h
  split at h
  · rename_i p
    split at h
    · rename_i hn
      obtain rfl := Option.some.inj h
      refine ⟨[], [], [.val (.pointer none), p], [.val (.pointer none), p], fun r M => r = retSV [] ∧ M = [], by simp, rfl, nmN, nnN, fun _ _ _ r => r, ?_, NnVD.of (vcWriteN p _) ⟨rfl, rfl⟩, ?_⟩
      · simp only [renNL, renN_nn hn]; rfl
      · rintro r M' ⟨rfl, rfl⟩
        exact ⟨0, 0, rfl⟩
    · cases h
  · cases h
noncomputable def sWriteO : NSpecF := fun look fresh svs =>
  match sWriteN look fresh svs with
  | some o => some o
  | none => sWrite look fresh svs
theorem ok_WriteO : NSpecOK Tryd.prog 19 sWriteO := by
  intro at_ M w look fresh svs vs out hM hl hf h hp hr
  unfold sWriteO at h
  split at h
  · rename_i o ho
    obtain rfl := Option.some.inj h
    exact ok_WriteN at_ M w look fresh svs vs _ hM hl hf ho hp hr
  · exact ok_Write at_ M w look fresh svs vs _ hM hl hf h hp hr
noncomputable def spD : Specs := [(18, .fresh sNewH), (19, .memf sWriteO), (20, .fresh sHSumO)]
theorem spD_ok : SpecsOK Tryd.prog spD := .consF ok_NewH (.consN ok_WriteO (.consF ok_HSumO (.nil _)))
--STOP rOf, nOf, absT, absR, sumV, beg
theorem vcDSum (b : List UInt8) (Q : SV → Prop) : LfRaw tt spD 9 [] {} Tryd.f21 Q (b, ()) =
  ((((0 : Nat) + (0 : Nat) = (0 : Nat)) ∧
   ((List.length (rOf (HashV.mk beg [] (0 : Nat) (0 : Nat) (0 : UInt64)) b) ≤ appLim) ∧
   (True))) ∧
  ((List.length
    (List.drop (0 : Nat)
      (List.take ((0 : Nat) + List.length (absR (rOf (HashV.mk beg [] (0 : Nat) (0 : Nat) (0 : UInt64)) b)))
        (absR (rOf (HashV.mk beg [] (0 : Nat) (0 : Nat) (0 : UInt64)) b)))) ≤
  (65536 : Nat)) ∧
  (Q
  (SV.lst
    (LV.bytes
      (List.drop (0 : Nat)
        (List.take
          ((0 : Nat) +
            List.length
              (sumO
                (OH.some
                  (RoH.mk (absT beg (rOf (HashV.mk beg [] (0 : Nat) (0 : Nat) (0 : UInt64)) b))
                    (List.drop (0 : Nat)
                      (List.take
                        ((0 : Nat) + List.length (absR (rOf (HashV.mk beg [] (0 : Nat) (0 : Nat) (0 : UInt64)) b)))
                        (absR (rOf (HashV.mk beg [] (0 : Nat) (0 : Nat) (0 : UInt64)) b))))
                    (nOf (HashV.mk beg [] (0 : Nat) (0 : Nat) (0 : UInt64)) b)))))
          (sumO
            (OH.some
              (RoH.mk (absT beg (rOf (HashV.mk beg [] (0 : Nat) (0 : Nat) (0 : UInt64)) b))
                (List.drop (0 : Nat)
                  (List.take ((0 : Nat) + List.length (absR (rOf (HashV.mk beg [] (0 : Nat) (0 : Nat) (0 : UInt64)) b)))
                    (absR (rOf (HashV.mk beg [] (0 : Nat) (0 : Nat) (0 : UInt64)) b))))
                (nOf (HashV.mk beg [] (0 : Nat) (0 : Nat) (0 : UInt64)) b))))))))))) := by kernel_rfl
end Go.Proofs.YtomoihkepkmgdaaDoor.H6
/- The reference's functions on digits (1): what they say is so. -/
set_option maxRecDepth 10000
namespace Go.Proofs.YtomoihkepkmgdaaDoor.R1
open Go.Sym Go.Dig

theorem app_one {α : Type} (l : List α) (x : α) : List.drop 0 (List.take l.length l) ++ List.drop 0 (List.take (0 + 1) [x]) = l ++ [x] := by simp
theorem whole {α : Type} (l : List α) : List.drop 0 (List.take (0 + l.length) l) = l := by simp
theorem dg_len_i64 {n : Int} (h : n < 9223372036854775808) : (dg n.toNat).length ≤ 3 := dg_length_lt (by omega)

theorem ok_Int : SpecOK Tryd.prog 41 sInt := by
  refine fn_okL (by kernel_rfl) tt_ok (SpecsOK.nil _) 3 Tryd.func41 (by decide +kernel) (by kernel_rfl) ?_
  rintro ⟨n, _⟩ ⟨h0, h1⟩
  simp only at h0 h1
  refine ⟨[], lInt, isNum n.toNat, LnVD.of (vcInt n _) ?_, fun x h at_ w v r => isNum_ok h r⟩
  refine ⟨⟨rfl, rfl⟩, ⟨h0, by omega, h1, by simp⟩, fun m l ⟨i0, i1, i2, i3⟩ => ?_⟩
  simp only [app_one, whole]
  rw [bcase_dec]
  have hlen := dg_len_i64 h1
  refine ⟨fun hm => ?_, fun hm => ?_⟩
  · rw [tdiv_nn i0, tmod_nn i0, wr (by omega)]
    have e : dg m.toNat = (m % 16777216) :: dg (m / 16777216).toNat := by
      rw [dg_pos (by omega)]
      congr 1
      · omega
      · congr 1; omega
    have i4 : l ++ [m % 16777216] ++ dg (m / 16777216).toNat = dg n.toNat := by
      rw [← i3, e, List.append_assoc]; rfl
    refine ⟨⟨by omega, ?_⟩, ⟨trivial, trivial⟩, trivial, ⟨by omega, by omega, i2, i4⟩, by omega⟩
    rw [← i4, List.length_append] at hlen
    unfold appLim; omega
  · right; left
    have : m = 0 := by omega
    subst this
    simp only [Int.toNat_zero, dg_zero, List.append_nil] at i3
    rw [i3]

theorem add_step {B c x y : Int} (hB : B = 16777216) (hc : 0 ≤ c ∧ c ≤ 1) (hx : 0 ≤ x ∧ x < B) (hy : 0 ≤ y ∧ y < B) : 0 ≤ (c + x + y) / B ∧ (c + x + y) / B ≤ 1 ∧ 0 ≤ (c + x + y) % B ∧ (c + x + y) % B < B ∧ (c + x + y) % B + B * ((c + x + y) / B) = c + x + y := by
  subst hB; omega
theorem ok_Add : SpecOK Tryd.prog 73 sAdd := by
  refine fn_okL (by kernel_rfl) tt_ok (.cons ok_Trim (.nil _)) 3 Tryd.func73 (by decide +kernel) (by kernel_rfl) ?_
  rintro ⟨a, b, _⟩ ⟨⟨ha, hla⟩, hb, hlb⟩
  simp only at ha hla hb hlb
  refine ⟨[], lAdd, isNum (nv a + nv b), LnVD.of (vcAdd a b _) ?_, fun x h at_ w v r => isNum_ok h r⟩
  refine ⟨⟨rfl, rfl⟩, ⟨by omega, by omega, by omega, by omega, fun _ => rfl, Dig.nil, rfl, by simp [val]⟩, fun out c i ⟨i0, i1, c0, c1, ic, hd, hl, hv⟩ => ⟨⟨rfl, rfl⟩, ?_, ?_⟩⟩
  · simp only [bcase_dec, true_and, and_true]
    refine ⟨fun h => by simp [h], fun h => ⟨fun h2 => by simp [h2], fun h2 => by simp [h, h2]⟩⟩
  · rintro l1 t ⟨rfl, rfl⟩
    rw [bcase_iff]
    have da := getD_dig ha i.toNat
    have db := getD_dig hb i.toNat
    refine ⟨fun ht => ⟨⟨rfl, rfl⟩, ?_, ?_⟩, fun ht => ?_⟩
    · simp only [bcase_dec, true_and, and_true]
      refine ⟨fun h => ⟨⟨by omega, h⟩, wr (by omega)⟩, fun h => ?_⟩
      rw [getD_ge (by omega)]; omega
    · rintro l2 c2 ⟨rfl, rfl⟩
      refine ⟨⟨rfl, rfl⟩, ?_, ?_⟩
      · simp only [bcase_dec, true_and, and_true]
        refine ⟨fun h => ⟨⟨by omega, h⟩, wr (by omega)⟩, fun h => ?_⟩
        rw [getD_ge (l := b) (by omega)]; omega
      · rintro l3 c3 ⟨rfl, rfl⟩
        simp only [app_one]
        obtain ⟨s1, s2, s3, s4, s5⟩ := add_step rfl ⟨c0, c1⟩ da db
        have hi1 : i ≤ (max a.length b.length : Nat) := by
          by_cases e : i = (max a.length b.length : Nat) + 1
          · have := ic e
            subst this
            simp at ht; omega
          · omega
        rw [tdiv_nn (by omega), tmod_nn (by omega), wr (x := _ / _) (by omega), wr (x := i + 1) (by omega)]
        refine ⟨⟨by omega, by simp [appLim]; omega⟩, ⟨trivial, trivial⟩, trivial, ⟨by omega, by omega, s1, s2, fun e => ?_, hd.append (Dig.cons s3 s4 Dig.nil), by simp; omega, ?_⟩, by omega⟩
        · have e1 : a.getD i.toNat 0 = 0 := getD_ge (by omega)
          have e2 : b.getD i.toNat 0 = 0 := getD_ge (by omega)
          rw [e1, e2]; omega
        · have e : (i + 1).toNat = i.toNat + 1 := by omega
          have el : l3.length = i.toNat := by omega
          rw [e, val_snoc, val_take_getD, val_take_getD, el, Int.pow_succ]
          generalize (16777216 : Int) ^ i.toNat = p at *
          obtain ⟨s, hs⟩ : ∃ s, s = c + a.getD i.toNat 0 + b.getD i.toNat 0 := ⟨_, rfl⟩
          rw [← hs] at s1 s2 s3 s4 s5 ⊢
          have : p * (s % 16777216) + p * 16777216 * (s / 16777216) = p * s := by rw [Int.mul_assoc, ← Int.mul_add, s5]
          have h2 : p * s = p * c + p * a.getD i.toNat 0 + p * b.getD i.toNat 0 := by
            rw [hs, Int.mul_add, Int.mul_add]
          omega
    · simp only [whole]
      simp at ht
      have e1 : a.take i.toNat = a := List.take_of_length_le (by omega)
      have e2 : b.take i.toNat = b := List.take_of_length_le (by omega)
      have e3 : c = 0 := by omega
      subst e3
      rw [e1, e2] at hv
      refine ⟨⟨hd, by omega⟩, .inl ?_⟩
      have := nv_val hd; have := nv_val ha; have := nv_val hb
      congr 3
      omega

end Go.Proofs.YtomoihkepkmgdaaDoor.R1
/- The reference's functions on digits (2): what they say is so. -/
set_option maxRecDepth 10000
namespace Go.Proofs.YtomoihkepkmgdaaDoor.R1
open Go.Sym Go.Dig

theorem val_set : ∀ (l : List Int) (k : Nat) (x : Int), k < l.length → val (l.set k x) = val l + 16777216 ^ k * (x - l.getD k 0)
  | [], k, x, h => by simp at h
  | d :: l, 0, x, _ => by simp [val]; omega
  | d :: l, k + 1, x, h => by
    have := val_set l k x (by simpa using h)
    simp only [List.set_cons_succ, val, this, List.getD_cons_succ, Int.pow_succ]
    generalize (16777216 : Int) ^ k = p
    generalize x - l.getD k 0 = q
    rw [Int.mul_add, Int.mul_comm p 16777216, Int.mul_assoc]
    omega
theorem Dig.set {l : List Int} (h : Dig l) (k : Nat) {x : Int} (hx : 0 ≤ x ∧ x < 16777216) : Dig (l.set k x) := fun d hd => by
  rcases List.mem_or_eq_of_mem_set hd with hd | rfl
  · exact h d hd
  · exact hx
theorem getD_set (l : List Int) (k j : Nat) (x : Int) (h : j ≠ k) : (l.set k x).getD j 0 = l.getD j 0 := by
  simp only [List.getD_eq_getElem?_getD, List.getElem?_set_ne (Ne.symm h)]
theorem val_cut (l : List Int) (n : Nat) : val l = val (l.take n) + 16777216 ^ n * val (l.drop n) := by
  by_cases h : n ≤ l.length
  · have := val_append (l.take n) (l.drop n)
    rw [List.take_append_drop, List.length_take, Nat.min_eq_left h] at this
    exact this
  · rw [List.take_of_length_le (by omega), List.drop_of_length_le (by omega)]; simp [val]
theorem val_split (l : List Int) (i : Nat) : val l = val (l.take i) + 16777216 ^ i * l.getD i 0 + 16777216 ^ (i + 1) * val (l.drop (i + 1)) := by
  rw [val_cut l (i + 1), val_take_getD]
theorem pw_pos (n : Nat) : (0 : Int) < 16777216 ^ n := Int.pow_pos (by omega)

theorem ok_Sub : SpecOK Tryd.prog 92 sSub := by
  refine fn_okL (by kernel_rfl) tt_ok (.cons ok_Trim (.nil _)) 3 Tryd.func92 (by decide +kernel) (by kernel_rfl) ?_
  rintro ⟨a, b, _⟩ ⟨⟨ha, hla⟩, ⟨hb, hlb⟩, hle⟩
  simp only at ha hla hb hlb hle
  refine ⟨[], lSub, isNum (nv a - nv b), LnVD.of (vcSub a b _) ?_, fun x h at_ w v r => isNum_ok h r⟩
  refine ⟨⟨rfl, rfl⟩, ⟨by omega, by omega, by omega, by omega, Dig.nil, rfl, by simp [val]⟩, fun out c i ⟨i0, i1, c0, c1, hd, hl, hv⟩ => ?_⟩
  have da := getD_dig ha i.toNat
  have db := getD_dig hb i.toNat
  rw [bcase_dec]
  refine ⟨fun hi => ⟨⟨i0, hi⟩, ⟨rfl, rfl⟩, ?_, ?_⟩, fun hi => ?_⟩
  · simp only [bcase_dec, true_and, and_true]
    rw [wr (x := _ - c) (by omega)]
    refine ⟨fun h => ⟨⟨by omega, h⟩, wr (by omega)⟩, fun h => ?_⟩
    rw [getD_ge (l := b) (by omega)]; omega
  · rintro l1 c1' x ⟨rfl, rfl, rfl⟩
    rw [wr (x := _ - c) (by omega)]
    refine ⟨⟨rfl, rfl⟩, ?_, ?_⟩
    · simp only [bcase_dec, true_and, and_true]
      refine ⟨fun h => ?_, fun h => ?_⟩
      · rw [if_pos h, if_pos h]; exact ⟨rfl, wr (by omega)⟩
      · rw [if_neg h, if_neg h]; exact ⟨rfl, rfl⟩
    · rintro l2 c2 x2 ⟨rfl, hc2, hx2⟩
      simp only [app_one]
      rw [wr (x := i + 1) (by omega)]
      have key : 0 ≤ c2 ∧ c2 ≤ 1 ∧ 0 ≤ x2 ∧ x2 < 16777216 ∧ x2 = a.getD i.toNat 0 - c - b.getD i.toNat 0 + 16777216 * c2 := by
        split at hc2 <;> split at hx2 <;> omega
      obtain ⟨k1, k2, k3, k4, k5⟩ := key
      refine ⟨⟨by omega, by simp [appLim]; omega⟩, ⟨trivial, trivial⟩, trivial, ⟨by omega, by omega, k1, k2, hd.append (Dig.cons k3 k4 Dig.nil), by simp; omega, ?_⟩, by omega⟩
      have e : (i + 1).toNat = i.toNat + 1 := by omega
      have el : l2.length = i.toNat := by omega
      rw [e, val_snoc, val_take_getD, val_take_getD, el, Int.pow_succ, k5]
      generalize (16777216 : Int) ^ i.toNat = p at *
      simp only [Int.mul_add, Int.mul_sub]
      rw [Int.mul_assoc]
      omega
  · simp only [whole]
    have e1 : i.toNat = a.length := by omega
    rw [e1, List.take_length] at hv
    have h1 := nv_val hd; have h2 := nv_val ha; have h3 := nv_val hb
    have l1 := val_lt ha
    have l2 := val_lt hd
    have el : out.length = a.length := by omega
    rw [el] at l2
    have hcut := val_cut b a.length
    have d0 := val_nonneg (hb.drop a.length)
    have t0 := val_nonneg (hb.take a.length)
    have p0 := pw_pos a.length
    have hz : val (b.drop a.length) = 0 := by
      by_cases h : val (b.drop a.length) = 0
      · exact h
      · have : 1 ≤ val (b.drop a.length) := by omega
        have := Int.mul_le_mul_of_nonneg_left this (Int.le_of_lt p0)
        omega
    rw [hz] at hcut
    have hc : c = 0 := by
      have : c = 0 ∨ c = 1 := by omega
      rcases this with h | h
      · exact h
      · subst h; omega
    subst hc
    refine ⟨⟨hd, by omega⟩, .inl ?_⟩
    congr 3
    omega

theorem mul_bound {x y : Int} (hx : 0 ≤ x ∧ x < 16777216) (hy : 0 ≤ y ∧ y < 16777216) : 0 ≤ x * y ∧ x * y ≤ 16777215 * 16777215 := by
  refine ⟨Int.mul_nonneg hx.1 hy.1, Int.mul_le_mul (by omega) (by omega) hy.1 (by omega)⟩
theorem ok_Mul : SpecOK Tryd.prog 89 sMul' := by
  refine fn_okL (by kernel_rfl) tt_ok (.cons ok_Trim (.nil _)) 3 Tryd.func89 (by decide +kernel) (by kernel_rfl) ?_
  rintro ⟨a, b, _⟩ ⟨⟨ha, hla⟩, hb, hlb⟩
  simp only at ha hla hb hlb
  refine ⟨[], lMul, isNum (nv a * nv b), LnVD.of (vcMul a b _) ?_, fun x h at_ w v r => isNum_ok h r⟩
  rw [wr (x := (a.length : Int) + b.length) (by omega), wr (x := (a.length : Int) + b.length + 1) (by omega)]
  refine ⟨⟨by omega, rfl, by omega⟩, ⟨rfl, by simp⟩, ⟨by omega, by omega, Dig.replicate _, by simp; omega, fun k _ => ?_, by simp [val, val_replicate]⟩, fun out i ⟨i0, i1, hd, hl, hz, hv⟩ => ?_⟩
  · simp only [List.getD_eq_getElem?_getD, List.getElem?_replicate]; split <;> rfl
  rw [bcase_dec]
  refine ⟨fun hi => ⟨⟨rfl, rfl⟩, ⟨by omega, by omega, by omega, by omega, hd, hl, hz, by simp [val]⟩, fun o c j ⟨j0, j1, c0, c1, hd', hl', hz', hv'⟩ => ?_⟩, fun hi => ?_⟩
  · rw [bcase_dec]
    refine ⟨fun hj => ?_, fun hj => ?_⟩
    · have da := getD_dig ha i.toNat
      have db := getD_dig hb j.toNat
      have dm := mul_bound da db
      have ei : (0 + (i + j).toNat) = i.toNat + j.toNat := by omega
      rw [wr (x := i + j) (by omega), wr (x := _ * _) (by omega), ei]
      have dn := getD_dig hd' (i.toNat + j.toNat)
      rw [wr (x := c + _) (by omega), wr (x := c + _ + _) (by omega), wr (x := j + 1) (by omega)]
      obtain ⟨s, hs⟩ : ∃ s, s = c + o.getD (i.toNat + j.toNat) 0 + a.getD i.toNat 0 * b.getD j.toNat 0 := ⟨_, rfl⟩
      rw [← hs, tdiv_nn (by omega), tmod_nn (by omega), wr (x := s / _) (by omega)]
      refine ⟨⟨by omega, by omega⟩, ⟨i0, hi⟩, ⟨j0, hj⟩, ⟨by omega, by omega⟩, ⟨rfl, by simp⟩, rfl, ⟨by omega, by omega, by omega, by omega, Dig.set hd' _ (by omega), by simp [hl'], fun k hk => ?_, ?_⟩, by omega⟩
      · rw [getD_set _ _ _ _ (by omega)]; exact hz' k hk
      · have e1 : (j + 1).toNat = j.toNat + 1 := by omega
        rw [val_set _ _ _ (by omega), e1, val_take_getD, ← Nat.add_assoc, Int.pow_succ]
        rw [Int.pow_add] at hv' ⊢
        generalize (16777216 : Int) ^ i.toNat = p at *
        generalize (16777216 : Int) ^ j.toNat = q at *
        have e2 : s % 16777216 = s - 16777216 * (s / 16777216) := by omega
        rw [e2, hs]
        generalize (c + o.getD (i.toNat + j.toNat) 0 + a.getD i.toNat 0 * b.getD j.toNat 0) / 16777216 = z
        generalize a.getD i.toNat 0 = x at *
        generalize b.getD j.toNat 0 = y at *
        generalize o.getD (i.toNat + j.toNat) 0 = u at *
        grind
    · have ej : j = b.length := by omega
      subst ej
      have ei : (0 + (i + (b.length : Int)).toNat) = i.toNat + b.length := by omega
      rw [wr (x := i + b.length) (by omega), ei, hz' _ (Nat.le_refl _), wr (x := 0 + c) (by omega), wr (x := i + 1) (by omega)]
      refine ⟨⟨by omega, by omega⟩, ⟨by omega, by omega⟩, ⟨rfl, by simp⟩, rfl, ⟨by omega, by omega, Dig.set hd' _ (by omega), by simp [hl'], fun k hk => ?_, ?_⟩, by omega⟩
      · rw [getD_set _ _ _ _ (by omega)]; exact hz' k (by omega)
      · have e1 : (i + 1).toNat = i.toNat + 1 := by omega
        simp only [Int.toNat_natCast, List.take_length] at hv'
        rw [val_set _ _ _ (by omega), e1, val_take_getD, hz' _ (Nat.le_refl _), Int.add_mul, ← hv, Int.mul_assoc, ← hv']
        simp
  · simp only [whole]
    have e1 : a.take i.toNat = a := List.take_of_length_le (by omega)
    rw [e1] at hv
    refine ⟨⟨hd, by omega⟩, .inl ?_⟩
    have h1 := nv_val hd; have h2 := nv_val ha; have h3 := nv_val hb
    congr 3
    rw [hv, ← h2, ← h3, ← Int.natCast_mul] at h1
    omega

end Go.Proofs.YtomoihkepkmgdaaDoor.R1
/- The reference's functions on digits (3): what they say is so. -/
set_option maxRecDepth 10000
namespace Go.Proofs.YtomoihkepkmgdaaDoor.R1
open Go.Sym Go.Dig

theorem spRT_ok : SpecsOK Tryd.prog spRT := .cons ok_Trim (.nil _)
theorem spRM_ok : SpecsOK Tryd.prog spRM := .cons ok_Mul <| .cons ok_Int spRT_ok
theorem ok_Small : SpecOK Tryd.prog 74 sSmall := by
  refine fn_okL (by kernel_rfl) tt_ok spRM_ok 3 Tryd.func74 (by decide +kernel) (by kernel_rfl) ?_
  rintro ⟨a, n, _⟩ ⟨ha, h0, h1⟩
  simp only at ha h0 h1
  refine ⟨[], {}, isNum (nv a * n.toNat), LnVD.of (vcSmall a n _) ?_, fun x h at_ w v r => isNum_ok h r⟩
  have := dg_len_i64 h1
  refine ⟨⟨h0, h1⟩, ⟨ha, Dg.dg (by omega)⟩, .inl ?_⟩
  rw [nv_dg]

theorem ok_Pow2 : SpecOK Tryd.prog 90 sPow2 := by
  refine fn_okL (by kernel_rfl) tt_ok (.nil _) 3 Tryd.func90 (by decide +kernel) (by kernel_rfl) ?_
  rintro ⟨n, _⟩ ⟨h0, h1⟩
  simp only at h0 h1
  refine ⟨[], lPow2, fun x => x = .i64 (2 ^ n.toNat), LnVD.of (vcPow2 n _) ?_, fun x h at_ w v r => by have h' : x = _ := h; subst h'; exact r⟩
  refine ⟨⟨by omega, h0, rfl⟩, fun x i ⟨i0, i1, hx⟩ => ?_⟩
  rw [bcase_dec]
  refine ⟨fun hi => ?_, fun hi => ?_⟩
  · have e : (i + 1).toNat = i.toNat + 1 := by omega
    have hb : (2 : Int) * x ≤ 2 ^ 62 := by
      rw [hx, Int.mul_comm, ← Int.pow_succ]
      have : (2 : Nat) ^ (i.toNat + 1) ≤ 2 ^ 62 := Nat.pow_le_pow_right (by omega) (by omega)
      exact_mod_cast this
    have hp : 0 ≤ x := by rw [hx]; exact Int.le_of_lt (Int.pow_pos (by omega))
    rw [wr (x := i + 1) (by omega), wr (x := 2 * x) (by omega)]
    refine ⟨rfl, ⟨by omega, by omega, ?_⟩, by omega⟩
    rw [e, Int.pow_succ, hx, Int.mul_comm]
  · have : i = n := by omega
    rw [hx, this]

theorem spRS_ok : SpecsOK Tryd.prog spRS := .cons ok_Small <| .cons ok_Pow2 spRM_ok
theorem pw_cast (n : Nat) : ((16777216 ^ n : Nat) : Int) = 16777216 ^ n := by rw [Int.natCast_pow]; rfl
theorem pw_le {x y : Nat} (h : x ≤ y) : (16777216 : Int) ^ x ≤ 16777216 ^ y := by
  have := Int.ofNat_le.2 (Nat.pow_le_pow_right (show 0 < 16777216 by omega) h)
  rw [pw_cast, pw_cast] at this; exact this
theorem pw_lt_nat {u n : Nat} (h : (u : Int) < 16777216 ^ n) : u < 16777216 ^ n := by rw [← pw_cast] at h; exact Int.ofNat_lt.1 h
theorem pow24 (q : Nat) : (16777216 : Nat) ^ q = 2 ^ (24 * q) := by rw [Nat.pow_mul]
theorem pow2_le {k n : Nat} (h : k ≤ n) : (2 : Nat) ^ k ≤ 2 ^ n := Nat.pow_le_pow_right (by omega) h
theorem pow2_nat (k : Nat) : ((2 : Int) ^ k).toNat = 2 ^ k := by
  have : ((2 : Int) ^ k) = ((2 ^ k : Nat) : Int) := by simp
  rw [this]; rfl
theorem ok_Shift : SpecOK Tryd.prog 79 sShift := by
  refine fn_okL (by kernel_rfl) tt_ok spRS_ok 3 Tryd.func79 (by decide +kernel) (by kernel_rfl) ?_
  rintro ⟨a, n, _⟩ ⟨ha, hl, h0, h1⟩
  simp only at ha hl h0 h1
  refine ⟨[], {}, isNum (nv a * 2 ^ n.toNat), LnVD.of (vcShift a n _) ?_, fun x h at_ w v r => isNum_ok h r⟩
  rw [bcase_iff]
  refine ⟨fun hz => ?_, fun hz => ?_⟩
  · have : a = [] := List.eq_nil_of_length_eq_zero (by simpa using hz)
    subst this
    exact .inr (.inr ⟨by simp [nv_nil], rfl⟩)
  · rw [tdiv_nn h0, tmod_nn h0, wr (x := n / 24) (by omega)]
    have e1 : List.drop 0 (List.take (List.replicate (n / 24).toNat (0 : Int)).length (List.replicate (n / 24).toNat (0 : Int))) = List.replicate (n / 24).toNat (0 : Int) := by simp
    rw [e1, whole]
    have hd : Dig (List.replicate (n / 24).toNat (0 : Int) ++ a) := (Dig.replicate _).append ha
    have hp := pow2_le (k := (n % 24).toNat) (n := 62) (by omega)
    have hpn := pow2_nat (n % 24).toNat
    refine ⟨⟨by omega, rfl, by omega⟩, ⟨by simp, by simp [appLim]; omega⟩, ⟨by omega, by omega⟩, ⟨⟨hd, by simp; omega⟩, Int.le_of_lt (Int.pow_pos (by omega)), by omega⟩, .inl ?_⟩
    rw [hpn]
    have e2 : nv (List.replicate (n / 24).toNat (0 : Int) ++ a) = 2 ^ (24 * (n / 24).toNat) * nv a := by
      have e4 := nv_val hd
      rw [val_append, val_replicate, List.length_replicate, ← nv_val ha, Int.zero_add] at e4
      rw [← pow24]
      rw [← pw_cast, ← Int.natCast_mul] at e4
      exact Int.ofNat_inj.1 e4
    have e3 : nv a * 2 ^ n.toNat = nv (List.replicate (n / 24).toNat (0 : Int) ++ a) * 2 ^ (n % 24).toNat := by
      rw [e2, Nat.mul_comm (2 ^ _) (nv a), Nat.mul_assoc, ← Nat.pow_add, show 24 * (n / 24).toNat + (n % 24).toNat = n.toNat by omega]
    rw [e3]

theorem spRP_ok : SpecsOK Tryd.prog spRP := .cons ok_Shift spRS_ok
theorem ok_Power : SpecOK Tryd.prog 1000001 Sym.sNo := Sym.sNo_ok _ _
/-- How long a number's digits are. -/
theorem can_top {l : List Int} (h : Can l) (hl : l ≠ []) : l.getD (l.length - 1) 0 ≠ 0 := by
  have hd := h.dig
  have e : l = dg (nv l) := h.1
  have hlen : 0 < l.length := List.length_pos_iff.2 hl
  intro e0
  have hlast : (dg (nv l)).getLast? = some 0 := by
    rw [← e, List.getLast?_eq_getElem?, List.getElem?_eq_getElem (by omega)]
    rw [getD_lt (by omega)] at e0
    rw [e0]
  exact dg_last 0 hlast rfl
theorem can_ge {l : List Int} (h : Can l) (hl : l ≠ []) : 16777216 ^ (l.length - 1) * (l.getD (l.length - 1) 0) ≤ val l ∧ val l = val (l.take (l.length - 1)) + 16777216 ^ (l.length - 1) * l.getD (l.length - 1) 0 := by
  have hlen : 0 < l.length := List.length_pos_iff.2 hl
  have h1 := val_split l (l.length - 1)
  rw [show l.length - 1 + 1 = l.length by omega, List.drop_length] at h1
  simp only [val, Int.mul_zero, Int.add_zero] at h1
  have := val_nonneg (h.dig.take (l.length - 1))
  exact ⟨by omega, h1⟩
theorem can_lt {a b : List Int} (ha : Can a) (hb : Can b) (h : a.length < b.length) : nv a < nv b := by
  have hne : b ≠ [] := by rintro rfl; simp at h
  have h1 := (can_ge hb hne).1
  have h2 := can_top hb hne
  have h3 := (getD_dig hb.dig (b.length - 1)).1
  have h4 := val_lt ha.dig
  have h5 : (16777216 : Int) ^ a.length ≤ 16777216 ^ (b.length - 1) := pw_le (by omega)
  have h6 := Int.mul_le_mul_of_nonneg_left (show (1 : Int) ≤ b.getD (b.length - 1) 0 by omega) (Int.le_of_lt (pw_pos (b.length - 1)))
  have := nv_val ha.dig; have := nv_val hb.dig
  omega
theorem dig_lt {a b : List Int} (ha : Dig a) (hb : Dig b) (i : Nat) (h1 : a.drop (i + 1) = b.drop (i + 1)) (h2 : a.getD i 0 < b.getD i 0) : nv a < nv b := by
  have e1 := val_split a i
  have e2 := val_split b i
  rw [h1] at e1
  have l1 := val_lt (ha.take i)
  have l2 := val_nonneg (hb.take i)
  have hle : (16777216 : Int) ^ (a.take i).length ≤ 16777216 ^ i := pw_le (by simp; omega)
  have h6 := Int.mul_le_mul_of_nonneg_left (show a.getD i 0 + 1 ≤ b.getD i 0 by omega) (Int.le_of_lt (pw_pos i))
  rw [Int.mul_add] at h6
  have := nv_val ha; have := nv_val hb
  omega
theorem cmpN_lt {x y : Nat} (h : x < y) : cmpN x y = -1 := if_pos h
theorem cmpN_gt {x y : Nat} (h : y < x) : cmpN x y = 1 := by unfold cmpN; rw [if_neg (by omega), if_pos h]
theorem cmpN_eq (x : Nat) : cmpN x x = 0 := by unfold cmpN; rw [if_neg (by omega), if_neg (by omega)]
theorem ok_Cmp : SpecOK Tryd.prog 55 sCmp := by
  refine fn_okL (by kernel_rfl) tt_ok (.nil _) 3 Tryd.func55 (by decide +kernel) (by kernel_rfl) ?_
  rintro ⟨a, b, _⟩ ⟨ha, hb⟩
  simp only at ha hb
  refine ⟨[], lCmp, fun x => x = .i64 (cmpN (nv a) (nv b)), LnVD.of (vcCmp a b _) ?_, fun x h at_ w v r => by have h' : x = _ := h; subst h'; exact r⟩
  have hla := ha.2
  have hlb := hb.2
  simp only [bcase_dec]
  refine ⟨fun h => by rw [cmpN_lt (can_lt ha hb (by omega))], fun h => ⟨fun h' => by rw [cmpN_gt (can_lt hb ha (by omega))], fun h' => ?_⟩⟩
  rw [wr (x := (a.length : Int) - 1) (by omega)]
  refine ⟨⟨by omega, by omega, by omega, ?_⟩, fun i ⟨i0, i1, i2, i3⟩ => ⟨fun hi => ?_, fun hi => ?_⟩⟩
  · rw [List.drop_of_length_le (by omega), List.drop_of_length_le (by omega)]
  · have e : (i + 1).toNat = i.toNat + 1 := by omega
    rw [e] at i3
    refine ⟨⟨by omega, by omega⟩, ⟨by omega, by omega⟩, fun hlt => ?_, fun hlt => ⟨⟨by omega, by omega⟩, ⟨by omega, by omega⟩, fun hgt => ?_, fun hgt => ?_⟩⟩
    · rw [cmpN_lt (dig_lt ha.dig hb.dig _ i3 hlt)]
    · rw [cmpN_gt (dig_lt hb.dig ha.dig _ i3.symm hgt)]
    · rw [wr (x := i - 1) (by omega)]
      refine ⟨trivial, ⟨by omega, by omega, i2, ?_⟩, by omega⟩
      have e2 : (i - 1 + 1).toNat = i.toNat := by omega
      have hi' : i.toNat < a.length := by omega
      have hi2 : i.toNat < b.length := by omega
      rw [e2, List.drop_eq_getElem_cons hi', List.drop_eq_getElem_cons hi2, i3]
      rw [getD_lt hi', getD_lt hi2] at hlt hgt
      congr 1
      omega
  · have : (i + 1).toNat = 0 := by omega
    rw [this] at i3
    simp only [List.drop_zero] at i3
    rw [i3, cmpN_eq]

/-- A digit of a number. -/
theorem digit_nat {l : List Int} (h : Dig l) (q : Nat) : nv l / 16777216 ^ q % 16777216 = (l.getD q 0).toNat := by
  have h1 := val_split l q
  have h2 := nv_val h
  have h3 := getD_dig h q
  have t0 := val_nonneg (h.take q)
  have d0 := val_nonneg (h.drop (q + 1))
  have t1 := val_lt (h.take q)
  have hle : (16777216 : Int) ^ (l.take q).length ≤ 16777216 ^ q := pw_le (by simp; omega)
  obtain ⟨t, ht⟩ : ∃ t : Nat, val (l.take q) = t := ⟨(val (l.take q)).toNat, by omega⟩
  obtain ⟨u, hu⟩ : ∃ u : Nat, val (l.drop (q + 1)) = u := ⟨(val (l.drop (q + 1))).toNat, by omega⟩
  obtain ⟨d, hd⟩ : ∃ d : Nat, l.getD q 0 = d := ⟨(l.getD q 0).toNat, by omega⟩
  rw [ht, hu, hd, Int.pow_succ] at h1
  have e : nv l = t + 16777216 ^ q * (d + 16777216 * u) := by
    have : (nv l : Int) = t + 16777216 ^ q * (d + 16777216 * u) := by rw [h2, h1, Int.mul_add, Int.mul_assoc]; omega
    rw [← pw_cast] at this
    apply Int.ofNat_inj.1
    rw [this]; simp only [Int.natCast_add, Int.natCast_mul]; rfl
  have ht2 : t < 16777216 ^ q := pw_lt_nat (by omega)
  rw [e, Nat.add_mul_div_left _ _ (Nat.pow_pos (by omega)), Nat.div_eq_of_lt ht2, hd]
  simp only [Int.toNat_natCast]
  omega
theorem bit_mod (m r : Nat) (hr : r < 24) : m % 16777216 / 2 ^ r % 2 = m / 2 ^ r % 2 := by
  have e : (16777216 : Nat) = 2 ^ r * 2 ^ (24 - r) := by rw [← Nat.pow_add, show r + (24 - r) = 24 by omega]
  rw [e, Nat.mod_mul_right_div_self, Nat.mod_mod_of_dvd]
  refine ⟨2 ^ (24 - r - 1), ?_⟩
  rw [← Nat.pow_succ', show (24 - r - 1).succ = 24 - r by omega]
theorem ok_Bit : SpecOK Tryd.prog 1000000 Sym.sNo := Sym.sNo_ok _ _
theorem bitsN_of {m n : Nat} (h : m < 2 ^ n) (h' : m ≠ 0 → 0 < n ∧ 2 ^ (n - 1) ≤ m) (h0 : m = 0 → n = 0) : bitsN m = n := by
  unfold bitsN
  split
  · rename_i e; exact (h0 e).symm
  · rename_i e
    obtain ⟨h1, h2⟩ := h' e
    have : Nat.log2 m = n - 1 := (Nat.log2_eq_iff e).2 ⟨h2, by rw [show n - 1 + 1 = n by omega]; exact h⟩
    omega
theorem ok_Bits : SpecOK Tryd.prog 50 sBits := by
  refine fn_okL (by kernel_rfl) tt_ok (.nil _) 3 Tryd.func50 (by decide +kernel) (by kernel_rfl) ?_
  rintro ⟨a, _⟩ ha
  replace ha : Can a := ha
  refine ⟨[], lBits, fun x => x = .i64 (bitsN (nv a)), LnVD.of (vcBits a _) ?_, fun x h at_ w v r => by have h' : x = _ := h; subst h'; exact r⟩
  have hla := ha.2
  rw [bcase_iff]
  refine ⟨fun hz => ?_, fun hz => ?_⟩
  · have : a = [] := List.eq_nil_of_length_eq_zero (by simpa using hz)
    subst this; rfl
  · have hne : a ≠ [] := by rintro rfl; simp at hz
    have hlen : 0 < a.length := List.length_pos_iff.2 hne
    have e1 : ((a.length : Int) - 1).toNat = a.length - 1 := by omega
    have ht := getD_dig ha.dig (a.length - 1)
    have htop := can_top ha hne
    obtain ⟨t, htt⟩ : ∃ t : Nat, a.getD (a.length - 1) 0 = t := ⟨(a.getD (a.length - 1) 0).toNat, by omega⟩
    have hge := (can_ge ha hne).2
    rw [wr (x := (a.length : Int) - 1) (by omega), wr (x := 24 * _) (by omega), e1]
    refine ⟨⟨by omega, by omega⟩, ⟨0, by omega, by rw [Nat.pow_zero, Nat.div_one]; omega, by omega, by omega⟩, fun n x ⟨k, k1, k2, k3, k4⟩ => ?_⟩
    simp only [htt, Int.toNat_natCast] at k2 k4
    rw [bcase_dec]
    refine ⟨fun hx => ?_, fun hx => ?_⟩
    · have hle : t / 2 ^ k ≤ t := Nat.div_le_self _ _
      have hk : k < 24 := by
        by_cases e : k = 24
        · subst e
          have : t / 2 ^ 24 = 0 := Nat.div_eq_of_lt (by omega)
          omega
        · omega
      obtain ⟨z, hz⟩ : ∃ z, z = t / 2 ^ k := ⟨_, rfl⟩
      rw [← hz] at k2 hle
      rw [wr (x := n + 1) (by omega), tdiv_nn (by omega), wr (x := x / 2) (by omega)]
      refine ⟨rfl, ⟨k + 1, by omega, ?_, by omega, fun _ => ?_⟩, by omega⟩
      · simp only [htt, Int.toNat_natCast]
        rw [Nat.pow_succ, ← Nat.div_div_eq_div_mul, ← hz, k2]; rfl
      · simp only [htt, Int.toNat_natCast, Nat.add_sub_cancel]; omega
    · have hz : t / 2 ^ k = 0 := by generalize t / 2 ^ k = z at *; omega
      have hlt : t < 2 ^ k := by
        rcases Nat.div_eq_zero_iff.1 hz with h | h
        · have := Nat.pow_pos (n := k) (show 0 < 2 by omega); omega
        · exact h
      have hk0 : 0 < k := by
        by_cases e : k = 0
        · subst e; simp at hlt; omega
        · omega
      have k5 := k4 hk0
      have hge2 : 2 ^ (k - 1) ≤ t := by
        by_cases e : 2 ^ (k - 1) ≤ t
        · exact e
        · exact absurd (Nat.div_eq_of_lt (by omega)) k5
      rw [htt] at hge
      have tl := val_lt (ha.dig.take (a.length - 1))
      have t0 := val_nonneg (ha.dig.take (a.length - 1))
      rw [List.length_take, Nat.min_eq_left (by omega)] at tl
      obtain ⟨u, hu⟩ : ∃ u : Nat, val (a.take (a.length - 1)) = u := ⟨(val (a.take (a.length - 1))).toNat, by omega⟩
      have hnv := nv_val ha.dig
      have e2 : nv a = u + 16777216 ^ (a.length - 1) * t := by
        have : (nv a : Int) = u + 16777216 ^ (a.length - 1) * t := by rw [hnv, hge, hu]
        rw [← pw_cast] at this
        apply Int.ofNat_inj.1
        rw [this]; simp only [Int.natCast_add, Int.natCast_mul]
      have hu2 : u < 16777216 ^ (a.length - 1) := pw_lt_nat (by omega)
      have hn : n = ((24 * (a.length - 1) + k : Nat) : Int) := by omega
      rw [hn]
      congr 1
      have := bitsN_of (m := nv a) (n := 24 * (a.length - 1) + k) ?_ (fun _ => ⟨by omega, ?_⟩) (fun e => ?_)
      · rw [this]
      · rw [e2, Nat.pow_add, ← pow24]
        have h1 := Nat.mul_le_mul_left (16777216 ^ (a.length - 1)) (show t + 1 ≤ 2 ^ k by omega)
        rw [Nat.mul_add] at h1
        omega
      · rw [e2, show 24 * (a.length - 1) + k - 1 = 24 * (a.length - 1) + (k - 1) by omega, Nat.pow_add, ← pow24]
        have := Nat.mul_le_mul_left (16777216 ^ (a.length - 1)) hge2
        omega
      · rw [e2] at e
        have h1 := Nat.mul_pos (Nat.pow_pos (n := a.length - 1) (show 0 < 16777216 by omega)) (show 0 < t by omega)
        omega

end Go.Proofs.YtomoihkepkmgdaaDoor.R1
/- The reference's functions on digits (4): words and bytes: what they say, and what their bodies come to. -/
set_option maxRecDepth 10000
namespace Go.Proofs.YtomoihkepkmgdaaDoor.R1
open Go.Sym Go.Dig

--STOP Go.Dig.Dig, Dg, Can

def iDown (a : List Int) (n i : Int) (out : List Int) : Prop := n / 24 ≤ i ∧ (i ≤ a.length ∨ i = n / 24) ∧ Dig out ∧ (out.length : Int) = i - n / 24 ∧ nv out = nv a / 2 ^ n.toNat % 16777216 ^ out.length
def lDown : Plan := { loops := [(0, { β := List Int × Int × Int × Int × Unit, α := OwnI × Int × Unit, same := [0, 1, 5, 6], keep := [7, 8], inv := fun b _ x => iDown b.1 b.2.1 x.2.1 x.1.l, meas := fun b x => (b.1.length - x.2.1).toNat })], forks := [(8, { β := List Int × Int × Int × Int × Int × Unit, γ := OwnI × Int × Unit, α := OwnI × Int × Unit, same := [0, 1, 5, 6, 8], pre := [7, 9], keep := [7, 9], inv := fun b g x => x.1.l = g.1.l ∧ x.2.1 = g.2.1 + b.1.getD (b.2.2.2.2.1 + 1).toNat 0 % b.2.2.1 * b.2.2.2.1 })] }
def sDown : SpecF := fspec (α := List Int × Int × Unit) (β := Num) (fun a => some (Dg a.1 ∧ 0 ≤ a.2.1 ∧ a.2.1 ≤ 1073741824)) (fun a => ⟨nv a.1 / 2 ^ a.2.1.toNat⟩)

/-- A number's lowest words. -/
def wordsL (m n : Nat) : List UInt64 := (List.range n).map fun w => UInt64.ofNat (m / 2 ^ (64 * w))
def iTwA (a : List Int) (n i : Int) (out : List UInt64) : Prop := 0 ≤ i ∧ i ≤ a.length ∧ out = wordsL (nv a % 2 ^ (24 * i.toNat)) n.toNat
def iTwB (a : List Int) (n i k : Int) (out : List UInt64) : Prop := 0 ≤ k ∧ k ≤ 24 ∧ out = wordsL (nv a % 2 ^ (24 * i.toNat + k.toNat)) n.toNat
def iTwC (t : Int) (out0 : List UInt64) (x : UInt64) (j : Int) (out : List UInt64) : Prop := out = out0 ∧ 0 ≤ j ∧ j ≤ t % 64 ∧ x = UInt64.ofNat (2 ^ j.toNat)
def lToWords : Plan := { loops := [(0, { β := List Int × Int × Unit, α := OwnW × Int × Unit, same := [0, 1], keep := [5, 6], inv := fun b _ x => iTwA b.1 b.2.1 x.2.1 x.1.l, meas := fun b x => (b.1.length - x.2.1).toNat }), (2, { β := List Int × Int × Int × Unit, α := OwnW × Int × Unit, same := [0, 1, 6], keep := [5, 7], inv := fun b _ x => iTwB b.1 b.2.1 b.2.2.1 x.2.1 x.1.l, meas := fun _ x => (24 - x.2.1).toNat }), (4, { β := List Int × Int × Int × Int × Int × Unit, α := OwnW × UInt64 × Int × Unit, same := [0, 1, 6, 7, 8], keep := [5, 9, 10], inv := fun b x0 x => iTwC b.2.2.2.2.1 x0.1.l x.2.1 x.2.2.1 x.1.l, meas := fun b x => (b.2.2.2.2.1 % 64 - x.2.2.1).toNat })] }
theorem vcToWords (a : List Int) (n : Int) (Q : SV → Prop) : LnRaw tt spRS 3 [] lToWords Tryd.f75 Q (a, n, ()) =
  ((((0 : Int) ≤ n) ∧
   ((n = n) ∧
   (n ≤ (1099511627776 : Int)))) ∧
  ((((0 : Nat) = (0 : Nat)) ∧
   (Int.toNat n = List.length (List.replicate (Int.toNat n) (0 : UInt64)))) ∧
  ((iTwA a n (0 : Int) (List.replicate (Int.toNat n) (0 : UInt64))) ∧
  (∀ l : List UInt64,
  (∀ a_1 : Int,
  ((iTwA a n a_1 l) →
  bcase (decide (a_1 < (↑(List.length a) : Int)))
    (((((0 : Nat) = (0 : Nat)) ∧
     (List.length l = List.length l)) ∧
    ((iTwB a n a_1 (0 : Int) l) ∧
    (∀ l_1 : List UInt64,
    (∀ a_2 : Int,
    ((iTwB a n a_1 a_2 l_1) →
    bcase (decide (a_2 < (24 : Int)))
      (((((0 : Int) ≤ a_1) ∧
       (a_1 < (↑(List.length a) : Int))) ∧
      ((((0 : Int) ≤ a_2) ∧
       (a_2 ≤ (62 : Int))) ∧
      (((2 : Int) ^ Int.toNat a_2 ≠ (0 : Int)) ∧
      bcase (Int.tmod (IntKind.wrap IntKind.i64 (Int.tdiv (List.getD a (Int.toNat a_1) (0 : Int)) ((2 : Int) ^ Int.toNat a_2)))
    (2 : Int) ==
  (1 : Int))
        (bcase (decide
  (IntKind.wrap IntKind.i64 (IntKind.wrap IntKind.i64 ((24 : Int) * a_1) + a_2) <
    IntKind.wrap IntKind.i64 ((64 : Int) * n)))
          (((((0 : Nat) = (0 : Nat)) ∧
           (List.length l_1 = List.length l_1)) ∧
          ((iTwC (IntKind.wrap IntKind.i64 (IntKind.wrap IntKind.i64 ((24 : Int) * a_1) + a_2)) l_1
  (UInt64.ofNat (Int.toNat (1 : Int))) (0 : Int) l_1) ∧
          (∀ l_2 : List UInt64,
          (∀ a_3 : UInt64,
          (∀ a_4 : Int,
          ((iTwC (IntKind.wrap IntKind.i64 (IntKind.wrap IntKind.i64 ((24 : Int) * a_1) + a_2)) l_1 a_3 a_4 l_2) →
          bcase (decide (a_4 < Int.tmod (IntKind.wrap IntKind.i64 (IntKind.wrap IntKind.i64 ((24 : Int) * a_1) + a_2)) (64 : Int)))
            (((((0 : Nat) = (0 : Nat)) ∧
             (List.length l_2 = List.length l_2)) ∧
            (((a, n, a_1, a_2, IntKind.wrap IntKind.i64 (IntKind.wrap IntKind.i64 ((24 : Int) * a_1) + a_2), ()) =
  (a, n, a_1, a_2, IntKind.wrap IntKind.i64 (IntKind.wrap IntKind.i64 ((24 : Int) * a_1) + a_2), ())) ∧
            ((iTwC (IntKind.wrap IntKind.i64 (IntKind.wrap IntKind.i64 ((24 : Int) * a_1) + a_2)) l_1
  (UInt64.ofNat (Int.toNat (2 : Int)) * a_3) (IntKind.wrap IntKind.i64 (a_4 + (1 : Int))) l_2) ∧
            (Int.toNat
    (IntKind.wrap IntKind.i64 (IntKind.wrap IntKind.i64 ((24 : Int) * a_1) + a_2) % (64 : Int) -
      IntKind.wrap IntKind.i64 (a_4 + (1 : Int))) <
  Int.toNat (IntKind.wrap IntKind.i64 (IntKind.wrap IntKind.i64 ((24 : Int) * a_1) + a_2) % (64 : Int) - a_4))))))
            (((((0 : Int) ≤
  IntKind.wrap IntKind.i64
    (Int.tdiv (IntKind.wrap IntKind.i64 (IntKind.wrap IntKind.i64 ((24 : Int) * a_1) + a_2)) (64 : Int))) ∧
             (IntKind.wrap IntKind.i64
    (Int.tdiv (IntKind.wrap IntKind.i64 (IntKind.wrap IntKind.i64 ((24 : Int) * a_1) + a_2)) (64 : Int)) <
  (↑(List.length l_2) : Int))) ∧
            ((((0 : Int) ≤
  IntKind.wrap IntKind.i64
    (Int.tdiv (IntKind.wrap IntKind.i64 (IntKind.wrap IntKind.i64 ((24 : Int) * a_1) + a_2)) (64 : Int))) ∧
             (IntKind.wrap IntKind.i64
    (Int.tdiv (IntKind.wrap IntKind.i64 (IntKind.wrap IntKind.i64 ((24 : Int) * a_1) + a_2)) (64 : Int)) <
  (↑(List.length l_2) : Int))) ∧
            ((((0 : Nat) = (0 : Nat)) ∧
             (List.length l_2 =
  List.length
    (List.set l_2
      ((0 : Nat) +
        Int.toNat
          (IntKind.wrap IntKind.i64
            (Int.tdiv (IntKind.wrap IntKind.i64 (IntKind.wrap IntKind.i64 ((24 : Int) * a_1) + a_2)) (64 : Int))))
      (List.getD l_2
          ((0 : Nat) +
            Int.toNat
              (IntKind.wrap IntKind.i64
                (Int.tdiv (IntKind.wrap IntKind.i64 (IntKind.wrap IntKind.i64 ((24 : Int) * a_1) + a_2)) (64 : Int))))
          (0 : UInt64) +
        a_3)))) ∧
            (((a, n, a_1, ()) = (a, n, a_1, ())) ∧
            ((iTwB a n a_1 (IntKind.wrap IntKind.i64 (a_2 + (1 : Int)))
  (List.set l_2
    ((0 : Nat) +
      Int.toNat
        (IntKind.wrap IntKind.i64
          (Int.tdiv (IntKind.wrap IntKind.i64 (IntKind.wrap IntKind.i64 ((24 : Int) * a_1) + a_2)) (64 : Int))))
    (List.getD l_2
        ((0 : Nat) +
          Int.toNat
            (IntKind.wrap IntKind.i64
              (Int.tdiv (IntKind.wrap IntKind.i64 (IntKind.wrap IntKind.i64 ((24 : Int) * a_1) + a_2)) (64 : Int))))
        (0 : UInt64) +
      a_3))) ∧
            (Int.toNat ((24 : Int) - IntKind.wrap IntKind.i64 (a_2 + (1 : Int))) < Int.toNat ((24 : Int) - a_2)))))))))))))))
          (((((0 : Nat) = (0 : Nat)) ∧
           (List.length l_1 = List.length l_1)) ∧
          (((a, n, a_1, ()) = (a, n, a_1, ())) ∧
          ((iTwB a n a_1 (IntKind.wrap IntKind.i64 (a_2 + (1 : Int))) l_1) ∧
          (Int.toNat ((24 : Int) - IntKind.wrap IntKind.i64 (a_2 + (1 : Int))) < Int.toNat ((24 : Int) - a_2)))))))
        (((((0 : Nat) = (0 : Nat)) ∧
         (List.length l_1 = List.length l_1)) ∧
        (((a, n, a_1, ()) = (a, n, a_1, ())) ∧
        ((iTwB a n a_1 (IntKind.wrap IntKind.i64 (a_2 + (1 : Int))) l_1) ∧
        (Int.toNat ((24 : Int) - IntKind.wrap IntKind.i64 (a_2 + (1 : Int))) < Int.toNat ((24 : Int) - a_2))))))))))
      (((((0 : Nat) = (0 : Nat)) ∧
       (List.length l_1 = List.length l_1)) ∧
      (((a, n, ()) = (a, n, ())) ∧
      ((iTwA a n (IntKind.wrap IntKind.i64 (a_1 + (1 : Int))) l_1) ∧
      (Int.toNat ((↑(List.length a) : Int) - IntKind.wrap IntKind.i64 (a_1 + (1 : Int))) <
  Int.toNat ((↑(List.length a) : Int) - a_1))))))))))))
    ((Q (SV.lst (LV.words (List.drop (0 : Nat) (List.take ((0 : Nat) + List.length l) l)))))))))))) := by kernel_rfl
def sToWords : SpecF := fspec (α := List Int × Int × Unit) (β := List UInt64) (fun a => some (Dg a.1 ∧ 0 ≤ a.2.1 ∧ a.2.1 ≤ 1048576)) (fun a => wordsL (nv a.1) a.2.1.toNat)

/-- A number out of words, the lowest first. -/
def wv : List UInt64 → Nat
  | [] => 0
  | x :: l => x.toNat + 18446744073709551616 * wv l
def iWords (l : List UInt64) (out : Nat) (i : Int) : Prop := -1 ≤ i ∧ i < l.length ∧ out = wv (l.drop (i + 1).toNat)
def lWords : Plan := { loops := [(0, { β := List UInt64 × Unit, α := Num × Int × Unit, same := [0], keep := [3, 4], inv := fun b _ x => iWords b.1 x.1.n x.2.1, meas := fun _ x => (x.2.1 + 1).toNat })] }
def spRW : Specs := (73, sAdd) :: spRP
theorem vcWords (l : List UInt64) (Q : SV → Prop) : LnRaw tt spRW 3 [] lWords Tryd.f61 Q (l, ()) =
  ((iWords l (0 : Nat) (IntKind.wrap IntKind.i64 ((↑(List.length l) : Int) - (1 : Int)))) ∧
  (∀ a : Num,
  (∀ a_1 : Int,
  ((iWords l (Num.n a) a_1) →
  bcase (decide (a_1 ≥ (0 : Int)))
    (((((0 : Int) ≤ a_1) ∧
     (a_1 < (↑(List.length l) : Int))) ∧
    (((Dig (dg (Num.n a))) ∧
     ((List.length (dg (Num.n a)) ≤ (536870912 : Nat)) ∧
     (((0 : Int) ≤ (64 : Int)) ∧
     ((64 : Int) ≤ (1073741824 : Int))))) ∧
    (((Dg (dg (nv (dg (Num.n a)) * (2 : Nat) ^ Int.toNat (64 : Int)))) ∧
     (Dg
  (List.drop (0 : Nat)
    (List.take ((0 : Nat) + (3 : Nat))
      [IntKind.wrap IntKind.i64
          (↑(UInt64.toNat (List.getD l (Int.toNat a_1) (0 : UInt64) % UInt64.ofNat (Int.toNat (16777216 : Int)))) :
            Int),
        IntKind.wrap IntKind.i64
          (↑(UInt64.toNat
                (List.getD l (Int.toNat a_1) (0 : UInt64) / UInt64.ofNat (Int.toNat (16777216 : Int)) %
                  UInt64.ofNat (Int.toNat (16777216 : Int)))) :
            Int),
        IntKind.wrap IntKind.i64
          (↑(UInt64.toNat
                (List.getD l (Int.toNat a_1) (0 : UInt64) / UInt64.ofNat (Int.toNat (281474976710656 : Int)))) :
            Int)])))) ∧
    (((l, ()) = (l, ())) ∧
    ((iWords l
  (nv (dg (nv (dg (Num.n a)) * (2 : Nat) ^ Int.toNat (64 : Int))) +
    nv
      (List.drop (0 : Nat)
        (List.take ((0 : Nat) + (3 : Nat))
          [IntKind.wrap IntKind.i64
              (↑(UInt64.toNat (List.getD l (Int.toNat a_1) (0 : UInt64) % UInt64.ofNat (Int.toNat (16777216 : Int)))) :
                Int),
            IntKind.wrap IntKind.i64
              (↑(UInt64.toNat
                    (List.getD l (Int.toNat a_1) (0 : UInt64) / UInt64.ofNat (Int.toNat (16777216 : Int)) %
                      UInt64.ofNat (Int.toNat (16777216 : Int)))) :
                Int),
            IntKind.wrap IntKind.i64
              (↑(UInt64.toNat
                    (List.getD l (Int.toNat a_1) (0 : UInt64) / UInt64.ofNat (Int.toNat (281474976710656 : Int)))) :
                Int)])))
  (IntKind.wrap IntKind.i64 (a_1 - (1 : Int)))) ∧
    (Int.toNat (IntKind.wrap IntKind.i64 (a_1 - (1 : Int)) + (1 : Int)) < Int.toNat (a_1 + (1 : Int)))))))))
    ((((Dig (dg (Num.n a))) ∧
     (List.length (dg (Num.n a)) ≤ (4294967296 : Nat))) ∧
    (Q (SV.lst (LV.num (nv (dg (Num.n a)))))))))))) := by kernel_rfl
def sWords : SpecF := fspec (α := List UInt64 × Unit) (β := Num) (fun a => some (a.1.length ≤ 1048576)) (fun a => ⟨wv a.1⟩)

def fourN (n : Nat) : Four := ⟨UInt64.ofNat n, UInt64.ofNat (n / 2 ^ 64), UInt64.ofNat (n / 2 ^ 128), UInt64.ofNat (n / 2 ^ 192)⟩
def spRF : Specs := [(75, sToWords), (61, sWords)]
theorem vcFour (a : List Int) (Q : SV → Prop) : LnRaw tt spRF 3 [] {} Tryd.f56 Q (a, ()) =
  (((Dg a) ∧
   (((0 : Int) ≤ (4 : Int)) ∧
   ((4 : Int) ≤ (1048576 : Int)))) ∧
  ((((0 : Int) ≤ (0 : Int)) ∧
   ((0 : Int) < (↑(List.length (wordsL (nv a) (Int.toNat (4 : Int)))) : Int))) ∧
  ((((0 : Int) ≤ (1 : Int)) ∧
   ((1 : Int) < (↑(List.length (wordsL (nv a) (Int.toNat (4 : Int)))) : Int))) ∧
  ((((0 : Int) ≤ (2 : Int)) ∧
   ((2 : Int) < (↑(List.length (wordsL (nv a) (Int.toNat (4 : Int)))) : Int))) ∧
  ((((0 : Int) ≤ (3 : Int)) ∧
   ((3 : Int) < (↑(List.length (wordsL (nv a) (Int.toNat (4 : Int)))) : Int))) ∧
  (Q
  (SV.agg
    [SV.u64 (List.getD (wordsL (nv a) (Int.toNat (4 : Int))) (Int.toNat (0 : Int)) (0 : UInt64)),
      SV.u64 (List.getD (wordsL (nv a) (Int.toNat (4 : Int))) (Int.toNat (1 : Int)) (0 : UInt64)),
      SV.u64 (List.getD (wordsL (nv a) (Int.toNat (4 : Int))) (Int.toNat (2 : Int)) (0 : UInt64)),
      SV.u64 (List.getD (wordsL (nv a) (Int.toNat (4 : Int))) (Int.toNat (3 : Int)) (0 : UInt64))]))))))) := by kernel_rfl
def sFour : SpecF := fspec (α := List Int × Unit) (β := Four) (fun a => some (Dg a.1)) (fun a => fourN (nv a.1))
theorem vcOf (a : Four) (Q : SV → Prop) : LnRaw tt spRF 3 [] {} Tryd.f51 Q (a, ()) =
  ((List.length (List.drop (0 : Nat) (List.take ((0 : Nat) + (4 : Nat)) [Four.w0 a, Four.w1 a, Four.w2 a, Four.w3 a])) ≤
  (1048576 : Nat)) ∧
  (Q
  (SV.lst
    (LV.num
      (wv (List.drop (0 : Nat) (List.take ((0 : Nat) + (4 : Nat)) [Four.w0 a, Four.w1 a, Four.w2 a, Four.w3 a]))))))) := by kernel_rfl
def sOf : SpecF := fspec (α := Four × Unit) (β := Num) total (fun a => ⟨wv [a.1.w0, a.1.w1, a.1.w2, a.1.w3]⟩)

/-- A number out of bytes, the highest first. -/
def bev (b : List UInt8) : Nat := b.foldl (fun n x => n * 256 + x.toNat) 0
def iBig (b : List UInt8) (out : Nat) (i : Int) : Prop := 0 ≤ i ∧ i ≤ b.length ∧ out = bev (b.take i.toNat)
def lBig : Plan := { loops := [(0, { β := List UInt8 × Unit, α := Num × Int × Unit, same := [0], keep := [3, 4], inv := fun b _ x => iBig b.1 x.1.n x.2.1, meas := fun b x => (b.1.length - x.2.1).toNat })] }
theorem vcBig (b : List UInt8) (Q : SV → Prop) : LnRaw tt ((73, sAdd) :: spRS) 3 [] lBig Tryd.f53 Q (b, ()) =
  ((iBig b (0 : Nat) (0 : Int)) ∧
  (∀ a : Num,
  (∀ a_1 : Int,
  ((iBig b (Num.n a) a_1) →
  bcase (decide (a_1 < (↑(List.length b) : Int)))
    ((((Dg (dg (Num.n a))) ∧
     (((0 : Int) ≤ (256 : Int)) ∧
     ((256 : Int) < (9223372036854775808 : Int)))) ∧
    ((((0 : Int) ≤ a_1) ∧
     (a_1 < (↑(List.length b) : Int))) ∧
    ((((0 : Int) ≤ (↑(UInt8.toNat (List.getD b (Int.toNat a_1) (0 : UInt8))) : Int)) ∧
     ((↑(UInt8.toNat (List.getD b (Int.toNat a_1) (0 : UInt8))) : Int) < (9223372036854775808 : Int))) ∧
    (((Dg (dg (nv (dg (Num.n a)) * Int.toNat (256 : Int)))) ∧
     (Dg (dg (Int.toNat (↑(UInt8.toNat (List.getD b (Int.toNat a_1) (0 : UInt8))) : Int))))) ∧
    (((b, ()) = (b, ())) ∧
    ((iBig b
  (nv (dg (nv (dg (Num.n a)) * Int.toNat (256 : Int))) +
    nv (dg (Int.toNat (↑(UInt8.toNat (List.getD b (Int.toNat a_1) (0 : UInt8))) : Int))))
  (IntKind.wrap IntKind.i64 (a_1 + (1 : Int)))) ∧
    (Int.toNat ((↑(List.length b) : Int) - IntKind.wrap IntKind.i64 (a_1 + (1 : Int))) <
  Int.toNat ((↑(List.length b) : Int) - a_1)))))))))
    ((Q (SV.lst (LV.num (Num.n a))))))))) := by kernel_rfl
def sBig : SpecF := fspec (α := List UInt8 × Unit) (β := Num) (fun a => some (a.1.length ≤ 1048576)) (fun a => ⟨bev a.1⟩)

def iTurned (b : List UInt8) (out : List UInt8) (i : Int) : Prop := -1 ≤ i ∧ i < b.length ∧ out = (b.drop (i + 1).toNat).reverse
def lTurned : Plan := { loops := [(0, { β := List UInt8 × Unit, α := OwnB × Int × Unit, same := [0], keep := [3, 4], inv := fun b _ x => iTurned b.1 x.1.l x.2.1, meas := fun _ x => (x.2.1 + 1).toNat })] }
theorem vcTurned (b : List UInt8) (Q : SV → Prop) : LnRaw tt [] 3 [] lTurned Tryd.f63 Q (b, ()) =
  ((((0 : Nat) = (0 : Nat)) ∧
   ((0 : Nat) = List.length (List.replicate (0 : Nat) (0 : UInt8)))) ∧
  ((iTurned b (List.replicate (0 : Nat) (0 : UInt8)) (IntKind.wrap IntKind.i64 ((↑(List.length b) : Int) - (1 : Int)))) ∧
  (∀ l : List UInt8,
  (∀ a : Int,
  ((iTurned b l a) →
  bcase (decide (a ≥ (0 : Int)))
    (((((0 : Int) ≤ a) ∧
     (a < (↑(List.length b) : Int))) ∧
    ((((0 : Nat) + List.length l = List.length l) ∧
     (List.length
    (List.drop (0 : Nat) (List.take (List.length l) l) ++
      List.drop (0 : Nat) (List.take ((0 : Nat) + (1 : Nat)) [List.getD b (Int.toNat a) (0 : UInt8)])) ≤
  appLim)) ∧
    ((((0 : Nat) = (0 : Nat)) ∧
     (List.length
    (List.drop (0 : Nat) (List.take (List.length l) l) ++
      List.drop (0 : Nat) (List.take ((0 : Nat) + (1 : Nat)) [List.getD b (Int.toNat a) (0 : UInt8)])) =
  List.length
    (List.drop (0 : Nat) (List.take (List.length l) l) ++
      List.drop (0 : Nat) (List.take ((0 : Nat) + (1 : Nat)) [List.getD b (Int.toNat a) (0 : UInt8)])))) ∧
    (((b, ()) = (b, ())) ∧
    ((iTurned b
  (List.drop (0 : Nat) (List.take (List.length l) l) ++
    List.drop (0 : Nat) (List.take ((0 : Nat) + (1 : Nat)) [List.getD b (Int.toNat a) (0 : UInt8)]))
  (IntKind.wrap IntKind.i64 (a - (1 : Int)))) ∧
    (Int.toNat (IntKind.wrap IntKind.i64 (a - (1 : Int)) + (1 : Int)) < Int.toNat (a + (1 : Int)))))))))
    ((Q (SV.lst (LV.bytes (List.drop (0 : Nat) (List.take ((0 : Nat) + List.length l) l))))))))))) := by kernel_rfl
def sTurned : SpecF := fspec (α := List UInt8 × Unit) (β := List UInt8) (fun a => some (a.1.length ≤ 4294967296)) (fun a => a.1.reverse)
def spRB : Specs := [(53, sBig), (63, sTurned)]
def sLittle : SpecF := fspec (α := List UInt8 × Unit) (β := Num) (fun a => some (a.1.length ≤ 1048576)) (fun a => ⟨bev a.1.reverse⟩)

/-- A number's lowest bytes, the lowest first. -/
def bytesN (m n : Nat) : List UInt8 := (List.range n).map fun i => UInt8.ofNat (m / 256 ^ i)
def iTlA (a : List Int) (n i : Int) (out : List UInt8) : Prop := 0 ≤ i ∧ i ≤ n ∧ out = (List.range n.toNat).map fun j => if j < i.toNat then UInt8.ofNat (nv a / 256 ^ j) else 0
def iTlB (a : List Int) (i : Int) (out0 : List UInt8) (x k : Int) (out : List UInt8) : Prop := out = out0 ∧ 0 ≤ k ∧ k ≤ i % 3 ∧ x = (((a.getD (i / 3).toNat 0).toNat / 256 ^ k.toNat : Nat) : Int)
def lToLittle : Plan := { loops := [(0, { β := List Int × Int × Unit, α := OwnB × Int × Unit, same := [0, 1], keep := [5, 6], inv := fun b _ x => iTlA b.1 b.2.1 x.2.1 x.1.l, meas := fun b x => (b.2.1 - x.2.1).toNat }), (2, { β := List Int × Int × Int × Unit, α := OwnB × Int × Int × Unit, same := [0, 1, 6], keep := [5, 7, 8], inv := fun b x0 x => iTlB b.1 b.2.2.1 x0.1.l x.2.1 x.2.2.1 x.1.l, meas := fun b x => (b.2.2.1 % 3 - x.2.2.1).toNat })] }
theorem vcToLittle (a : List Int) (n : Int) (Q : SV → Prop) : LnRaw tt [] 3 [] lToLittle Tryd.f64 Q (a, n, ()) =
  ((((0 : Int) ≤ n) ∧
   ((n = n) ∧
   (n ≤ (1099511627776 : Int)))) ∧
  ((((0 : Nat) = (0 : Nat)) ∧
   (Int.toNat n = List.length (List.replicate (Int.toNat n) (0 : UInt8)))) ∧
  ((iTlA a n (0 : Int) (List.replicate (Int.toNat n) (0 : UInt8))) ∧
  (∀ l : List UInt8,
  (∀ a_1 : Int,
  ((iTlA a n a_1 l) →
  bcase (decide (a_1 < n))
    (bcase (decide (IntKind.wrap IntKind.i64 (Int.tdiv a_1 (3 : Int)) < (↑(List.length a) : Int)))
      (((((0 : Int) ≤ IntKind.wrap IntKind.i64 (Int.tdiv a_1 (3 : Int))) ∧
       (IntKind.wrap IntKind.i64 (Int.tdiv a_1 (3 : Int)) < (↑(List.length a) : Int))) ∧
      ((((0 : Nat) = (0 : Nat)) ∧
       (List.length l = List.length l)) ∧
      ((iTlB a a_1 l (List.getD a (Int.toNat (IntKind.wrap IntKind.i64 (Int.tdiv a_1 (3 : Int)))) (0 : Int)) (0 : Int) l) ∧
      (∀ l_1 : List UInt8,
      (∀ a_2 : Int,
      (∀ a_3 : Int,
      ((iTlB a a_1 l a_2 a_3 l_1) →
      bcase (decide (a_3 < Int.tmod a_1 (3 : Int)))
        (((((0 : Nat) = (0 : Nat)) ∧
         (List.length l_1 = List.length l_1)) ∧
        (((a, n, a_1, ()) = (a, n, a_1, ())) ∧
        ((iTlB a a_1 l (IntKind.wrap IntKind.i64 (Int.tdiv a_2 (256 : Int))) (IntKind.wrap IntKind.i64 (a_3 + (1 : Int))) l_1) ∧
        (Int.toNat (a_1 % (3 : Int) - IntKind.wrap IntKind.i64 (a_3 + (1 : Int))) < Int.toNat (a_1 % (3 : Int) - a_3))))))
        (((((0 : Int) ≤ a_1) ∧
         (a_1 < (↑(List.length l_1) : Int))) ∧
        ((((0 : Nat) = (0 : Nat)) ∧
         (List.length l_1 = List.length (List.set l_1 ((0 : Nat) + Int.toNat a_1) (UInt8.ofInt (Int.tmod a_2 (256 : Int)))))) ∧
        (((a, n, ()) = (a, n, ())) ∧
        ((iTlA a n (IntKind.wrap IntKind.i64 (a_1 + (1 : Int)))
  (List.set l_1 ((0 : Nat) + Int.toNat a_1) (UInt8.ofInt (Int.tmod a_2 (256 : Int))))) ∧
        (Int.toNat (n - IntKind.wrap IntKind.i64 (a_1 + (1 : Int))) < Int.toNat (n - a_1)))))))))))))))
      (((((0 : Nat) = (0 : Nat)) ∧
       (List.length l = List.length l)) ∧
      (((a, n, ()) = (a, n, ())) ∧
      ((iTlA a n (IntKind.wrap IntKind.i64 (a_1 + (1 : Int))) l) ∧
      (Int.toNat (n - IntKind.wrap IntKind.i64 (a_1 + (1 : Int))) < Int.toNat (n - a_1)))))))
    ((Q (SV.lst (LV.bytes (List.drop (0 : Nat) (List.take ((0 : Nat) + List.length l) l)))))))))))) := by kernel_rfl
def sToLittle : SpecF := fspec (α := List Int × Int × Unit) (β := List UInt8) (fun a => some (Dg a.1 ∧ 0 ≤ a.2.1 ∧ a.2.1 ≤ 1048576)) (fun a => bytesN (nv a.1) a.2.1.toNat)
theorem vcToBig (a : List Int) (n : Int) (Q : SV → Prop) : LnRaw tt ((64, sToLittle) :: spRB) 3 [] {} Tryd.f40 Q (a, n, ()) =
  (((Dg a) ∧
   (((0 : Int) ≤ n) ∧
   (n ≤ (1048576 : Int)))) ∧
  ((List.length (bytesN (nv a) (Int.toNat n)) ≤ (4294967296 : Nat)) ∧
  (Q (SV.lst (LV.bytes (List.reverse (bytesN (nv a) (Int.toNat n)))))))) := by kernel_rfl
def sToBig : SpecF := fspec (α := List Int × Int × Unit) (β := List UInt8) (fun a => some (Dg a.1 ∧ 0 ≤ a.2.1 ∧ a.2.1 ≤ 1048576)) (fun a => (bytesN (nv a.1) a.2.1.toNat).reverse)

def iSame (a b : List UInt8) (i : Int) : Prop := 0 ≤ i ∧ i ≤ a.length ∧ a.length = b.length ∧ a.take i.toNat = b.take i.toNat
def lSame : Plan := { loops := [(0, { β := List UInt8 × List UInt8 × Unit, α := Int × Unit, same := [0, 1], keep := [5], inv := fun b _ x => iSame b.1 b.2.1 x.1, meas := fun b x => (b.1.length - x.1).toNat })] }
theorem vcSame (a b : List UInt8) (Q : SV → Prop) : LnRaw tt [] 3 [] lSame Tryd.f10 Q (a, b, ()) =
  bcase ((↑(List.length a) : Int) != (↑(List.length b) : Int))
    ((Q (SV.bool false)))
    (((iSame a b (0 : Int)) ∧
    (∀ a_1 : Int,
    ((iSame a b a_1) →
    bcase (decide (a_1 < (↑(List.length a) : Int)))
      (((((0 : Int) ≤ a_1) ∧
       (a_1 < (↑(List.length a) : Int))) ∧
      ((((0 : Int) ≤ a_1) ∧
       (a_1 < (↑(List.length b) : Int))) ∧
      bcase (List.getD a (Int.toNat a_1) (0 : UInt8) != List.getD b (Int.toNat a_1) (0 : UInt8))
        ((Q (SV.bool false)))
        ((((a, b, ()) = (a, b, ())) ∧
        ((iSame a b (IntKind.wrap IntKind.i64 (a_1 + (1 : Int)))) ∧
        (Int.toNat ((↑(List.length a) : Int) - IntKind.wrap IntKind.i64 (a_1 + (1 : Int))) <
  Int.toNat ((↑(List.length a) : Int) - a_1))))))))
      ((Q (SV.bool true))))))) := by kernel_rfl
def sSame : SpecF := fspec (α := List UInt8 × List UInt8 × Unit) (β := Bool) (fun a => some (a.1.length ≤ 4294967296)) (fun a => decide (a.1 = a.2.1))
end Go.Proofs.YtomoihkepkmgdaaDoor.R1
/- The reference's functions on digits (5): words and bytes: what they say is so. -/
set_option maxRecDepth 10000
namespace Go.Proofs.YtomoihkepkmgdaaDoor.R1
open Go.Sym Go.Dig

theorem dlen {m : Nat} (k : Nat) (h : m < 2 ^ (24 * k)) : (dg m).length ≤ k := dg_length_lt (by rw [pow24]; exact h)
theorem dlen2 {m K n : Nat} (h : m < 2 ^ K) (hn : K ≤ 24 * n) : (dg m).length ≤ n := dlen n (Nat.lt_of_lt_of_le h (pow2_le hn))
theorem down_digit (m i r : Nat) (hr : r < 24) : m / 16777216 ^ i / 2 ^ r % 16777216 = m / 16777216 ^ i % 16777216 / 2 ^ r + m / 16777216 ^ (i + 1) % 16777216 % 2 ^ r * 2 ^ (24 - r) := by
  have e1 : m / 16777216 ^ (i + 1) = m / 16777216 ^ i / 16777216 := by rw [Nat.pow_succ, Nat.div_div_eq_div_mul]
  rw [e1]
  generalize m / 16777216 ^ i = M
  have hB : (16777216 : Nat) = 2 ^ r * 2 ^ (24 - r) := by rw [← Nat.pow_add, show r + (24 - r) = 24 by omega]
  have p1 : 0 < 2 ^ r := Nat.pow_pos (by omega)
  have p2 : 0 < 2 ^ (24 - r) := Nat.pow_pos (by omega)
  have e2 : M / 16777216 % 16777216 % 2 ^ r = M / 16777216 % 2 ^ r := Nat.mod_mod_of_dvd _ ⟨_, hB⟩
  rw [e2]
  have e3 : M / 2 ^ r = M % 16777216 / 2 ^ r + 2 ^ (24 - r) * (M / 16777216) := by
    have : M = M % 16777216 + 2 ^ r * (2 ^ (24 - r) * (M / 16777216)) := by rw [← Nat.mul_assoc, ← hB]; omega
    conv => lhs; rw [this]
    rw [Nat.add_mul_div_left _ _ p1]
  have e4 : 2 ^ (24 - r) * (M / 16777216) = 16777216 * (M / 16777216 / 2 ^ r) + M / 16777216 % 2 ^ r * 2 ^ (24 - r) := by
    have := Nat.div_add_mod (M / 16777216) (2 ^ r)
    conv => lhs; rw [← this]
    rw [Nat.mul_add, ← Nat.mul_assoc, Nat.mul_comm (2 ^ (24 - r)) (2 ^ r), ← hB, Nat.mul_comm (2 ^ (24 - r))]
  have l1 : M % 16777216 / 2 ^ r < 2 ^ (24 - r) := Nat.div_lt_of_lt_mul (by rw [← hB]; omega)
  have l2 : (M / 16777216 % 2 ^ r + 1) * 2 ^ (24 - r) ≤ 2 ^ r * 2 ^ (24 - r) := Nat.mul_le_mul_right _ (Nat.mod_lt _ p1)
  rw [← hB, Nat.add_mul, Nat.one_mul] at l2
  rw [e3, e4]
  generalize M % 16777216 / 2 ^ r = x at *
  generalize M / 16777216 % 2 ^ r * 2 ^ (24 - r) = y at *
  generalize M / 16777216 / 2 ^ r = z at *
  omega
theorem nv_snoc {l : List Int} {d : Int} (h : Dig (l ++ [d])) (d' : Nat) (hd : d = d') : nv (l ++ [d]) = nv l + 16777216 ^ l.length * d' := by
  subst hd
  have h1 := nv_val h
  have h2 : Dig l := fun x hx => h x (by simp [hx])
  rw [val_snoc, ← nv_val h2, ← pw_cast, ← Int.natCast_mul, ← Int.natCast_add] at h1
  exact Int.ofNat_inj.1 h1
theorem nv_lt {l : List Int} (h : Dig l) : nv l < 16777216 ^ l.length := pw_lt_nat (by rw [nv_val h]; exact val_lt h)

theorem ok_Down : SpecOK Tryd.prog 1000000 Sym.sNo := Sym.sNo_ok _ _
theorem u64_ofNat_add (a b : Nat) : UInt64.ofNat (a + 18446744073709551616 * b) = UInt64.ofNat a := by
  apply UInt64.toNat_inj.1
  simp only [UInt64.toNat_ofNat']
  omega
theorem word_low {M t w : Nat} (hw : w < t / 64) : UInt64.ofNat ((M + 2 ^ t) / 2 ^ (64 * w)) = UInt64.ofNat (M / 2 ^ (64 * w)) := by
  have e : 2 ^ t = 2 ^ (64 * w) * (2 ^ 64 * 2 ^ (t - 64 * w - 64)) := by rw [← Nat.pow_add, ← Nat.pow_add]; congr 1; omega
  rw [e, Nat.add_mul_div_left _ _ (Nat.pow_pos (by omega))]
  exact u64_ofNat_add _ _
theorem word_at {M t : Nat} : UInt64.ofNat ((M + 2 ^ t) / 2 ^ (64 * (t / 64))) = UInt64.ofNat (M / 2 ^ (64 * (t / 64))) + UInt64.ofNat (2 ^ (t % 64)) := by
  have e : 2 ^ t = 2 ^ (64 * (t / 64)) * 2 ^ (t % 64) := by rw [← Nat.pow_add]; congr 1; omega
  rw [e, Nat.add_mul_div_left _ _ (Nat.pow_pos (by omega)), UInt64.ofNat_add]
theorem word_high {M t w : Nat} (hM : M < 2 ^ t) (hw : t / 64 < w) : UInt64.ofNat ((M + 2 ^ t) / 2 ^ (64 * w)) = UInt64.ofNat (M / 2 ^ (64 * w)) := by
  have h : 2 ^ (t + 1) ≤ 2 ^ (64 * w) := pow2_le (by omega)
  rw [Nat.pow_succ] at h
  rw [Nat.div_eq_of_lt (by omega), Nat.div_eq_of_lt (by omega)]
theorem wordsL_len (m n : Nat) : (wordsL m n).length = n := by simp [wordsL]
theorem wordsL_get (m n w : Nat) (h : w < n) : (wordsL m n).getD w 0 = UInt64.ofNat (m / 2 ^ (64 * w)) := by
  rw [List.getD_eq_getElem?_getD, List.getElem?_eq_getElem (by rw [wordsL_len]; exact h)]
  simp [wordsL]
theorem wordsL_ext {l : List UInt64} {m n : Nat} (hl : l.length = n) (h : ∀ w, w < n → l.getD w 0 = UInt64.ofNat (m / 2 ^ (64 * w))) : l = wordsL m n := by
  apply List.ext_getElem (by rw [wordsL_len, hl])
  intro w h1 h2
  have := h w (by omega)
  rw [List.getD_eq_getElem?_getD, List.getElem?_eq_getElem h1] at this
  simpa [wordsL] using this
theorem wordsL_out {M t n : Nat} (ht : 64 * n ≤ t) : wordsL (M + 2 ^ t) n = wordsL M n := by
  refine wordsL_ext (wordsL_len _ _) (fun w hw => ?_) |>.symm ▸ rfl
  rw [wordsL_get _ _ _ hw, word_low (by omega)]
theorem wordsL_set {M t n : Nat} (hM : M < 2 ^ t) (_ht : t < 64 * n) : (wordsL M n).set (t / 64) ((wordsL M n).getD (t / 64) 0 + UInt64.ofNat (2 ^ (t % 64))) = wordsL (M + 2 ^ t) n := by
  refine wordsL_ext (by simp [wordsL_len]) (fun w hw => ?_)
  by_cases e : w = t / 64
  · subst e
    rw [List.getD_eq_getElem?_getD, List.getElem?_set_self (by rw [wordsL_len]; exact hw), wordsL_get _ _ _ hw, word_at]; rfl
  · rw [List.getD_eq_getElem?_getD, List.getElem?_set_ne (Ne.symm e), ← List.getD_eq_getElem?_getD, wordsL_get _ _ _ hw]
    by_cases h : w < t / 64
    · rw [word_low h]
    · rw [word_high hM (by omega)]

theorem ok_ToWords : SpecOK Tryd.prog 75 sToWords := by
  refine fn_okL (by kernel_rfl) tt_ok spRS_ok 3 Tryd.func75 (by decide +kernel) (by kernel_rfl) ?_
  rintro ⟨a, n, _⟩ ⟨⟨ha, hla⟩, h0, h1⟩
  simp only at ha hla h0 h1
  refine ⟨[], lToWords, fun x => x = .lst (.words (wordsL (nv a) n.toNat)), LnVD.of (vcToWords a n _) ?_, fun x h at_ w v r => by have h' : x = _ := h; subst h'; exact r⟩
  refine ⟨⟨h0, rfl, by omega⟩, ⟨rfl, by simp⟩, ⟨by omega, by omega, ?_⟩, fun out i ⟨i0, i1, hv⟩ => ?_⟩
  · refine wordsL_ext (by simp) (fun w hw => ?_)
    simp [List.getD_eq_getElem?_getD, hw, Nat.mod_one]
  rw [bcase_dec]
  refine ⟨fun hi => ⟨⟨rfl, rfl⟩, ⟨by omega, by omega, by simpa using hv⟩, fun o k ⟨k0, k1, hv2⟩ => ?_⟩, fun hi => ?_⟩
  · rw [bcase_dec]
    refine ⟨fun hk => ?_, fun hk => ?_⟩
    · obtain ⟨K, hK⟩ : ∃ K : Nat, k = K := ⟨k.toNat, by omega⟩
      subst hK
      obtain ⟨I, hI⟩ : ∃ I : Nat, i = I := ⟨i.toNat, by omega⟩
      subst hI
      simp only [Int.toNat_natCast] at hv2 hv ⊢
      have da := getD_dig ha I
      obtain ⟨d, hd⟩ : ∃ d : Nat, a.getD I 0 = d := ⟨(a.getD I 0).toNat, by omega⟩
      have ek : ((2 : Int) ^ K) = ((2 ^ K : Nat) : Int) := by simp
      have pk : 0 < 2 ^ K := Nat.pow_pos (by omega)
      have hle : d / 2 ^ K ≤ d := Nat.div_le_self _ _
      have hbit : nv a / 2 ^ (24 * I + K) % 2 = d / 2 ^ K % 2 := by
        have := digit_nat ha I
        rw [hd, Int.toNat_natCast] at this
        rw [← this, bit_mod _ _ (by omega), pow24, Nat.div_div_eq_div_mul, ← Nat.pow_add]
      have hsucc := Nat.mod_pow_succ (x := nv a) (b := 2) (k := 24 * I + K)
      rw [hbit] at hsucc
      have hmod : nv a % 2 ^ (24 * I + K) < 2 ^ (24 * I + K) := Nat.mod_lt _ (Nat.pow_pos (by omega))
      rw [wr (x := 24 * (I : Int)) (by omega), wr (x := 24 * (I : Int) + K) (by omega), wr (x := (K : Int) + 1) (by omega), wr (x := 64 * n) (by omega), ek, hd, tdiv_nn (by omega), ← Int.natCast_ediv]
      have e1 : ((K : Int) + 1).toNat = K + 1 := by omega
      generalize d / 2 ^ K = z at *
      rw [wr (x := (z : Int)) (by omega), tmod_nn (by omega)]
      refine ⟨⟨by omega, hi⟩, ⟨by omega, by omega⟩, by omega, ?_⟩
      rw [bcase_iff, bcase_dec]
      refine ⟨fun hb => ⟨fun ht => ⟨⟨by trivial, by trivial⟩, ⟨rfl, by omega, by omega, by trivial⟩, fun o2 x j ⟨ho, j0, j1, hx⟩ => ?_⟩, fun ht => ⟨⟨by trivial, by trivial⟩, by trivial, ⟨by omega, by omega, ?_⟩, by omega⟩⟩, fun hb => ⟨⟨by trivial, by trivial⟩, by trivial, ⟨by omega, by omega, ?_⟩, by omega⟩⟩
      · have hb : z % 2 = 1 := by simp at hb; omega
        rw [hb, Nat.mul_one] at hsucc
        rw [tmod_nn (by omega), tdiv_nn (by omega), bcase_dec]
        subst ho
        refine ⟨fun hj => ?_, fun hj => ?_⟩
        · rw [wr (x := j + 1) (by omega)]
          refine ⟨⟨by trivial, by trivial⟩, by trivial, ⟨by trivial, by omega, by omega, ?_⟩, by omega⟩
          rw [hx, show (j + 1).toNat = j.toNat + 1 by omega, Nat.pow_succ', UInt64.ofNat_mul]; rfl
        · have ej : j.toNat = (24 * I + K) % 64 := by omega
          rw [wr (x := (24 * (I : Int) + K) / 64) (by omega)]
          have e2 : (0 + ((24 * (I : Int) + K) / 64).toNat) = (24 * I + K) / 64 := by omega
          have hlen : o2.length = n.toNat := by rw [hv2, wordsL_len]
          rw [e2]
          refine ⟨⟨by omega, by omega⟩, ⟨by omega, by omega⟩, ⟨by trivial, by simp⟩, by trivial, ⟨by omega, by omega, ?_⟩, by omega⟩
          simp only [Int.toNat_natCast]; rw [e1, ← Nat.add_assoc, hsucc, hx, ej, hv2]
          exact wordsL_set hmod (by omega)
      · have hb : z % 2 = 1 := by simp at hb; omega
        rw [hb, Nat.mul_one] at hsucc
        simp only [Int.toNat_natCast, e1]
        rw [← Nat.add_assoc, hsucc, wordsL_out (by omega), hv2]
      · have hb : z % 2 = 0 := by simp at hb; omega
        rw [hb, Nat.mul_zero] at hsucc
        simp only [Int.toNat_natCast, e1]
        rw [← Nat.add_assoc, hsucc, hv2]; rfl
    · have : k = 24 := by omega
      subst this
      rw [wr (x := i + 1) (by omega)]
      refine ⟨⟨rfl, rfl⟩, rfl, ⟨by omega, by omega, ?_⟩, by omega⟩
      rw [hv2]
      congr 3
      omega
  · simp only [whole]
    have : nv a < 2 ^ (24 * i.toNat) := by rw [← pow24, show i.toNat = a.length by omega]; exact nv_lt ha
    rw [hv, Nat.mod_eq_of_lt this]

end Go.Proofs.YtomoihkepkmgdaaDoor.R1
/- The reference's functions on digits (6): words and bytes: what they say is so. -/
set_option maxRecDepth 10000
namespace Go.Proofs.YtomoihkepkmgdaaDoor.R1
open Go.Sym Go.Dig

theorem wv_lt : ∀ l : List UInt64, wv l < 2 ^ (64 * l.length)
  | [] => by simp [wv]
  | x :: l => by
    have := wv_lt l
    have := u64_lt x
    simp only [wv, List.length_cons]
    rw [show 64 * (l.length + 1) = 64 * l.length + 64 by omega, Nat.pow_add]
    omega
theorem wv_drop (l : List UInt64) (i : Nat) (h : i < l.length) : wv (l.drop i) = (l.getD i 0).toNat + 18446744073709551616 * wv (l.drop (i + 1)) := by
  rw [List.drop_eq_getElem_cons h, List.getD_eq_getElem?_getD, List.getElem?_eq_getElem h]; rfl
theorem c24 : UInt64.ofNat (Int.toNat 16777216) = 16777216 := rfl
theorem c48 : UInt64.ofNat (Int.toNat 281474976710656) = 281474976710656 := rfl
theorem u24 (x : UInt64) : (x % 16777216).toNat = x.toNat % 16777216 := by rw [UInt64.toNat_mod]; rfl
theorem v24 (x : UInt64) : (x / 16777216).toNat = x.toNat / 16777216 := by rw [UInt64.toNat_div]; rfl
theorem v48 (x : UInt64) : (x / 281474976710656).toNat = x.toNat / 281474976710656 := by rw [UInt64.toNat_div]; rfl
theorem spRW_ok : SpecsOK Tryd.prog spRW := .cons ok_Add spRP_ok
theorem ok_Words : SpecOK Tryd.prog 61 sWords := by
  refine fn_okL (by kernel_rfl) tt_ok spRW_ok 3 Tryd.func61 (by decide +kernel) (by kernel_rfl) ?_
  rintro ⟨l, _⟩ hl
  replace hl : l.length ≤ 1048576 := hl
  refine ⟨[], lWords, isNum (wv l), LnVD.of (vcWords l _) ?_, fun x h at_ w v r => isNum_ok h r⟩
  rw [wr (x := (l.length : Int) - 1) (by omega)]
  refine ⟨⟨by omega, by omega, ?_⟩, fun a i ⟨i0, i1, hv⟩ => ?_⟩
  · rw [show ((l.length : Int) - 1 + 1).toNat = l.length by omega, List.drop_length]; rfl
  · obtain ⟨m⟩ := a
    simp only at hv ⊢
    obtain ⟨K, hK⟩ : ∃ K : Nat, K = 64 * 1048576 := ⟨_, rfl⟩
    have hb : m < 2 ^ K := by
      have := wv_lt (l.drop (i + 1).toNat)
      rw [← hv] at this
      exact Nat.lt_of_lt_of_le this (pow2_le (by rw [List.length_drop]; omega))
    have hm1 : (dg m).length ≤ 4194304 := dlen2 hb (by omega)
    rw [bcase_dec]
    refine ⟨fun hi => ?_, fun hi => ?_⟩
    · have hm2 : (dg (m * 2 ^ 64)).length ≤ 8388608 := by
        have : m * 2 ^ 64 < 2 ^ K * 2 ^ 64 := Nat.mul_lt_mul_of_pos_right hb (by omega)
        rw [← Nat.pow_add] at this
        exact dlen2 this (by omega)
      obtain ⟨x, hx⟩ : ∃ x, l.getD i.toNat 0 = x := ⟨_, rfl⟩
      have hxl := u64_lt x
      rw [wr (x := i - 1) (by omega), hx, c24, c48, u24, u24, v24, v48, nv_dg, show Int.toNat 64 = 64 from rfl]
      rw [wr (x := ((x.toNat % 16777216 : Nat) : Int)) (by omega), wr (x := ((x.toNat / 16777216 % 16777216 : Nat) : Int)) (by omega), wr (x := ((x.toNat / 281474976710656 : Nat) : Int)) (by omega)]
      have hdig : Dig [((x.toNat % 16777216 : Nat) : Int), ((x.toNat / 16777216 % 16777216 : Nat) : Int), ((x.toNat / 281474976710656 : Nat) : Int)] := Dig.cons (by omega) (by omega) (Dig.cons (by omega) (by omega) (Dig.cons (by omega) (by omega) Dig.nil))
      have hnv : nv [((x.toNat % 16777216 : Nat) : Int), ((x.toNat / 16777216 % 16777216 : Nat) : Int), ((x.toNat / 281474976710656 : Nat) : Int)] = x.toNat := by
        simp only [nv, val]; omega
      have e3 : ∀ d0 d1 d2 : Int, List.drop 0 (List.take (0 + 3) [d0, d1, d2]) = [d0, d1, d2] := fun _ _ _ => rfl
      rw [e3, hnv, nv_dg]
      refine ⟨⟨by omega, by omega⟩, ⟨dig_dg _, by omega, by omega, by omega⟩, ⟨Dg.dg (by omega), hdig, by simp⟩, by trivial, ⟨by omega, by omega, ?_⟩, by omega⟩
      have e1 : (i - 1 + 1).toNat = i.toNat := by omega
      rw [e1, wv_drop l i.toNat (by omega), hx, show i.toNat + 1 = (i + 1).toNat by omega, ← hv]
      omega
    · have e1 : (i + 1).toNat = 0 := by omega
      rw [e1, List.drop_zero] at hv
      refine ⟨⟨dig_dg _, by omega⟩, .inl ?_⟩
      rw [nv_dg, hv]

theorem spRF_ok : SpecsOK Tryd.prog spRF := .cons ok_ToWords <| .cons ok_Words <| .nil _
theorem ok_Four : SpecOK Tryd.prog 56 sFour := by
  refine fn_okL (by kernel_rfl) tt_ok spRF_ok 3 Tryd.func56 (by decide +kernel) (by kernel_rfl) ?_
  rintro ⟨a, _⟩ ha
  replace ha : Dg a := ha
  refine ⟨[], {}, fun x => x = (fourN (nv a)).sv, LnVD.of (vcFour a _) ?_, fun x h at_ w v r => by have h' : x = _ := h; subst h'; exact r⟩
  rw [show Int.toNat 4 = 4 from rfl, wordsL_len]
  refine ⟨⟨ha, by omega, by omega⟩, ⟨by omega, by omega⟩, ⟨by omega, by omega⟩, ⟨by omega, by omega⟩, ⟨by omega, by omega⟩, ?_⟩
  rw [show Int.toNat 0 = 0 from rfl, show Int.toNat 1 = 1 from rfl, show Int.toNat 2 = 2 from rfl, show Int.toNat 3 = 3 from rfl]
  rw [wordsL_get _ _ _ (by omega), wordsL_get _ _ _ (by omega), wordsL_get _ _ _ (by omega), wordsL_get _ _ _ (by omega)]
  simp only [Four.sv, fourN, Nat.mul_zero, Nat.pow_zero, Nat.div_one]
theorem ok_Of : SpecOK Tryd.prog 51 sOf := by
  refine fn_okL (by kernel_rfl) tt_ok spRF_ok 3 Tryd.func51 (by decide +kernel) (by kernel_rfl) ?_
  rintro ⟨a, _⟩ _
  refine ⟨[], {}, isNum (wv [a.w0, a.w1, a.w2, a.w3]), LnVD.of (vcOf a _) ?_, fun x h at_ w v r => isNum_ok h r⟩
  exact ⟨by simp, .inl rfl⟩

theorem bev_snoc (l : List UInt8) (x : UInt8) : bev (l ++ [x]) = bev l * 256 + x.toNat := by simp [bev]
theorem bev_take (b : List UInt8) (i : Nat) (h : i < b.length) : bev (b.take (i + 1)) = bev (b.take i) * 256 + (b.getD i 0).toNat := by
  rw [List.take_succ_eq_append_getElem h, bev_snoc, List.getD_eq_getElem?_getD, List.getElem?_eq_getElem h]; rfl
theorem bev_lt_take (b : List UInt8) : ∀ i : Nat, i ≤ b.length → bev (b.take i) < 2 ^ (8 * i)
  | 0, _ => by simp [bev]
  | i + 1, h => by
    have := bev_lt_take b i (by omega)
    have := u8_lt (b.getD i 0)
    rw [bev_take b i (by omega), show 8 * (i + 1) = 8 * i + 8 by omega, Nat.pow_add]
    omega
theorem bev_lt (b : List UInt8) : bev b < 2 ^ (8 * b.length) := by
  have := bev_lt_take b b.length (Nat.le_refl _)
  rwa [List.take_length] at this
theorem spBg_ok : SpecsOK Tryd.prog ((73, .pure sAdd) :: spRS) := .cons ok_Add spRS_ok
theorem ok_Big : SpecOK Tryd.prog 53 sBig := by
  refine fn_okL (by kernel_rfl) tt_ok spBg_ok 3 Tryd.func53 (by decide +kernel) (by kernel_rfl) ?_
  rintro ⟨b, _⟩ hl
  replace hl : b.length ≤ 1048576 := hl
  refine ⟨[], lBig, isNum (bev b), LnVD.of (vcBig b _) ?_, fun x h at_ w v r => isNum_ok h r⟩
  refine ⟨⟨by omega, by omega, rfl⟩, fun a i ⟨i0, i1, hv⟩ => ?_⟩
  obtain ⟨m⟩ := a
  simp only at hv ⊢
  rw [bcase_dec]
  refine ⟨fun hi => ?_, fun hi => ?_⟩
  · obtain ⟨K, hK⟩ : ∃ K : Nat, K = 8 * 1048576 := ⟨_, rfl⟩
    have hb : m < 2 ^ K := by
      have := bev_lt_take b i.toNat (by omega)
      rw [← hv] at this
      exact Nat.lt_of_lt_of_le this (pow2_le (by omega))
    have hm1 : (dg m).length ≤ 4194304 := dlen2 hb (by omega)
    have hm2 : (dg (m * 256)).length ≤ 8388608 := by
      have : m * 2 ^ 8 < 2 ^ K * 2 ^ 8 := Nat.mul_lt_mul_of_pos_right hb (by omega)
      rw [← Nat.pow_add] at this
      exact dlen2 this (by omega)
    obtain ⟨x, hx⟩ : ∃ x, b.getD i.toNat 0 = x := ⟨_, rfl⟩
    have hxl := u8_lt x
    have hm3 : (dg x.toNat).length ≤ 1 := dlen _ (by omega)
    rw [wr (x := i + 1) (by omega), hx, nv_dg, nv_dg, show Int.toNat 256 = 256 from rfl, Int.toNat_natCast, nv_dg]
    refine ⟨⟨Dg.dg (by omega), by omega, by omega⟩, ⟨i0, hi⟩, ⟨by omega, by omega⟩, ⟨Dg.dg (by omega), Dg.dg (by omega)⟩, by trivial, ⟨by omega, by omega, ?_⟩, by omega⟩
    rw [show (i + 1).toNat = i.toNat + 1 by omega, bev_take b _ (by omega), hx, hv]
  · have : b.take i.toNat = b := List.take_of_length_le (by omega)
    rw [this] at hv
    exact .inl (by rw [hv])

theorem ok_Turned : SpecOK Tryd.prog 63 sTurned := by
  refine fn_okL (by kernel_rfl) tt_ok (.nil _) 3 Tryd.func63 (by decide +kernel) (by kernel_rfl) ?_
  rintro ⟨b, _⟩ hl
  replace hl : b.length ≤ 4294967296 := hl
  refine ⟨[], lTurned, fun x => x = .lst (.bytes b.reverse), LnVD.of (vcTurned b _) ?_, fun x h at_ w v r => by have h' : x = _ := h; subst h'; exact r⟩
  rw [wr (x := (b.length : Int) - 1) (by omega)]
  refine ⟨⟨by trivial, by trivial⟩, ⟨by omega, by omega, ?_⟩, fun l i ⟨i0, i1, hv⟩ => ?_⟩
  · rw [show ((b.length : Int) - 1 + 1).toNat = b.length by omega, List.drop_length]; rfl
  · simp only [app_one, whole]
    rw [bcase_dec]
    refine ⟨fun hi => ?_, fun hi => ?_⟩
    · rw [wr (x := i - 1) (by omega)]
      have hl2 : l.length = b.length - (i + 1).toNat := by rw [hv]; simp
      refine ⟨⟨by omega, by omega⟩, ⟨by omega, by simp [appLim]; omega⟩, ⟨by trivial, by trivial⟩, by trivial, ⟨by omega, by omega, ?_⟩, by omega⟩
      rw [show (i - 1 + 1).toNat = i.toNat by omega, List.drop_eq_getElem_cons (show i.toNat < b.length by omega), List.reverse_cons, hv, show (i + 1).toNat = i.toNat + 1 by omega]
      rw [List.getD_eq_getElem?_getD, List.getElem?_eq_getElem (show i.toNat < b.length by omega)]; rfl
    · rw [hv, show (i + 1).toNat = 0 by omega, List.drop_zero]
theorem spRB_ok : SpecsOK Tryd.prog spRB := .cons ok_Big <| .cons ok_Turned <| .nil _
theorem ok_Little : SpecOK Tryd.prog 1000000 Sym.sNo := Sym.sNo_ok _ _
theorem pow256 (q : Nat) : (256 : Nat) ^ q = 2 ^ (8 * q) := by rw [Nat.pow_mul]
theorem byte_digit {a : List Int} (ha : Dig a) (i : Nat) : nv a / 256 ^ i % 256 = (a.getD (i / 3) 0).toNat / 256 ^ (i % 3) % 256 := by
  have h1 : nv a / 256 ^ i = nv a / 16777216 ^ (i / 3) / 256 ^ (i % 3) := by
    rw [Nat.div_div_eq_div_mul, pow24, pow256, pow256, ← Nat.pow_add]
    congr 2; omega
  rw [h1, ← digit_nat ha]
  generalize nv a / 16777216 ^ (i / 3) = m
  have e : (16777216 : Nat) = 256 ^ (i % 3) * 256 ^ (3 - i % 3) := by rw [← Nat.pow_add, show i % 3 + (3 - i % 3) = 3 by omega]
  rw [e, Nat.mod_mul_right_div_self, Nat.mod_mod_of_dvd]
  refine ⟨256 ^ (3 - i % 3 - 1), ?_⟩
  rw [← Nat.pow_succ', show (3 - i % 3 - 1).succ = 3 - i % 3 by omega]
theorem u8_of {m k : Nat} (h : m % 256 = k % 256) : UInt8.ofNat m = UInt8.ofNat k := by
  apply UInt8.toNat_inj.1
  simp only [UInt8.toNat_ofNat']
  exact h
theorem bytesN_len (m n : Nat) : (bytesN m n).length = n := by simp [bytesN]
theorem ok_ToLittle : SpecOK Tryd.prog 64 sToLittle := by
  refine fn_okL (by kernel_rfl) tt_ok (.nil _) 3 Tryd.func64 (by decide +kernel) (by kernel_rfl) ?_
  rintro ⟨a, n, _⟩ ⟨⟨ha, hla⟩, h0, h1⟩
  simp only at ha hla h0 h1
  refine ⟨[], lToLittle, fun x => x = .lst (.bytes (bytesN (nv a) n.toNat)), LnVD.of (vcToLittle a n _) ?_, fun x h at_ w v r => by have h' : x = _ := h; subst h'; exact r⟩
  refine ⟨⟨h0, by trivial, by omega⟩, ⟨by trivial, by simp⟩, ⟨by omega, by omega, ?_⟩, fun out i ⟨i0, i1, hv⟩ => ?_⟩
  · apply List.ext_getElem (by simp)
    intro j h1 h2
    simp
  have hlen : out.length = n.toNat := by rw [hv]; simp
  rw [bcase_dec]
  refine ⟨fun hi => ?_, fun hi => ?_⟩
  · rw [tdiv_nn i0, tmod_nn i0, wr (x := i / 3) (by omega), wr (x := i + 1) (by omega), bcase_dec]
    have e1 : (i + 1).toNat = i.toNat + 1 := by omega
    have ei3 : (i / 3).toNat = i.toNat / 3 := by omega
    refine ⟨fun h3 => ⟨⟨by omega, h3⟩, ⟨by trivial, by trivial⟩, ⟨by trivial, by omega, by omega, ?_⟩, fun o x k ⟨ho, k0, k1, hx⟩ => ?_⟩, fun h3 => ⟨⟨by trivial, by trivial⟩, by trivial, ⟨by omega, by omega, ?_⟩, by omega⟩⟩
    · have := getD_dig ha (i / 3).toNat
      simp only [Int.toNat_zero, Nat.pow_zero, Nat.div_one]; omega
    · subst ho
      rw [bcase_dec]
      refine ⟨fun hk => ?_, fun hk => ?_⟩
      · have hx0 : 0 ≤ x := by rw [hx]; exact Int.natCast_nonneg _
        rw [wr (x := k + 1) (by omega), tdiv_nn hx0]
        have hd := getD_dig ha (i / 3).toNat
        have hle : (a.getD (i / 3).toNat 0).toNat / 256 ^ k.toNat ≤ (a.getD (i / 3).toNat 0).toNat := Nat.div_le_self _ _
        have hx2 : x / 256 = (((a.getD (i / 3).toNat 0).toNat / 256 ^ (k + 1).toNat : Nat) : Int) := by
          rw [show (k + 1).toNat = k.toNat + 1 by omega, Nat.pow_succ, ← Nat.div_div_eq_div_mul, hx]; rfl
        have hb : 0 ≤ x ∧ x < 16777216 := by
          rw [hx]
          generalize (a.getD (i / 3).toNat 0).toNat / 256 ^ k.toNat = z at *
          omega
        rw [wr (x := x / 256) (by omega)]
        exact ⟨⟨by trivial, by trivial⟩, by trivial, ⟨by trivial, by omega, by omega, hx2⟩, by omega⟩
      · have ek : k.toNat = i.toNat % 3 := by omega
        have hx0 : 0 ≤ x := by rw [hx]; exact Int.natCast_nonneg _
        rw [tmod_nn hx0, show 0 + i.toNat = i.toNat by omega]
        refine ⟨⟨i0, by omega⟩, ⟨by trivial, by simp⟩, by trivial, ⟨by omega, by omega, ?_⟩, by omega⟩
        have hb := byte_digit ha i.toNat
        rw [ek, ei3] at hx
        have hu : UInt8.ofInt (x % 256) = UInt8.ofNat (nv a / 256 ^ i.toNat) := by
          have e2 : x % 256 = ((nv a / 256 ^ i.toNat % 256 : Nat) : Int) := by rw [hb, hx]; rfl
          rw [e2]
          apply UInt8.toNat_inj.1
          rw [ofInt8]
          simp only [UInt8.toNat_ofNat']
          omega
        rw [hu, hv]
        apply List.ext_getElem (by simp)
        intro j h1 h2
        simp only [List.length_set, List.length_map, List.length_range] at h1
        simp only [List.getElem_set, List.getElem_map, List.getElem_range, e1]
        by_cases hj : i.toNat = j
        · subst hj; simp
        · rw [if_neg hj]
          by_cases hj2 : j < i.toNat
          · rw [if_pos hj2, if_pos (by omega)]
          · rw [if_neg hj2, if_neg (by omega)]
    · rw [hv]
      apply List.ext_getElem (by simp)
      intro j h1 h2
      simp only [List.length_map, List.length_range] at h1
      simp only [List.getElem_map, List.getElem_range, e1]
      by_cases hj : j < i.toNat
      · rw [if_pos hj, if_pos (by omega)]
      · by_cases hj2 : j = i.toNat
        · subst hj2
          rw [if_neg (by omega), if_pos (by omega)]
          have hb := byte_digit ha i.toNat
          rw [getD_ge (l := a) (by omega)] at hb
          rw [u8_of (k := 0) (by rw [hb]; simp)]; rfl
        · rw [if_neg hj, if_neg (by omega)]
  · simp only [whole]
    rw [hv]
    congr 2
    unfold bytesN
    apply List.map_congr_left
    intro j hj
    rw [List.mem_range] at hj
    rw [if_pos (by omega)]
theorem ok_ToBig : SpecOK Tryd.prog 40 sToBig := by
  refine fn_okL (by kernel_rfl) tt_ok (.cons ok_ToLittle spRB_ok) 3 Tryd.func40 (by decide +kernel) (by kernel_rfl) ?_
  rintro ⟨a, n, _⟩ ⟨ha, h0, h1⟩
  simp only at ha h0 h1
  refine ⟨[], {}, fun x => x = .lst (.bytes (bytesN (nv a) n.toNat).reverse), LnVD.of (vcToBig a n _) ?_, fun x h at_ w v r => by have h' : x = _ := h; subst h'; exact r⟩
  exact ⟨⟨ha, h0, h1⟩, by rw [bytesN_len]; omega, rfl⟩

theorem ok_Same : SpecOK Tryd.prog 10 sSame := by
  refine fn_okL (by kernel_rfl) tt_ok (.nil _) 3 Tryd.func10 (by decide +kernel) (by kernel_rfl) ?_
  rintro ⟨a, b, _⟩ hl
  replace hl : a.length ≤ 4294967296 := hl
  refine ⟨[], lSame, fun x => x = .bool (decide (a = b)), LnVD.of (vcSame a b _) ?_, fun x h at_ w v r => by have h' : x = _ := h; subst h'; exact r⟩
  rw [bcase_iff]
  refine ⟨fun hne => ?_, fun heq => ⟨⟨by omega, by omega, Int.ofNat_inj.1 (by simpa using heq), by simp⟩, fun i ⟨i0, i1, i2, i3⟩ => ?_⟩⟩
  · have : a ≠ b := by rintro rfl; simp at hne
    simp [this]
  · rw [bcase_dec]
    refine ⟨fun hi => ⟨⟨i0, hi⟩, ⟨i0, by omega⟩, ?_⟩, fun hi => ?_⟩
    · have ga : ∀ l : List UInt8, (h : i.toNat < l.length) → l.getD i.toNat 0 = l[i.toNat] := fun l h => by rw [List.getD_eq_getElem?_getD, List.getElem?_eq_getElem h]; rfl
      rw [ga a (by omega), ga b (by omega), bcase_iff]
      refine ⟨fun hne => ?_, fun heq => ?_⟩
      · have : a ≠ b := by rintro rfl; simp at hne
        simp [this]
      · rw [wr (x := i + 1) (by omega)]
        refine ⟨by trivial, ⟨by omega, by omega, i2, ?_⟩, by omega⟩
        rw [show (i + 1).toNat = i.toNat + 1 by omega, List.take_succ_eq_append_getElem (show i.toNat < a.length by omega), List.take_succ_eq_append_getElem (show i.toNat < b.length by omega), i3]
        congr 2
        simpa using heq
    · rw [List.take_of_length_le (by omega), List.take_of_length_le (by omega)] at i3
      simp [i3]

end Go.Proofs.YtomoihkepkmgdaaDoor.R1
/- The reference's functions on numbers. -/
set_option maxRecDepth 10000
namespace Go.Sym
open Go.RowKit
section
variable [GLob] {P : Program} {α β α' β' : Type} [Args α] [RetL β] [Args α'] [RetL β']
/-- A specification out of one that says as much. -/
theorem fspec_weaken {f : FuncId} {pre : α → Option Prop} {g : α → β} {pre' : α' → Option Prop} {g' : α' → β'} (h : SpecOK P f (fspec pre g)) (conv : α' → α)
    (hc : ∀ a (at_ : At) w vs, RelL at_ w (Args.encL a) vs → RelL at_ w (Args.encL (conv a)) vs) (hd : ∀ a, Args.decL (Args.encL (conv a)) = some (conv a)) (hp : ∀ a, Ok (pre' a) → Ok (pre (conv a)))
    (hg : ∀ a, Ok (pre' a) → ∀ (at_ : At) w v, Rel at_ w (retSV (RetL.retL (g (conv a)))) v → Rel at_ w (retSV (RetL.retL (g' a))) v) : SpecOK P f (fspec pre' g') := by
  intro at_ w svs vs pr r h1 h2 h3 hs hpr hr
  unfold fspec at hs
  split at hs
  · rename_i a ha
    simp only [Option.some.injEq, Prod.mk.injEq] at hs
    obtain ⟨rfl, rfl⟩ := hs
    have := h at_ w (Args.encL (conv a)) vs (pre (conv a)) _ h1 h2 h3 (by unfold fspec; rw [hd]) (hp a hpr) (hc a _ _ _ (Args.ok ha hr))
    exact Outcome.mono (fun v w' ⟨h3, h4⟩ => ⟨hg a hpr _ _ _ h3, h4⟩) this
  · cases hs
end
theorem SpecsOK.append [GLob] {P : Program} {a b : Specs} (h : SpecsOK P a) (k : SpecsOK P b) : SpecsOK P (a ++ b) := by
  intro f s hl
  rw [List.lookup_append] at hl
  cases ha : a.lookup f with
  | none => rw [ha] at hl; exact k f s (by simpa using hl)
  | some x => rw [ha] at hl; exact h f s (by rw [ha]; simpa using hl)
end Go.Sym
namespace Go.Proofs.YtomoihkepkmgdaaDoor.R1
open Go.Sym Go.Dig
/-- Not too many digits. -/
def Sm (n : Nat) : Prop := (dg n).length ≤ 1073741824
theorem Sm.of {n : Nat} (k : Nat) (h : n < 2 ^ (24 * k)) (hk : k ≤ 1073741824) : Sm n := Nat.le_trans (dlen k h) hk
abbrev N1 := Num × Unit
abbrev N2 := Num × Num × Unit
abbrev NI := Num × Int × Unit
def nAdd : SpecF := fspec (α := N2) (β := Num) (fun a => some (Sm a.1.n ∧ Sm a.2.1.n)) (fun a => ⟨a.1.n + a.2.1.n⟩)
def nSub : SpecF := fspec (α := N2) (β := Num) (fun a => some (Sm a.1.n ∧ a.2.1.n ≤ a.1.n ∧ Sm a.2.1.n)) (fun a => ⟨a.1.n - a.2.1.n⟩)
def nMul : SpecF := fspec (α := N2) (β := Num) (fun a => some (Sm a.1.n ∧ Sm a.2.1.n)) (fun a => ⟨a.1.n * a.2.1.n⟩)
def nCmp : SpecF := fspec (α := N2) (β := Int) (fun a => some (Sm a.1.n ∧ Sm a.2.1.n)) (fun a => cmpN a.1.n a.2.1.n)
def nSmall : SpecF := fspec (α := NI) (β := Num) (fun a => some (Sm a.1.n ∧ 0 ≤ a.2.1 ∧ a.2.1 < 9223372036854775808)) (fun a => ⟨a.1.n * a.2.1.toNat⟩)
def nShift : SpecF := fspec (α := NI) (β := Num) (fun a => some ((dg a.1.n).length ≤ 536870912 ∧ 0 ≤ a.2.1 ∧ a.2.1 ≤ 1073741824)) (fun a => ⟨a.1.n * 2 ^ a.2.1.toNat⟩)
def nDown : SpecF := fspec (α := NI) (β := Num) (fun a => some (Sm a.1.n ∧ 0 ≤ a.2.1 ∧ a.2.1 ≤ 1073741824)) (fun a => ⟨a.1.n / 2 ^ a.2.1.toNat⟩)
def nBit : SpecF := fspec (α := NI) (β := Int) (fun a => some (Sm a.1.n ∧ 0 ≤ a.2.1 ∧ a.2.1 ≤ 1073741824)) (fun a => ((a.1.n / 2 ^ a.2.1.toNat % 2 : Nat) : Int))
def nBits : SpecF := fspec (α := N1) (β := Int) (fun a => some (Sm a.1.n)) (fun a => bitsN a.1.n)
def nToWords : SpecF := fspec (α := NI) (β := List UInt64) (fun a => some (Sm a.1.n ∧ 0 ≤ a.2.1 ∧ a.2.1 ≤ 1048576)) (fun a => wordsL a.1.n a.2.1.toNat)
def nFour : SpecF := fspec (α := N1) (β := Four) (fun a => some (Sm a.1.n)) (fun a => fourN a.1.n)
def nToLittle : SpecF := fspec (α := NI) (β := List UInt8) (fun a => some (Sm a.1.n ∧ 0 ≤ a.2.1 ∧ a.2.1 ≤ 1048576)) (fun a => bytesN a.1.n a.2.1.toNat)
def nToBig : SpecF := fspec (α := NI) (β := List UInt8) (fun a => some (Sm a.1.n ∧ 0 ≤ a.2.1 ∧ a.2.1 ≤ 1048576)) (fun a => (bytesN a.1.n a.2.1.toNat).reverse)

def c1 (a : N1) : List Int × Unit := (dg a.1.n, ())
def c2 (a : N2) : List Int × List Int × Unit := (dg a.1.n, dg a.2.1.n, ())
def cI (a : NI) : List Int × Int × Unit := (dg a.1.n, a.2.1, ())
theorem c1_rel (a : N1) (at_ : At) (w : World) (vs : List Value) (h : RelL at_ w (Args.encL a) vs) : RelL at_ w (Args.encL (c1 a)) vs := by
  simp only [Args.encL, RelL, Enc.enc, c1] at h ⊢
  obtain ⟨v, _, rfl, h1, h2⟩ := h
  exact ⟨_, _, rfl, num_ints.1 h1, h2⟩
theorem c2_rel (a : N2) (at_ : At) (w : World) (vs : List Value) (h : RelL at_ w (Args.encL a) vs) : RelL at_ w (Args.encL (c2 a)) vs := by
  simp only [Args.encL, RelL, Enc.enc, c2] at h ⊢
  obtain ⟨v, _, rfl, h1, _, _, rfl, h2, h3⟩ := h
  exact ⟨_, _, rfl, num_ints.1 h1, _, _, rfl, num_ints.1 h2, h3⟩
theorem cI_rel (a : NI) (at_ : At) (w : World) (vs : List Value) (h : RelL at_ w (Args.encL a) vs) : RelL at_ w (Args.encL (cI a)) vs := by
  simp only [Args.encL, RelL, Enc.enc, cI] at h ⊢
  obtain ⟨v, _, rfl, h1, h2⟩ := h
  exact ⟨_, _, rfl, num_ints.1 h1, h2⟩

theorem ok_nAdd : SpecOK Tryd.prog 73 nAdd := fspec_weaken ok_Add c2 c2_rel (fun _ => rfl) (fun _ h => ⟨Dg.dg h.1, Dg.dg h.2⟩) (fun a _ _ _ _ r => by simpa only [c2, nv_dg] using r)
theorem ok_nSub : SpecOK Tryd.prog 92 nSub := fspec_weaken ok_Sub c2 c2_rel (fun _ => rfl) (fun _ h => ⟨Dg.dg h.1, Dg.dg h.2.2, by simp only [c2, nv_dg]; exact h.2.1⟩) (fun a _ _ _ _ r => by simpa only [c2, nv_dg] using r)
theorem ok_nMul : SpecOK Tryd.prog 89 nMul := fspec_weaken ok_Mul c2 c2_rel (fun _ => rfl) (fun _ h => ⟨Dg.dg h.1, Dg.dg h.2⟩) (fun a _ _ _ _ r => by simpa only [c2, nv_dg] using r)
theorem ok_nCmp : SpecOK Tryd.prog 55 nCmp := fspec_weaken ok_Cmp c2 c2_rel (fun _ => rfl) (fun _ h => ⟨Can.dg h.1, Can.dg h.2⟩) (fun a _ _ _ _ r => by simpa only [c2, nv_dg] using r)
theorem ok_nSmall : SpecOK Tryd.prog 74 nSmall := fspec_weaken ok_Small cI cI_rel (fun _ => rfl) (fun _ h => ⟨Dg.dg h.1, h.2⟩) (fun a _ _ _ _ r => by simpa only [cI, nv_dg] using r)
theorem ok_nShift : SpecOK Tryd.prog 79 nShift := fspec_weaken ok_Shift cI cI_rel (fun _ => rfl) (fun _ h => ⟨dig_dg _, h⟩) (fun a _ _ _ _ r => by simpa only [cI, nv_dg] using r)
theorem ok_nDown : SpecOK Tryd.prog 1000001 Sym.sNo := Sym.sNo_ok _ _
theorem ok_nBit : SpecOK Tryd.prog 1000000 Sym.sNo := Sym.sNo_ok _ _
theorem ok_nBits : SpecOK Tryd.prog 50 nBits := fspec_weaken ok_Bits c1 c1_rel (fun _ => rfl) (fun _ h => Can.dg h) (fun a _ _ _ _ r => by simpa only [c1, nv_dg] using r)
theorem ok_nToWords : SpecOK Tryd.prog 75 nToWords := fspec_weaken ok_ToWords cI cI_rel (fun _ => rfl) (fun _ h => ⟨Dg.dg h.1, h.2⟩) (fun a _ _ _ _ r => by simpa only [cI, nv_dg] using r)
theorem ok_nFour : SpecOK Tryd.prog 56 nFour := fspec_weaken ok_Four c1 c1_rel (fun _ => rfl) (fun _ h => Dg.dg h) (fun a _ _ _ _ r => by simpa only [c1, nv_dg] using r)
theorem ok_nToLittle : SpecOK Tryd.prog 64 nToLittle := fspec_weaken ok_ToLittle cI cI_rel (fun _ => rfl) (fun _ h => ⟨Dg.dg h.1, h.2⟩) (fun a _ _ _ _ r => by simpa only [cI, nv_dg] using r)
theorem ok_nToBig : SpecOK Tryd.prog 40 nToBig := fspec_weaken ok_ToBig cI cI_rel (fun _ => rfl) (fun _ h => ⟨Dg.dg h.1, h.2⟩) (fun a _ _ _ _ r => by simpa only [cI, nv_dg] using r)

def spN : Specs := (51, sOf) :: (73, nAdd) :: (92, nSub) :: (1000003, Sym.sNo) :: (55, nCmp) ::
  (56, nFour) :: (1000000, Sym.sNo) :: (64, nToLittle) :: (40, nToBig) :: (10, sSame) ::
  (1000002, Sym.sNo) :: (53, sBig) :: (75, nToWords) :: (89, nMul) :: (61, sWords) ::
  (79, nShift) :: (1000001, Sym.sNo) :: (50, nBits) :: (41, sInt) :: (74, nSmall) :: (90, sPow2) :: []
theorem spN_ok : SpecsOK Tryd.prog spN := .cons ok_Of <| .cons ok_nAdd <| .cons ok_nSub <| .cons ok_Power <| .cons ok_nCmp <| .cons ok_nFour <| .cons ok_nBit <| .cons ok_nToLittle <| .cons ok_nToBig <| .cons ok_Same <|
  .cons ok_Little <| .cons ok_Big <| .cons ok_nToWords <| .cons ok_nMul <| .cons ok_Words <| .cons ok_nShift <| .cons ok_nDown <| .cons ok_nBits <| .cons ok_Int <| .cons ok_nSmall <| .cons ok_Pow2 <| .nil _
end Go.Proofs.YtomoihkepkmgdaaDoor.R1
/- The reference of layer 6: what the bodies come to. -/
set_option maxRecDepth 10000
namespace Go.Proofs.YtomoihkepkmgdaaDoor.H6
open Go.Sym Go.Dig R1
/-- Eight words as a list. -/
structure L8 where
  v : St8
def dL8 : SV → Option L8
  | .lst (.words [a, b, c, d, e, f, g, h]) => some ⟨⟨a, b, c, d, e, f, g, h⟩⟩
  | _ => none
theorem dL8_ok {s : SV} {a : L8} (h : dL8 s = some a) : s = .lst (.words a.v.l) := by
  unfold dL8 at h
  split at h
  · simp only [Option.some.injEq] at h; subst h; rfl
  · cases h
instance : Enc L8 where
  enc a := .lst (.words a.v.l)
  dec := dL8
  ok := by
    intro s a h at_ w v r
    rw [dL8_ok h] at r; exact r
  nn _ := rfl
instance : RetL L8 := ⟨fun a => [.lst (.words a.v.l)]⟩
instance : RetL (List UInt64) := ⟨fun a => [.lst (.words a)]⟩
/-- The same, one's own. -/
structure O8 where
  v : St8
def dO8 (l : List UInt64) : Option O8 :=
  match l with
  | [a, b, c, d, e, f, g, h] => some ⟨⟨a, b, c, d, e, f, g, h⟩⟩
  | _ => none
theorem dO8_ok {l : List UInt64} {a : O8} (h : dO8 l = some a) : l = a.v.l := by
  unfold dO8 at h
  split at h
  · simp only [Option.some.injEq] at h; subst h; rfl
  · cases h
instance : LEnc O8 where
  kind := none
  enc nx a := (.sl nx 0 8, [[.own (.words a.v.l)]])
  dec nx s M := match ownDec nx s M with
    | some (p, .words l, M') => (dO8 l).map fun r => (p, r, M')
    | _ => none
  all P := ∀ v, P ⟨v⟩
  all_ok h a := h a.v
  ok := by
    intro nx s M p a M' h hp
    split at h
    · rename_i p' l M1 hd
      obtain ⟨r, h1, h2⟩ := Option.map_eq_some_iff.1 h
      simp only [Prod.mk.injEq] at h2
      obtain ⟨rfl, rfl, rfl⟩ := h2
      obtain ⟨rfl, rfl⟩ := ownDec_ok hd hp
      rw [dO8_ok h1]
      exact ⟨rfl, fun r => r⟩
    · cases h
theorem vcTurnR1 (x : UInt64) (Q : SV → Prop) : LnRaw tt [] 3 [] {} Tryd.f82 Q (x, (1 : Int), ()) = Q (.u64 (shr64 x 1 ||| shl64 x 63)) := by kernel_rfl
theorem vcTurnR8 (x : UInt64) (Q : SV → Prop) : LnRaw tt [] 3 [] {} Tryd.f82 Q (x, (8 : Int), ()) = Q (.u64 (shr64 x 8 ||| shl64 x 56)) := by kernel_rfl
theorem vcTurnR19 (x : UInt64) (Q : SV → Prop) : LnRaw tt [] 3 [] {} Tryd.f82 Q (x, (19 : Int), ()) = Q (.u64 (shr64 x 19 ||| shl64 x 45)) := by kernel_rfl
theorem vcTurnR61 (x : UInt64) (Q : SV → Prop) : LnRaw tt [] 3 [] {} Tryd.f82 Q (x, (61 : Int), ()) = Q (.u64 (shr64 x 61 ||| shl64 x 3)) := by kernel_rfl
theorem vcTurnR14 (x : UInt64) (Q : SV → Prop) : LnRaw tt [] 3 [] {} Tryd.f82 Q (x, (14 : Int), ()) = Q (.u64 (shr64 x 14 ||| shl64 x 50)) := by kernel_rfl
theorem vcTurnR18 (x : UInt64) (Q : SV → Prop) : LnRaw tt [] 3 [] {} Tryd.f82 Q (x, (18 : Int), ()) = Q (.u64 (shr64 x 18 ||| shl64 x 46)) := by kernel_rfl
theorem vcTurnR41 (x : UInt64) (Q : SV → Prop) : LnRaw tt [] 3 [] {} Tryd.f82 Q (x, (41 : Int), ()) = Q (.u64 (shr64 x 41 ||| shl64 x 23)) := by kernel_rfl
theorem vcTurnR28 (x : UInt64) (Q : SV → Prop) : LnRaw tt [] 3 [] {} Tryd.f82 Q (x, (28 : Int), ()) = Q (.u64 (shr64 x 28 ||| shl64 x 36)) := by kernel_rfl
theorem vcTurnR34 (x : UInt64) (Q : SV → Prop) : LnRaw tt [] 3 [] {} Tryd.f82 Q (x, (34 : Int), ()) = Q (.u64 (shr64 x 34 ||| shl64 x 30)) := by kernel_rfl
theorem vcTurnR39 (x : UInt64) (Q : SV → Prop) : LnRaw tt [] 3 [] {} Tryd.f82 Q (x, (39 : Int), ()) = Q (.u64 (shr64 x 39 ||| shl64 x 25)) := by kernel_rfl
def nOK (n : Int) : Prop := n ∈ ([1, 8, 19, 61, 14, 18, 41, 28, 34, 39] : List Int)
def sTurnR : SpecF := fspec (α := UInt64 × Int × Unit) (fun a => some (nOK a.2.1)) (fun a => turnF a.1 a.2.1)
def kTab : List UInt64 := glob1
theorem vcConst (Q : SV → Prop) : LnRaw tt [] 9 [] {} Tryd.f81 Q () = Q (.lst (.words kTab)) := by kernel_rfl
def sConst : SpecF := fspec (α := Unit) total (fun _ => kTab)
theorem vcBegR (Q : SV → Prop) : LfRaw tt [] 9 [] {} Tryd.f65 Q () = Q (.lst (.words beg.l)) := by kernel_rfl
def sBegR : SpecF := fspec (α := Unit) total (fun _ => L8.mk beg)
def spR5 : Specs := [(82, sTurnR), (81, sConst)]
def iw (b : List UInt8) (w : List UInt64) (i : Int) : Prop := 0 ≤ i ∧ i ≤ 16 ∧ w = (wB b (8 * i.toNat)).take i.toNat
def ix (b : List UInt8) (i : Int) (x : UInt64) (j : Int) : Prop := 0 ≤ j ∧ j ≤ 8 ∧ x = (wB b (8 * i.toNat + j.toNat)).getD i.toNat 0
def it (b : List UInt8) (w : List UInt64) (t : Int) : Prop := 16 ≤ t ∧ t ≤ 80 ∧ w = (wX b (t.toNat - 16)).take t.toNat
def ir (w0 : List UInt64) (s : St8) (w : List UInt64) (v : St8) (t : Int) : Prop := w = w0 ∧ 0 ≤ t ∧ t ≤ 80 ∧ v = rounds w0 s t.toNat
end Go.Proofs.YtomoihkepkmgdaaDoor.H6
