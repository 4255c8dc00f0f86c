/- A symbolic machine for Go functions, and what the functions that the law reaches come to: SyA, SyB, SyC, SwR, SwT, SwS, SwV, SzA, SzB, SzC, SzD, SzE. -/
import Derived.Test.YtficbeeoafiiaaaDoorQ26
import Derived.Test.YtficbeeoafiiaaaDoorQ21
import Derived.Test.YtficbeeoafiiaaaDoorQ18
import Derived.Test.YtficbeeoafiiaaaDoorQ12
/- Package sswu: messages as numbers and points: what is said of the functions. -/
set_option maxRecDepth 10000
namespace Go.Proofs.YtficbeeoafiiaaaDoor.P12
open Go.Sym Go.Dig R1 H5 H39
/-- Bytes are asked for that may be. -/
def exOk (tag : List UInt8) (n : Int) : Prop := 0 ≤ n ∧ n ≤ 8160 ∧ tag.length ≤ 255
noncomputable def sExpG : SpecF := fspec (α := List UInt8 × List UInt8 × Int × Unit) (β := List UInt8 × Int × Unit) (fun a => some (a.1.length ≤ 1000000 ∧ exOk a.2.1 a.2.2.1)) (fun a => (expV a.1 a.2.1 a.2.2.1, 0, ()))
noncomputable def sExpB : SpecF := fspec (α := List UInt8 × List UInt8 × Int × Unit) (β := List UInt8 × Int × Unit) (fun a => some (a.1.length ≤ 1000000 ∧ ¬ exOk a.2.1 a.2.2.1)) (fun _ => ([], 2, ()))
theorem ok_ExpG : SpecOK Tryd.prog 79 sExpG := fspec_weaken ok_Exp id (fun _ _ _ _ h => h) (fun ⟨_, _, _, _⟩ => rfl) (fun a h => by have h' : _ ∧ _ := h; exact h'.1) (fun a h at_ w v r => by
  have h' : _ ∧ exOk _ _ := h
  simp only [id] at r
  rw [if_pos (show 0 ≤ a.2.2.1 ∧ a.2.2.1 ≤ 8160 ∧ a.2.1.length ≤ 255 from h'.2)] at r
  exact r)
theorem ok_ExpB : SpecOK Tryd.prog 79 sExpB := fspec_weaken ok_Exp id (fun _ _ _ _ h => h) (fun ⟨_, _, _, _⟩ => rfl) (fun a h => by have h' : _ ∧ _ := h; exact h'.1) (fun a h at_ w v r => by
  have h' : _ ∧ ¬ exOk _ _ := h
  simp only [id] at r
  rw [if_neg (show ¬ (0 ≤ a.2.2.1 ∧ a.2.2.1 ≤ 8160 ∧ a.2.1.length ≤ 255) from h'.2)] at r
  exact r)
theorem wd_ex : ∃ f : Eight → Four, f = fun w => onR (some rP) fun r => wideR r w := ⟨_, rfl⟩
noncomputable def wideP : Eight → Four := Classical.choose wd_ex
theorem wideP_eq : wideP = fun w => onR (some rP) fun r => wideR r w := Classical.choose_spec wd_ex
noncomputable def sWideP : SpecF := fspec (α := Option RingV × Eight × Unit) (fun a => some (a.1 = some rP)) (fun a => wideP a.2.1)
theorem lo_ex : ∃ f : List UInt8 → Four × Int, f = fun b => limb_Of b true := ⟨_, rfl⟩
noncomputable def limO : List UInt8 → Four × Int := Classical.choose lo_ex
theorem limO_eq : limO = fun b => limb_Of b true := Classical.choose_spec lo_ex
noncomputable def sLimO : SpecF := fspec (α := List UInt8 × Bool × Unit) (fun a => some (a.2.1 = true)) (fun a => limO a.1)
noncomputable def spSh (b : Bool) : Specs := [(79, cond b sExpG sExpB), (80, sLimO), (24, sSwMade), (81, sWideP)]
def e8 (a b : Four) : Eight := ⟨a.w0, a.w1, a.w2, a.w3, b.w0, b.w1, b.w2, b.w3⟩
noncomputable def hashC (msg tag : List UInt8) : Four := wideP (e8 (limO ((expV msg tag 48).drop 16)).1 (limO (List.replicate 16 0 ++ (expV msg tag 48).take 16)).1)
theorem hs_ex : ∃ f : List UInt8 → List UInt8 → Four, f = hashC := ⟨_, rfl⟩
noncomputable def hashP : List UInt8 → List UInt8 → Four := Classical.choose hs_ex
theorem hashP_eq : hashP = hashC := Classical.choose_spec hs_ex
noncomputable def sHashPG : SpecF := fspec (α := List UInt8 × List UInt8 × Unit) (β := Four × Int × Unit) (fun a => some (a.1.length ≤ 1000000 ∧ a.2.1.length ≤ 255)) (fun a => (hashP a.1 a.2.1, 0, ()))
noncomputable def sHashPB : SpecF := fspec (α := List UInt8 × List UInt8 × Unit) (β := Four × Int × Unit) (fun a => some (a.1.length ≤ 1000000 ∧ ¬ a.2.1.length ≤ 255)) (fun _ => (zero4, 2, ()))
noncomputable def spSe (b : Bool) : Specs := [(52, cond b sHashPG sHashPB), (8, sSwMap)]
/-- A point, and that nothing failed. -/
structure PtE where
  p : P3
noncomputable instance : RetL PtE := ⟨fun p => [p.p.sv, .i64 0]⟩
noncomputable def sEncPG : SpecF := fspec (α := List UInt8 × List UInt8 × Unit) (β := PtE) (fun a => some (a.1.length ≤ 1000000 ∧ a.2.1.length ≤ 255)) (fun a => ⟨mapP (hashP a.1 a.2.1)⟩)
noncomputable def sEncPB : SpecF := fspec (α := List UInt8 × List UInt8 × Unit) (β := PPt × Int × Unit) (fun a => some (a.1.length ≤ 1000000 ∧ ¬ a.2.1.length ≤ 255)) (fun _ => (pNil, 2, ()))
end Go.Proofs.YtficbeeoafiiaaaDoor.P12
/- Package sswu: messages as numbers and points: what the bodies come to. -/
set_option maxRecDepth 10000
namespace Go.Proofs.YtficbeeoafiiaaaDoor.P12
open Go.Sym Go.Dig R1 H5 H39
--STOP expV, exOk, wideP, limO, hashP, mapP, zero4, swF, rP
theorem vcShG (msg tag : List UInt8) (Q : SV → Prop) : LnRaw tt (spSh true) 9 [] {} Tryd.f52 Q (msg, tag, ()) =
 (((List.length msg ≤ (1000000 : Nat)) ∧ (exOk tag (48 : Int))) ∧ ((((0 : Int) ≤ (16 : Int)) ∧ (((16 : Int) ≤ (↑(List.length (expV msg tag (48 : Int))) : Int)) ∧ ((↑(List.length (expV msg tag (48 : Int))) : Int) ≤ (↑(List.length (expV msg tag (48 : Int))) : Int)))) ∧ ((true = true) ∧ ((((0 : Int) ≤ (16 : Int)) ∧ (((16 : Int) = (16 : Int)) ∧ ((16 : Int) ≤ (1099511627776 : Int)))) ∧ ((((0 : Int) ≤ (0 : Int)) ∧ (((0 : Int) ≤ (16 : Int)) ∧ ((16 : Int) ≤ (↑(List.length (expV msg tag (48 : Int))) : Int)))) ∧ ((((0 : Nat) + Int.toNat (16 : Int) = (16 : Nat)) ∧ (List.length ([(0 : UInt8), (0 : UInt8), (0 : UInt8), (0 : UInt8), (0 : UInt8), (0 : UInt8), (0 : UInt8), (0 : UInt8), (0 : UInt8), (0 : UInt8), (0 : UInt8), (0 : UInt8), (0 : UInt8), (0 : UInt8), (0 : UInt8), (0 : UInt8)] ++ List.drop (Int.toNat (0 : Int)) (List.take (Int.toNat (16 : Int)) (expV msg tag (48 : Int)))) ≤ appLim)) ∧ ((true = true) ∧ ((some rP = some rP) ∧ (Q (SV.tup [SV.agg [SV.u64 (Four.w0 (wideP (Eight.mk (Four.w0
 (Prod.fst (limO (List.drop (Int.toNat (16 : Int)) (List.take (Int.toNat (↑(List.length (expV msg tag (48 : Int))) : Int)) (expV msg tag (48 : Int))))))) (Four.w1 (Prod.fst (limO (List.drop (Int.toNat (16 : Int)) (List.take (Int.toNat (↑(List.length (expV msg tag (48 : Int))) : Int)) (expV msg tag (48 : Int))))))) (Four.w2 (Prod.fst (limO (List.drop (Int.toNat (16 : Int)) (List.take (Int.toNat (↑(List.length (expV msg tag (48 : Int))) : Int)) (expV msg tag (48 : Int))))))) (Four.w3 (Prod.fst (limO (List.drop (Int.toNat (16 : Int)) (List.take (Int.toNat (↑(List.length (expV msg tag (48 : Int))) : Int)) (expV msg tag (48 : Int))))))) (Four.w0 (Prod.fst (limO (List.drop (0 : Nat) (List.take ((0 : Nat) + List.length ([(0 : UInt8), (0 : UInt8), (0 : UInt8), (0 : UInt8), (0 : UInt8), (0 : UInt8), (0 : UInt8), (0 : UInt8), (0 : UInt8), (0 : UInt8), (0 : UInt8), (0 : UInt8), (0 : UInt8), (0 : UInt8), (0 : UInt8), (0 : UInt8)] ++ List.drop (Int.toNat (0 : Int))
 (List.take (Int.toNat (16 : Int)) (expV msg tag (48 : Int))))) ([(0 : UInt8), (0 : UInt8), (0 : UInt8), (0 : UInt8), (0 : UInt8), (0 : UInt8), (0 : UInt8), (0 : UInt8), (0 : UInt8), (0 : UInt8), (0 : UInt8), (0 : UInt8), (0 : UInt8), (0 : UInt8), (0 : UInt8), (0 : UInt8)] ++ List.drop (Int.toNat (0 : Int)) (List.take (Int.toNat (16 : Int)) (expV msg tag (48 : Int))))))))) (Four.w1 (Prod.fst (limO (List.drop (0 : Nat) (List.take ((0 : Nat) + List.length ([(0 : UInt8), (0 : UInt8), (0 : UInt8), (0 : UInt8), (0 : UInt8), (0 : UInt8), (0 : UInt8), (0 : UInt8), (0 : UInt8), (0 : UInt8), (0 : UInt8), (0 : UInt8), (0 : UInt8), (0 : UInt8), (0 : UInt8), (0 : UInt8)] ++ List.drop (Int.toNat (0 : Int)) (List.take (Int.toNat (16 : Int)) (expV msg tag (48 : Int))))) ([(0 : UInt8), (0 : UInt8), (0 : UInt8), (0 : UInt8), (0 : UInt8), (0 : UInt8), (0 : UInt8), (0 : UInt8), (0 : UInt8), (0 : UInt8), (0 : UInt8), (0 : UInt8), (0 : UInt8), (0 : UInt8), (0 : UInt8), (0 : UInt8)] ++
 List.drop (Int.toNat (0 : Int)) (List.take (Int.toNat (16 : Int)) (expV msg tag (48 : Int))))))))) (Four.w2 (Prod.fst (limO (List.drop (0 : Nat) (List.take ((0 : Nat) + List.length ([(0 : UInt8), (0 : UInt8), (0 : UInt8), (0 : UInt8), (0 : UInt8), (0 : UInt8), (0 : UInt8), (0 : UInt8), (0 : UInt8), (0 : UInt8), (0 : UInt8), (0 : UInt8), (0 : UInt8), (0 : UInt8), (0 : UInt8), (0 : UInt8)] ++ List.drop (Int.toNat (0 : Int)) (List.take (Int.toNat (16 : Int)) (expV msg tag (48 : Int))))) ([(0 : UInt8), (0 : UInt8), (0 : UInt8), (0 : UInt8), (0 : UInt8), (0 : UInt8), (0 : UInt8), (0 : UInt8), (0 : UInt8), (0 : UInt8), (0 : UInt8), (0 : UInt8), (0 : UInt8), (0 : UInt8), (0 : UInt8), (0 : UInt8)] ++ List.drop (Int.toNat (0 : Int)) (List.take (Int.toNat (16 : Int)) (expV msg tag (48 : Int))))))))) (Four.w3 (Prod.fst (limO (List.drop (0 : Nat) (List.take ((0 : Nat) + List.length ([(0 : UInt8), (0 : UInt8), (0 : UInt8), (0 : UInt8), (0 : UInt8), (0 : UInt8),
 (0 : UInt8), (0 : UInt8), (0 : UInt8), (0 : UInt8), (0 : UInt8), (0 : UInt8), (0 : UInt8), (0 : UInt8), (0 : UInt8), (0 : UInt8)] ++ List.drop (Int.toNat (0 : Int)) (List.take (Int.toNat (16 : Int)) (expV msg tag (48 : Int))))) ([(0 : UInt8), (0 : UInt8), (0 : UInt8), (0 : UInt8), (0 : UInt8), (0 : UInt8), (0 : UInt8), (0 : UInt8), (0 : UInt8), (0 : UInt8), (0 : UInt8), (0 : UInt8), (0 : UInt8), (0 : UInt8), (0 : UInt8), (0 : UInt8)] ++ List.drop (Int.toNat (0 : Int)) (List.take (Int.toNat (16 : Int)) (expV msg tag (48 : Int)))))))))))), SV.u64 (Four.w1 (wideP (Eight.mk (Four.w0 (Prod.fst (limO (List.drop (Int.toNat (16 : Int)) (List.take (Int.toNat (↑(List.length (expV msg tag (48 : Int))) : Int)) (expV msg tag (48 : Int))))))) (Four.w1 (Prod.fst (limO (List.drop (Int.toNat (16 : Int)) (List.take (Int.toNat (↑(List.length (expV msg tag (48 : Int))) : Int)) (expV msg tag (48 : Int))))))) (Four.w2 (Prod.fst (limO (List.drop (Int.toNat (16 : Int))
 (List.take (Int.toNat (↑(List.length (expV msg tag (48 : Int))) : Int)) (expV msg tag (48 : Int))))))) (Four.w3 (Prod.fst (limO (List.drop (Int.toNat (16 : Int)) (List.take (Int.toNat (↑(List.length (expV msg tag (48 : Int))) : Int)) (expV msg tag (48 : Int))))))) (Four.w0 (Prod.fst (limO (List.drop (0 : Nat) (List.take ((0 : Nat) + List.length ([(0 : UInt8), (0 : UInt8), (0 : UInt8), (0 : UInt8), (0 : UInt8), (0 : UInt8), (0 : UInt8), (0 : UInt8), (0 : UInt8), (0 : UInt8), (0 : UInt8), (0 : UInt8), (0 : UInt8), (0 : UInt8), (0 : UInt8), (0 : UInt8)] ++ List.drop (Int.toNat (0 : Int)) (List.take (Int.toNat (16 : Int)) (expV msg tag (48 : Int))))) ([(0 : UInt8), (0 : UInt8), (0 : UInt8), (0 : UInt8), (0 : UInt8), (0 : UInt8), (0 : UInt8), (0 : UInt8), (0 : UInt8), (0 : UInt8), (0 : UInt8), (0 : UInt8), (0 : UInt8), (0 : UInt8), (0 : UInt8), (0 : UInt8)] ++ List.drop (Int.toNat (0 : Int)) (List.take (Int.toNat (16 : Int)) (expV msg tag (48 : Int))))))))) (Four.w1 (Prod.fst (limO
 (List.drop (0 : Nat) (List.take ((0 : Nat) + List.length ([(0 : UInt8), (0 : UInt8), (0 : UInt8), (0 : UInt8), (0 : UInt8), (0 : UInt8), (0 : UInt8), (0 : UInt8), (0 : UInt8), (0 : UInt8), (0 : UInt8), (0 : UInt8), (0 : UInt8), (0 : UInt8), (0 : UInt8), (0 : UInt8)] ++ List.drop (Int.toNat (0 : Int)) (List.take (Int.toNat (16 : Int)) (expV msg tag (48 : Int))))) ([(0 : UInt8), (0 : UInt8), (0 : UInt8), (0 : UInt8), (0 : UInt8), (0 : UInt8), (0 : UInt8), (0 : UInt8), (0 : UInt8), (0 : UInt8), (0 : UInt8), (0 : UInt8), (0 : UInt8), (0 : UInt8), (0 : UInt8), (0 : UInt8)] ++ List.drop (Int.toNat (0 : Int)) (List.take (Int.toNat (16 : Int)) (expV msg tag (48 : Int))))))))) (Four.w2 (Prod.fst (limO (List.drop (0 : Nat) (List.take ((0 : Nat) + List.length ([(0 : UInt8), (0 : UInt8), (0 : UInt8), (0 : UInt8), (0 : UInt8), (0 : UInt8), (0 : UInt8), (0 : UInt8), (0 : UInt8), (0 : UInt8), (0 : UInt8), (0 : UInt8), (0 : UInt8), (0 : UInt8), (0 : UInt8), (0 : UInt8)] ++
 List.drop (Int.toNat (0 : Int)) (List.take (Int.toNat (16 : Int)) (expV msg tag (48 : Int))))) ([(0 : UInt8), (0 : UInt8), (0 : UInt8), (0 : UInt8), (0 : UInt8), (0 : UInt8), (0 : UInt8), (0 : UInt8), (0 : UInt8), (0 : UInt8), (0 : UInt8), (0 : UInt8), (0 : UInt8), (0 : UInt8), (0 : UInt8), (0 : UInt8)] ++ List.drop (Int.toNat (0 : Int)) (List.take (Int.toNat (16 : Int)) (expV msg tag (48 : Int))))))))) (Four.w3 (Prod.fst (limO (List.drop (0 : Nat) (List.take ((0 : Nat) + List.length ([(0 : UInt8), (0 : UInt8), (0 : UInt8), (0 : UInt8), (0 : UInt8), (0 : UInt8), (0 : UInt8), (0 : UInt8), (0 : UInt8), (0 : UInt8), (0 : UInt8), (0 : UInt8), (0 : UInt8), (0 : UInt8), (0 : UInt8), (0 : UInt8)] ++ List.drop (Int.toNat (0 : Int)) (List.take (Int.toNat (16 : Int)) (expV msg tag (48 : Int))))) ([(0 : UInt8), (0 : UInt8), (0 : UInt8), (0 : UInt8), (0 : UInt8), (0 : UInt8), (0 : UInt8), (0 : UInt8), (0 : UInt8), (0 : UInt8), (0 : UInt8), (0 : UInt8), (0 : UInt8),
 (0 : UInt8), (0 : UInt8), (0 : UInt8)] ++ List.drop (Int.toNat (0 : Int)) (List.take (Int.toNat (16 : Int)) (expV msg tag (48 : Int)))))))))))), SV.u64 (Four.w2 (wideP (Eight.mk (Four.w0 (Prod.fst (limO (List.drop (Int.toNat (16 : Int)) (List.take (Int.toNat (↑(List.length (expV msg tag (48 : Int))) : Int)) (expV msg tag (48 : Int))))))) (Four.w1 (Prod.fst (limO (List.drop (Int.toNat (16 : Int)) (List.take (Int.toNat (↑(List.length (expV msg tag (48 : Int))) : Int)) (expV msg tag (48 : Int))))))) (Four.w2 (Prod.fst (limO (List.drop (Int.toNat (16 : Int)) (List.take (Int.toNat (↑(List.length (expV msg tag (48 : Int))) : Int)) (expV msg tag (48 : Int))))))) (Four.w3 (Prod.fst (limO (List.drop (Int.toNat (16 : Int)) (List.take (Int.toNat (↑(List.length (expV msg tag (48 : Int))) : Int)) (expV msg tag (48 : Int))))))) (Four.w0 (Prod.fst (limO (List.drop (0 : Nat) (List.take ((0 : Nat) + List.length ([(0 : UInt8), (0 : UInt8), (0 : UInt8), (0 : UInt8), (0 : UInt8), (0 : UInt8),
 (0 : UInt8), (0 : UInt8), (0 : UInt8), (0 : UInt8), (0 : UInt8), (0 : UInt8), (0 : UInt8), (0 : UInt8), (0 : UInt8), (0 : UInt8)] ++ List.drop (Int.toNat (0 : Int)) (List.take (Int.toNat (16 : Int)) (expV msg tag (48 : Int))))) ([(0 : UInt8), (0 : UInt8), (0 : UInt8), (0 : UInt8), (0 : UInt8), (0 : UInt8), (0 : UInt8), (0 : UInt8), (0 : UInt8), (0 : UInt8), (0 : UInt8), (0 : UInt8), (0 : UInt8), (0 : UInt8), (0 : UInt8), (0 : UInt8)] ++ List.drop (Int.toNat (0 : Int)) (List.take (Int.toNat (16 : Int)) (expV msg tag (48 : Int))))))))) (Four.w1 (Prod.fst (limO (List.drop (0 : Nat) (List.take ((0 : Nat) + List.length ([(0 : UInt8), (0 : UInt8), (0 : UInt8), (0 : UInt8), (0 : UInt8), (0 : UInt8), (0 : UInt8), (0 : UInt8), (0 : UInt8), (0 : UInt8), (0 : UInt8), (0 : UInt8), (0 : UInt8), (0 : UInt8), (0 : UInt8), (0 : UInt8)] ++ List.drop (Int.toNat (0 : Int)) (List.take (Int.toNat (16 : Int)) (expV msg tag (48 : Int)))))
 ([(0 : UInt8), (0 : UInt8), (0 : UInt8), (0 : UInt8), (0 : UInt8), (0 : UInt8), (0 : UInt8), (0 : UInt8), (0 : UInt8), (0 : UInt8), (0 : UInt8), (0 : UInt8), (0 : UInt8), (0 : UInt8), (0 : UInt8), (0 : UInt8)] ++ List.drop (Int.toNat (0 : Int)) (List.take (Int.toNat (16 : Int)) (expV msg tag (48 : Int))))))))) (Four.w2 (Prod.fst (limO (List.drop (0 : Nat) (List.take ((0 : Nat) + List.length ([(0 : UInt8), (0 : UInt8), (0 : UInt8), (0 : UInt8), (0 : UInt8), (0 : UInt8), (0 : UInt8), (0 : UInt8), (0 : UInt8), (0 : UInt8), (0 : UInt8), (0 : UInt8), (0 : UInt8), (0 : UInt8), (0 : UInt8), (0 : UInt8)] ++ List.drop (Int.toNat (0 : Int)) (List.take (Int.toNat (16 : Int)) (expV msg tag (48 : Int))))) ([(0 : UInt8), (0 : UInt8), (0 : UInt8), (0 : UInt8), (0 : UInt8), (0 : UInt8), (0 : UInt8), (0 : UInt8), (0 : UInt8), (0 : UInt8), (0 : UInt8), (0 : UInt8), (0 : UInt8), (0 : UInt8), (0 : UInt8), (0 : UInt8)] ++ List.drop (Int.toNat (0 : Int))
 (List.take (Int.toNat (16 : Int)) (expV msg tag (48 : Int))))))))) (Four.w3 (Prod.fst (limO (List.drop (0 : Nat) (List.take ((0 : Nat) + List.length ([(0 : UInt8), (0 : UInt8), (0 : UInt8), (0 : UInt8), (0 : UInt8), (0 : UInt8), (0 : UInt8), (0 : UInt8), (0 : UInt8), (0 : UInt8), (0 : UInt8), (0 : UInt8), (0 : UInt8), (0 : UInt8), (0 : UInt8), (0 : UInt8)] ++ List.drop (Int.toNat (0 : Int)) (List.take (Int.toNat (16 : Int)) (expV msg tag (48 : Int))))) ([(0 : UInt8), (0 : UInt8), (0 : UInt8), (0 : UInt8), (0 : UInt8), (0 : UInt8), (0 : UInt8), (0 : UInt8), (0 : UInt8), (0 : UInt8), (0 : UInt8), (0 : UInt8), (0 : UInt8), (0 : UInt8), (0 : UInt8), (0 : UInt8)] ++ List.drop (Int.toNat (0 : Int)) (List.take (Int.toNat (16 : Int)) (expV msg tag (48 : Int)))))))))))), SV.u64 (Four.w3 (wideP (Eight.mk (Four.w0 (Prod.fst (limO (List.drop (Int.toNat (16 : Int)) (List.take (Int.toNat (↑(List.length (expV msg tag (48 : Int))) : Int)) (expV msg tag (48 : Int))))))) (Four.w1 (Prod.fst (limO
 (List.drop (Int.toNat (16 : Int)) (List.take (Int.toNat (↑(List.length (expV msg tag (48 : Int))) : Int)) (expV msg tag (48 : Int))))))) (Four.w2 (Prod.fst (limO (List.drop (Int.toNat (16 : Int)) (List.take (Int.toNat (↑(List.length (expV msg tag (48 : Int))) : Int)) (expV msg tag (48 : Int))))))) (Four.w3 (Prod.fst (limO (List.drop (Int.toNat (16 : Int)) (List.take (Int.toNat (↑(List.length (expV msg tag (48 : Int))) : Int)) (expV msg tag (48 : Int))))))) (Four.w0 (Prod.fst (limO (List.drop (0 : Nat) (List.take ((0 : Nat) + List.length ([(0 : UInt8), (0 : UInt8), (0 : UInt8), (0 : UInt8), (0 : UInt8), (0 : UInt8), (0 : UInt8), (0 : UInt8), (0 : UInt8), (0 : UInt8), (0 : UInt8), (0 : UInt8), (0 : UInt8), (0 : UInt8), (0 : UInt8), (0 : UInt8)] ++ List.drop (Int.toNat (0 : Int)) (List.take (Int.toNat (16 : Int)) (expV msg tag (48 : Int))))) ([(0 : UInt8), (0 : UInt8), (0 : UInt8), (0 : UInt8), (0 : UInt8), (0 : UInt8), (0 : UInt8),
 (0 : UInt8), (0 : UInt8), (0 : UInt8), (0 : UInt8), (0 : UInt8), (0 : UInt8), (0 : UInt8), (0 : UInt8), (0 : UInt8)] ++ List.drop (Int.toNat (0 : Int)) (List.take (Int.toNat (16 : Int)) (expV msg tag (48 : Int))))))))) (Four.w1 (Prod.fst (limO (List.drop (0 : Nat) (List.take ((0 : Nat) + List.length ([(0 : UInt8), (0 : UInt8), (0 : UInt8), (0 : UInt8), (0 : UInt8), (0 : UInt8), (0 : UInt8), (0 : UInt8), (0 : UInt8), (0 : UInt8), (0 : UInt8), (0 : UInt8), (0 : UInt8), (0 : UInt8), (0 : UInt8), (0 : UInt8)] ++ List.drop (Int.toNat (0 : Int)) (List.take (Int.toNat (16 : Int)) (expV msg tag (48 : Int))))) ([(0 : UInt8), (0 : UInt8), (0 : UInt8), (0 : UInt8), (0 : UInt8), (0 : UInt8), (0 : UInt8), (0 : UInt8), (0 : UInt8), (0 : UInt8), (0 : UInt8), (0 : UInt8), (0 : UInt8), (0 : UInt8), (0 : UInt8), (0 : UInt8)] ++ List.drop (Int.toNat (0 : Int)) (List.take (Int.toNat (16 : Int)) (expV msg tag (48 : Int))))))))) (Four.w2 (Prod.fst (limO (List.drop (0 : Nat) (List.take ((0 : Nat) +
 List.length ([(0 : UInt8), (0 : UInt8), (0 : UInt8), (0 : UInt8), (0 : UInt8), (0 : UInt8), (0 : UInt8), (0 : UInt8), (0 : UInt8), (0 : UInt8), (0 : UInt8), (0 : UInt8), (0 : UInt8), (0 : UInt8), (0 : UInt8), (0 : UInt8)] ++ List.drop (Int.toNat (0 : Int)) (List.take (Int.toNat (16 : Int)) (expV msg tag (48 : Int))))) ([(0 : UInt8), (0 : UInt8), (0 : UInt8), (0 : UInt8), (0 : UInt8), (0 : UInt8), (0 : UInt8), (0 : UInt8), (0 : UInt8), (0 : UInt8), (0 : UInt8), (0 : UInt8), (0 : UInt8), (0 : UInt8), (0 : UInt8), (0 : UInt8)] ++ List.drop (Int.toNat (0 : Int)) (List.take (Int.toNat (16 : Int)) (expV msg tag (48 : Int))))))))) (Four.w3 (Prod.fst (limO (List.drop (0 : Nat) (List.take ((0 : Nat) + List.length ([(0 : UInt8), (0 : UInt8), (0 : UInt8), (0 : UInt8), (0 : UInt8), (0 : UInt8), (0 : UInt8), (0 : UInt8), (0 : UInt8), (0 : UInt8), (0 : UInt8), (0 : UInt8), (0 : UInt8), (0 : UInt8), (0 : UInt8), (0 : UInt8)] ++ List.drop (Int.toNat (0 : Int))
 (List.take (Int.toNat (16 : Int)) (expV msg tag (48 : Int))))) ([(0 : UInt8), (0 : UInt8), (0 : UInt8), (0 : UInt8), (0 : UInt8), (0 : UInt8), (0 : UInt8), (0 : UInt8), (0 : UInt8), (0 : UInt8), (0 : UInt8), (0 : UInt8), (0 : UInt8), (0 : UInt8), (0 : UInt8), (0 : UInt8)] ++ List.drop (Int.toNat (0 : Int)) (List.take (Int.toNat (16 : Int)) (expV msg tag (48 : Int))))))))))))], SV.i64 (0 : Int)])))))))))) := by kernel_rfl
theorem vcShB (msg tag : List UInt8) (Q : SV → Prop) : LnRaw tt (spSh false) 9 [] {} Tryd.f52 Q (msg, tag, ()) =
 (((List.length msg ≤ (1000000 : Nat)) ∧ (¬exOk tag (48 : Int))) ∧ (Q (SV.tup [SV.agg [SV.u64 (UInt64.ofNat (Int.toNat (0 : Int))), SV.u64 (UInt64.ofNat (Int.toNat (0 : Int))), SV.u64 (UInt64.ofNat (Int.toNat (0 : Int))), SV.u64 (UInt64.ofNat (Int.toNat (0 : Int)))], SV.i64 (2 : Int)]))) := by kernel_rfl
theorem vcSeG (msg tag : List UInt8) (Q : SV → Prop) : LnRaw tt (spSe true) 9 [] {} Tryd.f21 Q (msg, tag, ()) =
 (((List.length msg ≤ (1000000 : Nat)) ∧ (List.length tag ≤ (255 : Nat))) ∧ (Q (SV.tup [SV.agg [SV.ro (RingV.cells rP) (0 : Nat), SV.u64 (Four.w0 (P3.x (mapP (hashP msg tag)))), SV.u64 (Four.w1 (P3.x (mapP (hashP msg tag)))), SV.u64 (Four.w2 (P3.x (mapP (hashP msg tag)))), SV.u64 (Four.w3 (P3.x (mapP (hashP msg tag)))), SV.u64 (Four.w0 (P3.y (mapP (hashP msg tag)))), SV.u64 (Four.w1 (P3.y (mapP (hashP msg tag)))), SV.u64 (Four.w2 (P3.y (mapP (hashP msg tag)))), SV.u64 (Four.w3 (P3.y (mapP (hashP msg tag)))), SV.u64 (Four.w0 (P3.z (mapP (hashP msg tag)))), SV.u64 (Four.w1 (P3.z (mapP (hashP msg tag)))), SV.u64 (Four.w2 (P3.z (mapP (hashP msg tag)))), SV.u64 (Four.w3 (P3.z (mapP (hashP msg tag))))], SV.i64 (0 : Int)]))) := by kernel_rfl
theorem vcSeB (msg tag : List UInt8) (Q : SV → Prop) : LnRaw tt (spSe false) 9 [] {} Tryd.f21 Q (msg, tag, ()) =
 (((List.length msg ≤ (1000000 : Nat)) ∧ (¬List.length tag ≤ (255 : Nat))) ∧ (Q (SV.tup [SV.agg [SV.val (Value.pointer none), SV.u64 (UInt64.ofNat (Int.toNat (0 : Int))), SV.u64 (UInt64.ofNat (Int.toNat (0 : Int))), SV.u64 (UInt64.ofNat (Int.toNat (0 : Int))), SV.u64 (UInt64.ofNat (Int.toNat (0 : Int))), SV.u64 (UInt64.ofNat (Int.toNat (0 : Int))), SV.u64 (UInt64.ofNat (Int.toNat (0 : Int))), SV.u64 (UInt64.ofNat (Int.toNat (0 : Int))), SV.u64 (UInt64.ofNat (Int.toNat (0 : Int))), SV.u64 (UInt64.ofNat (Int.toNat (0 : Int))), SV.u64 (UInt64.ofNat (Int.toNat (0 : Int))), SV.u64 (UInt64.ofNat (Int.toNat (0 : Int))), SV.u64 (UInt64.ofNat (Int.toNat (0 : Int)))], SV.i64 (2 : Int)]))) := by kernel_rfl
end Go.Proofs.YtficbeeoafiiaaaDoor.P12
/- Package sswu: messages as numbers and points: the bodies hold. -/
set_option maxRecDepth 10000
namespace Go.Proofs.YtficbeeoafiiaaaDoor.P12
open Go.Sym Go.Dig R1 H5 H39
theorem expV_len {msg tag : List UInt8} {n : Int} (h1 : n ≤ 8160) : (expV msg tag n).length = n.toNat := by
  rw [expV_eq]
  show ((outE _ _ 255).take n.toNat).length = _
  rw [List.length_take, outE_len]; omega
theorem exp48 {msg tag : List UInt8} : (expV msg tag 48).length = 48 := expV_len (by decide)
theorem ok_WideP : SpecOK Tryd.prog 81 sWideP := by
  unfold sWideP
  rw [wideP_eq]
  refine fspec_weaken ok_WideR id (fun _ _ _ _ h => h) (fun ⟨r, _, _⟩ => by cases r <;> rfl) (fun _ _ => trivial) (fun a h at_ w v r => ?_)
  obtain ⟨q, u, _⟩ := a
  have h' : q = some rP := h
  subst h'
  exact r
theorem ok_LimO : SpecOK Tryd.prog 80 sLimO := by
  unfold sLimO
  rw [limO_eq]
  refine fspec_weaken Go.Proofs.YtficbeeoafiiaaaDoor.ok_Of id (fun _ _ _ _ h => h) (fun _ => rfl) (fun _ _ => trivial) (fun a h at_ w v r => ?_)
  obtain ⟨b, t, _⟩ := a
  have h' : t = true := h
  subst h'
  exact r
theorem spSh_ok (b : Bool) : SpecsOK Tryd.prog (spSh b) := by
  cases b
  · exact .cons ok_ExpB <| .cons ok_LimO <| .cons ok_SwMade <| .cons ok_WideP (.nil _)
  · exact .cons ok_ExpG <| .cons ok_LimO <| .cons ok_SwMade <| .cons ok_WideP (.nil _)
theorem tk0 (l : List UInt8) : List.take (0 + l.length) l = l := by rw [Nat.zero_add, List.take_length]
theorem ok_ShG : SpecOK Tryd.prog 52 sHashPG := by
  unfold sHashPG
  rw [hashP_eq]
  refine fn_okL (by kernel_rfl) tt_ok (spSh_ok true) 9 Tryd.func52 (by decide +kernel) (by kernel_rfl) ?_
  rintro ⟨msg, tag, _⟩ ⟨hm, ht⟩
  replace hm : msg.length ≤ 1000000 := hm
  replace ht : tag.length ≤ 255 := ht
  refine ⟨[], {}, fun x => x = .tup [(hashC msg tag).sv, .i64 0], LnVD.of (vcShG msg tag _) ?_, svf⟩
  have t16 : Int.toNat (16 : Int) = 16 := rfl
  have t0 : Int.toNat (0 : Int) = 0 := rfl
  have l48 := exp48 (msg := msg) (tag := tag)
  simp only [tk0, Int.toNat_natCast, List.take_length, t16, t0, List.drop_zero]
  rw [l48]
  refine ⟨⟨hm, by decide, by decide, ht⟩, ⟨by decide, by decide, by decide⟩, trivial, ⟨by decide, trivial, by decide⟩, ⟨by decide, by decide, by decide⟩, ⟨by trivial, ?_⟩, trivial, trivial, rfl⟩
  rw [List.length_append, List.length_take, l48]
  decide
theorem ok_ShB : SpecOK Tryd.prog 52 sHashPB := by
  refine fn_okL (by kernel_rfl) tt_ok (spSh_ok false) 9 Tryd.func52 (by decide +kernel) (by kernel_rfl) ?_
  rintro ⟨msg, tag, _⟩ ⟨hm, ht⟩
  exact ⟨[], {}, fun x => x = _, LnVD.of (vcShB msg tag _) ⟨⟨hm, fun h => ht h.2.2⟩, rfl⟩, svf⟩
theorem spSe_ok (b : Bool) : SpecsOK Tryd.prog (spSe b) := by
  cases b
  · exact .cons ok_ShB <| .cons ok_SwMap (.nil _)
  · exact .cons ok_ShG <| .cons ok_SwMap (.nil _)
theorem ok_SeG : SpecOK Tryd.prog 21 sEncPG := by
  refine fn_okL (by kernel_rfl) tt_ok (spSe_ok true) 9 Tryd.func21 (by decide +kernel) (by kernel_rfl) ?_
  rintro ⟨msg, tag, _⟩ ⟨hm, ht⟩
  exact ⟨[], {}, fun x => x = .tup [(mapP (hashP msg tag)).sv, .i64 0], LnVD.of (vcSeG msg tag _) ⟨⟨hm, ht⟩, rfl⟩, svf⟩
theorem ok_SeB : SpecOK Tryd.prog 21 sEncPB := by
  refine fn_okL (by kernel_rfl) tt_ok (spSe_ok false) 9 Tryd.func21 (by decide +kernel) (by kernel_rfl) ?_
  rintro ⟨msg, tag, _⟩ ⟨hm, ht⟩
  exact ⟨[], {}, fun x => x = .tup [pNil.sv, .i64 2], LnVD.of (vcSeB msg tag _) ⟨⟨hm, ht⟩, rfl⟩, svf⟩
end Go.Proofs.YtficbeeoafiiaaaDoor.P12
/- The reference of layer 39: numbers as points: what the bodies come to. -/
set_option maxRecDepth 10000
namespace Go.Proofs.YtficbeeoafiiaaaDoor.P12
open Go.Sym Go.Dig R1 Go.Alg
--STOP R1.Sm, pN, qM, qA, qS, qE, qI, hB, fV, rSide, R1.cmpN, bitN
theorem vcRRoot (a : Nat) (Q : SV → Prop) : LnRaw tt spR1 9 [] {} Tryd.f43 Q (fV, (⟨a⟩ : Num), ()) =
 (((Sm (FastV.m fV)) ∧ (Sm (Int.toNat (1 : Int)))) ∧ (((Sm (FastV.m fV + Int.toNat (1 : Int))) ∧ (((0 : Int) ≤ (2 : Int)) ∧ ((2 : Int) ≤ (1073741824 : Int)))) ∧ (((fV = fV) ∧ ((a < pN) ∧ ((FastV.m fV + Int.toNat (1 : Int)) / (2 : Nat) ^ Int.toNat (2 : Int) ≤ pN))) ∧ (((fV = fV) ∧ ((qE a ((FastV.m fV + Int.toNat (1 : Int)) / (2 : Nat) ^ Int.toNat (2 : Int)) < pN) ∧ (qE a ((FastV.m fV + Int.toNat (1 : Int)) / (2 : Nat) ^ Int.toNat (2 : Int)) < pN))) ∧ (((Sm (qM (qE a ((FastV.m fV + Int.toNat (1 : Int)) / (2 : Nat) ^ Int.toNat (2 : Int))) (qE a ((FastV.m fV + Int.toNat (1 : Int)) / (2 : Nat) ^ Int.toNat (2 : Int))))) ∧ (Sm a)) ∧ (Q (SV.tup [SV.lst (LV.num (qE a ((FastV.m fV + Int.toNat (1 : Int)) / (2 : Nat) ^ Int.toNat (2 : Int)))), SV.bool (cmpN (qM (qE a ((FastV.m fV + Int.toNat (1 : Int)) / (2 : Nat) ^ Int.toNat (2 : Int))) (qE a ((FastV.m fV + Int.toNat (1 : Int)) / (2 : Nat) ^ Int.toNat (2 : Int)))) a == (0 : Int))]))))))) := by kernel_rfl
noncomputable def rtN0 (a : Nat) : Nat × Bool := (qE a ((pN + Int.toNat 1) / 2 ^ Int.toNat 2), R1.cmpN (qM (qE a ((pN + Int.toNat 1) / 2 ^ Int.toNat 2)) (qE a ((pN + Int.toNat 1) / 2 ^ Int.toNat 2))) a == 0)
theorem rtN_ex : ∃ f : Nat → Nat × Bool, f = rtN0 := ⟨_, rfl⟩
noncomputable def rtNO : Nat → Nat × Bool := Classical.choose rtN_ex
theorem rtNO_eq : rtNO = rtN0 := Classical.choose_spec rtN_ex
noncomputable def nSwRoot : SpecF := fspec (α := F1) (β := Num × Bool) (fun a => some (a.1 = fV ∧ a.2.1.n < pN)) (fun a => (⟨(rtNO a.2.1.n).1⟩, (rtNO a.2.1.n).2))
noncomputable def spSR : Specs := (43, nSwRoot) :: (6, nField) :: (38, nHexB) :: spR1
end Go.Proofs.YtficbeeoafiiaaaDoor.P12
/- The reference of layer 39: roots hold. -/
set_option maxRecDepth 10000
namespace Go.Proofs.YtficbeeoafiiaaaDoor.P12
open Go.Sym Go.Dig R1 Go.Alg
theorem ok_RRoot : SpecOK Tryd.prog 43 nSwRoot := by
  unfold nSwRoot
  rw [rtNO_eq]
  refine fn_okL (by kernel_rfl) tt_ok spR1_ok 9 Tryd.func43 (by decide +kernel) (by kernel_rfl) ?_
  rintro ⟨f, ⟨a⟩, _⟩ ⟨hf, ha⟩
  replace hf : f = fV := hf
  replace ha : a < pN := ha
  subst hf
  have sq : ∀ x y : Nat, Sm (qM x y) := fun x y => smp (by have := qM_lt x y; omega)
  refine ⟨[], {}, fun x => x = .tup [.lst (.num (rtN0 a).1), .bool (rtN0 a).2], LnVD.of (vcRRoot a _) ?_, svf⟩
  have h1 : pN + 1 ≤ pN + pN := by have := pN_pos; omega
  exact ⟨⟨smp (show pN ≤ pN + pN by omega), smp (show 1 ≤ pN + pN by have := pN_pos; omega)⟩, ⟨smp (show pN + 1 ≤ pN + pN from h1), by decide, by decide⟩, ⟨rfl, ha, e4_le⟩, ⟨rfl, qE_lt _ _, qE_lt _ _⟩, ⟨sq _ _, smp (by omega)⟩, rfl⟩
theorem spSR_ok : SpecsOK Tryd.prog spSR := .cons ok_RRoot <| .cons ok_Field <| .cons ok_HexB spR1_ok
end Go.Proofs.YtficbeeoafiiaaaDoor.P12
/- The reference of layer 39: numbers as points: what the body comes to, by what its tests tell. -/
set_option maxRecDepth 10000
namespace Go.Proofs.YtficbeeoafiiaaaDoor.P12
open Go.Sym Go.Dig R1 Go.Alg
--STOP R1.Sm, pN, qM, qA, qS, qE, qI, hB, fV, rSide, R1.cmpN, rtNO, dg
theorem vcRmTTT (u : Nat) (Q : SV → Prop) : LnRaw tt spSR 9 [(8, 2, .b true), (11, 0, .b true), (14, 4, .b true)] {} Tryd.f11 Q ((⟨u⟩ : Num), ()) =
 ((Value.string (ByteArray.mk #[(53 : UInt8), (97 : UInt8), (99 : UInt8), (54 : UInt8), (51 : UInt8), (53 : UInt8), (100 : UInt8), (56 : UInt8), (97 : UInt8), (97 : UInt8), (51 : UInt8), (97 : UInt8), (57 : UInt8), (51 : UInt8), (101 : UInt8), (55 : UInt8), (98 : UInt8), (51 : UInt8), (101 : UInt8), (98 : UInt8), (98 : UInt8), (100 : UInt8), (53 : UInt8), (53 : UInt8), (55 : UInt8), (54 : UInt8), (57 : UInt8), (56 : UInt8), (56 : UInt8), (54 : UInt8), (98 : UInt8), (99 : UInt8), (54 : UInt8), (53 : UInt8), (49 : UInt8), (100 : UInt8), (48 : UInt8), (54 : UInt8), (98 : UInt8), (48 : UInt8), (99 : UInt8), (99 : UInt8), (53 : UInt8), (51 : UInt8), (98 : UInt8), (48 : UInt8), (102 : UInt8), (54 : UInt8), (51 : UInt8), (98 : UInt8), (99 : UInt8), (101 : UInt8), (51 : UInt8), (99 : UInt8), (51 : UInt8), (101 : UInt8), (50 : UInt8), (55 : UInt8), (100 : UInt8), (50 : UInt8), (54 : UInt8), (48 : UInt8), (52 : UInt8), (98 : UInt8)]) = strB) ∧ (((fV = fV) ∧ (((0 : Nat) < pN) ∧
 (Int.toNat (3 : Int) < pN))) ∧ (((fV = fV) ∧ (((0 : Nat) < pN) ∧ (Int.toNat (10 : Int) < pN))) ∧ (((fV = fV) ∧ ((u < pN) ∧ (u < pN))) ∧ (((fV = fV) ∧ ((qS (0 : Nat) (Int.toNat (10 : Int)) < pN) ∧ (qS (0 : Nat) (Int.toNat (10 : Int)) < pN))) ∧ (((fV = fV) ∧ ((qM u u < pN) ∧ (qM u u < pN))) ∧ (((fV = fV) ∧ ((qM (qS (0 : Nat) (Int.toNat (10 : Int))) (qS (0 : Nat) (Int.toNat (10 : Int))) < pN) ∧ (qM (qM u u) (qM u u) < pN))) ∧ (((fV = fV) ∧ ((qS (0 : Nat) (Int.toNat (10 : Int)) < pN) ∧ (qM u u < pN))) ∧ (((fV = fV) ∧ ((qM (qM (qS (0 : Nat) (Int.toNat (10 : Int))) (qS (0 : Nat) (Int.toNat (10 : Int)))) (qM (qM u u) (qM u u)) < pN) ∧ (qM (qS (0 : Nat) (Int.toNat (10 : Int))) (qM u u) < pN))) ∧ (((fV = fV) ∧ (qA (qM (qM (qS (0 : Nat) (Int.toNat (10 : Int))) (qS (0 : Nat) (Int.toNat (10 : Int)))) (qM (qM u u) (qM u u))) (qM (qS (0 : Nat) (Int.toNat (10 : Int))) (qM u u)) < pN)) ∧ (((fV = fV) ∧ (((0 : Nat) < pN) ∧ (hB < pN))) ∧ (((fV = fV) ∧ (qS (0 : Nat) (Int.toNat (3 : Int)) < pN)) ∧
 (((fV = fV) ∧ ((qS (0 : Nat) hB < pN) ∧ (qI (qS (0 : Nat) (Int.toNat (3 : Int))) < pN))) ∧ (((fV = fV) ∧ ((Int.toNat (1 : Int) < pN) ∧ (qI (qA (qM (qM (qS (0 : Nat) (Int.toNat (10 : Int))) (qS (0 : Nat) (Int.toNat (10 : Int)))) (qM (qM u u) (qM u u))) (qM (qS (0 : Nat) (Int.toNat (10 : Int))) (qM u u))) < pN))) ∧ (((fV = fV) ∧ ((qM (qS (0 : Nat) hB) (qI (qS (0 : Nat) (Int.toNat (3 : Int)))) < pN) ∧ (qA (Int.toNat (1 : Int)) (qI (qA (qM (qM (qS (0 : Nat) (Int.toNat (10 : Int))) (qS (0 : Nat) (Int.toNat (10 : Int)))) (qM (qM u u) (qM u u))) (qM (qS (0 : Nat) (Int.toNat (10 : Int))) (qM u u)))) < pN))) ∧ ((((↑(List.length (dg (qI (qA (qM (qM (qS (0 : Nat) (Int.toNat (10 : Int))) (qS (0 : Nat) (Int.toNat (10 : Int)))) (qM (qM u u) (qM u u))) (qM (qS (0 : Nat) (Int.toNat (10 : Int))) (qM u u)))))) : Int) == (0 : Int)) = true) ∧ (((fV = fV) ∧ ((qS (0 : Nat) (Int.toNat (10 : Int)) < pN) ∧ (qS (0 : Nat) (Int.toNat (3 : Int)) < pN))) ∧ (((fV = fV) ∧
 (qM (qS (0 : Nat) (Int.toNat (10 : Int))) (qS (0 : Nat) (Int.toNat (3 : Int))) < pN)) ∧ (((fV = fV) ∧ ((hB < pN) ∧ (qI (qM (qS (0 : Nat) (Int.toNat (10 : Int))) (qS (0 : Nat) (Int.toNat (3 : Int)))) < pN))) ∧ (((fV = fV) ∧ (qM hB (qI (qM (qS (0 : Nat) (Int.toNat (10 : Int))) (qS (0 : Nat) (Int.toNat (3 : Int))))) < pN)) ∧ (((fV = fV) ∧ (rSide (qM hB (qI (qM (qS (0 : Nat) (Int.toNat (10 : Int))) (qS (0 : Nat) (Int.toNat (3 : Int)))))) < pN)) ∧ ((Prod.snd (rtNO (rSide (qM hB (qI (qM (qS (0 : Nat) (Int.toNat (10 : Int))) (qS (0 : Nat) (Int.toNat (3 : Int)))))))) = true) ∧ (((Sm (Prod.fst (rtNO (rSide (qM hB (qI (qM (qS (0 : Nat) (Int.toNat (10 : Int))) (qS (0 : Nat) (Int.toNat (3 : Int)))))))))) ∧ (((0 : Int) ≤ (0 : Int)) ∧ ((0 : Int) ≤ (1073741824 : Int)))) ∧ (((Sm u) ∧ (((0 : Int) ≤ (0 : Int)) ∧ ((0 : Int) ≤ (1073741824 : Int)))) ∧ ((((↑(Prod.fst (rtNO (rSide (qM hB (qI (qM (qS (0 : Nat) (Int.toNat (10 : Int))) (qS (0 : Nat) (Int.toNat (3 : Int)))))))) / (2 : Nat) ^ Int.toNat (0 : Int) %
 (2 : Nat)) : Int) != (↑(u / (2 : Nat) ^ Int.toNat (0 : Int) % (2 : Nat)) : Int)) = true) ∧ (((fV = fV) ∧ (((0 : Nat) < pN) ∧ (Prod.fst (rtNO (rSide (qM hB (qI (qM (qS (0 : Nat) (Int.toNat (10 : Int))) (qS (0 : Nat) (Int.toNat (3 : Int)))))))) < pN))) ∧ (Q (SV.agg [SV.lst (LV.num (qM hB (qI (qM (qS (0 : Nat) (Int.toNat (10 : Int))) (qS (0 : Nat) (Int.toNat (3 : Int))))))), SV.lst (LV.num (qS (0 : Nat) (Prod.fst (rtNO (rSide (qM hB (qI (qM (qS (0 : Nat) (Int.toNat (10 : Int))) (qS (0 : Nat) (Int.toNat (3 : Int))))))))))), SV.lst (LV.ints [(1 : Int)])])))))))))))))))))))))))))))) := by kernel_rfl
theorem vcRmTTF (u : Nat) (Q : SV → Prop) : LnRaw tt spSR 9 [(8, 2, .b true), (11, 0, .b true), (14, 4, .b false)] {} Tryd.f11 Q ((⟨u⟩ : Num), ()) =
 ((Value.string (ByteArray.mk #[(53 : UInt8), (97 : UInt8), (99 : UInt8), (54 : UInt8), (51 : UInt8), (53 : UInt8), (100 : UInt8), (56 : UInt8), (97 : UInt8), (97 : UInt8), (51 : UInt8), (97 : UInt8), (57 : UInt8), (51 : UInt8), (101 : UInt8), (55 : UInt8), (98 : UInt8), (51 : UInt8), (101 : UInt8), (98 : UInt8), (98 : UInt8), (100 : UInt8), (53 : UInt8), (53 : UInt8), (55 : UInt8), (54 : UInt8), (57 : UInt8), (56 : UInt8), (56 : UInt8), (54 : UInt8), (98 : UInt8), (99 : UInt8), (54 : UInt8), (53 : UInt8), (49 : UInt8), (100 : UInt8), (48 : UInt8), (54 : UInt8), (98 : UInt8), (48 : UInt8), (99 : UInt8), (99 : UInt8), (53 : UInt8), (51 : UInt8), (98 : UInt8), (48 : UInt8), (102 : UInt8), (54 : UInt8), (51 : UInt8), (98 : UInt8), (99 : UInt8), (101 : UInt8), (51 : UInt8), (99 : UInt8), (51 : UInt8), (101 : UInt8), (50 : UInt8), (55 : UInt8), (100 : UInt8), (50 : UInt8), (54 : UInt8), (48 : UInt8), (52 : UInt8), (98 : UInt8)]) = strB) ∧ (((fV = fV) ∧ (((0 : Nat) < pN) ∧
 (Int.toNat (3 : Int) < pN))) ∧ (((fV = fV) ∧ (((0 : Nat) < pN) ∧ (Int.toNat (10 : Int) < pN))) ∧ (((fV = fV) ∧ ((u < pN) ∧ (u < pN))) ∧ (((fV = fV) ∧ ((qS (0 : Nat) (Int.toNat (10 : Int)) < pN) ∧ (qS (0 : Nat) (Int.toNat (10 : Int)) < pN))) ∧ (((fV = fV) ∧ ((qM u u < pN) ∧ (qM u u < pN))) ∧ (((fV = fV) ∧ ((qM (qS (0 : Nat) (Int.toNat (10 : Int))) (qS (0 : Nat) (Int.toNat (10 : Int))) < pN) ∧ (qM (qM u u) (qM u u) < pN))) ∧ (((fV = fV) ∧ ((qS (0 : Nat) (Int.toNat (10 : Int)) < pN) ∧ (qM u u < pN))) ∧ (((fV = fV) ∧ ((qM (qM (qS (0 : Nat) (Int.toNat (10 : Int))) (qS (0 : Nat) (Int.toNat (10 : Int)))) (qM (qM u u) (qM u u)) < pN) ∧ (qM (qS (0 : Nat) (Int.toNat (10 : Int))) (qM u u) < pN))) ∧ (((fV = fV) ∧ (qA (qM (qM (qS (0 : Nat) (Int.toNat (10 : Int))) (qS (0 : Nat) (Int.toNat (10 : Int)))) (qM (qM u u) (qM u u))) (qM (qS (0 : Nat) (Int.toNat (10 : Int))) (qM u u)) < pN)) ∧ (((fV = fV) ∧ (((0 : Nat) < pN) ∧ (hB < pN))) ∧ (((fV = fV) ∧ (qS (0 : Nat) (Int.toNat (3 : Int)) < pN)) ∧
 (((fV = fV) ∧ ((qS (0 : Nat) hB < pN) ∧ (qI (qS (0 : Nat) (Int.toNat (3 : Int))) < pN))) ∧ (((fV = fV) ∧ ((Int.toNat (1 : Int) < pN) ∧ (qI (qA (qM (qM (qS (0 : Nat) (Int.toNat (10 : Int))) (qS (0 : Nat) (Int.toNat (10 : Int)))) (qM (qM u u) (qM u u))) (qM (qS (0 : Nat) (Int.toNat (10 : Int))) (qM u u))) < pN))) ∧ (((fV = fV) ∧ ((qM (qS (0 : Nat) hB) (qI (qS (0 : Nat) (Int.toNat (3 : Int)))) < pN) ∧ (qA (Int.toNat (1 : Int)) (qI (qA (qM (qM (qS (0 : Nat) (Int.toNat (10 : Int))) (qS (0 : Nat) (Int.toNat (10 : Int)))) (qM (qM u u) (qM u u))) (qM (qS (0 : Nat) (Int.toNat (10 : Int))) (qM u u)))) < pN))) ∧ ((((↑(List.length (dg (qI (qA (qM (qM (qS (0 : Nat) (Int.toNat (10 : Int))) (qS (0 : Nat) (Int.toNat (10 : Int)))) (qM (qM u u) (qM u u))) (qM (qS (0 : Nat) (Int.toNat (10 : Int))) (qM u u)))))) : Int) == (0 : Int)) = true) ∧ (((fV = fV) ∧ ((qS (0 : Nat) (Int.toNat (10 : Int)) < pN) ∧ (qS (0 : Nat) (Int.toNat (3 : Int)) < pN))) ∧ (((fV = fV) ∧
 (qM (qS (0 : Nat) (Int.toNat (10 : Int))) (qS (0 : Nat) (Int.toNat (3 : Int))) < pN)) ∧ (((fV = fV) ∧ ((hB < pN) ∧ (qI (qM (qS (0 : Nat) (Int.toNat (10 : Int))) (qS (0 : Nat) (Int.toNat (3 : Int)))) < pN))) ∧ (((fV = fV) ∧ (qM hB (qI (qM (qS (0 : Nat) (Int.toNat (10 : Int))) (qS (0 : Nat) (Int.toNat (3 : Int))))) < pN)) ∧ (((fV = fV) ∧ (rSide (qM hB (qI (qM (qS (0 : Nat) (Int.toNat (10 : Int))) (qS (0 : Nat) (Int.toNat (3 : Int)))))) < pN)) ∧ ((Prod.snd (rtNO (rSide (qM hB (qI (qM (qS (0 : Nat) (Int.toNat (10 : Int))) (qS (0 : Nat) (Int.toNat (3 : Int)))))))) = true) ∧ (((Sm (Prod.fst (rtNO (rSide (qM hB (qI (qM (qS (0 : Nat) (Int.toNat (10 : Int))) (qS (0 : Nat) (Int.toNat (3 : Int)))))))))) ∧ (((0 : Int) ≤ (0 : Int)) ∧ ((0 : Int) ≤ (1073741824 : Int)))) ∧ (((Sm u) ∧ (((0 : Int) ≤ (0 : Int)) ∧ ((0 : Int) ≤ (1073741824 : Int)))) ∧ ((((↑(Prod.fst (rtNO (rSide (qM hB (qI (qM (qS (0 : Nat) (Int.toNat (10 : Int))) (qS (0 : Nat) (Int.toNat (3 : Int)))))))) / (2 : Nat) ^ Int.toNat (0 : Int) %
 (2 : Nat)) : Int) != (↑(u / (2 : Nat) ^ Int.toNat (0 : Int) % (2 : Nat)) : Int)) = false) ∧ (Q (SV.agg [SV.lst (LV.num (qM hB (qI (qM (qS (0 : Nat) (Int.toNat (10 : Int))) (qS (0 : Nat) (Int.toNat (3 : Int))))))), SV.lst (LV.num (Prod.fst (rtNO (rSide (qM hB (qI (qM (qS (0 : Nat) (Int.toNat (10 : Int))) (qS (0 : Nat) (Int.toNat (3 : Int)))))))))), SV.lst (LV.ints [(1 : Int)])]))))))))))))))))))))))))))) := by kernel_rfl
theorem vcRmTFT (u : Nat) (Q : SV → Prop) : LnRaw tt spSR 9 [(8, 2, .b true), (11, 0, .b false), (14, 4, .b true)] {} Tryd.f11 Q ((⟨u⟩ : Num), ()) =
 ((Value.string (ByteArray.mk #[(53 : UInt8), (97 : UInt8), (99 : UInt8), (54 : UInt8), (51 : UInt8), (53 : UInt8), (100 : UInt8), (56 : UInt8), (97 : UInt8), (97 : UInt8), (51 : UInt8), (97 : UInt8), (57 : UInt8), (51 : UInt8), (101 : UInt8), (55 : UInt8), (98 : UInt8), (51 : UInt8), (101 : UInt8), (98 : UInt8), (98 : UInt8), (100 : UInt8), (53 : UInt8), (53 : UInt8), (55 : UInt8), (54 : UInt8), (57 : UInt8), (56 : UInt8), (56 : UInt8), (54 : UInt8), (98 : UInt8), (99 : UInt8), (54 : UInt8), (53 : UInt8), (49 : UInt8), (100 : UInt8), (48 : UInt8), (54 : UInt8), (98 : UInt8), (48 : UInt8), (99 : UInt8), (99 : UInt8), (53 : UInt8), (51 : UInt8), (98 : UInt8), (48 : UInt8), (102 : UInt8), (54 : UInt8), (51 : UInt8), (98 : UInt8), (99 : UInt8), (101 : UInt8), (51 : UInt8), (99 : UInt8), (51 : UInt8), (101 : UInt8), (50 : UInt8), (55 : UInt8), (100 : UInt8), (50 : UInt8), (54 : UInt8), (48 : UInt8), (52 : UInt8), (98 : UInt8)]) = strB) ∧ (((fV = fV) ∧ (((0 : Nat) < pN) ∧
 (Int.toNat (3 : Int) < pN))) ∧ (((fV = fV) ∧ (((0 : Nat) < pN) ∧ (Int.toNat (10 : Int) < pN))) ∧ (((fV = fV) ∧ ((u < pN) ∧ (u < pN))) ∧ (((fV = fV) ∧ ((qS (0 : Nat) (Int.toNat (10 : Int)) < pN) ∧ (qS (0 : Nat) (Int.toNat (10 : Int)) < pN))) ∧ (((fV = fV) ∧ ((qM u u < pN) ∧ (qM u u < pN))) ∧ (((fV = fV) ∧ ((qM (qS (0 : Nat) (Int.toNat (10 : Int))) (qS (0 : Nat) (Int.toNat (10 : Int))) < pN) ∧ (qM (qM u u) (qM u u) < pN))) ∧ (((fV = fV) ∧ ((qS (0 : Nat) (Int.toNat (10 : Int)) < pN) ∧ (qM u u < pN))) ∧ (((fV = fV) ∧ ((qM (qM (qS (0 : Nat) (Int.toNat (10 : Int))) (qS (0 : Nat) (Int.toNat (10 : Int)))) (qM (qM u u) (qM u u)) < pN) ∧ (qM (qS (0 : Nat) (Int.toNat (10 : Int))) (qM u u) < pN))) ∧ (((fV = fV) ∧ (qA (qM (qM (qS (0 : Nat) (Int.toNat (10 : Int))) (qS (0 : Nat) (Int.toNat (10 : Int)))) (qM (qM u u) (qM u u))) (qM (qS (0 : Nat) (Int.toNat (10 : Int))) (qM u u)) < pN)) ∧ (((fV = fV) ∧ (((0 : Nat) < pN) ∧ (hB < pN))) ∧ (((fV = fV) ∧ (qS (0 : Nat) (Int.toNat (3 : Int)) < pN)) ∧
 (((fV = fV) ∧ ((qS (0 : Nat) hB < pN) ∧ (qI (qS (0 : Nat) (Int.toNat (3 : Int))) < pN))) ∧ (((fV = fV) ∧ ((Int.toNat (1 : Int) < pN) ∧ (qI (qA (qM (qM (qS (0 : Nat) (Int.toNat (10 : Int))) (qS (0 : Nat) (Int.toNat (10 : Int)))) (qM (qM u u) (qM u u))) (qM (qS (0 : Nat) (Int.toNat (10 : Int))) (qM u u))) < pN))) ∧ (((fV = fV) ∧ ((qM (qS (0 : Nat) hB) (qI (qS (0 : Nat) (Int.toNat (3 : Int)))) < pN) ∧ (qA (Int.toNat (1 : Int)) (qI (qA (qM (qM (qS (0 : Nat) (Int.toNat (10 : Int))) (qS (0 : Nat) (Int.toNat (10 : Int)))) (qM (qM u u) (qM u u))) (qM (qS (0 : Nat) (Int.toNat (10 : Int))) (qM u u)))) < pN))) ∧ ((((↑(List.length (dg (qI (qA (qM (qM (qS (0 : Nat) (Int.toNat (10 : Int))) (qS (0 : Nat) (Int.toNat (10 : Int)))) (qM (qM u u) (qM u u))) (qM (qS (0 : Nat) (Int.toNat (10 : Int))) (qM u u)))))) : Int) == (0 : Int)) = true) ∧ (((fV = fV) ∧ ((qS (0 : Nat) (Int.toNat (10 : Int)) < pN) ∧ (qS (0 : Nat) (Int.toNat (3 : Int)) < pN))) ∧ (((fV = fV) ∧
 (qM (qS (0 : Nat) (Int.toNat (10 : Int))) (qS (0 : Nat) (Int.toNat (3 : Int))) < pN)) ∧ (((fV = fV) ∧ ((hB < pN) ∧ (qI (qM (qS (0 : Nat) (Int.toNat (10 : Int))) (qS (0 : Nat) (Int.toNat (3 : Int)))) < pN))) ∧ (((fV = fV) ∧ (qM hB (qI (qM (qS (0 : Nat) (Int.toNat (10 : Int))) (qS (0 : Nat) (Int.toNat (3 : Int))))) < pN)) ∧ (((fV = fV) ∧ (rSide (qM hB (qI (qM (qS (0 : Nat) (Int.toNat (10 : Int))) (qS (0 : Nat) (Int.toNat (3 : Int)))))) < pN)) ∧ ((Prod.snd (rtNO (rSide (qM hB (qI (qM (qS (0 : Nat) (Int.toNat (10 : Int))) (qS (0 : Nat) (Int.toNat (3 : Int)))))))) = false) ∧ (((fV = fV) ∧ ((qS (0 : Nat) (Int.toNat (10 : Int)) < pN) ∧ (qM u u < pN))) ∧ (((fV = fV) ∧ ((qM (qS (0 : Nat) (Int.toNat (10 : Int))) (qM u u) < pN) ∧ (qM hB (qI (qM (qS (0 : Nat) (Int.toNat (10 : Int))) (qS (0 : Nat) (Int.toNat (3 : Int))))) < pN))) ∧ (((fV = fV) ∧ (qM (qM (qS (0 : Nat) (Int.toNat (10 : Int))) (qM u u)) (qM hB (qI (qM (qS (0 : Nat) (Int.toNat (10 : Int))) (qS (0 : Nat) (Int.toNat (3 : Int)))))) <
 pN)) ∧ (((fV = fV) ∧ (rSide (qM (qM (qS (0 : Nat) (Int.toNat (10 : Int))) (qM u u)) (qM hB (qI (qM (qS (0 : Nat) (Int.toNat (10 : Int))) (qS (0 : Nat) (Int.toNat (3 : Int))))))) < pN)) ∧ (((Sm (Prod.fst (rtNO (rSide (qM (qM (qS (0 : Nat) (Int.toNat (10 : Int))) (qM u u)) (qM hB (qI (qM (qS (0 : Nat) (Int.toNat (10 : Int))) (qS (0 : Nat) (Int.toNat (3 : Int))))))))))) ∧ (((0 : Int) ≤ (0 : Int)) ∧ ((0 : Int) ≤ (1073741824 : Int)))) ∧ (((Sm u) ∧ (((0 : Int) ≤ (0 : Int)) ∧ ((0 : Int) ≤ (1073741824 : Int)))) ∧ ((((↑(Prod.fst (rtNO (rSide (qM (qM (qS (0 : Nat) (Int.toNat (10 : Int))) (qM u u)) (qM hB (qI (qM (qS (0 : Nat) (Int.toNat (10 : Int))) (qS (0 : Nat) (Int.toNat (3 : Int))))))))) / (2 : Nat) ^ Int.toNat (0 : Int) % (2 : Nat)) : Int) != (↑(u / (2 : Nat) ^ Int.toNat (0 : Int) % (2 : Nat)) : Int)) = true) ∧ (((fV = fV) ∧ (((0 : Nat) < pN) ∧ (Prod.fst (rtNO (rSide (qM (qM (qS (0 : Nat) (Int.toNat (10 : Int))) (qM u u))
 (qM hB (qI (qM (qS (0 : Nat) (Int.toNat (10 : Int))) (qS (0 : Nat) (Int.toNat (3 : Int))))))))) < pN))) ∧ (Q (SV.agg [SV.lst (LV.num (qM (qM (qS (0 : Nat) (Int.toNat (10 : Int))) (qM u u)) (qM hB (qI (qM (qS (0 : Nat) (Int.toNat (10 : Int))) (qS (0 : Nat) (Int.toNat (3 : Int)))))))), SV.lst (LV.num (qS (0 : Nat) (Prod.fst (rtNO (rSide (qM (qM (qS (0 : Nat) (Int.toNat (10 : Int))) (qM u u)) (qM hB (qI (qM (qS (0 : Nat) (Int.toNat (10 : Int))) (qS (0 : Nat) (Int.toNat (3 : Int)))))))))))), SV.lst (LV.ints [(1 : Int)])])))))))))))))))))))))))))))))))) := by kernel_rfl
theorem vcRmTFF (u : Nat) (Q : SV → Prop) : LnRaw tt spSR 9 [(8, 2, .b true), (11, 0, .b false), (14, 4, .b false)] {} Tryd.f11 Q ((⟨u⟩ : Num), ()) =
 ((Value.string (ByteArray.mk #[(53 : UInt8), (97 : UInt8), (99 : UInt8), (54 : UInt8), (51 : UInt8), (53 : UInt8), (100 : UInt8), (56 : UInt8), (97 : UInt8), (97 : UInt8), (51 : UInt8), (97 : UInt8), (57 : UInt8), (51 : UInt8), (101 : UInt8), (55 : UInt8), (98 : UInt8), (51 : UInt8), (101 : UInt8), (98 : UInt8), (98 : UInt8), (100 : UInt8), (53 : UInt8), (53 : UInt8), (55 : UInt8), (54 : UInt8), (57 : UInt8), (56 : UInt8), (56 : UInt8), (54 : UInt8), (98 : UInt8), (99 : UInt8), (54 : UInt8), (53 : UInt8), (49 : UInt8), (100 : UInt8), (48 : UInt8), (54 : UInt8), (98 : UInt8), (48 : UInt8), (99 : UInt8), (99 : UInt8), (53 : UInt8), (51 : UInt8), (98 : UInt8), (48 : UInt8), (102 : UInt8), (54 : UInt8), (51 : UInt8), (98 : UInt8), (99 : UInt8), (101 : UInt8), (51 : UInt8), (99 : UInt8), (51 : UInt8), (101 : UInt8), (50 : UInt8), (55 : UInt8), (100 : UInt8), (50 : UInt8), (54 : UInt8), (48 : UInt8), (52 : UInt8), (98 : UInt8)]) = strB) ∧ (((fV = fV) ∧ (((0 : Nat) < pN) ∧
 (Int.toNat (3 : Int) < pN))) ∧ (((fV = fV) ∧ (((0 : Nat) < pN) ∧ (Int.toNat (10 : Int) < pN))) ∧ (((fV = fV) ∧ ((u < pN) ∧ (u < pN))) ∧ (((fV = fV) ∧ ((qS (0 : Nat) (Int.toNat (10 : Int)) < pN) ∧ (qS (0 : Nat) (Int.toNat (10 : Int)) < pN))) ∧ (((fV = fV) ∧ ((qM u u < pN) ∧ (qM u u < pN))) ∧ (((fV = fV) ∧ ((qM (qS (0 : Nat) (Int.toNat (10 : Int))) (qS (0 : Nat) (Int.toNat (10 : Int))) < pN) ∧ (qM (qM u u) (qM u u) < pN))) ∧ (((fV = fV) ∧ ((qS (0 : Nat) (Int.toNat (10 : Int)) < pN) ∧ (qM u u < pN))) ∧ (((fV = fV) ∧ ((qM (qM (qS (0 : Nat) (Int.toNat (10 : Int))) (qS (0 : Nat) (Int.toNat (10 : Int)))) (qM (qM u u) (qM u u)) < pN) ∧ (qM (qS (0 : Nat) (Int.toNat (10 : Int))) (qM u u) < pN))) ∧ (((fV = fV) ∧ (qA (qM (qM (qS (0 : Nat) (Int.toNat (10 : Int))) (qS (0 : Nat) (Int.toNat (10 : Int)))) (qM (qM u u) (qM u u))) (qM (qS (0 : Nat) (Int.toNat (10 : Int))) (qM u u)) < pN)) ∧ (((fV = fV) ∧ (((0 : Nat) < pN) ∧ (hB < pN))) ∧ (((fV = fV) ∧ (qS (0 : Nat) (Int.toNat (3 : Int)) < pN)) ∧
 (((fV = fV) ∧ ((qS (0 : Nat) hB < pN) ∧ (qI (qS (0 : Nat) (Int.toNat (3 : Int))) < pN))) ∧ (((fV = fV) ∧ ((Int.toNat (1 : Int) < pN) ∧ (qI (qA (qM (qM (qS (0 : Nat) (Int.toNat (10 : Int))) (qS (0 : Nat) (Int.toNat (10 : Int)))) (qM (qM u u) (qM u u))) (qM (qS (0 : Nat) (Int.toNat (10 : Int))) (qM u u))) < pN))) ∧ (((fV = fV) ∧ ((qM (qS (0 : Nat) hB) (qI (qS (0 : Nat) (Int.toNat (3 : Int)))) < pN) ∧ (qA (Int.toNat (1 : Int)) (qI (qA (qM (qM (qS (0 : Nat) (Int.toNat (10 : Int))) (qS (0 : Nat) (Int.toNat (10 : Int)))) (qM (qM u u) (qM u u))) (qM (qS (0 : Nat) (Int.toNat (10 : Int))) (qM u u)))) < pN))) ∧ ((((↑(List.length (dg (qI (qA (qM (qM (qS (0 : Nat) (Int.toNat (10 : Int))) (qS (0 : Nat) (Int.toNat (10 : Int)))) (qM (qM u u) (qM u u))) (qM (qS (0 : Nat) (Int.toNat (10 : Int))) (qM u u)))))) : Int) == (0 : Int)) = true) ∧ (((fV = fV) ∧ ((qS (0 : Nat) (Int.toNat (10 : Int)) < pN) ∧ (qS (0 : Nat) (Int.toNat (3 : Int)) < pN))) ∧ (((fV = fV) ∧
 (qM (qS (0 : Nat) (Int.toNat (10 : Int))) (qS (0 : Nat) (Int.toNat (3 : Int))) < pN)) ∧ (((fV = fV) ∧ ((hB < pN) ∧ (qI (qM (qS (0 : Nat) (Int.toNat (10 : Int))) (qS (0 : Nat) (Int.toNat (3 : Int)))) < pN))) ∧ (((fV = fV) ∧ (qM hB (qI (qM (qS (0 : Nat) (Int.toNat (10 : Int))) (qS (0 : Nat) (Int.toNat (3 : Int))))) < pN)) ∧ (((fV = fV) ∧ (rSide (qM hB (qI (qM (qS (0 : Nat) (Int.toNat (10 : Int))) (qS (0 : Nat) (Int.toNat (3 : Int)))))) < pN)) ∧ ((Prod.snd (rtNO (rSide (qM hB (qI (qM (qS (0 : Nat) (Int.toNat (10 : Int))) (qS (0 : Nat) (Int.toNat (3 : Int)))))))) = false) ∧ (((fV = fV) ∧ ((qS (0 : Nat) (Int.toNat (10 : Int)) < pN) ∧ (qM u u < pN))) ∧ (((fV = fV) ∧ ((qM (qS (0 : Nat) (Int.toNat (10 : Int))) (qM u u) < pN) ∧ (qM hB (qI (qM (qS (0 : Nat) (Int.toNat (10 : Int))) (qS (0 : Nat) (Int.toNat (3 : Int))))) < pN))) ∧ (((fV = fV) ∧ (qM (qM (qS (0 : Nat) (Int.toNat (10 : Int))) (qM u u)) (qM hB (qI (qM (qS (0 : Nat) (Int.toNat (10 : Int))) (qS (0 : Nat) (Int.toNat (3 : Int)))))) <
 pN)) ∧ (((fV = fV) ∧ (rSide (qM (qM (qS (0 : Nat) (Int.toNat (10 : Int))) (qM u u)) (qM hB (qI (qM (qS (0 : Nat) (Int.toNat (10 : Int))) (qS (0 : Nat) (Int.toNat (3 : Int))))))) < pN)) ∧ (((Sm (Prod.fst (rtNO (rSide (qM (qM (qS (0 : Nat) (Int.toNat (10 : Int))) (qM u u)) (qM hB (qI (qM (qS (0 : Nat) (Int.toNat (10 : Int))) (qS (0 : Nat) (Int.toNat (3 : Int))))))))))) ∧ (((0 : Int) ≤ (0 : Int)) ∧ ((0 : Int) ≤ (1073741824 : Int)))) ∧ (((Sm u) ∧ (((0 : Int) ≤ (0 : Int)) ∧ ((0 : Int) ≤ (1073741824 : Int)))) ∧ ((((↑(Prod.fst (rtNO (rSide (qM (qM (qS (0 : Nat) (Int.toNat (10 : Int))) (qM u u)) (qM hB (qI (qM (qS (0 : Nat) (Int.toNat (10 : Int))) (qS (0 : Nat) (Int.toNat (3 : Int))))))))) / (2 : Nat) ^ Int.toNat (0 : Int) % (2 : Nat)) : Int) != (↑(u / (2 : Nat) ^ Int.toNat (0 : Int) % (2 : Nat)) : Int)) = false) ∧ (Q (SV.agg [SV.lst (LV.num (qM (qM (qS (0 : Nat) (Int.toNat (10 : Int))) (qM u u)) (qM hB (qI (qM (qS (0 : Nat) (Int.toNat (10 : Int))) (qS (0 : Nat) (Int.toNat (3 : Int)))))))),
 SV.lst (LV.num (Prod.fst (rtNO (rSide (qM (qM (qS (0 : Nat) (Int.toNat (10 : Int))) (qM u u)) (qM hB (qI (qM (qS (0 : Nat) (Int.toNat (10 : Int))) (qS (0 : Nat) (Int.toNat (3 : Int))))))))))), SV.lst (LV.ints [(1 : Int)])]))))))))))))))))))))))))))))))) := by kernel_rfl
theorem vcRmFTT (u : Nat) (Q : SV → Prop) : LnRaw tt spSR 9 [(8, 2, .b false), (11, 0, .b true), (14, 4, .b true)] {} Tryd.f11 Q ((⟨u⟩ : Num), ()) =
 ((Value.string (ByteArray.mk #[(53 : UInt8), (97 : UInt8), (99 : UInt8), (54 : UInt8), (51 : UInt8), (53 : UInt8), (100 : UInt8), (56 : UInt8), (97 : UInt8), (97 : UInt8), (51 : UInt8), (97 : UInt8), (57 : UInt8), (51 : UInt8), (101 : UInt8), (55 : UInt8), (98 : UInt8), (51 : UInt8), (101 : UInt8), (98 : UInt8), (98 : UInt8), (100 : UInt8), (53 : UInt8), (53 : UInt8), (55 : UInt8), (54 : UInt8), (57 : UInt8), (56 : UInt8), (56 : UInt8), (54 : UInt8), (98 : UInt8), (99 : UInt8), (54 : UInt8), (53 : UInt8), (49 : UInt8), (100 : UInt8), (48 : UInt8), (54 : UInt8), (98 : UInt8), (48 : UInt8), (99 : UInt8), (99 : UInt8), (53 : UInt8), (51 : UInt8), (98 : UInt8), (48 : UInt8), (102 : UInt8), (54 : UInt8), (51 : UInt8), (98 : UInt8), (99 : UInt8), (101 : UInt8), (51 : UInt8), (99 : UInt8), (51 : UInt8), (101 : UInt8), (50 : UInt8), (55 : UInt8), (100 : UInt8), (50 : UInt8), (54 : UInt8), (48 : UInt8), (52 : UInt8), (98 : UInt8)]) = strB) ∧ (((fV = fV) ∧ (((0 : Nat) < pN) ∧
 (Int.toNat (3 : Int) < pN))) ∧ (((fV = fV) ∧ (((0 : Nat) < pN) ∧ (Int.toNat (10 : Int) < pN))) ∧ (((fV = fV) ∧ ((u < pN) ∧ (u < pN))) ∧ (((fV = fV) ∧ ((qS (0 : Nat) (Int.toNat (10 : Int)) < pN) ∧ (qS (0 : Nat) (Int.toNat (10 : Int)) < pN))) ∧ (((fV = fV) ∧ ((qM u u < pN) ∧ (qM u u < pN))) ∧ (((fV = fV) ∧ ((qM (qS (0 : Nat) (Int.toNat (10 : Int))) (qS (0 : Nat) (Int.toNat (10 : Int))) < pN) ∧ (qM (qM u u) (qM u u) < pN))) ∧ (((fV = fV) ∧ ((qS (0 : Nat) (Int.toNat (10 : Int)) < pN) ∧ (qM u u < pN))) ∧ (((fV = fV) ∧ ((qM (qM (qS (0 : Nat) (Int.toNat (10 : Int))) (qS (0 : Nat) (Int.toNat (10 : Int)))) (qM (qM u u) (qM u u)) < pN) ∧ (qM (qS (0 : Nat) (Int.toNat (10 : Int))) (qM u u) < pN))) ∧ (((fV = fV) ∧ (qA (qM (qM (qS (0 : Nat) (Int.toNat (10 : Int))) (qS (0 : Nat) (Int.toNat (10 : Int)))) (qM (qM u u) (qM u u))) (qM (qS (0 : Nat) (Int.toNat (10 : Int))) (qM u u)) < pN)) ∧ (((fV = fV) ∧ (((0 : Nat) < pN) ∧ (hB < pN))) ∧ (((fV = fV) ∧ (qS (0 : Nat) (Int.toNat (3 : Int)) < pN)) ∧
 (((fV = fV) ∧ ((qS (0 : Nat) hB < pN) ∧ (qI (qS (0 : Nat) (Int.toNat (3 : Int))) < pN))) ∧ (((fV = fV) ∧ ((Int.toNat (1 : Int) < pN) ∧ (qI (qA (qM (qM (qS (0 : Nat) (Int.toNat (10 : Int))) (qS (0 : Nat) (Int.toNat (10 : Int)))) (qM (qM u u) (qM u u))) (qM (qS (0 : Nat) (Int.toNat (10 : Int))) (qM u u))) < pN))) ∧ (((fV = fV) ∧ ((qM (qS (0 : Nat) hB) (qI (qS (0 : Nat) (Int.toNat (3 : Int)))) < pN) ∧ (qA (Int.toNat (1 : Int)) (qI (qA (qM (qM (qS (0 : Nat) (Int.toNat (10 : Int))) (qS (0 : Nat) (Int.toNat (10 : Int)))) (qM (qM u u) (qM u u))) (qM (qS (0 : Nat) (Int.toNat (10 : Int))) (qM u u)))) < pN))) ∧ ((((↑(List.length (dg (qI (qA (qM (qM (qS (0 : Nat) (Int.toNat (10 : Int))) (qS (0 : Nat) (Int.toNat (10 : Int)))) (qM (qM u u) (qM u u))) (qM (qS (0 : Nat) (Int.toNat (10 : Int))) (qM u u)))))) : Int) == (0 : Int)) = false) ∧ (((fV = fV) ∧ (qM (qM (qS (0 : Nat) hB) (qI (qS (0 : Nat) (Int.toNat (3 : Int))))) (qA (Int.toNat (1 : Int)) (qI
 (qA (qM (qM (qS (0 : Nat) (Int.toNat (10 : Int))) (qS (0 : Nat) (Int.toNat (10 : Int)))) (qM (qM u u) (qM u u))) (qM (qS (0 : Nat) (Int.toNat (10 : Int))) (qM u u))))) < pN)) ∧ (((fV = fV) ∧ (rSide (qM (qM (qS (0 : Nat) hB) (qI (qS (0 : Nat) (Int.toNat (3 : Int))))) (qA (Int.toNat (1 : Int)) (qI (qA (qM (qM (qS (0 : Nat) (Int.toNat (10 : Int))) (qS (0 : Nat) (Int.toNat (10 : Int)))) (qM (qM u u) (qM u u))) (qM (qS (0 : Nat) (Int.toNat (10 : Int))) (qM u u)))))) < pN)) ∧ ((Prod.snd (rtNO (rSide (qM (qM (qS (0 : Nat) hB) (qI (qS (0 : Nat) (Int.toNat (3 : Int))))) (qA (Int.toNat (1 : Int)) (qI (qA (qM (qM (qS (0 : Nat) (Int.toNat (10 : Int))) (qS (0 : Nat) (Int.toNat (10 : Int)))) (qM (qM u u) (qM u u))) (qM (qS (0 : Nat) (Int.toNat (10 : Int))) (qM u u)))))))) = true) ∧ (((Sm (Prod.fst (rtNO (rSide (qM (qM (qS (0 : Nat) hB) (qI (qS (0 : Nat) (Int.toNat (3 : Int))))) (qA (Int.toNat (1 : Int)) (qI (qA (qM (qM (qS (0 : Nat) (Int.toNat (10 : Int))) (qS (0 : Nat) (Int.toNat (10 : Int))))
 (qM (qM u u) (qM u u))) (qM (qS (0 : Nat) (Int.toNat (10 : Int))) (qM u u)))))))))) ∧ (((0 : Int) ≤ (0 : Int)) ∧ ((0 : Int) ≤ (1073741824 : Int)))) ∧ (((Sm u) ∧ (((0 : Int) ≤ (0 : Int)) ∧ ((0 : Int) ≤ (1073741824 : Int)))) ∧ ((((↑(Prod.fst (rtNO (rSide (qM (qM (qS (0 : Nat) hB) (qI (qS (0 : Nat) (Int.toNat (3 : Int))))) (qA (Int.toNat (1 : Int)) (qI (qA (qM (qM (qS (0 : Nat) (Int.toNat (10 : Int))) (qS (0 : Nat) (Int.toNat (10 : Int)))) (qM (qM u u) (qM u u))) (qM (qS (0 : Nat) (Int.toNat (10 : Int))) (qM u u)))))))) / (2 : Nat) ^ Int.toNat (0 : Int) % (2 : Nat)) : Int) != (↑(u / (2 : Nat) ^ Int.toNat (0 : Int) % (2 : Nat)) : Int)) = true) ∧ (((fV = fV) ∧ (((0 : Nat) < pN) ∧ (Prod.fst (rtNO (rSide (qM (qM (qS (0 : Nat) hB) (qI (qS (0 : Nat) (Int.toNat (3 : Int))))) (qA (Int.toNat (1 : Int)) (qI (qA (qM (qM (qS (0 : Nat) (Int.toNat (10 : Int))) (qS (0 : Nat) (Int.toNat (10 : Int)))) (qM (qM u u) (qM u u))) (qM (qS (0 : Nat) (Int.toNat (10 : Int))) (qM u u)))))))) < pN))) ∧ (Q (SV.agg
 [SV.lst (LV.num (qM (qM (qS (0 : Nat) hB) (qI (qS (0 : Nat) (Int.toNat (3 : Int))))) (qA (Int.toNat (1 : Int)) (qI (qA (qM (qM (qS (0 : Nat) (Int.toNat (10 : Int))) (qS (0 : Nat) (Int.toNat (10 : Int)))) (qM (qM u u) (qM u u))) (qM (qS (0 : Nat) (Int.toNat (10 : Int))) (qM u u))))))), SV.lst (LV.num (qS (0 : Nat) (Prod.fst (rtNO (rSide (qM (qM (qS (0 : Nat) hB) (qI (qS (0 : Nat) (Int.toNat (3 : Int))))) (qA (Int.toNat (1 : Int)) (qI (qA (qM (qM (qS (0 : Nat) (Int.toNat (10 : Int))) (qS (0 : Nat) (Int.toNat (10 : Int)))) (qM (qM u u) (qM u u))) (qM (qS (0 : Nat) (Int.toNat (10 : Int))) (qM u u))))))))))), SV.lst (LV.ints [(1 : Int)])]))))))))))))))))))))))))) := by kernel_rfl
theorem vcRmFTF (u : Nat) (Q : SV → Prop) : LnRaw tt spSR 9 [(8, 2, .b false), (11, 0, .b true), (14, 4, .b false)] {} Tryd.f11 Q ((⟨u⟩ : Num), ()) =
 ((Value.string (ByteArray.mk #[(53 : UInt8), (97 : UInt8), (99 : UInt8), (54 : UInt8), (51 : UInt8), (53 : UInt8), (100 : UInt8), (56 : UInt8), (97 : UInt8), (97 : UInt8), (51 : UInt8), (97 : UInt8), (57 : UInt8), (51 : UInt8), (101 : UInt8), (55 : UInt8), (98 : UInt8), (51 : UInt8), (101 : UInt8), (98 : UInt8), (98 : UInt8), (100 : UInt8), (53 : UInt8), (53 : UInt8), (55 : UInt8), (54 : UInt8), (57 : UInt8), (56 : UInt8), (56 : UInt8), (54 : UInt8), (98 : UInt8), (99 : UInt8), (54 : UInt8), (53 : UInt8), (49 : UInt8), (100 : UInt8), (48 : UInt8), (54 : UInt8), (98 : UInt8), (48 : UInt8), (99 : UInt8), (99 : UInt8), (53 : UInt8), (51 : UInt8), (98 : UInt8), (48 : UInt8), (102 : UInt8), (54 : UInt8), (51 : UInt8), (98 : UInt8), (99 : UInt8), (101 : UInt8), (51 : UInt8), (99 : UInt8), (51 : UInt8), (101 : UInt8), (50 : UInt8), (55 : UInt8), (100 : UInt8), (50 : UInt8), (54 : UInt8), (48 : UInt8), (52 : UInt8), (98 : UInt8)]) = strB) ∧ (((fV = fV) ∧ (((0 : Nat) < pN) ∧
 (Int.toNat (3 : Int) < pN))) ∧ (((fV = fV) ∧ (((0 : Nat) < pN) ∧ (Int.toNat (10 : Int) < pN))) ∧ (((fV = fV) ∧ ((u < pN) ∧ (u < pN))) ∧ (((fV = fV) ∧ ((qS (0 : Nat) (Int.toNat (10 : Int)) < pN) ∧ (qS (0 : Nat) (Int.toNat (10 : Int)) < pN))) ∧ (((fV = fV) ∧ ((qM u u < pN) ∧ (qM u u < pN))) ∧ (((fV = fV) ∧ ((qM (qS (0 : Nat) (Int.toNat (10 : Int))) (qS (0 : Nat) (Int.toNat (10 : Int))) < pN) ∧ (qM (qM u u) (qM u u) < pN))) ∧ (((fV = fV) ∧ ((qS (0 : Nat) (Int.toNat (10 : Int)) < pN) ∧ (qM u u < pN))) ∧ (((fV = fV) ∧ ((qM (qM (qS (0 : Nat) (Int.toNat (10 : Int))) (qS (0 : Nat) (Int.toNat (10 : Int)))) (qM (qM u u) (qM u u)) < pN) ∧ (qM (qS (0 : Nat) (Int.toNat (10 : Int))) (qM u u) < pN))) ∧ (((fV = fV) ∧ (qA (qM (qM (qS (0 : Nat) (Int.toNat (10 : Int))) (qS (0 : Nat) (Int.toNat (10 : Int)))) (qM (qM u u) (qM u u))) (qM (qS (0 : Nat) (Int.toNat (10 : Int))) (qM u u)) < pN)) ∧ (((fV = fV) ∧ (((0 : Nat) < pN) ∧ (hB < pN))) ∧ (((fV = fV) ∧ (qS (0 : Nat) (Int.toNat (3 : Int)) < pN)) ∧
 (((fV = fV) ∧ ((qS (0 : Nat) hB < pN) ∧ (qI (qS (0 : Nat) (Int.toNat (3 : Int))) < pN))) ∧ (((fV = fV) ∧ ((Int.toNat (1 : Int) < pN) ∧ (qI (qA (qM (qM (qS (0 : Nat) (Int.toNat (10 : Int))) (qS (0 : Nat) (Int.toNat (10 : Int)))) (qM (qM u u) (qM u u))) (qM (qS (0 : Nat) (Int.toNat (10 : Int))) (qM u u))) < pN))) ∧ (((fV = fV) ∧ ((qM (qS (0 : Nat) hB) (qI (qS (0 : Nat) (Int.toNat (3 : Int)))) < pN) ∧ (qA (Int.toNat (1 : Int)) (qI (qA (qM (qM (qS (0 : Nat) (Int.toNat (10 : Int))) (qS (0 : Nat) (Int.toNat (10 : Int)))) (qM (qM u u) (qM u u))) (qM (qS (0 : Nat) (Int.toNat (10 : Int))) (qM u u)))) < pN))) ∧ ((((↑(List.length (dg (qI (qA (qM (qM (qS (0 : Nat) (Int.toNat (10 : Int))) (qS (0 : Nat) (Int.toNat (10 : Int)))) (qM (qM u u) (qM u u))) (qM (qS (0 : Nat) (Int.toNat (10 : Int))) (qM u u)))))) : Int) == (0 : Int)) = false) ∧ (((fV = fV) ∧ (qM (qM (qS (0 : Nat) hB) (qI (qS (0 : Nat) (Int.toNat (3 : Int))))) (qA (Int.toNat (1 : Int)) (qI
 (qA (qM (qM (qS (0 : Nat) (Int.toNat (10 : Int))) (qS (0 : Nat) (Int.toNat (10 : Int)))) (qM (qM u u) (qM u u))) (qM (qS (0 : Nat) (Int.toNat (10 : Int))) (qM u u))))) < pN)) ∧ (((fV = fV) ∧ (rSide (qM (qM (qS (0 : Nat) hB) (qI (qS (0 : Nat) (Int.toNat (3 : Int))))) (qA (Int.toNat (1 : Int)) (qI (qA (qM (qM (qS (0 : Nat) (Int.toNat (10 : Int))) (qS (0 : Nat) (Int.toNat (10 : Int)))) (qM (qM u u) (qM u u))) (qM (qS (0 : Nat) (Int.toNat (10 : Int))) (qM u u)))))) < pN)) ∧ ((Prod.snd (rtNO (rSide (qM (qM (qS (0 : Nat) hB) (qI (qS (0 : Nat) (Int.toNat (3 : Int))))) (qA (Int.toNat (1 : Int)) (qI (qA (qM (qM (qS (0 : Nat) (Int.toNat (10 : Int))) (qS (0 : Nat) (Int.toNat (10 : Int)))) (qM (qM u u) (qM u u))) (qM (qS (0 : Nat) (Int.toNat (10 : Int))) (qM u u)))))))) = true) ∧ (((Sm (Prod.fst (rtNO (rSide (qM (qM (qS (0 : Nat) hB) (qI (qS (0 : Nat) (Int.toNat (3 : Int))))) (qA (Int.toNat (1 : Int)) (qI (qA (qM (qM (qS (0 : Nat) (Int.toNat (10 : Int))) (qS (0 : Nat) (Int.toNat (10 : Int))))
 (qM (qM u u) (qM u u))) (qM (qS (0 : Nat) (Int.toNat (10 : Int))) (qM u u)))))))))) ∧ (((0 : Int) ≤ (0 : Int)) ∧ ((0 : Int) ≤ (1073741824 : Int)))) ∧ (((Sm u) ∧ (((0 : Int) ≤ (0 : Int)) ∧ ((0 : Int) ≤ (1073741824 : Int)))) ∧ ((((↑(Prod.fst (rtNO (rSide (qM (qM (qS (0 : Nat) hB) (qI (qS (0 : Nat) (Int.toNat (3 : Int))))) (qA (Int.toNat (1 : Int)) (qI (qA (qM (qM (qS (0 : Nat) (Int.toNat (10 : Int))) (qS (0 : Nat) (Int.toNat (10 : Int)))) (qM (qM u u) (qM u u))) (qM (qS (0 : Nat) (Int.toNat (10 : Int))) (qM u u)))))))) / (2 : Nat) ^ Int.toNat (0 : Int) % (2 : Nat)) : Int) != (↑(u / (2 : Nat) ^ Int.toNat (0 : Int) % (2 : Nat)) : Int)) = false) ∧ (Q (SV.agg [SV.lst (LV.num (qM (qM (qS (0 : Nat) hB) (qI (qS (0 : Nat) (Int.toNat (3 : Int))))) (qA (Int.toNat (1 : Int)) (qI (qA (qM (qM (qS (0 : Nat) (Int.toNat (10 : Int))) (qS (0 : Nat) (Int.toNat (10 : Int)))) (qM (qM u u) (qM u u))) (qM (qS (0 : Nat) (Int.toNat (10 : Int))) (qM u u))))))), SV.lst (LV.num (Prod.fst (rtNO (rSide
 (qM (qM (qS (0 : Nat) hB) (qI (qS (0 : Nat) (Int.toNat (3 : Int))))) (qA (Int.toNat (1 : Int)) (qI (qA (qM (qM (qS (0 : Nat) (Int.toNat (10 : Int))) (qS (0 : Nat) (Int.toNat (10 : Int)))) (qM (qM u u) (qM u u))) (qM (qS (0 : Nat) (Int.toNat (10 : Int))) (qM u u)))))))))), SV.lst (LV.ints [(1 : Int)])])))))))))))))))))))))))) := by kernel_rfl
theorem vcRmFFT (u : Nat) (Q : SV → Prop) : LnRaw tt spSR 9 [(8, 2, .b false), (11, 0, .b false), (14, 4, .b true)] {} Tryd.f11 Q ((⟨u⟩ : Num), ()) =
 ((Value.string (ByteArray.mk #[(53 : UInt8), (97 : UInt8), (99 : UInt8), (54 : UInt8), (51 : UInt8), (53 : UInt8), (100 : UInt8), (56 : UInt8), (97 : UInt8), (97 : UInt8), (51 : UInt8), (97 : UInt8), (57 : UInt8), (51 : UInt8), (101 : UInt8), (55 : UInt8), (98 : UInt8), (51 : UInt8), (101 : UInt8), (98 : UInt8), (98 : UInt8), (100 : UInt8), (53 : UInt8), (53 : UInt8), (55 : UInt8), (54 : UInt8), (57 : UInt8), (56 : UInt8), (56 : UInt8), (54 : UInt8), (98 : UInt8), (99 : UInt8), (54 : UInt8), (53 : UInt8), (49 : UInt8), (100 : UInt8), (48 : UInt8), (54 : UInt8), (98 : UInt8), (48 : UInt8), (99 : UInt8), (99 : UInt8), (53 : UInt8), (51 : UInt8), (98 : UInt8), (48 : UInt8), (102 : UInt8), (54 : UInt8), (51 : UInt8), (98 : UInt8), (99 : UInt8), (101 : UInt8), (51 : UInt8), (99 : UInt8), (51 : UInt8), (101 : UInt8), (50 : UInt8), (55 : UInt8), (100 : UInt8), (50 : UInt8), (54 : UInt8), (48 : UInt8), (52 : UInt8), (98 : UInt8)]) = strB) ∧ (((fV = fV) ∧ (((0 : Nat) < pN) ∧
 (Int.toNat (3 : Int) < pN))) ∧ (((fV = fV) ∧ (((0 : Nat) < pN) ∧ (Int.toNat (10 : Int) < pN))) ∧ (((fV = fV) ∧ ((u < pN) ∧ (u < pN))) ∧ (((fV = fV) ∧ ((qS (0 : Nat) (Int.toNat (10 : Int)) < pN) ∧ (qS (0 : Nat) (Int.toNat (10 : Int)) < pN))) ∧ (((fV = fV) ∧ ((qM u u < pN) ∧ (qM u u < pN))) ∧ (((fV = fV) ∧ ((qM (qS (0 : Nat) (Int.toNat (10 : Int))) (qS (0 : Nat) (Int.toNat (10 : Int))) < pN) ∧ (qM (qM u u) (qM u u) < pN))) ∧ (((fV = fV) ∧ ((qS (0 : Nat) (Int.toNat (10 : Int)) < pN) ∧ (qM u u < pN))) ∧ (((fV = fV) ∧ ((qM (qM (qS (0 : Nat) (Int.toNat (10 : Int))) (qS (0 : Nat) (Int.toNat (10 : Int)))) (qM (qM u u) (qM u u)) < pN) ∧ (qM (qS (0 : Nat) (Int.toNat (10 : Int))) (qM u u) < pN))) ∧ (((fV = fV) ∧ (qA (qM (qM (qS (0 : Nat) (Int.toNat (10 : Int))) (qS (0 : Nat) (Int.toNat (10 : Int)))) (qM (qM u u) (qM u u))) (qM (qS (0 : Nat) (Int.toNat (10 : Int))) (qM u u)) < pN)) ∧ (((fV = fV) ∧ (((0 : Nat) < pN) ∧ (hB < pN))) ∧ (((fV = fV) ∧ (qS (0 : Nat) (Int.toNat (3 : Int)) < pN)) ∧
 (((fV = fV) ∧ ((qS (0 : Nat) hB < pN) ∧ (qI (qS (0 : Nat) (Int.toNat (3 : Int))) < pN))) ∧ (((fV = fV) ∧ ((Int.toNat (1 : Int) < pN) ∧ (qI (qA (qM (qM (qS (0 : Nat) (Int.toNat (10 : Int))) (qS (0 : Nat) (Int.toNat (10 : Int)))) (qM (qM u u) (qM u u))) (qM (qS (0 : Nat) (Int.toNat (10 : Int))) (qM u u))) < pN))) ∧ (((fV = fV) ∧ ((qM (qS (0 : Nat) hB) (qI (qS (0 : Nat) (Int.toNat (3 : Int)))) < pN) ∧ (qA (Int.toNat (1 : Int)) (qI (qA (qM (qM (qS (0 : Nat) (Int.toNat (10 : Int))) (qS (0 : Nat) (Int.toNat (10 : Int)))) (qM (qM u u) (qM u u))) (qM (qS (0 : Nat) (Int.toNat (10 : Int))) (qM u u)))) < pN))) ∧ ((((↑(List.length (dg (qI (qA (qM (qM (qS (0 : Nat) (Int.toNat (10 : Int))) (qS (0 : Nat) (Int.toNat (10 : Int)))) (qM (qM u u) (qM u u))) (qM (qS (0 : Nat) (Int.toNat (10 : Int))) (qM u u)))))) : Int) == (0 : Int)) = false) ∧ (((fV = fV) ∧ (qM (qM (qS (0 : Nat) hB) (qI (qS (0 : Nat) (Int.toNat (3 : Int))))) (qA (Int.toNat (1 : Int)) (qI
 (qA (qM (qM (qS (0 : Nat) (Int.toNat (10 : Int))) (qS (0 : Nat) (Int.toNat (10 : Int)))) (qM (qM u u) (qM u u))) (qM (qS (0 : Nat) (Int.toNat (10 : Int))) (qM u u))))) < pN)) ∧ (((fV = fV) ∧ (rSide (qM (qM (qS (0 : Nat) hB) (qI (qS (0 : Nat) (Int.toNat (3 : Int))))) (qA (Int.toNat (1 : Int)) (qI (qA (qM (qM (qS (0 : Nat) (Int.toNat (10 : Int))) (qS (0 : Nat) (Int.toNat (10 : Int)))) (qM (qM u u) (qM u u))) (qM (qS (0 : Nat) (Int.toNat (10 : Int))) (qM u u)))))) < pN)) ∧ ((Prod.snd (rtNO (rSide (qM (qM (qS (0 : Nat) hB) (qI (qS (0 : Nat) (Int.toNat (3 : Int))))) (qA (Int.toNat (1 : Int)) (qI (qA (qM (qM (qS (0 : Nat) (Int.toNat (10 : Int))) (qS (0 : Nat) (Int.toNat (10 : Int)))) (qM (qM u u) (qM u u))) (qM (qS (0 : Nat) (Int.toNat (10 : Int))) (qM u u)))))))) = false) ∧ (((fV = fV) ∧ ((qS (0 : Nat) (Int.toNat (10 : Int)) < pN) ∧ (qM u u < pN))) ∧ (((fV = fV) ∧ ((qM (qS (0 : Nat) (Int.toNat (10 : Int))) (qM u u) < pN) ∧ (qM (qM (qS (0 : Nat) hB) (qI (qS (0 : Nat) (Int.toNat (3 : Int)))))
 (qA (Int.toNat (1 : Int)) (qI (qA (qM (qM (qS (0 : Nat) (Int.toNat (10 : Int))) (qS (0 : Nat) (Int.toNat (10 : Int)))) (qM (qM u u) (qM u u))) (qM (qS (0 : Nat) (Int.toNat (10 : Int))) (qM u u))))) < pN))) ∧ (((fV = fV) ∧ (qM (qM (qS (0 : Nat) (Int.toNat (10 : Int))) (qM u u)) (qM (qM (qS (0 : Nat) hB) (qI (qS (0 : Nat) (Int.toNat (3 : Int))))) (qA (Int.toNat (1 : Int)) (qI (qA (qM (qM (qS (0 : Nat) (Int.toNat (10 : Int))) (qS (0 : Nat) (Int.toNat (10 : Int)))) (qM (qM u u) (qM u u))) (qM (qS (0 : Nat) (Int.toNat (10 : Int))) (qM u u)))))) < pN)) ∧ (((fV = fV) ∧ (rSide (qM (qM (qS (0 : Nat) (Int.toNat (10 : Int))) (qM u u)) (qM (qM (qS (0 : Nat) hB) (qI (qS (0 : Nat) (Int.toNat (3 : Int))))) (qA (Int.toNat (1 : Int)) (qI (qA (qM (qM (qS (0 : Nat) (Int.toNat (10 : Int))) (qS (0 : Nat) (Int.toNat (10 : Int)))) (qM (qM u u) (qM u u))) (qM (qS (0 : Nat) (Int.toNat (10 : Int))) (qM u u))))))) < pN)) ∧ (((Sm (Prod.fst (rtNO (rSide (qM (qM (qS (0 : Nat) (Int.toNat (10 : Int))) (qM u u))
 (qM (qM (qS (0 : Nat) hB) (qI (qS (0 : Nat) (Int.toNat (3 : Int))))) (qA (Int.toNat (1 : Int)) (qI (qA (qM (qM (qS (0 : Nat) (Int.toNat (10 : Int))) (qS (0 : Nat) (Int.toNat (10 : Int)))) (qM (qM u u) (qM u u))) (qM (qS (0 : Nat) (Int.toNat (10 : Int))) (qM u u))))))))))) ∧ (((0 : Int) ≤ (0 : Int)) ∧ ((0 : Int) ≤ (1073741824 : Int)))) ∧ (((Sm u) ∧ (((0 : Int) ≤ (0 : Int)) ∧ ((0 : Int) ≤ (1073741824 : Int)))) ∧ ((((↑(Prod.fst (rtNO (rSide (qM (qM (qS (0 : Nat) (Int.toNat (10 : Int))) (qM u u)) (qM (qM (qS (0 : Nat) hB) (qI (qS (0 : Nat) (Int.toNat (3 : Int))))) (qA (Int.toNat (1 : Int)) (qI (qA (qM (qM (qS (0 : Nat) (Int.toNat (10 : Int))) (qS (0 : Nat) (Int.toNat (10 : Int)))) (qM (qM u u) (qM u u))) (qM (qS (0 : Nat) (Int.toNat (10 : Int))) (qM u u))))))))) / (2 : Nat) ^ Int.toNat (0 : Int) % (2 : Nat)) : Int) != (↑(u / (2 : Nat) ^ Int.toNat (0 : Int) % (2 : Nat)) : Int)) = true) ∧ (((fV = fV) ∧ (((0 : Nat) < pN) ∧ (Prod.fst (rtNO (rSide
 (qM (qM (qS (0 : Nat) (Int.toNat (10 : Int))) (qM u u)) (qM (qM (qS (0 : Nat) hB) (qI (qS (0 : Nat) (Int.toNat (3 : Int))))) (qA (Int.toNat (1 : Int)) (qI (qA (qM (qM (qS (0 : Nat) (Int.toNat (10 : Int))) (qS (0 : Nat) (Int.toNat (10 : Int)))) (qM (qM u u) (qM u u))) (qM (qS (0 : Nat) (Int.toNat (10 : Int))) (qM u u))))))))) < pN))) ∧ (Q (SV.agg [SV.lst (LV.num (qM (qM (qS (0 : Nat) (Int.toNat (10 : Int))) (qM u u)) (qM (qM (qS (0 : Nat) hB) (qI (qS (0 : Nat) (Int.toNat (3 : Int))))) (qA (Int.toNat (1 : Int)) (qI (qA (qM (qM (qS (0 : Nat) (Int.toNat (10 : Int))) (qS (0 : Nat) (Int.toNat (10 : Int)))) (qM (qM u u) (qM u u))) (qM (qS (0 : Nat) (Int.toNat (10 : Int))) (qM u u)))))))), SV.lst (LV.num (qS (0 : Nat) (Prod.fst (rtNO (rSide (qM (qM (qS (0 : Nat) (Int.toNat (10 : Int))) (qM u u)) (qM (qM (qS (0 : Nat) hB) (qI (qS (0 : Nat) (Int.toNat (3 : Int))))) (qA (Int.toNat (1 : Int)) (qI (qA (qM (qM (qS (0 : Nat) (Int.toNat (10 : Int))) (qS (0 : Nat) (Int.toNat (10 : Int))))
 (qM (qM u u) (qM u u))) (qM (qS (0 : Nat) (Int.toNat (10 : Int))) (qM u u)))))))))))), SV.lst (LV.ints [(1 : Int)])]))))))))))))))))))))))))))))) := by kernel_rfl
theorem vcRmFFF (u : Nat) (Q : SV → Prop) : LnRaw tt spSR 9 [(8, 2, .b false), (11, 0, .b false), (14, 4, .b false)] {} Tryd.f11 Q ((⟨u⟩ : Num), ()) =
 ((Value.string (ByteArray.mk #[(53 : UInt8), (97 : UInt8), (99 : UInt8), (54 : UInt8), (51 : UInt8), (53 : UInt8), (100 : UInt8), (56 : UInt8), (97 : UInt8), (97 : UInt8), (51 : UInt8), (97 : UInt8), (57 : UInt8), (51 : UInt8), (101 : UInt8), (55 : UInt8), (98 : UInt8), (51 : UInt8), (101 : UInt8), (98 : UInt8), (98 : UInt8), (100 : UInt8), (53 : UInt8), (53 : UInt8), (55 : UInt8), (54 : UInt8), (57 : UInt8), (56 : UInt8), (56 : UInt8), (54 : UInt8), (98 : UInt8), (99 : UInt8), (54 : UInt8), (53 : UInt8), (49 : UInt8), (100 : UInt8), (48 : UInt8), (54 : UInt8), (98 : UInt8), (48 : UInt8), (99 : UInt8), (99 : UInt8), (53 : UInt8), (51 : UInt8), (98 : UInt8), (48 : UInt8), (102 : UInt8), (54 : UInt8), (51 : UInt8), (98 : UInt8), (99 : UInt8), (101 : UInt8), (51 : UInt8), (99 : UInt8), (51 : UInt8), (101 : UInt8), (50 : UInt8), (55 : UInt8), (100 : UInt8), (50 : UInt8), (54 : UInt8), (48 : UInt8), (52 : UInt8), (98 : UInt8)]) = strB) ∧ (((fV = fV) ∧ (((0 : Nat) < pN) ∧
 (Int.toNat (3 : Int) < pN))) ∧ (((fV = fV) ∧ (((0 : Nat) < pN) ∧ (Int.toNat (10 : Int) < pN))) ∧ (((fV = fV) ∧ ((u < pN) ∧ (u < pN))) ∧ (((fV = fV) ∧ ((qS (0 : Nat) (Int.toNat (10 : Int)) < pN) ∧ (qS (0 : Nat) (Int.toNat (10 : Int)) < pN))) ∧ (((fV = fV) ∧ ((qM u u < pN) ∧ (qM u u < pN))) ∧ (((fV = fV) ∧ ((qM (qS (0 : Nat) (Int.toNat (10 : Int))) (qS (0 : Nat) (Int.toNat (10 : Int))) < pN) ∧ (qM (qM u u) (qM u u) < pN))) ∧ (((fV = fV) ∧ ((qS (0 : Nat) (Int.toNat (10 : Int)) < pN) ∧ (qM u u < pN))) ∧ (((fV = fV) ∧ ((qM (qM (qS (0 : Nat) (Int.toNat (10 : Int))) (qS (0 : Nat) (Int.toNat (10 : Int)))) (qM (qM u u) (qM u u)) < pN) ∧ (qM (qS (0 : Nat) (Int.toNat (10 : Int))) (qM u u) < pN))) ∧ (((fV = fV) ∧ (qA (qM (qM (qS (0 : Nat) (Int.toNat (10 : Int))) (qS (0 : Nat) (Int.toNat (10 : Int)))) (qM (qM u u) (qM u u))) (qM (qS (0 : Nat) (Int.toNat (10 : Int))) (qM u u)) < pN)) ∧ (((fV = fV) ∧ (((0 : Nat) < pN) ∧ (hB < pN))) ∧ (((fV = fV) ∧ (qS (0 : Nat) (Int.toNat (3 : Int)) < pN)) ∧
 (((fV = fV) ∧ ((qS (0 : Nat) hB < pN) ∧ (qI (qS (0 : Nat) (Int.toNat (3 : Int))) < pN))) ∧ (((fV = fV) ∧ ((Int.toNat (1 : Int) < pN) ∧ (qI (qA (qM (qM (qS (0 : Nat) (Int.toNat (10 : Int))) (qS (0 : Nat) (Int.toNat (10 : Int)))) (qM (qM u u) (qM u u))) (qM (qS (0 : Nat) (Int.toNat (10 : Int))) (qM u u))) < pN))) ∧ (((fV = fV) ∧ ((qM (qS (0 : Nat) hB) (qI (qS (0 : Nat) (Int.toNat (3 : Int)))) < pN) ∧ (qA (Int.toNat (1 : Int)) (qI (qA (qM (qM (qS (0 : Nat) (Int.toNat (10 : Int))) (qS (0 : Nat) (Int.toNat (10 : Int)))) (qM (qM u u) (qM u u))) (qM (qS (0 : Nat) (Int.toNat (10 : Int))) (qM u u)))) < pN))) ∧ ((((↑(List.length (dg (qI (qA (qM (qM (qS (0 : Nat) (Int.toNat (10 : Int))) (qS (0 : Nat) (Int.toNat (10 : Int)))) (qM (qM u u) (qM u u))) (qM (qS (0 : Nat) (Int.toNat (10 : Int))) (qM u u)))))) : Int) == (0 : Int)) = false) ∧ (((fV = fV) ∧ (qM (qM (qS (0 : Nat) hB) (qI (qS (0 : Nat) (Int.toNat (3 : Int))))) (qA (Int.toNat (1 : Int)) (qI
 (qA (qM (qM (qS (0 : Nat) (Int.toNat (10 : Int))) (qS (0 : Nat) (Int.toNat (10 : Int)))) (qM (qM u u) (qM u u))) (qM (qS (0 : Nat) (Int.toNat (10 : Int))) (qM u u))))) < pN)) ∧ (((fV = fV) ∧ (rSide (qM (qM (qS (0 : Nat) hB) (qI (qS (0 : Nat) (Int.toNat (3 : Int))))) (qA (Int.toNat (1 : Int)) (qI (qA (qM (qM (qS (0 : Nat) (Int.toNat (10 : Int))) (qS (0 : Nat) (Int.toNat (10 : Int)))) (qM (qM u u) (qM u u))) (qM (qS (0 : Nat) (Int.toNat (10 : Int))) (qM u u)))))) < pN)) ∧ ((Prod.snd (rtNO (rSide (qM (qM (qS (0 : Nat) hB) (qI (qS (0 : Nat) (Int.toNat (3 : Int))))) (qA (Int.toNat (1 : Int)) (qI (qA (qM (qM (qS (0 : Nat) (Int.toNat (10 : Int))) (qS (0 : Nat) (Int.toNat (10 : Int)))) (qM (qM u u) (qM u u))) (qM (qS (0 : Nat) (Int.toNat (10 : Int))) (qM u u)))))))) = false) ∧ (((fV = fV) ∧ ((qS (0 : Nat) (Int.toNat (10 : Int)) < pN) ∧ (qM u u < pN))) ∧ (((fV = fV) ∧ ((qM (qS (0 : Nat) (Int.toNat (10 : Int))) (qM u u) < pN) ∧ (qM (qM (qS (0 : Nat) hB) (qI (qS (0 : Nat) (Int.toNat (3 : Int)))))
 (qA (Int.toNat (1 : Int)) (qI (qA (qM (qM (qS (0 : Nat) (Int.toNat (10 : Int))) (qS (0 : Nat) (Int.toNat (10 : Int)))) (qM (qM u u) (qM u u))) (qM (qS (0 : Nat) (Int.toNat (10 : Int))) (qM u u))))) < pN))) ∧ (((fV = fV) ∧ (qM (qM (qS (0 : Nat) (Int.toNat (10 : Int))) (qM u u)) (qM (qM (qS (0 : Nat) hB) (qI (qS (0 : Nat) (Int.toNat (3 : Int))))) (qA (Int.toNat (1 : Int)) (qI (qA (qM (qM (qS (0 : Nat) (Int.toNat (10 : Int))) (qS (0 : Nat) (Int.toNat (10 : Int)))) (qM (qM u u) (qM u u))) (qM (qS (0 : Nat) (Int.toNat (10 : Int))) (qM u u)))))) < pN)) ∧ (((fV = fV) ∧ (rSide (qM (qM (qS (0 : Nat) (Int.toNat (10 : Int))) (qM u u)) (qM (qM (qS (0 : Nat) hB) (qI (qS (0 : Nat) (Int.toNat (3 : Int))))) (qA (Int.toNat (1 : Int)) (qI (qA (qM (qM (qS (0 : Nat) (Int.toNat (10 : Int))) (qS (0 : Nat) (Int.toNat (10 : Int)))) (qM (qM u u) (qM u u))) (qM (qS (0 : Nat) (Int.toNat (10 : Int))) (qM u u))))))) < pN)) ∧ (((Sm (Prod.fst (rtNO (rSide (qM (qM (qS (0 : Nat) (Int.toNat (10 : Int))) (qM u u))
 (qM (qM (qS (0 : Nat) hB) (qI (qS (0 : Nat) (Int.toNat (3 : Int))))) (qA (Int.toNat (1 : Int)) (qI (qA (qM (qM (qS (0 : Nat) (Int.toNat (10 : Int))) (qS (0 : Nat) (Int.toNat (10 : Int)))) (qM (qM u u) (qM u u))) (qM (qS (0 : Nat) (Int.toNat (10 : Int))) (qM u u))))))))))) ∧ (((0 : Int) ≤ (0 : Int)) ∧ ((0 : Int) ≤ (1073741824 : Int)))) ∧ (((Sm u) ∧ (((0 : Int) ≤ (0 : Int)) ∧ ((0 : Int) ≤ (1073741824 : Int)))) ∧ ((((↑(Prod.fst (rtNO (rSide (qM (qM (qS (0 : Nat) (Int.toNat (10 : Int))) (qM u u)) (qM (qM (qS (0 : Nat) hB) (qI (qS (0 : Nat) (Int.toNat (3 : Int))))) (qA (Int.toNat (1 : Int)) (qI (qA (qM (qM (qS (0 : Nat) (Int.toNat (10 : Int))) (qS (0 : Nat) (Int.toNat (10 : Int)))) (qM (qM u u) (qM u u))) (qM (qS (0 : Nat) (Int.toNat (10 : Int))) (qM u u))))))))) / (2 : Nat) ^ Int.toNat (0 : Int) % (2 : Nat)) : Int) != (↑(u / (2 : Nat) ^ Int.toNat (0 : Int) % (2 : Nat)) : Int)) = false) ∧ (Q (SV.agg [SV.lst (LV.num (qM (qM (qS (0 : Nat) (Int.toNat (10 : Int))) (qM u u))
 (qM (qM (qS (0 : Nat) hB) (qI (qS (0 : Nat) (Int.toNat (3 : Int))))) (qA (Int.toNat (1 : Int)) (qI (qA (qM (qM (qS (0 : Nat) (Int.toNat (10 : Int))) (qS (0 : Nat) (Int.toNat (10 : Int)))) (qM (qM u u) (qM u u))) (qM (qS (0 : Nat) (Int.toNat (10 : Int))) (qM u u)))))))), SV.lst (LV.num (Prod.fst (rtNO (rSide (qM (qM (qS (0 : Nat) (Int.toNat (10 : Int))) (qM u u)) (qM (qM (qS (0 : Nat) hB) (qI (qS (0 : Nat) (Int.toNat (3 : Int))))) (qA (Int.toNat (1 : Int)) (qI (qA (qM (qM (qS (0 : Nat) (Int.toNat (10 : Int))) (qS (0 : Nat) (Int.toNat (10 : Int)))) (qM (qM u u) (qM u u))) (qM (qS (0 : Nat) (Int.toNat (10 : Int))) (qM u u))))))))))), SV.lst (LV.ints [(1 : Int)])])))))))))))))))))))))))))))) := by kernel_rfl
end Go.Proofs.YtficbeeoafiiaaaDoor.P12
/- The reference of layer 39: numbers as points: the body holds; what comes is the field's. -/
set_option maxRecDepth 10000
namespace Go.Proofs.YtficbeeoafiiaaaDoor.P12
open Go.Sym Go.Dig R1 Go.Alg
noncomputable def zN : Nat := qS 0 (Int.toNat (10 : Int))
noncomputable def aN : Nat := qS 0 (Int.toNat (3 : Int))
noncomputable def wN (u : Nat) : Nat := qM zN (qM u u)
noncomputable def tN (u : Nat) : Nat := qI (qA (qM (qM zN zN) (qM (qM u u) (qM u u))) (wN u))
noncomputable def c1N (u : Nat) : Bool := ((dg (tN u)).length : Int) == 0
noncomputable def x0R : Nat := qM hB (qI (qM zN aN))
noncomputable def x1R (u : Nat) : Nat := qM (qM (qS 0 hB) (qI aN)) (qA (Int.toNat (1 : Int)) (tN u))
noncomputable def xsN (u : Nat) : Nat := cond (c1N u) x0R (x1R u)
noncomputable def xN (u : Nat) : Nat := cond (rtNO (rSide (xsN u))).2 (xsN u) (qM (wN u) (xsN u))
noncomputable def yN (u : Nat) : Nat := (rtNO (rSide (xN u))).1
noncomputable def c3N (u y : Nat) : Bool := ((y / 2 ^ Int.toNat (0 : Int) % 2 : Nat) : Int) != ((u / 2 ^ Int.toNat (0 : Int) % 2 : Nat) : Int)
noncomputable def y2N (u : Nat) : Nat := cond (c3N u (yN u)) (qS 0 (yN u)) (yN u)
noncomputable def mapN0 (u : Nat) : RP := ⟨xN u, y2N u, 1⟩
theorem mpN_ex : ∃ f : Nat → RP, f = mapN0 := ⟨_, rfl⟩
noncomputable def mapN : Nat → RP := Classical.choose mpN_ex
theorem mapN_eq : mapN = mapN0 := Classical.choose_spec mpN_ex
noncomputable def sRMapS : SpecF := fspec (α := Num × Unit) (fun a => some (a.1.n < pN)) (fun a => mapN a.1.n)
theorem rt_lt (a : Nat) : (rtNO a).1 < pN := by rw [rtNO_eq]; exact qE_lt _ _
theorem ok_RMapS : SpecOK Tryd.prog 11 sRMapS := by
  unfold sRMapS
  rw [mapN_eq]
  refine fn_okL (by kernel_rfl) tt_ok spSR_ok 9 Tryd.func11 (by decide +kernel) (by kernel_rfl) ?_
  rintro ⟨⟨u⟩, _⟩ hu
  replace hu : u < pN := hu
  show ∃ D L, ∃ Q : SV → Prop, LnVD tt spSR 9 D L _ Q (_, ()) ∧ ∀ z, Q z → ∀ (at_ : At) (w : World) (v : Value), Rel at_ w z v → Rel at_ w (RP.sv ⟨xN u, y2N u, 1⟩) v
  have s3 : Int.toNat (3 : Int) < pN := small_lt (n := 3) (by decide)
  have s10 : Int.toNat (10 : Int) < pN := small_lt (n := 10) (by decide)
  have s1 : Int.toNat (1 : Int) < pN := small_lt (n := 1) (by decide)
  have z0 := pN_pos
  have hBl := hB_lt
  have rl : ∀ x, rSide x < pN := fun x => qA_lt _ _
  have sm : ∀ a, Sm (rtNO a).1 := fun a => smp (by have := rt_lt a; omega)
  have su : Sm u := smp (by omega)
  cases h1 : c1N u <;> cases h2 : (rtNO (rSide (xsN u))).2 <;> cases h3 : c3N u (yN u)
  all_goals
    have e1 : xsN u = cond (c1N u) x0R (x1R u) := rfl
    have e2 : xN u = cond (rtNO (rSide (xsN u))).2 (xsN u) (qM (wN u) (xsN u)) := rfl
    have e3 : y2N u = cond (c3N u (yN u)) (qS 0 (yN u)) (yN u) := rfl
    have e4 : yN u = (rtNO (rSide (xN u))).1 := rfl
    rw [h1] at e1
    rw [h2] at e2
    rw [h3] at e3
    rw [e3]
    rw [e4] at h3 ⊢
    rw [e2] at h3 ⊢
    rw [e1] at h2 h3 ⊢
  · refine ⟨_, {}, fun x => x = .agg [.lst (.num (qM (wN u) (x1R u))), .lst (.num ((rtNO (rSide (qM (wN u) (x1R u)))).1)), .lst (.ints [1])], LnVD.of (vcRmFFF u _) ?_, svr rfl⟩
    repeat' apply And.intro
    all_goals first | exact hu | exact s3 | exact s10 | exact s1 | exact z0 | exact hBl | exact qM_lt _ _ | exact qS_lt _ _ | exact qA_lt _ _ | exact qI_lt _ | exact rl _ | exact rt_lt _ | exact sm _ | exact su | exact h1 | exact h2 | exact h3 | decide | rfl
  · refine ⟨_, {}, fun x => x = .agg [.lst (.num (qM (wN u) (x1R u))), .lst (.num (qS 0 ((rtNO (rSide (qM (wN u) (x1R u)))).1))), .lst (.ints [1])], LnVD.of (vcRmFFT u _) ?_, svr rfl⟩
    repeat' apply And.intro
    all_goals first | exact hu | exact s3 | exact s10 | exact s1 | exact z0 | exact hBl | exact qM_lt _ _ | exact qS_lt _ _ | exact qA_lt _ _ | exact qI_lt _ | exact rl _ | exact rt_lt _ | exact sm _ | exact su | exact h1 | exact h2 | exact h3 | decide | rfl
  · refine ⟨_, {}, fun x => x = .agg [.lst (.num (x1R u)), .lst (.num ((rtNO (rSide (x1R u))).1)), .lst (.ints [1])], LnVD.of (vcRmFTF u _) ?_, svr rfl⟩
    repeat' apply And.intro
    all_goals first | exact hu | exact s3 | exact s10 | exact s1 | exact z0 | exact hBl | exact qM_lt _ _ | exact qS_lt _ _ | exact qA_lt _ _ | exact qI_lt _ | exact rl _ | exact rt_lt _ | exact sm _ | exact su | exact h1 | exact h2 | exact h3 | decide | rfl
  · refine ⟨_, {}, fun x => x = .agg [.lst (.num (x1R u)), .lst (.num (qS 0 ((rtNO (rSide (x1R u))).1))), .lst (.ints [1])], LnVD.of (vcRmFTT u _) ?_, svr rfl⟩
    repeat' apply And.intro
    all_goals first | exact hu | exact s3 | exact s10 | exact s1 | exact z0 | exact hBl | exact qM_lt _ _ | exact qS_lt _ _ | exact qA_lt _ _ | exact qI_lt _ | exact rl _ | exact rt_lt _ | exact sm _ | exact su | exact h1 | exact h2 | exact h3 | decide | rfl
  · refine ⟨_, {}, fun x => x = .agg [.lst (.num (qM (wN u) x0R)), .lst (.num ((rtNO (rSide (qM (wN u) x0R))).1)), .lst (.ints [1])], LnVD.of (vcRmTFF u _) ?_, svr rfl⟩
    repeat' apply And.intro
    all_goals first | exact hu | exact s3 | exact s10 | exact s1 | exact z0 | exact hBl | exact qM_lt _ _ | exact qS_lt _ _ | exact qA_lt _ _ | exact qI_lt _ | exact rl _ | exact rt_lt _ | exact sm _ | exact su | exact h1 | exact h2 | exact h3 | decide | rfl
  · refine ⟨_, {}, fun x => x = .agg [.lst (.num (qM (wN u) x0R)), .lst (.num (qS 0 ((rtNO (rSide (qM (wN u) x0R))).1))), .lst (.ints [1])], LnVD.of (vcRmTFT u _) ?_, svr rfl⟩
    repeat' apply And.intro
    all_goals first | exact hu | exact s3 | exact s10 | exact s1 | exact z0 | exact hBl | exact qM_lt _ _ | exact qS_lt _ _ | exact qA_lt _ _ | exact qI_lt _ | exact rl _ | exact rt_lt _ | exact sm _ | exact su | exact h1 | exact h2 | exact h3 | decide | rfl
  · refine ⟨_, {}, fun x => x = .agg [.lst (.num x0R), .lst (.num ((rtNO (rSide x0R)).1)), .lst (.ints [1])], LnVD.of (vcRmTTF u _) ?_, svr rfl⟩
    repeat' apply And.intro
    all_goals first | exact hu | exact s3 | exact s10 | exact s1 | exact z0 | exact hBl | exact qM_lt _ _ | exact qS_lt _ _ | exact qA_lt _ _ | exact qI_lt _ | exact rl _ | exact rt_lt _ | exact sm _ | exact su | exact h1 | exact h2 | exact h3 | decide | rfl
  · refine ⟨_, {}, fun x => x = .agg [.lst (.num x0R), .lst (.num (qS 0 ((rtNO (rSide x0R)).1))), .lst (.ints [1])], LnVD.of (vcRmTTT u _) ?_, svr rfl⟩
    repeat' apply And.intro
    all_goals first | exact hu | exact s3 | exact s10 | exact s1 | exact z0 | exact hBl | exact qM_lt _ _ | exact qS_lt _ _ | exact qA_lt _ _ | exact qI_lt _ | exact rl _ | exact rt_lt _ | exact sm _ | exact su | exact h1 | exact h2 | exact h3 | decide | rfl
/-! Over the field. -/
theorem fe_qI (a : Nat) : fe (qI a) = jinv (fe a) := by
  unfold qI jinv
  rw [fe_mod, fe_val]
  exact fe_eq.2 (by rw [Nat.pow_mod])
theorem fe_zN : fe zN = zK := by
  unfold zN
  rw [fe_qS (show Int.toNat (10 : Int) < pN from small_lt (n := 10) (by decide)), fe_zero]
  rfl
theorem fe_aN : fe aN = aK := by
  unfold aN
  rw [fe_qS (show Int.toNat (3 : Int) < pN from small_lt (n := 3) (by decide)), fe_zero]
  show 0 - fe 3 = 0 - 3
  rw [fe_three]
theorem fe_wN (u : Nat) : fe (wN u) = wK (fe u) := by unfold wN wK; rw [fe_qM, fe_qM, fe_zN]
theorem fe_tN (u : Nat) : fe (tN u) = tK (fe u) := by
  unfold tN tK
  rw [fe_qI, fe_qA, fe_qM, fe_qM, fe_qM, fe_qM, fe_wN, fe_zN]
  unfold wK
  congr 1
  generalize zK = z
  generalize fe u = x
  grind -lia -linarith -order (splits := 0)
theorem c1_eq (u : Nat) : c1N u = decide (tK (fe u) = 0) := by
  unfold c1N
  rw [len0]
  apply bool_eq
  rw [decide_eq_true_iff, decide_eq_true_iff, ← fe_tN]
  exact fe_z (qI_lt _)
theorem fe_xs (u : Nat) : fe (xsN u) = x1K (fe u) := by
  unfold xsN x1K
  rw [c1_eq]
  by_cases h : tK (fe u) = 0
  · rw [decide_eq_true h, if_pos h, cond_true]
    unfold x0R
    rw [fe_qM, fe_qI, fe_qM, fe_zN, fe_aN]
    rfl
  · rw [decide_eq_false h, if_neg h, cond_false]
    unfold x1R
    rw [fe_qM, fe_qM, fe_qS hB_lt, fe_qI, fe_qA, fe_tN, fe_aN, fe_zero]
    show _ * (fe 1 + _) = _
    rw [fe_one]
    rfl
theorem rtN_ok {a : Nat} (h : a < pN) : fe (rtNO a).1 = rtK (fe a) ∧ (rtNO a).2 = decide (isK (fe a)) := by
  have e : fe (rtNO a).1 = rtK (fe a) := by
    rw [rtNO_eq]
    show fe (qE a ((pN + 1) / 4)) = _
    unfold qE
    rw [fe_mod]
    apply Fin.ext
    unfold rtK
    rw [kp_val, fe_lt h]
    rfl
  refine ⟨e, bool_eq ?_⟩
  rw [decide_eq_true_iff]
  unfold isK
  rw [← e]
  rw [rtNO_eq]
  show (R1.cmpN (qM (rtN0 a).1 (rtN0 a).1) a == 0) = true ↔ fe (rtN0 a).1 * fe (rtN0 a).1 = fe a
  rw [← fe_qM, cmp_eq, decide_eq_true_iff]
  exact ⟨fun k => by rw [k], fun k => fe_inj (qM_lt _ _) h k⟩
theorem xN_eq (u : Nat) : fe (xN u) = (ptK (fe u)).1 := by
  have h1 := (rtN_ok (show rSide (xsN u) < pN from qA_lt _ _)).2
  rw [← gK_fe, fe_xs] at h1
  have hx : xN u = cond (rtNO (rSide (xsN u))).2 (xsN u) (qM (wN u) (xsN u)) := rfl
  rw [hx, h1]
  by_cases h : isK (gK (x1K (fe u)))
  · rw [pt_yes h, decide_eq_true h, cond_true]
    exact fe_xs u
  · rw [pt_no h, decide_eq_false h, cond_false, fe_qM, fe_wN, fe_xs]
theorem yN_eq (u : Nat) : fe (yN u) = (ptK (fe u)).2 := by
  have h2 := (rtN_ok (show rSide (xN u) < pN from qA_lt _ _)).1
  rw [← gK_fe, xN_eq, ← pt_snd] at h2
  exact h2
theorem c3_eq {u y : Nat} : c3N u y = (oddN y != oddN u) := by
  unfold c3N oddN
  show ((((y / 1 % 2 : Nat)) : Int) != ((u / 1 % 2 : Nat) : Int)) = _
  rw [Nat.div_one, Nat.div_one]
  rcases Nat.mod_two_eq_zero_or_one y with e1 | e1 <;> rcases Nat.mod_two_eq_zero_or_one u with e2 | e2 <;> rw [e1, e2] <;> rfl
theorem y2_eq (u : Nat) : fe (y2N u) = sgK (oddN u) (ptK (fe u)).2 := by
  have h := yN_eq u
  have hl : yN u < pN := rt_lt _
  have e0 : (ptK (fe u)).2.val = yN u := by rw [← h]; exact fe_lt hl
  unfold y2N sgK
  rw [c3_eq, e0]
  by_cases e : oddN (yN u) = oddN u
  · rw [if_pos e, e, bne_self_eq_false, cond_false]
    exact h
  · rw [if_neg e, bne_iff_ne.2 e, cond_true, fe_qS hl, fe_zero, h]
theorem mapN_Ok (u : Nat) : (mapN u).Ok := by
  rw [mapN_eq]
  refine ⟨?_, ?_, small_lt (n := 1) (by decide)⟩
  · show xN u < pN
    unfold xN xsN
    cases (rtNO _).2 <;> cases c1N u <;> exact qM_lt _ _
  · show y2N u < pN
    unfold y2N
    cases c3N u (yN u)
    · exact rt_lt _
    · exact qS_lt _ _
theorem jr_mapN (u : Nat) : jr (mapN u) = ⟨(ptK (fe u)).1, sgK (oddN u) (ptK (fe u)).2, 1⟩ := by
  rw [mapN_eq]
  show (⟨fe (xN u), fe (y2N u), fe 1⟩ : J pN) = _
  rw [xN_eq, y2_eq, fe_one]
/-- Both are the same point. -/
theorem map_both (u : Four) : jp (mapP u) = jr (mapN (nat4 u % pN)) := by
  rw [jp_map, jr_mapN]
  have : uK u = fe (nat4 u % pN) := (fe_mod _).symm
  rw [this]
end Go.Proofs.YtficbeeoafiiaaaDoor.P12
/- Layer 39's laws: what is said of them. -/
set_option maxRecDepth 10000
namespace Go.Proofs.YtficbeeoafiiaaaDoor.P12
open Go.Sym Go.Dig R1 H5 H39
noncomputable def spAw39 : Specs := (21, sEncPG) :: spB1
def sAw39 : SpecF := fspec (α := Unit) total fun _ => true
noncomputable def spMp : Specs := (5, sAw39) :: (8, sSwMap) :: (11, sRMapS) :: (13, nOf) :: (12, R1.nMod) :: spC1
end Go.Proofs.YtficbeeoafiiaaaDoor.P12
/- Layer 39's laws: what the bodies come to. -/
set_option maxRecDepth 10000
namespace Go.Proofs.YtficbeeoafiiaaaDoor.P12
open Go.Sym Go.Dig R1 H5 H39
--STOP mapP, hashP, mapN, R1.Sm, pN, fV, pBytes, rBytes, nat4, RP.Ok, rP
theorem vcAw39 (Q : SV → Prop) : LnRaw tt spAw39 9 [] {} Tryd.f5 Q () =
 ((((0 : Nat) ≤ (1000000 : Nat)) ∧ ((0 : Nat) ≤ (255 : Nat))) ∧ ((some rP = some rP) ∧ (Q (SV.bool ((↑(List.length (pBytes (PPt.p (PPt.mk (some rP) (P3.x (mapP (hashP [] []))) (P3.y (mapP (hashP [] []))) (P3.z (mapP (hashP [] []))))))) : Int) == (33 : Int)))))) := by kernel_rfl
theorem vcMps (u : Four) (Q : SV → Prop) : LnRaw tt spMp 9 [] {} Tryd.f3 Q (u, ()) =
 ((some rP = some rP) ∧ (((List.length (dg (nat4 u)) ≤ (536870912 : Nat)) ∧ ((List.length (dg (FastV.m fV)) ≤ (536870912 : Nat)) ∧ ((0 : Nat) < FastV.m fV))) ∧ ((nat4 u % FastV.m fV < pN) ∧ (((fV = fV) ∧ (RP.Ok (mapN (nat4 u % FastV.m fV)))) ∧ ((List.length (pBytes (PPt.p (PPt.mk (some rP) (P3.x (mapP u)) (P3.y (mapP u)) (P3.z (mapP u))))) ≤ (4294967296 : Nat)) ∧ (Q (SV.bool (decide (pBytes (PPt.p (PPt.mk (some rP) (P3.x (mapP u)) (P3.y (mapP u)) (P3.z (mapP u)))) = rBytes (mapN (nat4 u % FastV.m fV))))))))))) := by kernel_rfl
end Go.Proofs.YtficbeeoafiiaaaDoor.P12
/- Layer 39: the example, and the law of maps hold. -/
set_option maxRecDepth 10000
namespace Go.Proofs.YtficbeeoafiiaaaDoor.P12
open Go.Sym Go.Dig R1 H5 H39
theorem spAw39_ok : SpecsOK Tryd.prog spAw39 := .cons ok_SeG spB1_ok
theorem map_bytes (u : Four) : pBytes (mapP u) = UInt8.ofNat (2 + (sgK (oddN (nat4 u % pN)) (ptK (uK u)).2).val % 2) :: (bytesN (ptK (uK u)).1.val 32).reverse := by
  rw [pBytes_jb (Rd_map u), jp_map, jb_one]
theorem map_len (u : Four) : (pBytes (mapP u)).length = 33 := by
  rw [map_bytes, List.length_cons, List.length_reverse, bytesN_len]
theorem ok_Aw39 : SpecOK Tryd.prog 5 sAw39 := by
  refine fn_okL (by kernel_rfl) tt_ok spAw39_ok 9 Tryd.func5 (by decide +kernel) (by kernel_rfl) ?_
  rintro ⟨⟩ _
  refine ⟨[], {}, fun x => x = .bool true, LnVD.of (vcAw39 _) ⟨⟨by decide, by decide⟩, rfl, ?_⟩, svf⟩
  have e := map_len (hashP [] [])
  show SV.bool ((((pBytes (mapP (hashP [] []))).length : Int)) == 33) = _
  rw [e]
  rfl
theorem spMp_ok : SpecsOK Tryd.prog spMp := .cons ok_Aw39 <| .cons ok_SwMap <| .cons ok_RMapS <| .cons ok_nOf <| .cons R1.ok_nMod spC1_ok
theorem dg11 {n : Nat} (h : n < 16777216 ^ 11) : (dg n).length ≤ 536870912 := Nat.le_trans (dg_length_lt h) (by decide)
theorem nat_11 (u : Four) : nat4 u < 16777216 ^ 11 := Nat.lt_of_lt_of_le (nat4_lt u) (by decide +kernel)
abbrev sSwMaps : SpecF := fspec (α := Four × Unit) total fun _ => true
theorem ok_SwMaps : SpecOK Tryd.prog 3 sSwMaps := by
  refine fn_okL (by kernel_rfl) tt_ok spMp_ok 9 Tryd.func3 (by decide +kernel) (by kernel_rfl) ?_
  rintro ⟨u, _⟩ _
  refine ⟨[], {}, fun x => x = .bool true, LnVD.of (vcMps u _) ?_, svf⟩
  have hN : FastV.m fV = pN := rfl
  rw [hN]
  have hp : pN < 16777216 ^ 11 := by rw [pN_eq]; decide
  have e : pBytes (mapP u) = rBytes (mapN (nat4 u % pN)) := by
    rw [pBytes_jb (Rd_map u), rBytes_jb (mapN_Ok _), map_both]
  have l := map_len u
  refine ⟨rfl, ⟨dg11 (nat_11 u), dg11 hp, pN_pos⟩, Nat.mod_lt _ pN_pos, ⟨rfl, mapN_Ok _⟩, ?_, ?_⟩
  · show (pBytes (mapP u)).length ≤ _
    rw [l]; decide
  · exact congrArg SV.bool (decide_eq_true e)
end Go.Proofs.YtficbeeoafiiaaaDoor.P12
/- Layer 39: the law that goes back: what the body comes to. -/
set_option maxRecDepth 10000
namespace Go.Proofs.YtficbeeoafiiaaaDoor.P12
open Go.Sym Go.Dig R1 H5 H39
noncomputable def spBk : Specs := (5, sAw39) :: (8, sSwMap) :: (15, sFromT) :: spB1
--STOP mapP, hashP, mapN, R1.Sm, pN, fV, pBytes, rBytes, nat4, RP.Ok, rP, okFrom, ptFrom, pSame, pPair, pNeg, limb_Cmp, limb_Sub, mP, zero4
theorem vcBkA (u : Four) (Q : SV → Prop) : LnRaw tt spBk 9 [(6, 0, .b true), (6, 9, .b true), (6, 16, .b true), (7, 0, .b true), (7, 7, .b true)] {} Tryd.f4 Q (u, ()) =
 ((some rP = some rP) ∧ ((okFrom (Prod.fst (pPair (PPt.p (PPt.mk (some rP) (P3.x (mapP u)) (P3.y (mapP u)) (P3.z (mapP u)))))) (Prod.fst (Prod.snd (pPair (PPt.p (PPt.mk (some rP) (P3.x (mapP u)) (P3.y (mapP u)) (P3.z (mapP u))))))) = true) ∧ ((Prod.snd (Prod.snd (pPair (PPt.p (PPt.mk (some rP) (P3.x (mapP u)) (P3.y (mapP u)) (P3.z (mapP u)))))) = true) ∧ (((some rP = some rP) ∧ (some rP = some rP)) ∧ ((pSame (PPt.p (PPt.mk (some rP) (P3.x (ptFrom (Prod.fst (pPair (PPt.p (PPt.mk (some rP) (P3.x (mapP u)) (P3.y (mapP u)) (P3.z (mapP u)))))) (Prod.fst (Prod.snd (pPair (PPt.p (PPt.mk (some rP) (P3.x (mapP u)) (P3.y (mapP u)) (P3.z (mapP u))))))))) (P3.y (ptFrom (Prod.fst (pPair (PPt.p (PPt.mk (some rP) (P3.x (mapP u)) (P3.y (mapP u)) (P3.z (mapP u)))))) (Prod.fst (Prod.snd (pPair (PPt.p (PPt.mk (some rP) (P3.x (mapP u)) (P3.y (mapP u)) (P3.z (mapP u))))))))) (P3.z (ptFrom (Prod.fst (pPair (PPt.p (PPt.mk (some rP) (P3.x (mapP u)) (P3.y (mapP u)) (P3.z (mapP u))))))
 (Prod.fst (Prod.snd (pPair (PPt.p (PPt.mk (some rP) (P3.x (mapP u)) (P3.y (mapP u)) (P3.z (mapP u))))))))))) (PPt.p (PPt.mk (some rP) (P3.x (mapP u)) (P3.y (mapP u)) (P3.z (mapP u)))) = true) ∧ ((decide (limb_Cmp u mP ≥ (0 : Int)) = true) ∧ ((Prod.snd (Prod.snd (pPair (PPt.p (PPt.mk (some rP) (P3.x (mapP u)) (P3.y (mapP u)) (P3.z (mapP u)))))) = true) ∧ (((some rP = some rP) ∧ (some rP = some rP)) ∧ ((pSame (PPt.p (PPt.mk (some rP) (P3.x (ptFrom (Prod.fst (pPair (PPt.p (PPt.mk (some rP) (P3.x (mapP u)) (P3.y (mapP u)) (P3.z (mapP u)))))) (Prod.fst (Prod.snd (pPair (PPt.p (PPt.mk (some rP) (P3.x (mapP u)) (P3.y (mapP u)) (P3.z (mapP u))))))))) (P3.y (ptFrom (Prod.fst (pPair (PPt.p (PPt.mk (some rP) (P3.x (mapP u)) (P3.y (mapP u)) (P3.z (mapP u)))))) (Prod.fst (Prod.snd (pPair (PPt.p (PPt.mk (some rP) (P3.x (mapP u)) (P3.y (mapP u)) (P3.z (mapP u))))))))) (P3.z (ptFrom (Prod.fst (pPair (PPt.p (PPt.mk (some rP) (P3.x (mapP u)) (P3.y (mapP u)) (P3.z (mapP u))))))
 (Prod.fst (Prod.snd (pPair (PPt.p (PPt.mk (some rP) (P3.x (mapP u)) (P3.y (mapP u)) (P3.z (mapP u))))))))))) (PPt.p (PPt.mk (some rP) (P3.x (mapP u)) (P3.y (mapP u)) (P3.z (mapP u)))) = true) ∧ (Q (SV.bool true))))))))))) := by kernel_rfl
theorem vcBkB (u : Four) (Q : SV → Prop) : LnRaw tt spBk 9 [(6, 0, .b true), (6, 9, .b true), (6, 16, .b false), (8, 2, .b true), (9, 3, .b true)] {} Tryd.f4 Q (u, ()) =
 ((some rP = some rP) ∧ ((okFrom (Prod.fst (pPair (PPt.p (PPt.mk (some rP) (P3.x (mapP u)) (P3.y (mapP u)) (P3.z (mapP u)))))) (Prod.fst (Prod.snd (pPair (PPt.p (PPt.mk (some rP) (P3.x (mapP u)) (P3.y (mapP u)) (P3.z (mapP u))))))) = true) ∧ ((Prod.snd (Prod.snd (pPair (PPt.p (PPt.mk (some rP) (P3.x (mapP u)) (P3.y (mapP u)) (P3.z (mapP u)))))) = true) ∧ (((some rP = some rP) ∧ (some rP = some rP)) ∧ ((pSame (PPt.p (PPt.mk (some rP) (P3.x (ptFrom (Prod.fst (pPair (PPt.p (PPt.mk (some rP) (P3.x (mapP u)) (P3.y (mapP u)) (P3.z (mapP u)))))) (Prod.fst (Prod.snd (pPair (PPt.p (PPt.mk (some rP) (P3.x (mapP u)) (P3.y (mapP u)) (P3.z (mapP u))))))))) (P3.y (ptFrom (Prod.fst (pPair (PPt.p (PPt.mk (some rP) (P3.x (mapP u)) (P3.y (mapP u)) (P3.z (mapP u)))))) (Prod.fst (Prod.snd (pPair (PPt.p (PPt.mk (some rP) (P3.x (mapP u)) (P3.y (mapP u)) (P3.z (mapP u))))))))) (P3.z (ptFrom (Prod.fst (pPair (PPt.p (PPt.mk (some rP) (P3.x (mapP u)) (P3.y (mapP u)) (P3.z (mapP u))))))
 (Prod.fst (Prod.snd (pPair (PPt.p (PPt.mk (some rP) (P3.x (mapP u)) (P3.y (mapP u)) (P3.z (mapP u))))))))))) (PPt.p (PPt.mk (some rP) (P3.x (mapP u)) (P3.y (mapP u)) (P3.z (mapP u)))) = true) ∧ ((decide (limb_Cmp u mP ≥ (0 : Int)) = false) ∧ (((Four.w0 u == UInt64.ofNat (Int.toNat (0 : Int)) && (Four.w1 u == UInt64.ofNat (Int.toNat (0 : Int)) && (Four.w2 u == UInt64.ofNat (Int.toNat (0 : Int)) && (Four.w3 u == UInt64.ofNat (Int.toNat (0 : Int)) && true)))) = true) ∧ (((Four.w0 (Prod.fst (Prod.snd (pPair (PPt.p (PPt.mk (some rP) (P3.x (mapP u)) (P3.y (mapP u)) (P3.z (mapP u))))))) &&& UInt64.ofNat (Int.toNat (1 : Int)) == UInt64.ofNat (Int.toNat (0 : Int))) = true) ∧ (Q (SV.bool true)))))))))) := by kernel_rfl
theorem vcBkC (u : Four) (Q : SV → Prop) : LnRaw tt spBk 9 [(6, 0, .b true), (6, 9, .b true), (6, 16, .b false), (8, 2, .b false), (11, 6, .b true), (11, 12, .b true)] {} Tryd.f4 Q (u, ()) =
 ((some rP = some rP) ∧ ((okFrom (Prod.fst (pPair (PPt.p (PPt.mk (some rP) (P3.x (mapP u)) (P3.y (mapP u)) (P3.z (mapP u)))))) (Prod.fst (Prod.snd (pPair (PPt.p (PPt.mk (some rP) (P3.x (mapP u)) (P3.y (mapP u)) (P3.z (mapP u))))))) = true) ∧ ((Prod.snd (Prod.snd (pPair (PPt.p (PPt.mk (some rP) (P3.x (mapP u)) (P3.y (mapP u)) (P3.z (mapP u)))))) = true) ∧ (((some rP = some rP) ∧ (some rP = some rP)) ∧ ((pSame (PPt.p (PPt.mk (some rP) (P3.x (ptFrom (Prod.fst (pPair (PPt.p (PPt.mk (some rP) (P3.x (mapP u)) (P3.y (mapP u)) (P3.z (mapP u)))))) (Prod.fst (Prod.snd (pPair (PPt.p (PPt.mk (some rP) (P3.x (mapP u)) (P3.y (mapP u)) (P3.z (mapP u))))))))) (P3.y (ptFrom (Prod.fst (pPair (PPt.p (PPt.mk (some rP) (P3.x (mapP u)) (P3.y (mapP u)) (P3.z (mapP u)))))) (Prod.fst (Prod.snd (pPair (PPt.p (PPt.mk (some rP) (P3.x (mapP u)) (P3.y (mapP u)) (P3.z (mapP u))))))))) (P3.z (ptFrom (Prod.fst (pPair (PPt.p (PPt.mk (some rP) (P3.x (mapP u)) (P3.y (mapP u)) (P3.z (mapP u))))))
 (Prod.fst (Prod.snd (pPair (PPt.p (PPt.mk (some rP) (P3.x (mapP u)) (P3.y (mapP u)) (P3.z (mapP u))))))))))) (PPt.p (PPt.mk (some rP) (P3.x (mapP u)) (P3.y (mapP u)) (P3.z (mapP u)))) = true) ∧ ((decide (limb_Cmp u mP ≥ (0 : Int)) = false) ∧ (((Four.w0 u == UInt64.ofNat (Int.toNat (0 : Int)) && (Four.w1 u == UInt64.ofNat (Int.toNat (0 : Int)) && (Four.w2 u == UInt64.ofNat (Int.toNat (0 : Int)) && (Four.w3 u == UInt64.ofNat (Int.toNat (0 : Int)) && true)))) = false) ∧ (((Four.w0 (Prod.fst (Prod.snd (pPair (PPt.p (PPt.mk (some rP) (P3.x (mapP u)) (P3.y (mapP u)) (P3.z (mapP u))))))) &&& UInt64.ofNat (Int.toNat (1 : Int)) == Four.w0 u &&& UInt64.ofNat (Int.toNat (1 : Int))) = true) ∧ ((some rP = some rP) ∧ (((some rP = some rP) ∧ (some rP = some rP)) ∧ ((pSame (PPt.p (PPt.mk (some rP) (P3.x (mapP (Prod.fst (limb_Sub mP u)))) (P3.y (mapP (Prod.fst (limb_Sub mP u)))) (P3.z (mapP (Prod.fst (limb_Sub mP u)))))) (PPt.p
 (PPt.mk (some rP) (P3.x (pNeg (PPt.p (PPt.mk (some rP) (P3.x (mapP u)) (P3.y (mapP u)) (P3.z (mapP u)))))) (P3.y (pNeg (PPt.p (PPt.mk (some rP) (P3.x (mapP u)) (P3.y (mapP u)) (P3.z (mapP u)))))) (P3.z (pNeg (PPt.p (PPt.mk (some rP) (P3.x (mapP u)) (P3.y (mapP u)) (P3.z (mapP u)))))))) = true) ∧ (Q (SV.bool true))))))))))))) := by kernel_rfl
end Go.Proofs.YtficbeeoafiiaaaDoor.P12
/- Layer 39: the law that goes back holds. -/
set_option maxRecDepth 10000
namespace Go.Proofs.YtficbeeoafiiaaaDoor.P12
open Go.Sym Go.Dig R1 H5 H39 Go.Alg
theorem spBk_ok : SpecsOK Tryd.prog spBk := .cons ok_Aw39 <| .cons ok_SwMap <| .cons ok_FromT spB1_ok
theorem pair_one {p : P3} (h : p.Rd) (ez : phi p.z = 1) : (pPair p).2.2 = true ∧ nat4 (pPair p).1 = (phi p.x).val ∧ nat4 (pPair p).2.1 = (phi p.y).val := by
  rw [pPair_eq]
  unfold pPair0
  rw [if_neg (fun k => one_ne (by rw [← ez]; exact (z_zero h.2.2).1 k))]
  have hv : phi (pV p.z) = 1 := by
    rw [phi_V, ez]; exact jinv_one
  refine ⟨rfl, ?_, ?_⟩
  · show nat4 (pO (pT p.x (pairI p))) = _
    rw [pO_val, phi_T, pairI, phi_T, hv]
    congr 1
    generalize phi p.x = x; grind -lia -linarith -order (splits := 0)
  · show nat4 (pO (pT p.y (pT (pairI p) (pV p.z)))) = _
    rw [pO_val, phi_T, phi_T, pairI, phi_T, hv]
    congr 1
    generalize phi p.y = x; grind -lia -linarith -order (splits := 0)
theorem map_z (u : Four) : phi (mapP u).z = 1 := congrArg J.z (jp_map u)
theorem map_x (u : Four) : phi (mapP u).x = (ptK (uK u)).1 := congrArg J.x (jp_map u)
theorem map_y (u : Four) : phi (mapP u).y = sgK (oddN (nat4 u % pN)) (ptK (uK u)).2 := congrArg J.y (jp_map u)
theorem y_ne (u : K) : (ptK u).2 ≠ 0 := fun e => by
  have h := pt_on u
  rw [e, gK_side] at h
  refine no_root _ (h.symm.trans ?_)
  clear h e
  grind -lia -linarith -order (splits := 0)
theorem odd_flip {n : Nat} (h0 : 0 < n) (h : n < pN) : oddN (pN - n) = !oddN n := by
  have ho := pN_odd
  unfold oddN
  rcases Nat.mod_two_eq_zero_or_one n with e | e
  · have : (pN - n) % 2 = 1 := by omega
    rw [this, e]; rfl
  · have : (pN - n) % 2 = 0 := by omega
    rw [this, e]; rfl
theorem neg_val {y : K} (h : y ≠ 0) : (0 - y).val = pN - y.val ∧ 0 < y.val := by
  have hp : 0 < y.val := Nat.pos_of_ne_zero fun e => h (Fin.ext e)
  refine ⟨?_, hp⟩
  have e : (0 - y : K) = fe (pN - y.val) := by
    rw [fe_sub (Nat.le_of_lt y.isLt), fe_pN, fe_of]
  rw [e, fe_lt (by omega)]
theorem sg_odd {o : Bool} {y : K} (hy : y ≠ 0) : oddN (sgK o y).val = o := by
  unfold sgK
  by_cases h : oddN y.val = o
  · rw [if_pos h]; exact h
  · rw [if_neg h]
    obtain ⟨h1, h2⟩ := neg_val hy
    rw [h1, odd_flip h2 y.isLt]
    revert h
    cases oddN y.val <;> cases o <;> decide
theorem sg_not (o : Bool) (y : K) : sgK (!o) y = 0 - sgK o y := by
  unfold sgK
  by_cases h : oddN y.val = o
  · rw [if_pos h, if_neg (by rw [h]; cases o <;> decide)]
  · rw [if_neg h, if_pos (by revert h; cases oddN y.val <;> cases o <;> decide)]
    clear h
    grind -lia -linarith -order (splits := 0)
theorem ptK_neg (u : K) : ptK (0 - u) = ptK u := by
  have hw : wK (0 - u) = wK u := by
    unfold wK
    congr 1
    grind -lia -linarith -order (splits := 0)
  have ht : tK (0 - u) = tK u := by unfold tK; rw [hw]
  have hx : x1K (0 - u) = x1K u := by unfold x1K; rw [ht]
  unfold ptK
  rw [hw, hx]
/-- All that is asked of a number's point. -/
theorem back_pt (u : Four) : okFrom (pPair (mapP u)).1 (pPair (mapP u)).2.1 = true ∧ (pPair (mapP u)).2.2 = true ∧ pSame (ptFrom (pPair (mapP u)).1 (pPair (mapP u)).2.1) (mapP u) = true ∧
    oddN (nat4 (pPair (mapP u)).2.1) = oddN (nat4 u % pN) := by
  obtain ⟨h1, h2, h3⟩ := pair_one (Rd_map u) (map_z u)
  have fx : fe (nat4 (pPair (mapP u)).1) = (ptK (uK u)).1 := by rw [h2, fe_of, map_x]
  have fy : fe (nat4 (pPair (mapP u)).2.1) = sgK (oddN (nat4 u % pN)) (ptK (uK u)).2 := by rw [h3, fe_of, map_y]
  refine ⟨?_, h1, ?_, ?_⟩
  · rw [okFrom_rOn]
    unfold rOn
    simp only [Bool.and_eq_true, decide_eq_true_iff]
    refine ⟨by rw [h2]; exact (phi _).isLt, by rw [h3]; exact (phi _).isLt, ?_⟩
    refine fe_inj (qlt _) (qlt _) ?_
    rw [fe_qM, ← gK_fe, fx, fy, sg_sq]
    exact pt_on (uK u)
  · rw [same_of (Rd_from _ _) (Rd_map u) ?_ (map_z u)]
    · rw [jp_from, fx, fy, jp_map]
    · show phi pOne = 1
      exact phi_One
  · rw [h3, map_y]
    exact sg_odd (y_ne _)
theorem and_eq0 {a : UInt64} (h : oddN a.toNat = false) : (a &&& 1 == 0) = true := by
  rw [beq_iff_eq, ← UInt64.toNat_inj, UInt64.toNat_and]
  have e : a.toNat &&& (1 : UInt64).toNat = a.toNat % 2 := Nat.and_one_is_mod _
  rw [e]
  unfold oddN at h
  have := Nat.mod_two_eq_zero_or_one a.toNat
  rcases this with k | k
  · rw [k]; rfl
  · rw [k] at h; cases h
theorem and_eq {a b : UInt64} (h : oddN a.toNat = oddN b.toNat) : (a &&& 1 == b &&& 1) = true := by
  have := bit_ne a b
  rw [h, bne_self_eq_false] at this
  rw [bne, Bool.not_eq_false'] at this
  exact this
theorem nat_mPm : nat4 mP = pN := by rw [← rP_m]; exact nat_mP
abbrev sSwBk : SpecF := fspec (α := Four × Unit) total fun _ => true
theorem ok_SwBk : SpecOK Tryd.prog 4 sSwBk := by
  refine fn_okL (by kernel_rfl) tt_ok spBk_ok 9 Tryd.func4 (by decide +kernel) (by kernel_rfl) ?_
  rintro ⟨u, _⟩ _
  obtain ⟨b1, b2, b3, b4⟩ := back_pt u
  have hc := cmp_nat u mP
  rw [nat_mPm] at hc
  by_cases hu : nat4 u < pN
  · have c6 : decide (limb_Cmp u mP ≥ (0 : Int)) = false := by rw [hc, if_pos hu]; decide
    have hm : nat4 u % pN = nat4 u := Nat.mod_eq_of_lt hu
    rw [hm] at b4
    cases h0 : eq4 u zero4 with
    | true =>
      have hz : u = zero4 := (eq4_iff _ _).1 h0
      have o0 : oddN (pPair (mapP u)).2.1.w0.toNat = false := by
        rw [oddN_mod, b4, hz]
        rfl
      exact ⟨_, {}, fun x => x = _, LnVD.of (vcBkB u _) ⟨rfl, b1, b2, ⟨rfl, rfl⟩, b3, c6, h0, and_eq0 o0, rfl⟩, svf⟩
    | false =>
      have hn : 0 < nat4 u := Nat.pos_of_ne_zero fun e => by
        have : u = zero4 := nat4_inj (by rw [e]; rfl)
        rw [this] at h0
        exact absurd ((eq4_iff _ _).2 rfl) (by rw [h0]; exact Bool.false_ne_true)
      have hs := sub_nat mP u
      rw [nat_mPm] at hs
      have hr := nat4_lt (limb_Sub mP u).1
      have e1 : nat4 (limb_Sub mP u).1 = pN - nat4 u := by
        generalize (limb_Sub mP u).2.toNat = c at *
        generalize nat4 (limb_Sub mP u).1 = s at *
        have hlt := nat4_lt u
        cases c with
        | zero => omega
        | succ c =>
          exfalso
          have hb : s < 115792089237316195423570985008687907853269984665640564039457584007913129639936 := hr
          omega
      have e2 : nat4 (limb_Sub mP u).1 % pN = pN - nat4 u := by rw [e1]; exact Nat.mod_eq_of_lt (by omega)
      have e3 : uK (limb_Sub mP u).1 = 0 - uK u := by
        unfold uK
        rw [e1, fe_sub (Nat.le_of_lt hu), fe_pN]
      have o1 : oddN (pPair (mapP u)).2.1.w0.toNat = oddN u.w0.toNat := by rw [oddN_mod, oddN_mod, b4]
      have k : pSame (mapP (limb_Sub mP u).1) (pNeg (mapP u)) = true := by
        rw [same_of (Rd_map _) (Rd_neg (Rd_map u)) (map_z _) ?_]
        · rw [jp_map, jp_neg, jp_map, e2, e3, ptK_neg, odd_flip hn hu, sg_not, hm]
          rfl
        · have : phi (pNeg (mapP u)).z = (jneg (jp (mapP u))).z := congrArg J.z (jp_neg (mapP u))
          rw [this, jp_map]
          rfl
      exact ⟨_, {}, fun x => x = _, LnVD.of (vcBkC u _) ⟨rfl, b1, b2, ⟨rfl, rfl⟩, b3, c6, h0, and_eq o1, rfl, ⟨rfl, rfl⟩, k, rfl⟩, svf⟩
  · have c6 : decide (limb_Cmp u mP ≥ (0 : Int)) = true := by
      rw [hc, if_neg hu]
      split <;> decide
    exact ⟨_, {}, fun x => x = _, LnVD.of (vcBkA u _) ⟨rfl, b1, b2, ⟨rfl, rfl⟩, b3, c6, b2, ⟨rfl, rfl⟩, b3, rfl⟩, svf⟩
end Go.Proofs.YtficbeeoafiiaaaDoor.P12
