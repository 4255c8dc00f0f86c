/- A symbolic machine for Go functions, and what the functions that the law reaches come to: SyA, SyB, SyC, SwR, SwT, SwS, SwV, SvA, SvB, SvC. -/
import Derived.Test.YtficbeeoafiiaaaGreatDoorQ26
import Derived.Test.YtficbeeoafiiaaaGreatDoorQ21
import Derived.Test.YtficbeeoafiiaaaGreatDoorQ18
import Derived.Test.YtficbeeoafiiaaaGreatDoorQ12
/- Package sswu: messages as numbers and points: what is said of the functions. -/
set_option maxRecDepth 10000
namespace Go.Proofs.YtficbeeoafiiaaaGreatDoor.P12
open Go.Sym Go.Dig R1 H5 H39
/-- Bytes are asked for that may be. -/
def exOk (tag : List UInt8) (n : Int) : Prop := 0 ≤ n ∧ n ≤ 8160 ∧ tag.length ≤ 255
noncomputable def sExpG : SpecF := fspec (α := List UInt8 × List UInt8 × Int × Unit) (β := List UInt8 × Int × Unit) (fun a => some (a.1.length ≤ 1000000 ∧ exOk a.2.1 a.2.2.1)) (fun a => (expV a.1 a.2.1 a.2.2.1, 0, ()))
noncomputable def sExpB : SpecF := fspec (α := List UInt8 × List UInt8 × Int × Unit) (β := List UInt8 × Int × Unit) (fun a => some (a.1.length ≤ 1000000 ∧ ¬ exOk a.2.1 a.2.2.1)) (fun _ => ([], 2, ()))
theorem ok_ExpG : SpecOK Tryz.prog 5 sExpG := fspec_weaken ok_Exp id (fun _ _ _ _ h => h) (fun ⟨_, _, _, _⟩ => rfl) (fun a h => by have h' : _ ∧ _ := h; exact h'.1) (fun a h at_ w v r => by
  have h' : _ ∧ exOk _ _ := h
  simp only [id] at r
  rw [if_pos (show 0 ≤ a.2.2.1 ∧ a.2.2.1 ≤ 8160 ∧ a.2.1.length ≤ 255 from h'.2)] at r
  exact r)
theorem ok_ExpB : SpecOK Tryz.prog 5 sExpB := fspec_weaken ok_Exp id (fun _ _ _ _ h => h) (fun ⟨_, _, _, _⟩ => rfl) (fun a h => by have h' : _ ∧ _ := h; exact h'.1) (fun a h at_ w v r => by
  have h' : _ ∧ ¬ exOk _ _ := h
  simp only [id] at r
  rw [if_neg (show ¬ (0 ≤ a.2.2.1 ∧ a.2.2.1 ≤ 8160 ∧ a.2.1.length ≤ 255) from h'.2)] at r
  exact r)
theorem wd_ex : ∃ f : Eight → Four, f = fun w => onR (some rP) fun r => wideR r w := ⟨_, rfl⟩
noncomputable def wideP : Eight → Four := Classical.choose wd_ex
theorem wideP_eq : wideP = fun w => onR (some rP) fun r => wideR r w := Classical.choose_spec wd_ex
noncomputable def sWideP : SpecF := fspec (α := Option RingV × Eight × Unit) (fun a => some (a.1 = some rP)) (fun a => wideP a.2.1)
theorem lo_ex : ∃ f : List UInt8 → Four × Int, f = fun b => limb_Of b true := ⟨_, rfl⟩
noncomputable def limO : List UInt8 → Four × Int := Classical.choose lo_ex
theorem limO_eq : limO = fun b => limb_Of b true := Classical.choose_spec lo_ex
noncomputable def sLimO : SpecF := fspec (α := List UInt8 × Bool × Unit) (fun a => some (a.2.1 = true)) (fun a => limO a.1)
noncomputable def spSh (b : Bool) : Specs := [(5, cond b sExpG sExpB), (19, sLimO), (20, sSwMade), (21, sWideP)]
def e8 (a b : Four) : Eight := ⟨a.w0, a.w1, a.w2, a.w3, b.w0, b.w1, b.w2, b.w3⟩
noncomputable def hashC (msg tag : List UInt8) : Four := wideP (e8 (limO ((expV msg tag 48).drop 16)).1 (limO (List.replicate 16 0 ++ (expV msg tag 48).take 16)).1)
theorem hs_ex : ∃ f : List UInt8 → List UInt8 → Four, f = hashC := ⟨_, rfl⟩
noncomputable def hashP : List UInt8 → List UInt8 → Four := Classical.choose hs_ex
theorem hashP_eq : hashP = hashC := Classical.choose_spec hs_ex
noncomputable def sHashPG : SpecF := fspec (α := List UInt8 × List UInt8 × Unit) (β := Four × Int × Unit) (fun a => some (a.1.length ≤ 1000000 ∧ a.2.1.length ≤ 255)) (fun a => (hashP a.1 a.2.1, 0, ()))
noncomputable def sHashPB : SpecF := fspec (α := List UInt8 × List UInt8 × Unit) (β := Four × Int × Unit) (fun a => some (a.1.length ≤ 1000000 ∧ ¬ a.2.1.length ≤ 255)) (fun _ => (zero4, 2, ()))
noncomputable def spSe (b : Bool) : Specs := [(6, cond b sHashPG sHashPB), (22, sSwMap)]
/-- A point, and that nothing failed. -/
structure PtE where
  p : P3
noncomputable instance : RetL PtE := ⟨fun p => [p.p.sv, .i64 0]⟩
noncomputable def sEncPG : SpecF := fspec (α := List UInt8 × List UInt8 × Unit) (β := PtE) (fun a => some (a.1.length ≤ 1000000 ∧ a.2.1.length ≤ 255)) (fun a => ⟨mapP (hashP a.1 a.2.1)⟩)
noncomputable def sEncPB : SpecF := fspec (α := List UInt8 × List UInt8 × Unit) (β := PPt × Int × Unit) (fun a => some (a.1.length ≤ 1000000 ∧ ¬ a.2.1.length ≤ 255)) (fun _ => (pNil, 2, ()))
end Go.Proofs.YtficbeeoafiiaaaGreatDoor.P12
/- Package sswu: messages as numbers and points: what the bodies come to. -/
set_option maxRecDepth 10000
namespace Go.Proofs.YtficbeeoafiiaaaGreatDoor.P12
open Go.Sym Go.Dig R1 H5 H39
--STOP expV, exOk, wideP, limO, hashP, mapP, zero4, swF, rP
theorem vcShG (msg tag : List UInt8) (Q : SV → Prop) : LnRaw tt (spSh true) 9 [] {} Tryz.f6 Q (msg, tag, ()) =
 (((List.length msg ≤ (1000000 : Nat)) ∧ (exOk tag (48 : Int))) ∧ ((((0 : Int) ≤ (16 : Int)) ∧ (((16 : Int) ≤ (↑(List.length (expV msg tag (48 : Int))) : Int)) ∧ ((↑(List.length (expV msg tag (48 : Int))) : Int) ≤ (↑(List.length (expV msg tag (48 : Int))) : Int)))) ∧ ((true = true) ∧ ((((0 : Int) ≤ (16 : Int)) ∧ (((16 : Int) = (16 : Int)) ∧ ((16 : Int) ≤ (1099511627776 : Int)))) ∧ ((((0 : Int) ≤ (0 : Int)) ∧ (((0 : Int) ≤ (16 : Int)) ∧ ((16 : Int) ≤ (↑(List.length (expV msg tag (48 : Int))) : Int)))) ∧ ((((0 : Nat) + Int.toNat (16 : Int) = (16 : Nat)) ∧ (List.length ([(0 : UInt8), (0 : UInt8), (0 : UInt8), (0 : UInt8), (0 : UInt8), (0 : UInt8), (0 : UInt8), (0 : UInt8), (0 : UInt8), (0 : UInt8), (0 : UInt8), (0 : UInt8), (0 : UInt8), (0 : UInt8), (0 : UInt8), (0 : UInt8)] ++ List.drop (Int.toNat (0 : Int)) (List.take (Int.toNat (16 : Int)) (expV msg tag (48 : Int)))) ≤ appLim)) ∧ ((true = true) ∧ ((some rP = some rP) ∧ (Q (SV.tup [SV.agg [SV.u64 (Four.w0 (wideP (Eight.mk (Four.w0
 (Prod.fst (limO (List.drop (Int.toNat (16 : Int)) (List.take (Int.toNat (↑(List.length (expV msg tag (48 : Int))) : Int)) (expV msg tag (48 : Int))))))) (Four.w1 (Prod.fst (limO (List.drop (Int.toNat (16 : Int)) (List.take (Int.toNat (↑(List.length (expV msg tag (48 : Int))) : Int)) (expV msg tag (48 : Int))))))) (Four.w2 (Prod.fst (limO (List.drop (Int.toNat (16 : Int)) (List.take (Int.toNat (↑(List.length (expV msg tag (48 : Int))) : Int)) (expV msg tag (48 : Int))))))) (Four.w3 (Prod.fst (limO (List.drop (Int.toNat (16 : Int)) (List.take (Int.toNat (↑(List.length (expV msg tag (48 : Int))) : Int)) (expV msg tag (48 : Int))))))) (Four.w0 (Prod.fst (limO (List.drop (0 : Nat) (List.take ((0 : Nat) + List.length ([(0 : UInt8), (0 : UInt8), (0 : UInt8), (0 : UInt8), (0 : UInt8), (0 : UInt8), (0 : UInt8), (0 : UInt8), (0 : UInt8), (0 : UInt8), (0 : UInt8), (0 : UInt8), (0 : UInt8), (0 : UInt8), (0 : UInt8), (0 : UInt8)] ++ List.drop (Int.toNat (0 : Int))
 (List.take (Int.toNat (16 : Int)) (expV msg tag (48 : Int))))) ([(0 : UInt8), (0 : UInt8), (0 : UInt8), (0 : UInt8), (0 : UInt8), (0 : UInt8), (0 : UInt8), (0 : UInt8), (0 : UInt8), (0 : UInt8), (0 : UInt8), (0 : UInt8), (0 : UInt8), (0 : UInt8), (0 : UInt8), (0 : UInt8)] ++ List.drop (Int.toNat (0 : Int)) (List.take (Int.toNat (16 : Int)) (expV msg tag (48 : Int))))))))) (Four.w1 (Prod.fst (limO (List.drop (0 : Nat) (List.take ((0 : Nat) + List.length ([(0 : UInt8), (0 : UInt8), (0 : UInt8), (0 : UInt8), (0 : UInt8), (0 : UInt8), (0 : UInt8), (0 : UInt8), (0 : UInt8), (0 : UInt8), (0 : UInt8), (0 : UInt8), (0 : UInt8), (0 : UInt8), (0 : UInt8), (0 : UInt8)] ++ List.drop (Int.toNat (0 : Int)) (List.take (Int.toNat (16 : Int)) (expV msg tag (48 : Int))))) ([(0 : UInt8), (0 : UInt8), (0 : UInt8), (0 : UInt8), (0 : UInt8), (0 : UInt8), (0 : UInt8), (0 : UInt8), (0 : UInt8), (0 : UInt8), (0 : UInt8), (0 : UInt8), (0 : UInt8), (0 : UInt8), (0 : UInt8), (0 : UInt8)] ++
 List.drop (Int.toNat (0 : Int)) (List.take (Int.toNat (16 : Int)) (expV msg tag (48 : Int))))))))) (Four.w2 (Prod.fst (limO (List.drop (0 : Nat) (List.take ((0 : Nat) + List.length ([(0 : UInt8), (0 : UInt8), (0 : UInt8), (0 : UInt8), (0 : UInt8), (0 : UInt8), (0 : UInt8), (0 : UInt8), (0 : UInt8), (0 : UInt8), (0 : UInt8), (0 : UInt8), (0 : UInt8), (0 : UInt8), (0 : UInt8), (0 : UInt8)] ++ List.drop (Int.toNat (0 : Int)) (List.take (Int.toNat (16 : Int)) (expV msg tag (48 : Int))))) ([(0 : UInt8), (0 : UInt8), (0 : UInt8), (0 : UInt8), (0 : UInt8), (0 : UInt8), (0 : UInt8), (0 : UInt8), (0 : UInt8), (0 : UInt8), (0 : UInt8), (0 : UInt8), (0 : UInt8), (0 : UInt8), (0 : UInt8), (0 : UInt8)] ++ List.drop (Int.toNat (0 : Int)) (List.take (Int.toNat (16 : Int)) (expV msg tag (48 : Int))))))))) (Four.w3 (Prod.fst (limO (List.drop (0 : Nat) (List.take ((0 : Nat) + List.length ([(0 : UInt8), (0 : UInt8), (0 : UInt8), (0 : UInt8), (0 : UInt8), (0 : UInt8),
 (0 : UInt8), (0 : UInt8), (0 : UInt8), (0 : UInt8), (0 : UInt8), (0 : UInt8), (0 : UInt8), (0 : UInt8), (0 : UInt8), (0 : UInt8)] ++ List.drop (Int.toNat (0 : Int)) (List.take (Int.toNat (16 : Int)) (expV msg tag (48 : Int))))) ([(0 : UInt8), (0 : UInt8), (0 : UInt8), (0 : UInt8), (0 : UInt8), (0 : UInt8), (0 : UInt8), (0 : UInt8), (0 : UInt8), (0 : UInt8), (0 : UInt8), (0 : UInt8), (0 : UInt8), (0 : UInt8), (0 : UInt8), (0 : UInt8)] ++ List.drop (Int.toNat (0 : Int)) (List.take (Int.toNat (16 : Int)) (expV msg tag (48 : Int)))))))))))), SV.u64 (Four.w1 (wideP (Eight.mk (Four.w0 (Prod.fst (limO (List.drop (Int.toNat (16 : Int)) (List.take (Int.toNat (↑(List.length (expV msg tag (48 : Int))) : Int)) (expV msg tag (48 : Int))))))) (Four.w1 (Prod.fst (limO (List.drop (Int.toNat (16 : Int)) (List.take (Int.toNat (↑(List.length (expV msg tag (48 : Int))) : Int)) (expV msg tag (48 : Int))))))) (Four.w2 (Prod.fst (limO (List.drop (Int.toNat (16 : Int))
 (List.take (Int.toNat (↑(List.length (expV msg tag (48 : Int))) : Int)) (expV msg tag (48 : Int))))))) (Four.w3 (Prod.fst (limO (List.drop (Int.toNat (16 : Int)) (List.take (Int.toNat (↑(List.length (expV msg tag (48 : Int))) : Int)) (expV msg tag (48 : Int))))))) (Four.w0 (Prod.fst (limO (List.drop (0 : Nat) (List.take ((0 : Nat) + List.length ([(0 : UInt8), (0 : UInt8), (0 : UInt8), (0 : UInt8), (0 : UInt8), (0 : UInt8), (0 : UInt8), (0 : UInt8), (0 : UInt8), (0 : UInt8), (0 : UInt8), (0 : UInt8), (0 : UInt8), (0 : UInt8), (0 : UInt8), (0 : UInt8)] ++ List.drop (Int.toNat (0 : Int)) (List.take (Int.toNat (16 : Int)) (expV msg tag (48 : Int))))) ([(0 : UInt8), (0 : UInt8), (0 : UInt8), (0 : UInt8), (0 : UInt8), (0 : UInt8), (0 : UInt8), (0 : UInt8), (0 : UInt8), (0 : UInt8), (0 : UInt8), (0 : UInt8), (0 : UInt8), (0 : UInt8), (0 : UInt8), (0 : UInt8)] ++ List.drop (Int.toNat (0 : Int)) (List.take (Int.toNat (16 : Int)) (expV msg tag (48 : Int))))))))) (Four.w1 (Prod.fst (limO
 (List.drop (0 : Nat) (List.take ((0 : Nat) + List.length ([(0 : UInt8), (0 : UInt8), (0 : UInt8), (0 : UInt8), (0 : UInt8), (0 : UInt8), (0 : UInt8), (0 : UInt8), (0 : UInt8), (0 : UInt8), (0 : UInt8), (0 : UInt8), (0 : UInt8), (0 : UInt8), (0 : UInt8), (0 : UInt8)] ++ List.drop (Int.toNat (0 : Int)) (List.take (Int.toNat (16 : Int)) (expV msg tag (48 : Int))))) ([(0 : UInt8), (0 : UInt8), (0 : UInt8), (0 : UInt8), (0 : UInt8), (0 : UInt8), (0 : UInt8), (0 : UInt8), (0 : UInt8), (0 : UInt8), (0 : UInt8), (0 : UInt8), (0 : UInt8), (0 : UInt8), (0 : UInt8), (0 : UInt8)] ++ List.drop (Int.toNat (0 : Int)) (List.take (Int.toNat (16 : Int)) (expV msg tag (48 : Int))))))))) (Four.w2 (Prod.fst (limO (List.drop (0 : Nat) (List.take ((0 : Nat) + List.length ([(0 : UInt8), (0 : UInt8), (0 : UInt8), (0 : UInt8), (0 : UInt8), (0 : UInt8), (0 : UInt8), (0 : UInt8), (0 : UInt8), (0 : UInt8), (0 : UInt8), (0 : UInt8), (0 : UInt8), (0 : UInt8), (0 : UInt8), (0 : UInt8)] ++
 List.drop (Int.toNat (0 : Int)) (List.take (Int.toNat (16 : Int)) (expV msg tag (48 : Int))))) ([(0 : UInt8), (0 : UInt8), (0 : UInt8), (0 : UInt8), (0 : UInt8), (0 : UInt8), (0 : UInt8), (0 : UInt8), (0 : UInt8), (0 : UInt8), (0 : UInt8), (0 : UInt8), (0 : UInt8), (0 : UInt8), (0 : UInt8), (0 : UInt8)] ++ List.drop (Int.toNat (0 : Int)) (List.take (Int.toNat (16 : Int)) (expV msg tag (48 : Int))))))))) (Four.w3 (Prod.fst (limO (List.drop (0 : Nat) (List.take ((0 : Nat) + List.length ([(0 : UInt8), (0 : UInt8), (0 : UInt8), (0 : UInt8), (0 : UInt8), (0 : UInt8), (0 : UInt8), (0 : UInt8), (0 : UInt8), (0 : UInt8), (0 : UInt8), (0 : UInt8), (0 : UInt8), (0 : UInt8), (0 : UInt8), (0 : UInt8)] ++ List.drop (Int.toNat (0 : Int)) (List.take (Int.toNat (16 : Int)) (expV msg tag (48 : Int))))) ([(0 : UInt8), (0 : UInt8), (0 : UInt8), (0 : UInt8), (0 : UInt8), (0 : UInt8), (0 : UInt8), (0 : UInt8), (0 : UInt8), (0 : UInt8), (0 : UInt8), (0 : UInt8), (0 : UInt8),
 (0 : UInt8), (0 : UInt8), (0 : UInt8)] ++ List.drop (Int.toNat (0 : Int)) (List.take (Int.toNat (16 : Int)) (expV msg tag (48 : Int)))))))))))), SV.u64 (Four.w2 (wideP (Eight.mk (Four.w0 (Prod.fst (limO (List.drop (Int.toNat (16 : Int)) (List.take (Int.toNat (↑(List.length (expV msg tag (48 : Int))) : Int)) (expV msg tag (48 : Int))))))) (Four.w1 (Prod.fst (limO (List.drop (Int.toNat (16 : Int)) (List.take (Int.toNat (↑(List.length (expV msg tag (48 : Int))) : Int)) (expV msg tag (48 : Int))))))) (Four.w2 (Prod.fst (limO (List.drop (Int.toNat (16 : Int)) (List.take (Int.toNat (↑(List.length (expV msg tag (48 : Int))) : Int)) (expV msg tag (48 : Int))))))) (Four.w3 (Prod.fst (limO (List.drop (Int.toNat (16 : Int)) (List.take (Int.toNat (↑(List.length (expV msg tag (48 : Int))) : Int)) (expV msg tag (48 : Int))))))) (Four.w0 (Prod.fst (limO (List.drop (0 : Nat) (List.take ((0 : Nat) + List.length ([(0 : UInt8), (0 : UInt8), (0 : UInt8), (0 : UInt8), (0 : UInt8), (0 : UInt8),
 (0 : UInt8), (0 : UInt8), (0 : UInt8), (0 : UInt8), (0 : UInt8), (0 : UInt8), (0 : UInt8), (0 : UInt8), (0 : UInt8), (0 : UInt8)] ++ List.drop (Int.toNat (0 : Int)) (List.take (Int.toNat (16 : Int)) (expV msg tag (48 : Int))))) ([(0 : UInt8), (0 : UInt8), (0 : UInt8), (0 : UInt8), (0 : UInt8), (0 : UInt8), (0 : UInt8), (0 : UInt8), (0 : UInt8), (0 : UInt8), (0 : UInt8), (0 : UInt8), (0 : UInt8), (0 : UInt8), (0 : UInt8), (0 : UInt8)] ++ List.drop (Int.toNat (0 : Int)) (List.take (Int.toNat (16 : Int)) (expV msg tag (48 : Int))))))))) (Four.w1 (Prod.fst (limO (List.drop (0 : Nat) (List.take ((0 : Nat) + List.length ([(0 : UInt8), (0 : UInt8), (0 : UInt8), (0 : UInt8), (0 : UInt8), (0 : UInt8), (0 : UInt8), (0 : UInt8), (0 : UInt8), (0 : UInt8), (0 : UInt8), (0 : UInt8), (0 : UInt8), (0 : UInt8), (0 : UInt8), (0 : UInt8)] ++ List.drop (Int.toNat (0 : Int)) (List.take (Int.toNat (16 : Int)) (expV msg tag (48 : Int)))))
 ([(0 : UInt8), (0 : UInt8), (0 : UInt8), (0 : UInt8), (0 : UInt8), (0 : UInt8), (0 : UInt8), (0 : UInt8), (0 : UInt8), (0 : UInt8), (0 : UInt8), (0 : UInt8), (0 : UInt8), (0 : UInt8), (0 : UInt8), (0 : UInt8)] ++ List.drop (Int.toNat (0 : Int)) (List.take (Int.toNat (16 : Int)) (expV msg tag (48 : Int))))))))) (Four.w2 (Prod.fst (limO (List.drop (0 : Nat) (List.take ((0 : Nat) + List.length ([(0 : UInt8), (0 : UInt8), (0 : UInt8), (0 : UInt8), (0 : UInt8), (0 : UInt8), (0 : UInt8), (0 : UInt8), (0 : UInt8), (0 : UInt8), (0 : UInt8), (0 : UInt8), (0 : UInt8), (0 : UInt8), (0 : UInt8), (0 : UInt8)] ++ List.drop (Int.toNat (0 : Int)) (List.take (Int.toNat (16 : Int)) (expV msg tag (48 : Int))))) ([(0 : UInt8), (0 : UInt8), (0 : UInt8), (0 : UInt8), (0 : UInt8), (0 : UInt8), (0 : UInt8), (0 : UInt8), (0 : UInt8), (0 : UInt8), (0 : UInt8), (0 : UInt8), (0 : UInt8), (0 : UInt8), (0 : UInt8), (0 : UInt8)] ++ List.drop (Int.toNat (0 : Int))
 (List.take (Int.toNat (16 : Int)) (expV msg tag (48 : Int))))))))) (Four.w3 (Prod.fst (limO (List.drop (0 : Nat) (List.take ((0 : Nat) + List.length ([(0 : UInt8), (0 : UInt8), (0 : UInt8), (0 : UInt8), (0 : UInt8), (0 : UInt8), (0 : UInt8), (0 : UInt8), (0 : UInt8), (0 : UInt8), (0 : UInt8), (0 : UInt8), (0 : UInt8), (0 : UInt8), (0 : UInt8), (0 : UInt8)] ++ List.drop (Int.toNat (0 : Int)) (List.take (Int.toNat (16 : Int)) (expV msg tag (48 : Int))))) ([(0 : UInt8), (0 : UInt8), (0 : UInt8), (0 : UInt8), (0 : UInt8), (0 : UInt8), (0 : UInt8), (0 : UInt8), (0 : UInt8), (0 : UInt8), (0 : UInt8), (0 : UInt8), (0 : UInt8), (0 : UInt8), (0 : UInt8), (0 : UInt8)] ++ List.drop (Int.toNat (0 : Int)) (List.take (Int.toNat (16 : Int)) (expV msg tag (48 : Int)))))))))))), SV.u64 (Four.w3 (wideP (Eight.mk (Four.w0 (Prod.fst (limO (List.drop (Int.toNat (16 : Int)) (List.take (Int.toNat (↑(List.length (expV msg tag (48 : Int))) : Int)) (expV msg tag (48 : Int))))))) (Four.w1 (Prod.fst (limO
 (List.drop (Int.toNat (16 : Int)) (List.take (Int.toNat (↑(List.length (expV msg tag (48 : Int))) : Int)) (expV msg tag (48 : Int))))))) (Four.w2 (Prod.fst (limO (List.drop (Int.toNat (16 : Int)) (List.take (Int.toNat (↑(List.length (expV msg tag (48 : Int))) : Int)) (expV msg tag (48 : Int))))))) (Four.w3 (Prod.fst (limO (List.drop (Int.toNat (16 : Int)) (List.take (Int.toNat (↑(List.length (expV msg tag (48 : Int))) : Int)) (expV msg tag (48 : Int))))))) (Four.w0 (Prod.fst (limO (List.drop (0 : Nat) (List.take ((0 : Nat) + List.length ([(0 : UInt8), (0 : UInt8), (0 : UInt8), (0 : UInt8), (0 : UInt8), (0 : UInt8), (0 : UInt8), (0 : UInt8), (0 : UInt8), (0 : UInt8), (0 : UInt8), (0 : UInt8), (0 : UInt8), (0 : UInt8), (0 : UInt8), (0 : UInt8)] ++ List.drop (Int.toNat (0 : Int)) (List.take (Int.toNat (16 : Int)) (expV msg tag (48 : Int))))) ([(0 : UInt8), (0 : UInt8), (0 : UInt8), (0 : UInt8), (0 : UInt8), (0 : UInt8), (0 : UInt8),
 (0 : UInt8), (0 : UInt8), (0 : UInt8), (0 : UInt8), (0 : UInt8), (0 : UInt8), (0 : UInt8), (0 : UInt8), (0 : UInt8)] ++ List.drop (Int.toNat (0 : Int)) (List.take (Int.toNat (16 : Int)) (expV msg tag (48 : Int))))))))) (Four.w1 (Prod.fst (limO (List.drop (0 : Nat) (List.take ((0 : Nat) + List.length ([(0 : UInt8), (0 : UInt8), (0 : UInt8), (0 : UInt8), (0 : UInt8), (0 : UInt8), (0 : UInt8), (0 : UInt8), (0 : UInt8), (0 : UInt8), (0 : UInt8), (0 : UInt8), (0 : UInt8), (0 : UInt8), (0 : UInt8), (0 : UInt8)] ++ List.drop (Int.toNat (0 : Int)) (List.take (Int.toNat (16 : Int)) (expV msg tag (48 : Int))))) ([(0 : UInt8), (0 : UInt8), (0 : UInt8), (0 : UInt8), (0 : UInt8), (0 : UInt8), (0 : UInt8), (0 : UInt8), (0 : UInt8), (0 : UInt8), (0 : UInt8), (0 : UInt8), (0 : UInt8), (0 : UInt8), (0 : UInt8), (0 : UInt8)] ++ List.drop (Int.toNat (0 : Int)) (List.take (Int.toNat (16 : Int)) (expV msg tag (48 : Int))))))))) (Four.w2 (Prod.fst (limO (List.drop (0 : Nat) (List.take ((0 : Nat) +
 List.length ([(0 : UInt8), (0 : UInt8), (0 : UInt8), (0 : UInt8), (0 : UInt8), (0 : UInt8), (0 : UInt8), (0 : UInt8), (0 : UInt8), (0 : UInt8), (0 : UInt8), (0 : UInt8), (0 : UInt8), (0 : UInt8), (0 : UInt8), (0 : UInt8)] ++ List.drop (Int.toNat (0 : Int)) (List.take (Int.toNat (16 : Int)) (expV msg tag (48 : Int))))) ([(0 : UInt8), (0 : UInt8), (0 : UInt8), (0 : UInt8), (0 : UInt8), (0 : UInt8), (0 : UInt8), (0 : UInt8), (0 : UInt8), (0 : UInt8), (0 : UInt8), (0 : UInt8), (0 : UInt8), (0 : UInt8), (0 : UInt8), (0 : UInt8)] ++ List.drop (Int.toNat (0 : Int)) (List.take (Int.toNat (16 : Int)) (expV msg tag (48 : Int))))))))) (Four.w3 (Prod.fst (limO (List.drop (0 : Nat) (List.take ((0 : Nat) + List.length ([(0 : UInt8), (0 : UInt8), (0 : UInt8), (0 : UInt8), (0 : UInt8), (0 : UInt8), (0 : UInt8), (0 : UInt8), (0 : UInt8), (0 : UInt8), (0 : UInt8), (0 : UInt8), (0 : UInt8), (0 : UInt8), (0 : UInt8), (0 : UInt8)] ++ List.drop (Int.toNat (0 : Int))
 (List.take (Int.toNat (16 : Int)) (expV msg tag (48 : Int))))) ([(0 : UInt8), (0 : UInt8), (0 : UInt8), (0 : UInt8), (0 : UInt8), (0 : UInt8), (0 : UInt8), (0 : UInt8), (0 : UInt8), (0 : UInt8), (0 : UInt8), (0 : UInt8), (0 : UInt8), (0 : UInt8), (0 : UInt8), (0 : UInt8)] ++ List.drop (Int.toNat (0 : Int)) (List.take (Int.toNat (16 : Int)) (expV msg tag (48 : Int))))))))))))], SV.i64 (0 : Int)])))))))))) := by kernel_rfl
theorem vcShB (msg tag : List UInt8) (Q : SV → Prop) : LnRaw tt (spSh false) 9 [] {} Tryz.f6 Q (msg, tag, ()) =
 (((List.length msg ≤ (1000000 : Nat)) ∧ (¬exOk tag (48 : Int))) ∧ (Q (SV.tup [SV.agg [SV.u64 (UInt64.ofNat (Int.toNat (0 : Int))), SV.u64 (UInt64.ofNat (Int.toNat (0 : Int))), SV.u64 (UInt64.ofNat (Int.toNat (0 : Int))), SV.u64 (UInt64.ofNat (Int.toNat (0 : Int)))], SV.i64 (2 : Int)]))) := by kernel_rfl
theorem vcSeG (msg tag : List UInt8) (Q : SV → Prop) : LnRaw tt (spSe true) 9 [] {} Tryz.f7 Q (msg, tag, ()) =
 (((List.length msg ≤ (1000000 : Nat)) ∧ (List.length tag ≤ (255 : Nat))) ∧ (Q (SV.tup [SV.agg [SV.ro (RingV.cells rP) (0 : Nat), SV.u64 (Four.w0 (P3.x (mapP (hashP msg tag)))), SV.u64 (Four.w1 (P3.x (mapP (hashP msg tag)))), SV.u64 (Four.w2 (P3.x (mapP (hashP msg tag)))), SV.u64 (Four.w3 (P3.x (mapP (hashP msg tag)))), SV.u64 (Four.w0 (P3.y (mapP (hashP msg tag)))), SV.u64 (Four.w1 (P3.y (mapP (hashP msg tag)))), SV.u64 (Four.w2 (P3.y (mapP (hashP msg tag)))), SV.u64 (Four.w3 (P3.y (mapP (hashP msg tag)))), SV.u64 (Four.w0 (P3.z (mapP (hashP msg tag)))), SV.u64 (Four.w1 (P3.z (mapP (hashP msg tag)))), SV.u64 (Four.w2 (P3.z (mapP (hashP msg tag)))), SV.u64 (Four.w3 (P3.z (mapP (hashP msg tag))))], SV.i64 (0 : Int)]))) := by kernel_rfl
theorem vcSeB (msg tag : List UInt8) (Q : SV → Prop) : LnRaw tt (spSe false) 9 [] {} Tryz.f7 Q (msg, tag, ()) =
 (((List.length msg ≤ (1000000 : Nat)) ∧ (¬List.length tag ≤ (255 : Nat))) ∧ (Q (SV.tup [SV.agg [SV.val (Value.pointer none), SV.u64 (UInt64.ofNat (Int.toNat (0 : Int))), SV.u64 (UInt64.ofNat (Int.toNat (0 : Int))), SV.u64 (UInt64.ofNat (Int.toNat (0 : Int))), SV.u64 (UInt64.ofNat (Int.toNat (0 : Int))), SV.u64 (UInt64.ofNat (Int.toNat (0 : Int))), SV.u64 (UInt64.ofNat (Int.toNat (0 : Int))), SV.u64 (UInt64.ofNat (Int.toNat (0 : Int))), SV.u64 (UInt64.ofNat (Int.toNat (0 : Int))), SV.u64 (UInt64.ofNat (Int.toNat (0 : Int))), SV.u64 (UInt64.ofNat (Int.toNat (0 : Int))), SV.u64 (UInt64.ofNat (Int.toNat (0 : Int))), SV.u64 (UInt64.ofNat (Int.toNat (0 : Int)))], SV.i64 (2 : Int)]))) := by kernel_rfl
end Go.Proofs.YtficbeeoafiiaaaGreatDoor.P12
/- Package sswu: messages as numbers and points: the bodies hold. -/
set_option maxRecDepth 10000
namespace Go.Proofs.YtficbeeoafiiaaaGreatDoor.P12
open Go.Sym Go.Dig R1 H5 H39
theorem expV_len {msg tag : List UInt8} {n : Int} (h1 : n ≤ 8160) : (expV msg tag n).length = n.toNat := by
  rw [expV_eq]
  show ((outE _ _ 255).take n.toNat).length = _
  rw [List.length_take, outE_len]; omega
theorem exp48 {msg tag : List UInt8} : (expV msg tag 48).length = 48 := expV_len (by decide)
theorem ok_WideP : SpecOK Tryz.prog 21 sWideP := by
  unfold sWideP
  rw [wideP_eq]
  refine fspec_weaken ok_WideR id (fun _ _ _ _ h => h) (fun ⟨r, _, _⟩ => by cases r <;> rfl) (fun _ _ => trivial) (fun a h at_ w v r => ?_)
  obtain ⟨q, u, _⟩ := a
  have h' : q = some rP := h
  subst h'
  exact r
theorem ok_LimO : SpecOK Tryz.prog 19 sLimO := by
  unfold sLimO
  rw [limO_eq]
  refine fspec_weaken Go.Proofs.YtficbeeoafiiaaaGreatDoor.ok_Of id (fun _ _ _ _ h => h) (fun _ => rfl) (fun _ _ => trivial) (fun a h at_ w v r => ?_)
  obtain ⟨b, t, _⟩ := a
  have h' : t = true := h
  subst h'
  exact r
theorem spSh_ok (b : Bool) : SpecsOK Tryz.prog (spSh b) := by
  cases b
  · exact .cons ok_ExpB <| .cons ok_LimO <| .cons ok_SwMade <| .cons ok_WideP (.nil _)
  · exact .cons ok_ExpG <| .cons ok_LimO <| .cons ok_SwMade <| .cons ok_WideP (.nil _)
theorem tk0 (l : List UInt8) : List.take (0 + l.length) l = l := by rw [Nat.zero_add, List.take_length]
theorem ok_ShG : SpecOK Tryz.prog 6 sHashPG := by
  unfold sHashPG
  rw [hashP_eq]
  refine fn_okL (by kernel_rfl) tt_ok (spSh_ok true) 9 Tryz.func6 (by decide +kernel) (by kernel_rfl) ?_
  rintro ⟨msg, tag, _⟩ ⟨hm, ht⟩
  replace hm : msg.length ≤ 1000000 := hm
  replace ht : tag.length ≤ 255 := ht
  refine ⟨[], {}, fun x => x = .tup [(hashC msg tag).sv, .i64 0], LnVD.of (vcShG msg tag _) ?_, svf⟩
  have t16 : Int.toNat (16 : Int) = 16 := rfl
  have t0 : Int.toNat (0 : Int) = 0 := rfl
  have l48 := exp48 (msg := msg) (tag := tag)
  simp only [tk0, Int.toNat_natCast, List.take_length, t16, t0, List.drop_zero]
  rw [l48]
  refine ⟨⟨hm, by decide, by decide, ht⟩, ⟨by decide, by decide, by decide⟩, trivial, ⟨by decide, trivial, by decide⟩, ⟨by decide, by decide, by decide⟩, ⟨by trivial, ?_⟩, trivial, trivial, rfl⟩
  rw [List.length_append, List.length_take, l48]
  decide
theorem ok_ShB : SpecOK Tryz.prog 6 sHashPB := by
  refine fn_okL (by kernel_rfl) tt_ok (spSh_ok false) 9 Tryz.func6 (by decide +kernel) (by kernel_rfl) ?_
  rintro ⟨msg, tag, _⟩ ⟨hm, ht⟩
  exact ⟨[], {}, fun x => x = _, LnVD.of (vcShB msg tag _) ⟨⟨hm, fun h => ht h.2.2⟩, rfl⟩, svf⟩
theorem spSe_ok (b : Bool) : SpecsOK Tryz.prog (spSe b) := by
  cases b
  · exact .cons ok_ShB <| .cons ok_SwMap (.nil _)
  · exact .cons ok_ShG <| .cons ok_SwMap (.nil _)
theorem ok_SeG : SpecOK Tryz.prog 7 sEncPG := by
  refine fn_okL (by kernel_rfl) tt_ok (spSe_ok true) 9 Tryz.func7 (by decide +kernel) (by kernel_rfl) ?_
  rintro ⟨msg, tag, _⟩ ⟨hm, ht⟩
  exact ⟨[], {}, fun x => x = .tup [(mapP (hashP msg tag)).sv, .i64 0], LnVD.of (vcSeG msg tag _) ⟨⟨hm, ht⟩, rfl⟩, svf⟩
theorem ok_SeB : SpecOK Tryz.prog 7 sEncPB := by
  refine fn_okL (by kernel_rfl) tt_ok (spSe_ok false) 9 Tryz.func7 (by decide +kernel) (by kernel_rfl) ?_
  rintro ⟨msg, tag, _⟩ ⟨hm, ht⟩
  exact ⟨[], {}, fun x => x = .tup [pNil.sv, .i64 2], LnVD.of (vcSeB msg tag _) ⟨⟨hm, ht⟩, rfl⟩, svf⟩
end Go.Proofs.YtficbeeoafiiaaaGreatDoor.P12
/- The reference of layer 39: numbers as points: what the bodies come to. -/
set_option maxRecDepth 10000
namespace Go.Proofs.YtficbeeoafiiaaaGreatDoor.P12
open Go.Sym Go.Dig R1 Go.Alg
--STOP R1.Sm, pN, qM, qA, qS, qE, qI, hB, fV, rSide, R1.cmpN, bitN
theorem vcRRoot (a : Nat) (Q : SV → Prop) : LnRaw tt spR1 9 [] {} Tryz.f40 Q (fV, (⟨a⟩ : Num), ()) =
 (((Sm (FastV.m fV)) ∧ (Sm (Int.toNat (1 : Int)))) ∧ (((Sm (FastV.m fV + Int.toNat (1 : Int))) ∧ (((0 : Int) ≤ (2 : Int)) ∧ ((2 : Int) ≤ (1073741824 : Int)))) ∧ (((fV = fV) ∧ ((a < pN) ∧ ((FastV.m fV + Int.toNat (1 : Int)) / (2 : Nat) ^ Int.toNat (2 : Int) ≤ pN))) ∧ (((fV = fV) ∧ ((qE a ((FastV.m fV + Int.toNat (1 : Int)) / (2 : Nat) ^ Int.toNat (2 : Int)) < pN) ∧ (qE a ((FastV.m fV + Int.toNat (1 : Int)) / (2 : Nat) ^ Int.toNat (2 : Int)) < pN))) ∧ (((Sm (qM (qE a ((FastV.m fV + Int.toNat (1 : Int)) / (2 : Nat) ^ Int.toNat (2 : Int))) (qE a ((FastV.m fV + Int.toNat (1 : Int)) / (2 : Nat) ^ Int.toNat (2 : Int))))) ∧ (Sm a)) ∧ (Q (SV.tup [SV.lst (LV.num (qE a ((FastV.m fV + Int.toNat (1 : Int)) / (2 : Nat) ^ Int.toNat (2 : Int)))), SV.bool (cmpN (qM (qE a ((FastV.m fV + Int.toNat (1 : Int)) / (2 : Nat) ^ Int.toNat (2 : Int))) (qE a ((FastV.m fV + Int.toNat (1 : Int)) / (2 : Nat) ^ Int.toNat (2 : Int)))) a == (0 : Int))]))))))) := by kernel_rfl
noncomputable def rtN0 (a : Nat) : Nat × Bool := (qE a ((pN + Int.toNat 1) / 2 ^ Int.toNat 2), R1.cmpN (qM (qE a ((pN + Int.toNat 1) / 2 ^ Int.toNat 2)) (qE a ((pN + Int.toNat 1) / 2 ^ Int.toNat 2))) a == 0)
theorem rtN_ex : ∃ f : Nat → Nat × Bool, f = rtN0 := ⟨_, rfl⟩
noncomputable def rtNO : Nat → Nat × Bool := Classical.choose rtN_ex
theorem rtNO_eq : rtNO = rtN0 := Classical.choose_spec rtN_ex
noncomputable def nSwRoot : SpecF := fspec (α := F1) (β := Num × Bool) (fun a => some (a.1 = fV ∧ a.2.1.n < pN)) (fun a => (⟨(rtNO a.2.1.n).1⟩, (rtNO a.2.1.n).2))
noncomputable def spSR : Specs := (40, nSwRoot) :: (14, nField) :: (35, nHexB) :: spR1
end Go.Proofs.YtficbeeoafiiaaaGreatDoor.P12
/- The reference of layer 39: roots hold. -/
set_option maxRecDepth 10000
namespace Go.Proofs.YtficbeeoafiiaaaGreatDoor.P12
open Go.Sym Go.Dig R1 Go.Alg
theorem ok_RRoot : SpecOK Tryz.prog 40 nSwRoot := by
  unfold nSwRoot
  rw [rtNO_eq]
  refine fn_okL (by kernel_rfl) tt_ok spR1_ok 9 Tryz.func40 (by decide +kernel) (by kernel_rfl) ?_
  rintro ⟨f, ⟨a⟩, _⟩ ⟨hf, ha⟩
  replace hf : f = fV := hf
  replace ha : a < pN := ha
  subst hf
  have sq : ∀ x y : Nat, Sm (qM x y) := fun x y => smp (by have := qM_lt x y; omega)
  refine ⟨[], {}, fun x => x = .tup [.lst (.num (rtN0 a).1), .bool (rtN0 a).2], LnVD.of (vcRRoot a _) ?_, svf⟩
  have h1 : pN + 1 ≤ pN + pN := by have := pN_pos; omega
  exact ⟨⟨smp (show pN ≤ pN + pN by omega), smp (show 1 ≤ pN + pN by have := pN_pos; omega)⟩, ⟨smp (show pN + 1 ≤ pN + pN from h1), by decide, by decide⟩, ⟨rfl, ha, e4_le⟩, ⟨rfl, qE_lt _ _, qE_lt _ _⟩, ⟨sq _ _, smp (by omega)⟩, rfl⟩
theorem spSR_ok : SpecsOK Tryz.prog spSR := .cons ok_RRoot <| .cons ok_Field <| .cons ok_HexB spR1_ok
noncomputable def zN : Nat := qS 0 (Int.toNat (10 : Int))
noncomputable def aN : Nat := qS 0 (Int.toNat (3 : Int))
noncomputable def wN (u : Nat) : Nat := qM zN (qM u u)
noncomputable def tN (u : Nat) : Nat := qI (qA (qM (qM zN zN) (qM (qM u u) (qM u u))) (wN u))
noncomputable def c1N (u : Nat) : Bool := ((dg (tN u)).length : Int) == 0
noncomputable def x0R : Nat := qM hB (qI (qM zN aN))
noncomputable def x1R (u : Nat) : Nat := qM (qM (qS 0 hB) (qI aN)) (qA (Int.toNat (1 : Int)) (tN u))
end Go.Proofs.YtficbeeoafiiaaaGreatDoor.P12
/- The reference of layer 39: numbers as points: what the body comes to, by what its tests tell. -/
set_option maxRecDepth 10000
namespace Go.Proofs.YtficbeeoafiiaaaGreatDoor.P12
open Go.Sym Go.Dig R1 Go.Alg
--STOP R1.Sm, pN, qM, qA, qS, qE, qI, hB, fV, rSide, R1.cmpN, rtNO, dg
def rmA (u : Nat) (P : Prop) : Prop :=
 (Value.string (ByteArray.mk #[(53 : UInt8), (97 : UInt8), (99 : UInt8), (54 : UInt8), (51 : UInt8), (53 : UInt8), (100 : UInt8), (56 : UInt8), (97 : UInt8), (97 : UInt8), (51 : UInt8), (97 : UInt8), (57 : UInt8), (51 : UInt8), (101 : UInt8), (55 : UInt8), (98 : UInt8), (51 : UInt8), (101 : UInt8), (98 : UInt8), (98 : UInt8), (100 : UInt8), (53 : UInt8), (53 : UInt8), (55 : UInt8), (54 : UInt8), (57 : UInt8), (56 : UInt8), (56 : UInt8), (54 : UInt8), (98 : UInt8), (99 : UInt8), (54 : UInt8), (53 : UInt8), (49 : UInt8), (100 : UInt8), (48 : UInt8), (54 : UInt8), (98 : UInt8), (48 : UInt8), (99 : UInt8), (99 : UInt8), (53 : UInt8), (51 : UInt8), (98 : UInt8), (48 : UInt8), (102 : UInt8), (54 : UInt8), (51 : UInt8), (98 : UInt8), (99 : UInt8), (101 : UInt8), (51 : UInt8), (99 : UInt8), (51 : UInt8), (101 : UInt8), (50 : UInt8), (55 : UInt8), (100 : UInt8), (50 : UInt8), (54 : UInt8), (48 : UInt8), (52 : UInt8), (98 : UInt8)]) = strB) ∧
 ((fV = fV) ∧ ((0 < pN) ∧ (3 < pN))) ∧
 ((fV = fV) ∧ ((0 < pN) ∧ (10 < pN))) ∧
 ((fV = fV) ∧ ((u < pN) ∧ (u < pN))) ∧
 ((fV = fV) ∧ ((qS 0 10 < pN) ∧ (qS 0 10 < pN))) ∧
 ((fV = fV) ∧ ((qM u u < pN) ∧ (qM u u < pN))) ∧
 ((fV = fV) ∧ ((qM zN zN < pN) ∧ (qM (qM u u) (qM u u) < pN))) ∧
 ((fV = fV) ∧ ((qS 0 10 < pN) ∧ (qM u u < pN))) ∧
 ((fV = fV) ∧ ((qM (qM zN zN) (qM (qM u u) (qM u u)) < pN) ∧ (qM zN (qM u u) < pN))) ∧
 ((fV = fV) ∧ (qA (qM (qM zN zN) (qM (qM u u) (qM u u))) (wN u) < pN)) ∧
 ((fV = fV) ∧ ((0 < pN) ∧ (hB < pN))) ∧
 ((fV = fV) ∧ (qS 0 3 < pN)) ∧
 ((fV = fV) ∧ ((qS 0 hB < pN) ∧ (qI aN < pN))) ∧
 ((fV = fV) ∧ ((1 < pN) ∧ (qI (qA (qM (qM zN zN) (qM (qM u u) (qM u u))) (wN u)) < pN))) ∧
 ((fV = fV) ∧ ((qM (qS 0 hB) (qI aN) < pN) ∧ (qA 1 (tN u) < pN))) ∧ P
def rmT (P : Prop) : Prop :=
 ((fV = fV) ∧ ((qS 0 (10) < pN) ∧ (qS 0 (3) < pN))) ∧ ((fV = fV) ∧ (qM zN aN < pN)) ∧ ((fV = fV) ∧ ((hB < pN) ∧ (qI (qM zN aN) < pN))) ∧ ((fV = fV) ∧ (qM hB (qI (qM zN aN)) < pN)) ∧ ((fV = fV) ∧ (rSide x0R < pN)) ∧ P
theorem vcRmTTT (u : Nat) (Q : SV → Prop) : LnRaw tt spSR 9 [(8, 2, .b true), (11, 0, .b true), (14, 4, .b true)] {} Tryz.f15 Q ((⟨u⟩ : Num), ()) =
 rmA u ((((↑(List.length (dg (tN u))) : Int) == (0 : Int)) = true) ∧ rmT ((Prod.snd (rtNO (rSide x0R)) = true) ∧ ((Sm (Prod.fst (rtNO (rSide x0R)))) ∧ (((0 : Int) ≤ (0 : Int)) ∧ ((0 : Int) ≤ (1073741824 : Int)))) ∧ ((Sm u) ∧ (((0 : Int) ≤ (0 : Int)) ∧ ((0 : Int) ≤ (1073741824 : Int)))) ∧ (((↑(Prod.fst (rtNO (rSide x0R)) / (2 : Nat) ^ Int.toNat (0 : Int) % (2 : Nat)) : Int) != (↑(u / (2 : Nat) ^ Int.toNat (0 : Int) % (2 : Nat)) : Int)) = true) ∧ ((fV = fV) ∧ ((0 < pN) ∧ (Prod.fst (rtNO (rSide x0R)) < pN))) ∧ Q (SV.agg [SV.lst (LV.num x0R), SV.lst (LV.num (qS 0 (Prod.fst (rtNO (rSide x0R))))), SV.lst (LV.ints [(1 : Int)])]))) := by kernel_rfl
theorem vcRmTTF (u : Nat) (Q : SV → Prop) : LnRaw tt spSR 9 [(8, 2, .b true), (11, 0, .b true), (14, 4, .b false)] {} Tryz.f15 Q ((⟨u⟩ : Num), ()) =
 rmA u ((((↑(List.length (dg (tN u))) : Int) == (0 : Int)) = true) ∧ rmT ((Prod.snd (rtNO (rSide x0R)) = true) ∧ ((Sm (Prod.fst (rtNO (rSide x0R)))) ∧ (((0 : Int) ≤ (0 : Int)) ∧ ((0 : Int) ≤ (1073741824 : Int)))) ∧ ((Sm u) ∧ (((0 : Int) ≤ (0 : Int)) ∧ ((0 : Int) ≤ (1073741824 : Int)))) ∧ (((↑(Prod.fst (rtNO (rSide x0R)) / (2 : Nat) ^ Int.toNat (0 : Int) % (2 : Nat)) : Int) != (↑(u / (2 : Nat) ^ Int.toNat (0 : Int) % (2 : Nat)) : Int)) = false) ∧ Q (SV.agg [SV.lst (LV.num x0R), SV.lst (LV.num (Prod.fst (rtNO (rSide x0R)))), SV.lst (LV.ints [(1 : Int)])]))) := by kernel_rfl
theorem vcRmTFT (u : Nat) (Q : SV → Prop) : LnRaw tt spSR 9 [(8, 2, .b true), (11, 0, .b false), (14, 4, .b true)] {} Tryz.f15 Q ((⟨u⟩ : Num), ()) =
 rmA u ((((↑(List.length (dg (tN u))) : Int) == (0 : Int)) = true) ∧ rmT ((Prod.snd (rtNO (rSide x0R)) = false) ∧ ((fV = fV) ∧ ((qS 0 (10) < pN) ∧ (qM u u < pN))) ∧ ((fV = fV) ∧ ((qM zN (qM u u) < pN) ∧ (qM hB (qI (qM zN aN)) < pN))) ∧ ((fV = fV) ∧ (qM (wN u) x0R < pN)) ∧ ((fV = fV) ∧ (rSide (qM (wN u) x0R) < pN)) ∧ ((Sm (Prod.fst (rtNO (rSide (qM (wN u) x0R))))) ∧ (((0 : Int) ≤ (0 : Int)) ∧ ((0 : Int) ≤ (1073741824 : Int)))) ∧ ((Sm u) ∧ (((0 : Int) ≤ (0 : Int)) ∧ ((0 : Int) ≤ (1073741824 : Int)))) ∧ (((↑(Prod.fst (rtNO (rSide (qM (wN u) x0R))) / (2 : Nat) ^ Int.toNat (0 : Int) % (2 : Nat)) : Int) != (↑(u / (2 : Nat) ^ Int.toNat (0 : Int) % (2 : Nat)) : Int)) = true) ∧ ((fV = fV) ∧ ((0 < pN) ∧ (Prod.fst (rtNO (rSide (qM (wN u) x0R))) < pN))) ∧ Q (SV.agg [SV.lst (LV.num (qM (wN u) x0R)), SV.lst (LV.num (qS 0 (Prod.fst (rtNO (rSide (qM (wN u) x0R)))))), SV.lst (LV.ints [(1 : Int)])]))) := by kernel_rfl
theorem vcRmTFF (u : Nat) (Q : SV → Prop) : LnRaw tt spSR 9 [(8, 2, .b true), (11, 0, .b false), (14, 4, .b false)] {} Tryz.f15 Q ((⟨u⟩ : Num), ()) =
 rmA u ((((↑(List.length (dg (tN u))) : Int) == (0 : Int)) = true) ∧ rmT ((Prod.snd (rtNO (rSide x0R)) = false) ∧ ((fV = fV) ∧ ((qS 0 (10) < pN) ∧ (qM u u < pN))) ∧ ((fV = fV) ∧ ((qM zN (qM u u) < pN) ∧ (qM hB (qI (qM zN aN)) < pN))) ∧ ((fV = fV) ∧ (qM (wN u) x0R < pN)) ∧ ((fV = fV) ∧ (rSide (qM (wN u) x0R) < pN)) ∧ ((Sm (Prod.fst (rtNO (rSide (qM (wN u) x0R))))) ∧ (((0 : Int) ≤ (0 : Int)) ∧ ((0 : Int) ≤ (1073741824 : Int)))) ∧ ((Sm u) ∧ (((0 : Int) ≤ (0 : Int)) ∧ ((0 : Int) ≤ (1073741824 : Int)))) ∧ (((↑(Prod.fst (rtNO (rSide (qM (wN u) x0R))) / (2 : Nat) ^ Int.toNat (0 : Int) % (2 : Nat)) : Int) != (↑(u / (2 : Nat) ^ Int.toNat (0 : Int) % (2 : Nat)) : Int)) = false) ∧ Q (SV.agg [SV.lst (LV.num (qM (wN u) x0R)), SV.lst (LV.num (Prod.fst (rtNO (rSide (qM (wN u) x0R))))), SV.lst (LV.ints [(1 : Int)])]))) := by kernel_rfl
theorem vcRmFTT (u : Nat) (Q : SV → Prop) : LnRaw tt spSR 9 [(8, 2, .b false), (11, 0, .b true), (14, 4, .b true)] {} Tryz.f15 Q ((⟨u⟩ : Num), ()) =
 rmA u ((((↑(List.length (dg (tN u))) : Int) == (0 : Int)) = false) ∧ ((fV = fV) ∧ (qM (qM (qS 0 hB) (qI aN)) (qA (1) (tN u)) < pN)) ∧ ((fV = fV) ∧ (rSide (x1R u) < pN)) ∧ (Prod.snd (rtNO (rSide (x1R u))) = true) ∧ ((Sm (Prod.fst (rtNO (rSide (x1R u))))) ∧ (((0 : Int) ≤ (0 : Int)) ∧ ((0 : Int) ≤ (1073741824 : Int)))) ∧ ((Sm u) ∧ (((0 : Int) ≤ (0 : Int)) ∧ ((0 : Int) ≤ (1073741824 : Int)))) ∧ (((↑(Prod.fst (rtNO (rSide (x1R u))) / (2 : Nat) ^ Int.toNat (0 : Int) % (2 : Nat)) : Int) != (↑(u / (2 : Nat) ^ Int.toNat (0 : Int) % (2 : Nat)) : Int)) = true) ∧ ((fV = fV) ∧ ((0 < pN) ∧ (Prod.fst (rtNO (rSide (x1R u))) < pN))) ∧ Q (SV.agg [SV.lst (LV.num (x1R u)), SV.lst (LV.num (qS 0 (Prod.fst (rtNO (rSide (x1R u)))))), SV.lst (LV.ints [(1 : Int)])])) := by kernel_rfl
theorem vcRmFTF (u : Nat) (Q : SV → Prop) : LnRaw tt spSR 9 [(8, 2, .b false), (11, 0, .b true), (14, 4, .b false)] {} Tryz.f15 Q ((⟨u⟩ : Num), ()) =
 rmA u ((((↑(List.length (dg (tN u))) : Int) == (0 : Int)) = false) ∧ ((fV = fV) ∧ (qM (qM (qS 0 hB) (qI aN)) (qA (1) (tN u)) < pN)) ∧ ((fV = fV) ∧ (rSide (x1R u) < pN)) ∧ (Prod.snd (rtNO (rSide (x1R u))) = true) ∧ ((Sm (Prod.fst (rtNO (rSide (x1R u))))) ∧ (((0 : Int) ≤ (0 : Int)) ∧ ((0 : Int) ≤ (1073741824 : Int)))) ∧ ((Sm u) ∧ (((0 : Int) ≤ (0 : Int)) ∧ ((0 : Int) ≤ (1073741824 : Int)))) ∧ (((↑(Prod.fst (rtNO (rSide (x1R u))) / (2 : Nat) ^ Int.toNat (0 : Int) % (2 : Nat)) : Int) != (↑(u / (2 : Nat) ^ Int.toNat (0 : Int) % (2 : Nat)) : Int)) = false) ∧ Q (SV.agg [SV.lst (LV.num (x1R u)), SV.lst (LV.num (Prod.fst (rtNO (rSide (x1R u))))), SV.lst (LV.ints [(1 : Int)])])) := by kernel_rfl
theorem vcRmFFT (u : Nat) (Q : SV → Prop) : LnRaw tt spSR 9 [(8, 2, .b false), (11, 0, .b false), (14, 4, .b true)] {} Tryz.f15 Q ((⟨u⟩ : Num), ()) =
 rmA u ((((↑(List.length (dg (tN u))) : Int) == (0 : Int)) = false) ∧ ((fV = fV) ∧ (qM (qM (qS 0 hB) (qI aN)) (qA (1) (tN u)) < pN)) ∧ ((fV = fV) ∧ (rSide (x1R u) < pN)) ∧ (Prod.snd (rtNO (rSide (x1R u))) = false) ∧ ((fV = fV) ∧ ((qS 0 (10) < pN) ∧ (qM u u < pN))) ∧ ((fV = fV) ∧ ((qM zN (qM u u) < pN) ∧ (qM (qM (qS 0 hB) (qI aN)) (qA (1) (tN u)) < pN))) ∧ ((fV = fV) ∧ (qM (wN u) (x1R u) < pN)) ∧ ((fV = fV) ∧ (rSide (qM (wN u) (x1R u)) < pN)) ∧ ((Sm (Prod.fst (rtNO (rSide (qM (wN u) (x1R u)))))) ∧ (((0 : Int) ≤ (0 : Int)) ∧ ((0 : Int) ≤ (1073741824 : Int)))) ∧ ((Sm u) ∧ (((0 : Int) ≤ (0 : Int)) ∧ ((0 : Int) ≤ (1073741824 : Int)))) ∧ (((↑(Prod.fst (rtNO (rSide (qM (wN u) (x1R u)))) / (2 : Nat) ^ Int.toNat (0 : Int) % (2 : Nat)) : Int) != (↑(u / (2 : Nat) ^ Int.toNat (0 : Int) % (2 : Nat)) : Int)) = true) ∧ ((fV = fV) ∧ ((0 < pN) ∧ (Prod.fst (rtNO (rSide (qM (wN u) (x1R u)))) < pN))) ∧ Q (SV.agg [SV.lst (LV.num (qM (wN u) (x1R u))), SV.lst (LV.num (qS 0 (Prod.fst (rtNO (rSide (qM (wN u) (x1R u))))))), SV.lst (LV.ints [(1 : Int)])])) := by kernel_rfl
theorem vcRmFFF (u : Nat) (Q : SV → Prop) : LnRaw tt spSR 9 [(8, 2, .b false), (11, 0, .b false), (14, 4, .b false)] {} Tryz.f15 Q ((⟨u⟩ : Num), ()) =
 rmA u ((((↑(List.length (dg (tN u))) : Int) == (0 : Int)) = false) ∧ ((fV = fV) ∧ (qM (qM (qS 0 hB) (qI aN)) (qA (1) (tN u)) < pN)) ∧ ((fV = fV) ∧ (rSide (x1R u) < pN)) ∧ (Prod.snd (rtNO (rSide (x1R u))) = false) ∧ ((fV = fV) ∧ ((qS 0 (10) < pN) ∧ (qM u u < pN))) ∧ ((fV = fV) ∧ ((qM zN (qM u u) < pN) ∧ (qM (qM (qS 0 hB) (qI aN)) (qA (1) (tN u)) < pN))) ∧ ((fV = fV) ∧ (qM (wN u) (x1R u) < pN)) ∧ ((fV = fV) ∧ (rSide (qM (wN u) (x1R u)) < pN)) ∧ ((Sm (Prod.fst (rtNO (rSide (qM (wN u) (x1R u)))))) ∧ (((0 : Int) ≤ (0 : Int)) ∧ ((0 : Int) ≤ (1073741824 : Int)))) ∧ ((Sm u) ∧ (((0 : Int) ≤ (0 : Int)) ∧ ((0 : Int) ≤ (1073741824 : Int)))) ∧ (((↑(Prod.fst (rtNO (rSide (qM (wN u) (x1R u)))) / (2 : Nat) ^ Int.toNat (0 : Int) % (2 : Nat)) : Int) != (↑(u / (2 : Nat) ^ Int.toNat (0 : Int) % (2 : Nat)) : Int)) = false) ∧ Q (SV.agg [SV.lst (LV.num (qM (wN u) (x1R u))), SV.lst (LV.num (Prod.fst (rtNO (rSide (qM (wN u) (x1R u)))))), SV.lst (LV.ints [(1 : Int)])])) := by kernel_rfl
end Go.Proofs.YtficbeeoafiiaaaGreatDoor.P12
/- The reference of layer 39: numbers as points: the body holds; what comes is the field's. -/
set_option maxRecDepth 10000
namespace Go.Proofs.YtficbeeoafiiaaaGreatDoor.P12
open Go.Sym Go.Dig R1 Go.Alg
noncomputable def xsN (u : Nat) : Nat := cond (c1N u) x0R (x1R u)
noncomputable def xN (u : Nat) : Nat := cond (rtNO (rSide (xsN u))).2 (xsN u) (qM (wN u) (xsN u))
noncomputable def yN (u : Nat) : Nat := (rtNO (rSide (xN u))).1
noncomputable def c3N (u y : Nat) : Bool := ((y / 2 ^ Int.toNat (0 : Int) % 2 : Nat) : Int) != ((u / 2 ^ Int.toNat (0 : Int) % 2 : Nat) : Int)
noncomputable def y2N (u : Nat) : Nat := cond (c3N u (yN u)) (qS 0 (yN u)) (yN u)
noncomputable def mapN0 (u : Nat) : RP := ⟨xN u, y2N u, 1⟩
theorem mpN_ex : ∃ f : Nat → RP, f = mapN0 := ⟨_, rfl⟩
noncomputable def mapN : Nat → RP := Classical.choose mpN_ex
theorem mapN_eq : mapN = mapN0 := Classical.choose_spec mpN_ex
noncomputable def sRMapS : SpecF := fspec (α := Num × Unit) (fun a => some (a.1.n < pN)) (fun a => mapN a.1.n)
theorem rt_lt (a : Nat) : (rtNO a).1 < pN := by rw [rtNO_eq]; exact qE_lt _ _
theorem ok_RMapS : SpecOK Tryz.prog 15 sRMapS := by
  unfold sRMapS
  rw [mapN_eq]
  refine fn_okL (by kernel_rfl) tt_ok spSR_ok 9 Tryz.func15 (by decide +kernel) (by kernel_rfl) ?_
  rintro ⟨⟨u⟩, _⟩ hu
  replace hu : u < pN := hu
  show ∃ D L, ∃ Q : SV → Prop, LnVD tt spSR 9 D L _ Q (_, ()) ∧ ∀ z, Q z → ∀ (at_ : At) (w : World) (v : Value), Rel at_ w z v → Rel at_ w (RP.sv ⟨xN u, y2N u, 1⟩) v
  have s3 : Int.toNat (3 : Int) < pN := small_lt (n := 3) (by decide)
  have s10 : Int.toNat (10 : Int) < pN := small_lt (n := 10) (by decide)
  have s1 : Int.toNat (1 : Int) < pN := small_lt (n := 1) (by decide)
  have z0 := pN_pos
  have hBl := hB_lt
  have rl : ∀ x, rSide x < pN := fun x => qA_lt _ _
  have sm : ∀ a, Sm (rtNO a).1 := fun a => smp (by have := rt_lt a; omega)
  have su : Sm u := smp (by omega)
  cases h1 : c1N u <;> cases h2 : (rtNO (rSide (xsN u))).2 <;> cases h3 : c3N u (yN u)
  all_goals
    have e1 : xsN u = cond (c1N u) x0R (x1R u) := rfl
    have e2 : xN u = cond (rtNO (rSide (xsN u))).2 (xsN u) (qM (wN u) (xsN u)) := rfl
    have e3 : y2N u = cond (c3N u (yN u)) (qS 0 (yN u)) (yN u) := rfl
    have e4 : yN u = (rtNO (rSide (xN u))).1 := rfl
    rw [h1] at e1
    rw [h2] at e2
    rw [h3] at e3
    rw [e3]
    rw [e4] at h3 ⊢
    rw [e2] at h3 ⊢
    rw [e1] at h2 h3 ⊢
  · refine ⟨_, {}, fun x => x = .agg [.lst (.num (qM (wN u) (x1R u))), .lst (.num ((rtNO (rSide (qM (wN u) (x1R u)))).1)), .lst (.ints [1])], LnVD.of (vcRmFFF u _) ?_, svr rfl⟩
    repeat' apply And.intro
    all_goals first | exact hu | exact s3 | exact s10 | exact s1 | exact z0 | exact hBl | exact qM_lt _ _ | exact qS_lt _ _ | exact qA_lt _ _ | exact qI_lt _ | exact rl _ | exact rt_lt _ | exact sm _ | exact su | exact h1 | exact h2 | exact h3 | decide | rfl
  · refine ⟨_, {}, fun x => x = .agg [.lst (.num (qM (wN u) (x1R u))), .lst (.num (qS 0 ((rtNO (rSide (qM (wN u) (x1R u)))).1))), .lst (.ints [1])], LnVD.of (vcRmFFT u _) ?_, svr rfl⟩
    repeat' apply And.intro
    all_goals first | exact hu | exact s3 | exact s10 | exact s1 | exact z0 | exact hBl | exact qM_lt _ _ | exact qS_lt _ _ | exact qA_lt _ _ | exact qI_lt _ | exact rl _ | exact rt_lt _ | exact sm _ | exact su | exact h1 | exact h2 | exact h3 | decide | rfl
  · refine ⟨_, {}, fun x => x = .agg [.lst (.num (x1R u)), .lst (.num ((rtNO (rSide (x1R u))).1)), .lst (.ints [1])], LnVD.of (vcRmFTF u _) ?_, svr rfl⟩
    repeat' apply And.intro
    all_goals first | exact hu | exact s3 | exact s10 | exact s1 | exact z0 | exact hBl | exact qM_lt _ _ | exact qS_lt _ _ | exact qA_lt _ _ | exact qI_lt _ | exact rl _ | exact rt_lt _ | exact sm _ | exact su | exact h1 | exact h2 | exact h3 | decide | rfl
  · refine ⟨_, {}, fun x => x = .agg [.lst (.num (x1R u)), .lst (.num (qS 0 ((rtNO (rSide (x1R u))).1))), .lst (.ints [1])], LnVD.of (vcRmFTT u _) ?_, svr rfl⟩
    repeat' apply And.intro
    all_goals first | exact hu | exact s3 | exact s10 | exact s1 | exact z0 | exact hBl | exact qM_lt _ _ | exact qS_lt _ _ | exact qA_lt _ _ | exact qI_lt _ | exact rl _ | exact rt_lt _ | exact sm _ | exact su | exact h1 | exact h2 | exact h3 | decide | rfl
  · refine ⟨_, {}, fun x => x = .agg [.lst (.num (qM (wN u) x0R)), .lst (.num ((rtNO (rSide (qM (wN u) x0R))).1)), .lst (.ints [1])], LnVD.of (vcRmTFF u _) ?_, svr rfl⟩
    repeat' apply And.intro
    all_goals first | exact hu | exact s3 | exact s10 | exact s1 | exact z0 | exact hBl | exact qM_lt _ _ | exact qS_lt _ _ | exact qA_lt _ _ | exact qI_lt _ | exact rl _ | exact rt_lt _ | exact sm _ | exact su | exact h1 | exact h2 | exact h3 | decide | rfl
  · refine ⟨_, {}, fun x => x = .agg [.lst (.num (qM (wN u) x0R)), .lst (.num (qS 0 ((rtNO (rSide (qM (wN u) x0R))).1))), .lst (.ints [1])], LnVD.of (vcRmTFT u _) ?_, svr rfl⟩
    repeat' apply And.intro
    all_goals first | exact hu | exact s3 | exact s10 | exact s1 | exact z0 | exact hBl | exact qM_lt _ _ | exact qS_lt _ _ | exact qA_lt _ _ | exact qI_lt _ | exact rl _ | exact rt_lt _ | exact sm _ | exact su | exact h1 | exact h2 | exact h3 | decide | rfl
  · refine ⟨_, {}, fun x => x = .agg [.lst (.num x0R), .lst (.num ((rtNO (rSide x0R)).1)), .lst (.ints [1])], LnVD.of (vcRmTTF u _) ?_, svr rfl⟩
    repeat' apply And.intro
    all_goals first | exact hu | exact s3 | exact s10 | exact s1 | exact z0 | exact hBl | exact qM_lt _ _ | exact qS_lt _ _ | exact qA_lt _ _ | exact qI_lt _ | exact rl _ | exact rt_lt _ | exact sm _ | exact su | exact h1 | exact h2 | exact h3 | decide | rfl
  · refine ⟨_, {}, fun x => x = .agg [.lst (.num x0R), .lst (.num (qS 0 ((rtNO (rSide x0R)).1))), .lst (.ints [1])], LnVD.of (vcRmTTT u _) ?_, svr rfl⟩
    repeat' apply And.intro
    all_goals first | exact hu | exact s3 | exact s10 | exact s1 | exact z0 | exact hBl | exact qM_lt _ _ | exact qS_lt _ _ | exact qA_lt _ _ | exact qI_lt _ | exact rl _ | exact rt_lt _ | exact sm _ | exact su | exact h1 | exact h2 | exact h3 | decide | rfl
/-! Over the field. -/
theorem fe_qI (a : Nat) : fe (qI a) = jinv (fe a) := by
  unfold qI jinv
  rw [fe_mod, fe_val]
  exact fe_eq.2 (by rw [Nat.pow_mod])
theorem fe_zN : fe zN = zK := by
  unfold zN
  rw [fe_qS (show Int.toNat (10 : Int) < pN from small_lt (n := 10) (by decide)), fe_zero]
  rfl
theorem fe_aN : fe aN = aK := by
  unfold aN
  rw [fe_qS (show Int.toNat (3 : Int) < pN from small_lt (n := 3) (by decide)), fe_zero]
  show 0 - fe 3 = 0 - 3
  rw [fe_three]
theorem fe_wN (u : Nat) : fe (wN u) = wK (fe u) := by unfold wN wK; rw [fe_qM, fe_qM, fe_zN]
theorem fe_tN (u : Nat) : fe (tN u) = tK (fe u) := by
  unfold tN tK
  rw [fe_qI, fe_qA, fe_qM, fe_qM, fe_qM, fe_qM, fe_wN, fe_zN]
  unfold wK
  congr 1
  generalize zK = z
  generalize fe u = x
  grind -lia -linarith -order (splits := 0)
theorem c1_eq (u : Nat) : c1N u = decide (tK (fe u) = 0) := by
  unfold c1N
  rw [len0]
  apply bool_eq
  rw [decide_eq_true_iff, decide_eq_true_iff, ← fe_tN]
  exact fe_z (qI_lt _)
theorem fe_xs (u : Nat) : fe (xsN u) = x1K (fe u) := by
  unfold xsN x1K
  rw [c1_eq]
  by_cases h : tK (fe u) = 0
  · rw [decide_eq_true h, if_pos h, cond_true]
    unfold x0R
    rw [fe_qM, fe_qI, fe_qM, fe_zN, fe_aN]
    rfl
  · rw [decide_eq_false h, if_neg h, cond_false]
    unfold x1R
    rw [fe_qM, fe_qM, fe_qS hB_lt, fe_qI, fe_qA, fe_tN, fe_aN, fe_zero]
    show _ * (fe 1 + _) = _
    rw [fe_one]
    rfl
theorem rtN_ok {a : Nat} (h : a < pN) : fe (rtNO a).1 = rtK (fe a) ∧ (rtNO a).2 = decide (isK (fe a)) := by
  have e : fe (rtNO a).1 = rtK (fe a) := by
    rw [rtNO_eq]
    show fe (qE a ((pN + 1) / 4)) = _
    unfold qE
    rw [fe_mod]
    apply Fin.ext
    unfold rtK
    rw [kp_val, fe_lt h]
    rfl
  refine ⟨e, bool_eq ?_⟩
  rw [decide_eq_true_iff]
  unfold isK
  rw [← e]
  rw [rtNO_eq]
  show (R1.cmpN (qM (rtN0 a).1 (rtN0 a).1) a == 0) = true ↔ fe (rtN0 a).1 * fe (rtN0 a).1 = fe a
  rw [← fe_qM, cmp_eq, decide_eq_true_iff]
  exact ⟨fun k => by rw [k], fun k => fe_inj (qM_lt _ _) h k⟩
theorem xN_eq (u : Nat) : fe (xN u) = (ptK (fe u)).1 := by
  have h1 := (rtN_ok (show rSide (xsN u) < pN from qA_lt _ _)).2
  rw [← gK_fe, fe_xs] at h1
  have hx : xN u = cond (rtNO (rSide (xsN u))).2 (xsN u) (qM (wN u) (xsN u)) := rfl
  rw [hx, h1]
  by_cases h : isK (gK (x1K (fe u)))
  · rw [pt_yes h, decide_eq_true h, cond_true]
    exact fe_xs u
  · rw [pt_no h, decide_eq_false h, cond_false, fe_qM, fe_wN, fe_xs]
theorem yN_eq (u : Nat) : fe (yN u) = (ptK (fe u)).2 := by
  have h2 := (rtN_ok (show rSide (xN u) < pN from qA_lt _ _)).1
  rw [← gK_fe, xN_eq, ← pt_snd] at h2
  exact h2
theorem c3_eq {u y : Nat} : c3N u y = (oddN y != oddN u) := by
  unfold c3N oddN
  show ((((y / 1 % 2 : Nat)) : Int) != ((u / 1 % 2 : Nat) : Int)) = _
  rw [Nat.div_one, Nat.div_one]
  rcases Nat.mod_two_eq_zero_or_one y with e1 | e1 <;> rcases Nat.mod_two_eq_zero_or_one u with e2 | e2 <;> rw [e1, e2] <;> rfl
theorem y2_eq (u : Nat) : fe (y2N u) = sgK (oddN u) (ptK (fe u)).2 := by
  have h := yN_eq u
  have hl : yN u < pN := rt_lt _
  have e0 : (ptK (fe u)).2.val = yN u := by rw [← h]; exact fe_lt hl
  unfold y2N sgK
  rw [c3_eq, e0]
  by_cases e : oddN (yN u) = oddN u
  · rw [if_pos e, e, bne_self_eq_false, cond_false]
    exact h
  · rw [if_neg e, bne_iff_ne.2 e, cond_true, fe_qS hl, fe_zero, h]
theorem mapN_Ok (u : Nat) : (mapN u).Ok := by
  rw [mapN_eq]
  refine ⟨?_, ?_, small_lt (n := 1) (by decide)⟩
  · show xN u < pN
    unfold xN xsN
    cases (rtNO _).2 <;> cases c1N u <;> exact qM_lt _ _
  · show y2N u < pN
    unfold y2N
    cases c3N u (yN u)
    · exact rt_lt _
    · exact qS_lt _ _
theorem jr_mapN (u : Nat) : jr (mapN u) = ⟨(ptK (fe u)).1, sgK (oddN u) (ptK (fe u)).2, 1⟩ := by
  rw [mapN_eq]
  show (⟨fe (xN u), fe (y2N u), fe 1⟩ : J pN) = _
  rw [xN_eq, y2_eq, fe_one]
/-- Both are the same point. -/
theorem map_both (u : Four) : jp (mapP u) = jr (mapN (nat4 u % pN)) := by
  rw [jp_map, jr_mapN]
  have : uK u = fe (nat4 u % pN) := (fe_mod _).symm
  rw [this]
end Go.Proofs.YtficbeeoafiiaaaGreatDoor.P12
/- Layer 39: the law of messages: what is said of it. -/
set_option maxRecDepth 10000
namespace Go.Proofs.YtficbeeoafiiaaaGreatDoor.P12
open Go.Sym Go.Dig R1 H5 H39
noncomputable def spAw39 : Specs := (7, sEncPG) :: spB1
def sAw39 : SpecF := fspec (α := Unit) total fun _ => true
noncomputable def spHN : Specs := [(9, sRExp), (27, R1.sBig), (26, R1.nMod), (28, nP)]
noncomputable def hashN0 (msg tag : List UInt8) : Nat := bev (expV msg tag 48) % pN
theorem hnp_ex : ∃ f : List UInt8 → List UInt8 → Nat, f = hashN0 := ⟨_, rfl⟩
noncomputable def hashNP : List UInt8 → List UInt8 → Nat := Classical.choose hnp_ex
theorem hashNP_eq : hashNP = hashN0 := Classical.choose_spec hnp_ex
noncomputable def sHashNR : SpecF := fspec (α := List UInt8 × List UInt8 × Unit) (β := Num) (fun a => some (a.1.length ≤ 1000000 ∧ a.2.1.length ≤ 255)) (fun a => ⟨hashNP a.1 a.2.1⟩)
noncomputable def spHs (e h : Bool) : Specs := (4, sAw39) :: (5, cond e sExpG sExpB) :: (6, cond h sHashPG sHashPB) :: (7, cond h sEncPG sEncPB) :: (9, sRExp) :: (10, sHashNR) :: (15, sRMapS) :: spC1
end Go.Proofs.YtficbeeoafiiaaaGreatDoor.P12
/- Layer 39: the law of messages: what the bodies come to. -/
set_option maxRecDepth 10000
namespace Go.Proofs.YtficbeeoafiiaaaGreatDoor.P12
open Go.Sym Go.Dig R1 H5 H39
--STOP expV, exOk, mapP, hashP, hashNP, mapN, R1.Sm, pN, fV, pBytes, rBytes, nat4, RP.Ok, rP, fourN, bev, zero4
theorem vcAw39 (Q : SV → Prop) : LnRaw tt spAw39 9 [] {} Tryz.f4 Q () =
 ((((0 : Nat) ≤ (1000000 : Nat)) ∧ ((0 : Nat) ≤ (255 : Nat))) ∧ ((some rP = some rP) ∧ (Q (SV.bool ((↑(List.length (pBytes (PPt.p (PPt.mk (some rP) (P3.x (mapP (hashP [] []))) (P3.y (mapP (hashP [] []))) (P3.z (mapP (hashP [] []))))))) : Int) == (33 : Int)))))) := by kernel_rfl
theorem vcHN (msg tag : List UInt8) (Q : SV → Prop) : LnRaw tt spHN 9 [] {} Tryz.f10 Q (msg, tag, ()) =
 (((List.length msg ≤ (1000000 : Nat)) ∧ ((List.length tag ≤ (1000000 : Nat)) ∧ (((0 : Int) ≤ (48 : Int)) ∧ ((48 : Int) ≤ (8160 : Int))))) ∧ ((List.length (expV msg tag (48 : Int)) ≤ (1048576 : Nat)) ∧ (((List.length (dg (bev (expV msg tag (48 : Int)))) ≤ (536870912 : Nat)) ∧ ((List.length (dg pN) ≤ (536870912 : Nat)) ∧ ((0 : Nat) < pN))) ∧ (Q (SV.lst (LV.num (bev (expV msg tag (48 : Int)) % pN))))))) := by kernel_rfl
theorem vcHs1 (msg tag : List UInt8) (n : Int) (Q : SV → Prop) : LnRaw tt (spHs true true) 9 [(11, 6, .b false), (13, 2, .b false), (16, 10, .b true), (16, 19, .b true)] {} Tryz.f3 Q (msg, tag, n, ()) =
 bcase (decide ((↑(List.length msg) : Int) > (500 : Int))) ((Q (SV.bool true))) (bcase (decide ((↑(List.length tag) : Int) > (600 : Int))) ((Q (SV.bool true))) ((((List.length msg ≤ (1000000 : Nat)) ∧ (exOk tag n)) ∧ (((List.length msg ≤ (1000000 : Nat)) ∧ (List.length tag ≤ (255 : Nat))) ∧ (((List.length msg ≤ (1000000 : Nat)) ∧ (List.length tag ≤ (255 : Nat))) ∧ bcase (decide (n < (0 : Int))) ((Q (SV.bool false))) (bcase (decide (n > (8160 : Int))) ((Q (SV.bool false))) (bcase (decide ((↑(List.length tag) : Int) > (255 : Int))) ((Q (SV.bool false))) (((((↑(List.length (expV msg tag n)) : Int) != n) = false) ∧ bcase (decide (n ≤ (500 : Int))) ((((List.length msg ≤ (1000000 : Nat)) ∧ ((List.length tag ≤ (1000000 : Nat)) ∧ (((0 : Int) ≤ n) ∧ (n ≤ (8160 : Int))))) ∧ ((List.length (expV msg tag n) ≤ (4294967296 : Nat)) ∧ bcase (!decide (expV msg tag n = expV msg tag n)) ((Q (SV.bool false))) (((decide ((↑(List.length tag) : Int) > (255 : Int)) = false) ∧
 (((List.length msg ≤ (1000000 : Nat)) ∧ (List.length tag ≤ (255 : Nat))) ∧ ((Sm (hashNP msg tag)) ∧ (((Four.w0 (hashP msg tag) == Four.w0 (fourN (hashNP msg tag)) && (Four.w1 (hashP msg tag) == Four.w1 (fourN (hashNP msg tag)) && (Four.w2 (hashP msg tag) == Four.w2 (fourN (hashNP msg tag)) && (Four.w3 (hashP msg tag) == Four.w3 (fourN (hashNP msg tag)) && true)))) = true) ∧ ((some rP = some rP) ∧ ((hashNP msg tag < pN) ∧ (((fV = fV) ∧ (RP.Ok (mapN (hashNP msg tag)))) ∧ ((List.length (pBytes (PPt.p (PPt.mk (some rP) (P3.x (mapP (hashP msg tag))) (P3.y (mapP (hashP msg tag))) (P3.z (mapP (hashP msg tag)))))) ≤ (4294967296 : Nat)) ∧ ((decide (pBytes (PPt.p (PPt.mk (some rP) (P3.x (mapP (hashP msg tag))) (P3.y (mapP (hashP msg tag))) (P3.z (mapP (hashP msg tag))))) = rBytes (mapN (hashNP msg tag))) = true) ∧ (Q (SV.bool true))))))))))))))) (((decide ((↑(List.length tag) : Int) > (255 : Int)) = false) ∧ (((List.length msg ≤ (1000000 : Nat)) ∧ (List.length tag ≤ (255 : Nat))) ∧
 ((Sm (hashNP msg tag)) ∧ (((Four.w0 (hashP msg tag) == Four.w0 (fourN (hashNP msg tag)) && (Four.w1 (hashP msg tag) == Four.w1 (fourN (hashNP msg tag)) && (Four.w2 (hashP msg tag) == Four.w2 (fourN (hashNP msg tag)) && (Four.w3 (hashP msg tag) == Four.w3 (fourN (hashNP msg tag)) && true)))) = true) ∧ ((some rP = some rP) ∧ ((hashNP msg tag < pN) ∧ (((fV = fV) ∧ (RP.Ok (mapN (hashNP msg tag)))) ∧ ((List.length (pBytes (PPt.p (PPt.mk (some rP) (P3.x (mapP (hashP msg tag))) (P3.y (mapP (hashP msg tag))) (P3.z (mapP (hashP msg tag)))))) ≤ (4294967296 : Nat)) ∧ ((decide (pBytes (PPt.p (PPt.mk (some rP) (P3.x (mapP (hashP msg tag))) (P3.y (mapP (hashP msg tag))) (P3.z (mapP (hashP msg tag))))) = rBytes (mapN (hashNP msg tag))) = true) ∧ (Q (SV.bool true))))))))))))))))))))) := by kernel_rfl
theorem vcHs2 (msg tag : List UInt8) (n : Int) (Q : SV → Prop) : LnRaw tt (spHs false true) 9 [(13, 2, .b false), (16, 10, .b true), (16, 19, .b true)] {} Tryz.f3 Q (msg, tag, n, ()) =
 bcase (decide ((↑(List.length msg) : Int) > (500 : Int))) ((Q (SV.bool true))) (bcase (decide ((↑(List.length tag) : Int) > (600 : Int))) ((Q (SV.bool true))) ((((List.length msg ≤ (1000000 : Nat)) ∧ (¬exOk tag n)) ∧ (((List.length msg ≤ (1000000 : Nat)) ∧ (List.length tag ≤ (255 : Nat))) ∧ (((List.length msg ≤ (1000000 : Nat)) ∧ (List.length tag ≤ (255 : Nat))) ∧ bcase (decide (n < (0 : Int))) (((decide ((↑(List.length tag) : Int) > (255 : Int)) = false) ∧ (((List.length msg ≤ (1000000 : Nat)) ∧ (List.length tag ≤ (255 : Nat))) ∧ ((Sm (hashNP msg tag)) ∧ (((Four.w0 (hashP msg tag) == Four.w0 (fourN (hashNP msg tag)) && (Four.w1 (hashP msg tag) == Four.w1 (fourN (hashNP msg tag)) && (Four.w2 (hashP msg tag) == Four.w2 (fourN (hashNP msg tag)) && (Four.w3 (hashP msg tag) == Four.w3 (fourN (hashNP msg tag)) && true)))) = true) ∧ ((some rP = some rP) ∧ ((hashNP msg tag < pN) ∧ (((fV = fV) ∧ (RP.Ok (mapN (hashNP msg tag)))) ∧ ((List.length (pBytes (PPt.p
 (PPt.mk (some rP) (P3.x (mapP (hashP msg tag))) (P3.y (mapP (hashP msg tag))) (P3.z (mapP (hashP msg tag)))))) ≤ (4294967296 : Nat)) ∧ ((decide (pBytes (PPt.p (PPt.mk (some rP) (P3.x (mapP (hashP msg tag))) (P3.y (mapP (hashP msg tag))) (P3.z (mapP (hashP msg tag))))) = rBytes (mapN (hashNP msg tag))) = true) ∧ (Q (SV.bool true)))))))))))) (bcase (decide (n > (8160 : Int))) (((decide ((↑(List.length tag) : Int) > (255 : Int)) = false) ∧ (((List.length msg ≤ (1000000 : Nat)) ∧ (List.length tag ≤ (255 : Nat))) ∧ ((Sm (hashNP msg tag)) ∧ (((Four.w0 (hashP msg tag) == Four.w0 (fourN (hashNP msg tag)) && (Four.w1 (hashP msg tag) == Four.w1 (fourN (hashNP msg tag)) && (Four.w2 (hashP msg tag) == Four.w2 (fourN (hashNP msg tag)) && (Four.w3 (hashP msg tag) == Four.w3 (fourN (hashNP msg tag)) && true)))) = true) ∧ ((some rP = some rP) ∧ ((hashNP msg tag < pN) ∧ (((fV = fV) ∧ (RP.Ok (mapN (hashNP msg tag)))) ∧ ((List.length (pBytes (PPt.p
 (PPt.mk (some rP) (P3.x (mapP (hashP msg tag))) (P3.y (mapP (hashP msg tag))) (P3.z (mapP (hashP msg tag)))))) ≤ (4294967296 : Nat)) ∧ ((decide (pBytes (PPt.p (PPt.mk (some rP) (P3.x (mapP (hashP msg tag))) (P3.y (mapP (hashP msg tag))) (P3.z (mapP (hashP msg tag))))) = rBytes (mapN (hashNP msg tag))) = true) ∧ (Q (SV.bool true)))))))))))) (bcase (decide ((↑(List.length tag) : Int) > (255 : Int))) (((decide ((↑(List.length tag) : Int) > (255 : Int)) = false) ∧ (((List.length msg ≤ (1000000 : Nat)) ∧ (List.length tag ≤ (255 : Nat))) ∧ ((Sm (hashNP msg tag)) ∧ (((Four.w0 (hashP msg tag) == Four.w0 (fourN (hashNP msg tag)) && (Four.w1 (hashP msg tag) == Four.w1 (fourN (hashNP msg tag)) && (Four.w2 (hashP msg tag) == Four.w2 (fourN (hashNP msg tag)) && (Four.w3 (hashP msg tag) == Four.w3 (fourN (hashNP msg tag)) && true)))) = true) ∧ ((some rP = some rP) ∧ ((hashNP msg tag < pN) ∧ (((fV = fV) ∧ (RP.Ok (mapN (hashNP msg tag)))) ∧ ((List.length (pBytes (PPt.p
 (PPt.mk (some rP) (P3.x (mapP (hashP msg tag))) (P3.y (mapP (hashP msg tag))) (P3.z (mapP (hashP msg tag)))))) ≤ (4294967296 : Nat)) ∧ ((decide (pBytes (PPt.p (PPt.mk (some rP) (P3.x (mapP (hashP msg tag))) (P3.y (mapP (hashP msg tag))) (P3.z (mapP (hashP msg tag))))) = rBytes (mapN (hashNP msg tag))) = true) ∧ (Q (SV.bool true)))))))))))) ((Q (SV.bool false)))))))))) := by kernel_rfl
theorem vcHs3 (msg tag : List UInt8) (n : Int) (Q : SV → Prop) : LnRaw tt (spHs false false) 9 [(13, 2, .b true)] {} Tryz.f3 Q (msg, tag, n, ()) =
 bcase (decide ((↑(List.length msg) : Int) > (500 : Int))) ((Q (SV.bool true))) (bcase (decide ((↑(List.length tag) : Int) > (600 : Int))) ((Q (SV.bool true))) ((((List.length msg ≤ (1000000 : Nat)) ∧ (¬exOk tag n)) ∧ (((List.length msg ≤ (1000000 : Nat)) ∧ (¬List.length tag ≤ (255 : Nat))) ∧ (((List.length msg ≤ (1000000 : Nat)) ∧ (¬List.length tag ≤ (255 : Nat))) ∧ bcase (decide (n < (0 : Int))) (((decide ((↑(List.length tag) : Int) > (255 : Int)) = true) ∧ (Q (SV.bool (Four.w0 zero4 == UInt64.ofNat (Int.toNat (0 : Int)) && (Four.w1 zero4 == UInt64.ofNat (Int.toNat (0 : Int)) && (Four.w2 zero4 == UInt64.ofNat (Int.toNat (0 : Int)) && (Four.w3 zero4 == UInt64.ofNat (Int.toNat (0 : Int)) && true)))))))) (bcase (decide (n > (8160 : Int))) (((decide ((↑(List.length tag) : Int) > (255 : Int)) = true) ∧ (Q (SV.bool (Four.w0 zero4 == UInt64.ofNat (Int.toNat (0 : Int)) && (Four.w1 zero4 == UInt64.ofNat (Int.toNat (0 : Int)) && (Four.w2 zero4 == UInt64.ofNat (Int.toNat (0 : Int)) &&
 (Four.w3 zero4 == UInt64.ofNat (Int.toNat (0 : Int)) && true)))))))) (bcase (decide ((↑(List.length tag) : Int) > (255 : Int))) (((decide ((↑(List.length tag) : Int) > (255 : Int)) = true) ∧ (Q (SV.bool (Four.w0 zero4 == UInt64.ofNat (Int.toNat (0 : Int)) && (Four.w1 zero4 == UInt64.ofNat (Int.toNat (0 : Int)) && (Four.w2 zero4 == UInt64.ofNat (Int.toNat (0 : Int)) && (Four.w3 zero4 == UInt64.ofNat (Int.toNat (0 : Int)) && true)))))))) ((Q (SV.bool false)))))))))) := by kernel_rfl
end Go.Proofs.YtficbeeoafiiaaaGreatDoor.P12
/- Layer 39: the law of messages holds. -/
set_option maxRecDepth 10000
namespace Go.Proofs.YtficbeeoafiiaaaGreatDoor.P12
open Go.Sym Go.Dig R1 H5 H39
theorem spAw39_ok : SpecsOK Tryz.prog spAw39 := .cons ok_SeG spB1_ok
theorem map_bytes (u : Four) : pBytes (mapP u) = UInt8.ofNat (2 + (sgK (oddN (nat4 u % pN)) (ptK (uK u)).2).val % 2) :: (bytesN (ptK (uK u)).1.val 32).reverse := by
  rw [pBytes_jb (Rd_map u), jp_map, jb_one]
theorem map_len (u : Four) : (pBytes (mapP u)).length = 33 := by
  rw [map_bytes, List.length_cons, List.length_reverse, bytesN_len]
theorem ok_Aw39 : SpecOK Tryz.prog 4 sAw39 := by
  refine fn_okL (by kernel_rfl) tt_ok spAw39_ok 9 Tryz.func4 (by decide +kernel) (by kernel_rfl) ?_
  rintro ⟨⟩ _
  refine ⟨[], {}, fun x => x = .bool true, LnVD.of (vcAw39 _) ⟨⟨by decide, by decide⟩, rfl, ?_⟩, svf⟩
  have e := map_len (hashP [] [])
  show SV.bool ((((pBytes (mapP (hashP [] []))).length : Int)) == 33) = _
  rw [e]
  rfl
theorem dg17 {n k : Nat} (h : n < 16777216 ^ k) (hk : k ≤ 536870912) : (dg n).length ≤ 536870912 := Nat.le_trans (dg_length_lt h) hk
theorem pow24 (k : Nat) : 16777216 ^ k = 2 ^ (24 * k) := by rw [show (16777216 : Nat) = 2 ^ 24 by decide, ← Nat.pow_mul]
theorem bev_dg {b : List UInt8} (k : Nat) (h : 8 * b.length ≤ 24 * k) (hk : k ≤ 536870912) : (dg (bev b)).length ≤ 536870912 :=
  dg17 (k := k) (by rw [pow24]; exact Nat.lt_of_lt_of_le (bev_lt b) (Nat.pow_le_pow_right (by decide) h)) hk
theorem spHN_ok : SpecsOK Tryz.prog spHN := .cons ok_RExp <| .cons R1.ok_Big <| .cons R1.ok_nMod <| .cons ok_P (.nil _)
theorem ok_HashNR : SpecOK Tryz.prog 10 sHashNR := by
  unfold sHashNR
  rw [hashNP_eq]
  refine fn_okL (by kernel_rfl) tt_ok spHN_ok 9 Tryz.func10 (by decide +kernel) (by kernel_rfl) ?_
  rintro ⟨msg, tag, _⟩ ⟨hm, ht⟩
  replace hm : msg.length ≤ 1000000 := hm
  replace ht : tag.length ≤ 255 := ht
  refine ⟨[], {}, fun x => x = .lst (.num (bev (expV msg tag 48) % pN)), LnVD.of (vcHN msg tag _) ?_, svf⟩
  exact ⟨⟨hm, by omega, by decide, by decide⟩, by rw [exp48]; decide, ⟨bev_dg 16 (by rw [exp48]; decide) (by decide), dg17 (k := 11) (by rw [pN_eq]; decide) (by decide), pN_pos⟩, rfl⟩
theorem bev_from (b : List UInt8) : ∀ n : Nat, b.foldl (fun n x => n * 256 + x.toNat) n = n * 256 ^ b.length + bev b := by
  induction b with
  | nil => intro n; show n = n * 1 + 0; omega
  | cons x l ih =>
    intro n
    show l.foldl _ (n * 256 + x.toNat) = n * 256 ^ (l.length + 1) + l.foldl _ (0 * 256 + x.toNat)
    rw [ih, ih, Nat.pow_succ, Nat.zero_mul, Nat.zero_add, Nat.add_mul, Nat.mul_assoc, Nat.mul_comm 256, Nat.add_assoc]
theorem bev_app (a b : List UInt8) : bev (a ++ b) = bev a * 256 ^ b.length + bev b := by
  unfold bev
  rw [List.foldl_append]
  exact bev_from b _
theorem lim_nat {b : List UInt8} (h : b.length = 32) : nat4 (limO b).1 = bev b := by
  rw [limO_eq]
  show nat4 (limb_Of b true).1 = _
  rw [of_nat b true h]
  show nat4 (fourN (bev b)) = _
  have hl := bev_lt b
  rw [h] at hl
  rw [nat4_fourN]
  exact Nat.mod_eq_of_lt hl
theorem e8_nat (a b : Four) : nat8 (e8 a b) = nat4 a + 115792089237316195423570985008687907853269984665640564039457584007913129639936 * nat4 b := by
  simp only [nat8, nat4, e8]
  omega
theorem hash_nat (msg tag : List UInt8) : nat4 (hashP msg tag) = hashNP msg tag := by
  rw [hashP_eq, hashNP_eq]
  unfold hashC hashN0
  have l48 := exp48 (msg := msg) (tag := tag)
  generalize expV msg tag 48 = e at *
  rw [wideP_eq]
  show nat4 (onR (some rP) fun r => wideR r _) = _
  rw [onR_good gP, wideR_nat gP, nat_mP, e8_nat, lim_nat (by rw [List.length_drop]; omega), lim_nat (by rw [List.length_append, List.length_replicate, List.length_take]; omega)]
  have h1 : bev (List.replicate 16 0 ++ e.take 16) = bev (e.take 16) := by
    rw [bev_app, show bev (List.replicate 16 0) = 0 by decide]
    omega
  have h2 : bev e = bev (e.take 16) * 256 ^ 32 + bev (e.drop 16) := by
    have := bev_app (e.take 16) (e.drop 16)
    rw [List.take_append_drop, List.length_drop, l48] at this
    exact this
  have h3 : (256 : Nat) ^ 32 = 115792089237316195423570985008687907853269984665640564039457584007913129639936 := by decide +kernel
  rw [h1, h2, h3, Nat.mul_comm, Nat.add_comm]
theorem spC1_ok : SpecsOK Tryz.prog spC1 := .cons ok_PBytes spR4_ok
theorem spHs_ok (e h : Bool) : SpecsOK Tryz.prog (spHs e h) := by
  refine .cons ok_Aw39 <| ?_
  cases e <;> cases h
  · exact .cons ok_ExpB <| .cons ok_ShB <| .cons ok_SeB <| .cons ok_RExp <| .cons ok_HashNR <| .cons ok_RMapS spC1_ok
  · exact .cons ok_ExpB <| .cons ok_ShG <| .cons ok_SeG <| .cons ok_RExp <| .cons ok_HashNR <| .cons ok_RMapS spC1_ok
  · exact .cons ok_ExpG <| .cons ok_ShB <| .cons ok_SeB <| .cons ok_RExp <| .cons ok_HashNR <| .cons ok_RMapS spC1_ok
  · exact .cons ok_ExpG <| .cons ok_ShG <| .cons ok_SeG <| .cons ok_RExp <| .cons ok_HashNR <| .cons ok_RMapS spC1_ok
abbrev sSwHs : SpecF := fspec (α := List UInt8 × List UInt8 × Int × Unit) total fun _ => true
theorem ok_SwHs : SpecOK Tryz.prog 3 sSwHs := by
  refine fn_okS (by kernel_rfl) tt_ok 9 Tryz.func3 (by decide +kernel) (by kernel_rfl) ?_
  rintro ⟨msg, tag, n, _⟩ _
  have hn := hash_nat msg tag
  have hlt : hashNP msg tag < pN := by rw [hashNP_eq]; exact Nat.mod_lt _ pN_pos
  have hsm : Sm (hashNP msg tag) := smp (by omega)
  have heq : eq4 (hashP msg tag) (fourN (hashNP msg tag)) = true := (eq4_iff _ _).2 (nat4_inj (by rw [hn, nat4_small hlt]))
  have hby : pBytes (mapP (hashP msg tag)) = rBytes (mapN (hashNP msg tag)) := by
    rw [pBytes_jb (Rd_map _), rBytes_jb (mapN_Ok _), map_both, hn, Nat.mod_eq_of_lt hlt]
  have hbl : (pBytes (mapP (hashP msg tag))).length ≤ 4294967296 := by rw [map_len]; decide
  by_cases hex : exOk tag n
  · refine ⟨spHs true true, spHs_ok true true, _, {}, fun t => t = _, LnVD.of (vcHs1 msg tag n _) ?_, svf⟩
    obtain ⟨e1, e2, e3⟩ := hex
    have ht : decide ((tag.length : Int) > 255) = false := decide_eq_false (by omega)
    have el : (expV msg tag n).length = n.toNat := expV_len e2
    rw [bcase_dec]
    refine ⟨fun _ => rfl, fun hm => ?_⟩
    rw [bcase_dec]
    refine ⟨fun _ => rfl, fun _ => ⟨⟨by omega, e1, e2, e3⟩, ⟨by omega, e3⟩, ⟨by omega, e3⟩, ?_⟩⟩
    rw [bcase_dec]
    refine ⟨fun h => absurd h (by omega), fun _ => ?_⟩
    rw [bcase_dec]
    refine ⟨fun h => absurd h (by omega), fun _ => ?_⟩
    rw [bcase_dec]
    refine ⟨fun h => absurd h (by omega), fun _ => ⟨?_, ?_⟩⟩
    · rw [el, Int.toNat_of_nonneg e1, bne_self_eq_false]
    rw [bcase_dec]
    refine ⟨fun _ => ⟨⟨by omega, by omega, e1, e2⟩, by omega, ?_⟩, fun _ => ⟨ht, ⟨by omega, e3⟩, hsm, heq, rfl, hlt, ⟨rfl, mapN_Ok _⟩, hbl, decide_eq_true hby, rfl⟩⟩
    rw [decide_eq_true rfl]
    exact ⟨ht, ⟨by omega, e3⟩, hsm, heq, rfl, hlt, ⟨rfl, mapN_Ok _⟩, hbl, decide_eq_true hby, rfl⟩
  by_cases hh : tag.length ≤ 255
  · refine ⟨spHs false true, spHs_ok false true, _, {}, fun t => t = _, LnVD.of (vcHs2 msg tag n _) ?_, svf⟩
    have ht : decide ((tag.length : Int) > 255) = false := decide_eq_false (by omega)
    rw [bcase_dec]
    refine ⟨fun _ => rfl, fun hm => ?_⟩
    have T := fun (Q : Prop) (q : Q) => (⟨ht, ⟨by omega, hh⟩, hsm, heq, rfl, hlt, ⟨rfl, mapN_Ok _⟩, hbl, decide_eq_true hby, q⟩ : (decide ((tag.length : Int) > 255) = false) ∧ (msg.length ≤ 1000000 ∧ tag.length ≤ 255) ∧ Sm (hashNP msg tag) ∧ eq4 (hashP msg tag) (fourN (hashNP msg tag)) = true ∧ some rP = some rP ∧ hashNP msg tag < pN ∧ (fV = fV ∧ (mapN (hashNP msg tag)).Ok) ∧ (pBytes (mapP (hashP msg tag))).length ≤ 4294967296 ∧ decide (pBytes (mapP (hashP msg tag)) = rBytes (mapN (hashNP msg tag))) = true ∧ Q)
    rw [bcase_dec]
    refine ⟨fun _ => rfl, fun _ => ⟨⟨by omega, hex⟩, ⟨by omega, hh⟩, ⟨by omega, hh⟩, ?_⟩⟩
    rw [bcase_dec]
    refine ⟨fun _ => T _ rfl, fun h1 => ?_⟩
    rw [bcase_dec]
    refine ⟨fun _ => T _ rfl, fun h2 => ?_⟩
    rw [bcase_dec]
    refine ⟨fun _ => T _ rfl, fun h3 => absurd (show exOk tag n from ⟨by omega, by omega, hh⟩) hex⟩
  · refine ⟨spHs false false, spHs_ok false false, _, {}, fun t => t = _, LnVD.of (vcHs3 msg tag n _) ?_, svf⟩
    have ht : decide ((tag.length : Int) > 255) = true := decide_eq_true (by omega)
    rw [bcase_dec]
    refine ⟨fun _ => rfl, fun hm => ?_⟩
    rw [bcase_dec]
    refine ⟨fun _ => rfl, fun _ => ⟨⟨by omega, hex⟩, ⟨by omega, hh⟩, ⟨by omega, hh⟩, ?_⟩⟩
    rw [bcase_dec]
    refine ⟨fun _ => ⟨ht, rfl⟩, fun h1 => ?_⟩
    rw [bcase_dec]
    refine ⟨fun _ => ⟨ht, rfl⟩, fun h2 => ?_⟩
    rw [bcase_dec]
    refine ⟨fun _ => ⟨ht, rfl⟩, fun h3 => absurd (show ((tag.length : Int) > 255) by omega) h3⟩
end Go.Proofs.YtficbeeoafiiaaaGreatDoor.P12
