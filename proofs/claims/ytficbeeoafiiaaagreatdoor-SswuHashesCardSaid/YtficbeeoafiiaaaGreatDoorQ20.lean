/- A symbolic machine for Go functions, and what the functions that the law reaches come to: SwB. -/
import Derived.Test.YtficbeeoafiiaaaGreatDoorQ19
/- Package sswu: numbers as points: what the body comes to, by what its three tests tell. -/
set_option maxRecDepth 10000
namespace Go.Proofs.YtficbeeoafiiaaaGreatDoor.P12
open Go.Sym Go.Dig R1 Go.Alg
noncomputable def spSw : Specs := (20, sSwMade) :: (58, sSwSide) :: (57, sSwRoot) :: (60, sFromT) :: (52, sRedP) :: spA0
theorem vcMpTTT (u : Four) (Q : SV → Prop) : LnRaw tt spSw 9 [(8, 2, .b true), (11, 0, .b true), (14, 7, .b true)] {} Tryz.f22 Q (u, ()) =
 (some rP = some rP ∧ eq4 (tC u) zero4 = true ∧ swP = swP ∧ swP = swP ∧ (rtO (gO x0C)).2 = true ∧ oddC u ((rtO (gO x0C)).1) = true ∧ okFrom (pO x0C) (pO ((pS zero4 (rtO (gO x0C)).1))) = true ∧ Q (P3.sv (ptFrom (pO x0C) (pO ((pS zero4 (rtO (gO x0C)).1)))))) := by kernel_rfl
theorem vcMpTTF (u : Four) (Q : SV → Prop) : LnRaw tt spSw 9 [(8, 2, .b true), (11, 0, .b true), (14, 7, .b false)] {} Tryz.f22 Q (u, ()) =
 (some rP = some rP ∧ eq4 (tC u) zero4 = true ∧ swP = swP ∧ swP = swP ∧ (rtO (gO x0C)).2 = true ∧ oddC u ((rtO (gO x0C)).1) = false ∧ okFrom (pO x0C) (pO ((rtO (gO x0C)).1)) = true ∧ Q (P3.sv (ptFrom (pO x0C) (pO ((rtO (gO x0C)).1))))) := by kernel_rfl
theorem vcMpTFT (u : Four) (Q : SV → Prop) : LnRaw tt spSw 9 [(8, 2, .b true), (11, 0, .b false), (14, 7, .b true)] {} Tryz.f22 Q (u, ()) =
 (some rP = some rP ∧ eq4 (tC u) zero4 = true ∧ swP = swP ∧ swP = swP ∧ (rtO (gO x0C)).2 = false ∧ swP = swP ∧ swP = swP ∧ oddC u ((rtO (gO (pT (zuC u) x0C))).1) = true ∧ okFrom (pO (pT (zuC u) x0C)) (pO ((pS zero4 (rtO (gO (pT (zuC u) x0C))).1))) = true ∧ Q (P3.sv (ptFrom (pO (pT (zuC u) x0C)) (pO ((pS zero4 (rtO (gO (pT (zuC u) x0C))).1)))))) := by kernel_rfl
theorem vcMpTFF (u : Four) (Q : SV → Prop) : LnRaw tt spSw 9 [(8, 2, .b true), (11, 0, .b false), (14, 7, .b false)] {} Tryz.f22 Q (u, ()) =
 (some rP = some rP ∧ eq4 (tC u) zero4 = true ∧ swP = swP ∧ swP = swP ∧ (rtO (gO x0C)).2 = false ∧ swP = swP ∧ swP = swP ∧ oddC u ((rtO (gO (pT (zuC u) x0C))).1) = false ∧ okFrom (pO (pT (zuC u) x0C)) (pO ((rtO (gO (pT (zuC u) x0C))).1)) = true ∧ Q (P3.sv (ptFrom (pO (pT (zuC u) x0C)) (pO ((rtO (gO (pT (zuC u) x0C))).1))))) := by kernel_rfl
theorem vcMpFTT (u : Four) (Q : SV → Prop) : LnRaw tt spSw 9 [(8, 2, .b false), (11, 0, .b true), (14, 7, .b true)] {} Tryz.f22 Q (u, ()) =
 (some rP = some rP ∧ eq4 (tC u) zero4 = false ∧ swP = swP ∧ swP = swP ∧ (rtO (gO (x1C u))).2 = true ∧ oddC u ((rtO (gO (x1C u))).1) = true ∧ okFrom (pO (x1C u)) (pO ((pS zero4 (rtO (gO (x1C u))).1))) = true ∧ Q (P3.sv (ptFrom (pO (x1C u)) (pO ((pS zero4 (rtO (gO (x1C u))).1)))))) := by kernel_rfl
theorem vcMpFTF (u : Four) (Q : SV → Prop) : LnRaw tt spSw 9 [(8, 2, .b false), (11, 0, .b true), (14, 7, .b false)] {} Tryz.f22 Q (u, ()) =
 (some rP = some rP ∧ eq4 (tC u) zero4 = false ∧ swP = swP ∧ swP = swP ∧ (rtO (gO (x1C u))).2 = true ∧ oddC u ((rtO (gO (x1C u))).1) = false ∧ okFrom (pO (x1C u)) (pO ((rtO (gO (x1C u))).1)) = true ∧ Q (P3.sv (ptFrom (pO (x1C u)) (pO ((rtO (gO (x1C u))).1))))) := by kernel_rfl
theorem vcMpFFT (u : Four) (Q : SV → Prop) : LnRaw tt spSw 9 [(8, 2, .b false), (11, 0, .b false), (14, 7, .b true)] {} Tryz.f22 Q (u, ()) =
 (some rP = some rP ∧ eq4 (tC u) zero4 = false ∧ swP = swP ∧ swP = swP ∧ (rtO (gO (x1C u))).2 = false ∧ swP = swP ∧ swP = swP ∧ oddC u ((rtO (gO (pT (zuC u) (x1C u)))).1) = true ∧ okFrom (pO (pT (zuC u) (x1C u))) (pO ((pS zero4 (rtO (gO (pT (zuC u) (x1C u)))).1))) = true ∧ Q (P3.sv (ptFrom (pO (pT (zuC u) (x1C u))) (pO ((pS zero4 (rtO (gO (pT (zuC u) (x1C u)))).1)))))) := by kernel_rfl
theorem vcMpFFF (u : Four) (Q : SV → Prop) : LnRaw tt spSw 9 [(8, 2, .b false), (11, 0, .b false), (14, 7, .b false)] {} Tryz.f22 Q (u, ()) =
 (some rP = some rP ∧ eq4 (tC u) zero4 = false ∧ swP = swP ∧ swP = swP ∧ (rtO (gO (x1C u))).2 = false ∧ swP = swP ∧ swP = swP ∧ oddC u ((rtO (gO (pT (zuC u) (x1C u)))).1) = false ∧ okFrom (pO (pT (zuC u) (x1C u))) (pO ((rtO (gO (pT (zuC u) (x1C u)))).1)) = true ∧ Q (P3.sv (ptFrom (pO (pT (zuC u) (x1C u))) (pO ((rtO (gO (pT (zuC u) (x1C u)))).1))))) := by kernel_rfl
end Go.Proofs.YtficbeeoafiiaaaGreatDoor.P12
