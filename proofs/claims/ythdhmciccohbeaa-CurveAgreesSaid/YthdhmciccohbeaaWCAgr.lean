/- The statement CurveAgrees: for every input the law returns true, and each argument reads as it did. No condition. -/
import Derived.Test.YthdhmciccohbeaaCagLaw

namespace Go.Proofs.Ythdhmciccohbeaa
open Go Go.Eng
open Go.ChangeShapes Go.WideShapes Go.ChangeAt Go.RowKit
namespace LawCurveAgrees
theorem ty23 : isAggB Try.prog 23 = some true ∧ Eng.shape Try.prog 8 23 = some [.arr 32 .u8] := ⟨by kernel_rfl, by kernel_rfl⟩
set_option maxRecDepth 100000 in
theorem main (xs : List V) (h : MatchL Try.prog [23, 23] xs) (w : World) (vals : List Value) (hv : VsRel A0 w xs vals) :
    Calls Try.prog 7 vals.toArray w fun e w' => e = .returned (.bool true) ∧ Below w.heap.size w w' := by
  obtain ⟨_, _, rfl, ⟨_, _, rfl, ⟨a0, rfl⟩, h0, rfl⟩, h_0⟩ := matchL_agg h ty23.1 ty23.2
  obtain ⟨_, _, rfl, ⟨_, _, rfl, ⟨a1, rfl⟩, h1, rfl⟩, rfl⟩ := matchL_agg h_0 ty23.1 ty23.2
  exact true_of_vc ecal (law_cagrees a0 a1) hv
set_option maxRecDepth 100000 in
theorem lifted (os : Os) (started : os.Started) (H : Type) (enc : TypeId × Value → H) :
    ReturnsInHanded {} Try.checked os 7 .any (Rows.curveAgreesSpec.pre6 enc Try.prog Try.f7 Rows.curveAgreesRow.domain false) (Rows.curveAgreesSpec.post enc Try.prog Try.f7 false true false false) :=
  law_lifted (C := Try.checked) (rt := 4) started own laidOut (by kernel_rfl) Try.func7 rfl (fun ds h => match ds, h with | [_, _], _ => rfl) (by kernel_rfl) (by kernel_rfl) (by kernel_rfl) (by kernel_rfl)
    main
    (ChangeSpec.witness6 (enc := enc) (C := Try.checked) false ⟨#[], #[.agg #[.int .u8 0, .int .u8 0, .int .u8 0, .int .u8 0, .int .u8 0, .int .u8 0, .int .u8 0, .int .u8 0, .int .u8 0, .int .u8 0, .int .u8 0, .int .u8 0, .int .u8 0, .int .u8 0, .int .u8 0, .int .u8 0, .int .u8 0, .int .u8 0, .int .u8 0, .int .u8 0, .int .u8 0, .int .u8 0, .int .u8 0, .int .u8 0, .int .u8 0, .int .u8 0, .int .u8 0, .int .u8 0, .int .u8 0, .int .u8 0, .int .u8 0, .int .u8 0], .agg #[.int .u8 0, .int .u8 0, .int .u8 0, .int .u8 0, .int .u8 0, .int .u8 0, .int .u8 0, .int .u8 0, .int .u8 0, .int .u8 0, .int .u8 0, .int .u8 0, .int .u8 0, .int .u8 0, .int .u8 0, .int .u8 0, .int .u8 0, .int .u8 0, .int .u8 0, .int .u8 0, .int .u8 0, .int .u8 0, .int .u8 0, .int .u8 0, .int .u8 0, .int .u8 0, .int .u8 0, .int .u8 0, .int .u8 0, .int .u8 0, .int .u8 0, .int .u8 0]], []⟩ 8 (by kernel_rfl) (by kernel_rfl) (by kernel_rfl) (by kernel_rfl))
theorem over : Rows.curveAgreesRow.holds Try.pinned (OpenSpec.ofChange Rows.curveAgreesSpec) :=
  OpenClaim.holds_of_wide 7 Try.f7 rfl rfl rfl rfl rfl rfl rfl ⟨rfl, rfl, rfl, rfl, rfl⟩ rfl rfl rfl rfl rfl (by kernel_rfl) Try.func7 (by kernel_rfl)
    (of_decide_eq_true (by kernel_rfl)) (by unfold Func.isWrapper; first | (rw [if_pos (by decide +kernel)]; kernel_rfl) | (rw [if_neg (by decide +kernel)]; exact ⟨rfl, rfl⟩))
    (fun os started H enc _ => lifted os started H enc)
end LawCurveAgrees
theorem curveAgrees_proved : Rows.CurveAgreesSaid := LawCurveAgrees.over
#print axioms curveAgrees_proved
end Go.Proofs.Ythdhmciccohbeaa
