/- The statement NoiseAgrees: for every input the law returns true, and each argument reads as it did. No condition. -/
import Derived.Test.YtbgnjipdecekoaaJAedLem


namespace Go.Proofs.Ytbgnjipdecekoaa
open Go Go.Eng
open Go.ChangeShapes Go.WideShapes Go.ChangeAt Go.RowKit
namespace LawNoiseAgrees
theorem ty23 : isAggB Try.prog 23 = some true ∧ Eng.shape Try.prog 8 23 = some [.arr 32 .u8] := ⟨by kernel_rfl, by kernel_rfl⟩
theorem ty40 : isAggB Try.prog 40 = some false ∧ Eng.shape Try.prog 8 40 = some [.sls] := ⟨by kernel_rfl, by kernel_rfl⟩
set_option maxRecDepth 100000 in
theorem main (xs : List V) (h : MatchL Try.prog [23, 40] xs) (w : World) (vals : List Value) (hv : VsRel A0 w xs vals) :
    Calls Try.prog 5 vals.toArray w fun e w' => e = .returned (.bool true) ∧ Below w.heap.size w w' := by
  obtain ⟨_, _, rfl, ⟨_, _, rfl, ⟨a0, rfl⟩, h0, rfl⟩, h_0⟩ := matchL_agg h ty23.1 ty23.2
  obtain ⟨a1, _, rfl, h1, h1e, rfl⟩ := matchL_sls h_0 ty40.1 ty40.2
  exact true_of_vc enal (law_nagr a0 a1) hv
set_option maxRecDepth 100000 in
theorem lifted (os : Os) (started : os.Started) (H : Type) (enc : TypeId × Value → H) :
    ReturnsInHanded {} Try.checked os 5 .any (Rows.noiseAgreesSpec.pre6 enc Try.prog Try.f5 Rows.noiseAgreesRow.domain false) (Rows.noiseAgreesSpec.post enc Try.prog Try.f5 false true false false) :=
  law_lifted (C := Try.checked) (rt := 4) started own laidOut (by kernel_rfl) Try.func5 rfl (fun ds h => match ds, h with | [_, _], _ => rfl) (by kernel_rfl) (by kernel_rfl) (by kernel_rfl) (by kernel_rfl)
    main
    (ChangeSpec.witness6 (enc := enc) (C := Try.checked) false ⟨#[], #[.agg #[.int .u8 0, .int .u8 0, .int .u8 0, .int .u8 0, .int .u8 0, .int .u8 0, .int .u8 0, .int .u8 0, .int .u8 0, .int .u8 0, .int .u8 0, .int .u8 0, .int .u8 0, .int .u8 0, .int .u8 0, .int .u8 0, .int .u8 0, .int .u8 0, .int .u8 0, .int .u8 0, .int .u8 0, .int .u8 0, .int .u8 0, .int .u8 0, .int .u8 0, .int .u8 0, .int .u8 0, .int .u8 0, .int .u8 0, .int .u8 0, .int .u8 0, .int .u8 0], .slice none 0 0], []⟩ 8 (by kernel_rfl) (by kernel_rfl) (by kernel_rfl) (by kernel_rfl))
theorem over : Rows.noiseAgreesRow.holds Try.pinned (OpenSpec.ofChange Rows.noiseAgreesSpec) :=
  OpenClaim.holds_of_wide 5 Try.f5 rfl rfl rfl rfl rfl rfl rfl ⟨rfl, rfl, rfl, rfl, rfl⟩ rfl rfl rfl rfl rfl (by kernel_rfl) Try.func5 (by kernel_rfl)
    (of_decide_eq_true (by kernel_rfl)) (by unfold Func.isWrapper; first | (rw [if_pos (by decide +kernel)]; kernel_rfl) | (rw [if_neg (by decide +kernel)]; exact ⟨rfl, rfl⟩))
    (fun os started H enc _ => lifted os started H enc)
end LawNoiseAgrees
theorem noiseAgrees_proved : Rows.NoiseAgreesSaid := LawNoiseAgrees.over
#print axioms noiseAgrees_proved
end Go.Proofs.Ytbgnjipdecekoaa
