/- The statement WindowSets: for every input the law returns true, and each argument reads as it did. No condition. -/
import Derived.Test.YtcfbcgmikfmllaaWsLaw

namespace Go.Proofs.Ytcfbcgmikfmllaa
open Go Go.Eng
open Go.ChangeShapes Go.WideShapes Go.ChangeAt Go.RowKit
namespace LawWindowSets
theorem ty38 : isAggB Try.prog 38 = some false ∧ Eng.shape Try.prog 8 38 = some [.sl .u8] := ⟨by kernel_rfl, by kernel_rfl⟩
theorem ty35 : isAggB Try.prog 35 = some false ∧ Eng.shape Try.prog 8 35 = some [.one .u32] := ⟨by kernel_rfl, by kernel_rfl⟩
theorem ty5 : isAggB Try.prog 5 = some false ∧ Eng.shape Try.prog 8 5 = some [.one .u8] := ⟨by kernel_rfl, by kernel_rfl⟩
set_option maxRecDepth 100000 in
theorem main (xs : List V) (h : MatchL Try.prog [38, 35, 5] xs) (w : World) (vals : List Value) (hv : VsRel A0 w xs vals) :
    Calls Try.prog 5 vals.toArray w fun e w' => e = .returned (.bool true) ∧ Below w.heap.size w w' := by
  obtain ⟨_, _, rfl, ⟨a0, rfl⟩, h0, h_0⟩ := matchL_sl h ty38.1 ty38.2
  obtain ⟨_, _, rfl, ⟨a1, rfl⟩, h_1⟩ := matchL_one h_0 ty35.1 ty35.2
  obtain ⟨_, _, rfl, ⟨a2, rfl⟩, rfl⟩ := matchL_one h_1 ty5.1 ty5.2
  exact true_of_vc (E := E5) (eok (gs := [(6, gAcc), (11, gBegun)]) ⟨con6, con11, trivial⟩) (law5 a0 a1 a2) hv
set_option maxRecDepth 100000 in
theorem lifted (os : Os) (started : os.Started) (H : Type) (enc : TypeId × Value → H) :
    ReturnsInHanded {} Try.checked os 5 .any (Rows.windowSetsSpec.pre6 enc Try.prog Try.f5 Rows.windowSetsRow.domain false) (Rows.windowSetsSpec.post enc Try.prog Try.f5 false true false false) :=
  law_lifted (C := Try.checked) (rt := 4) started own laidOut (by kernel_rfl) Try.func5 rfl (fun ds h => match ds, h with | [_, _, _], _ => rfl) (by kernel_rfl) (by kernel_rfl) (by kernel_rfl) (by kernel_rfl)
    main
    (ChangeSpec.witness6 (enc := enc) (C := Try.checked) false ⟨#[], #[.slice none 0 0, .int .u32 0, .int .u8 0], []⟩ 8 (by kernel_rfl) (by kernel_rfl) (by kernel_rfl) (by kernel_rfl))
theorem over : Rows.windowSetsRow.holds Try.pinned (OpenSpec.ofChange Rows.windowSetsSpec) :=
  OpenClaim.holds_of_wide 5 Try.f5 rfl rfl rfl rfl rfl rfl rfl ⟨rfl, rfl, rfl, rfl, rfl⟩ rfl rfl rfl rfl rfl (by kernel_rfl) Try.func5 (by kernel_rfl)
    (of_decide_eq_true (by kernel_rfl)) (by unfold Func.isWrapper; first | (rw [if_pos (by decide +kernel)]; kernel_rfl) | (rw [if_neg (by decide +kernel)]; exact ⟨rfl, rfl⟩))
    (fun os started H enc _ => lifted os started H enc)
end LawWindowSets
theorem windowSets_proved : Rows.WindowSetsSaid := LawWindowSets.over
#print axioms windowSets_proved
end Go.Proofs.Ytcfbcgmikfmllaa
