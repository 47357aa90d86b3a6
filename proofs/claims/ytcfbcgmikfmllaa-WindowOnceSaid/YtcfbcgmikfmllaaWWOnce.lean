/- The statement WindowOnce: for every input the law returns true, and each argument reads as it did. No condition. -/
import Derived.Test.YtcfbcgmikfmllaaWoLaw

namespace Go.Proofs.Ytcfbcgmikfmllaa
open Go Go.Eng
open Go.ChangeShapes Go.WideShapes Go.ChangeAt Go.RowKit
namespace LawWindowOnce
theorem ty26 : isAggB Try.prog 26 = some false ∧ Eng.shape Try.prog 8 26 = some [.sl .u16] := ⟨by kernel_rfl, by kernel_rfl⟩
theorem ty35 : isAggB Try.prog 35 = some false ∧ Eng.shape Try.prog 8 35 = some [.one .u32] := ⟨by kernel_rfl, by kernel_rfl⟩
set_option maxRecDepth 100000 in
theorem main (xs : List V) (h : MatchL Try.prog [26, 35] xs) (w : World) (vals : List Value) (hv : VsRel A0 w xs vals) :
    Calls Try.prog 4 vals.toArray w fun e w' => e = .returned (.bool true) ∧ Below w.heap.size w w' := by
  obtain ⟨_, _, rfl, ⟨a0, rfl⟩, h0, h_0⟩ := matchL_sl h ty26.1 ty26.2
  obtain ⟨_, _, rfl, ⟨a1, rfl⟩, rfl⟩ := matchL_one h_0 ty35.1 ty35.2
  exact true_of_vc e4ok (law4 a0 a1) hv
set_option maxRecDepth 100000 in
theorem lifted (os : Os) (started : os.Started) (H : Type) (enc : TypeId × Value → H) :
    ReturnsInHanded {} Try.checked os 4 .any (Rows.windowOnceSpec.pre6 enc Try.prog Try.f4 Rows.windowOnceRow.domain false) (Rows.windowOnceSpec.post enc Try.prog Try.f4 false true false false) :=
  law_lifted (C := Try.checked) (rt := 4) started own laidOut (by kernel_rfl) Try.func4 rfl (fun ds h => match ds, h with | [_, _], _ => rfl) (by kernel_rfl) (by kernel_rfl) (by kernel_rfl) (by kernel_rfl)
    main
    (ChangeSpec.witness6 (enc := enc) (C := Try.checked) false ⟨#[], #[.slice none 0 0, .int .u32 0], []⟩ 8 (by kernel_rfl) (by kernel_rfl) (by kernel_rfl) (by kernel_rfl))
theorem over : Rows.windowOnceRow.holds Try.pinned (OpenSpec.ofChange Rows.windowOnceSpec) :=
  OpenClaim.holds_of_wide 4 Try.f4 rfl rfl rfl rfl rfl rfl rfl ⟨rfl, rfl, rfl, rfl, rfl⟩ rfl rfl rfl rfl rfl (by kernel_rfl) Try.func4 (by kernel_rfl)
    (of_decide_eq_true (by kernel_rfl)) (by unfold Func.isWrapper; first | (rw [if_pos (by decide +kernel)]; kernel_rfl) | (rw [if_neg (by decide +kernel)]; exact ⟨rfl, rfl⟩))
    (fun os started H enc _ => lifted os started H enc)
end LawWindowOnce
theorem windowOnce_proved : Rows.WindowOnceSaid := LawWindowOnce.over
#print axioms windowOnce_proved
end Go.Proofs.Ytcfbcgmikfmllaa
