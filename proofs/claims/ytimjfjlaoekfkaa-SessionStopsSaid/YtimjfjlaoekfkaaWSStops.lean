/- The statement SessionStops: for every input the law returns true, and each argument reads as it did. No condition. -/
import Derived.Test.YtimjfjlaoekfkaaSstLaw


namespace Go.Proofs.Ytimjfjlaoekfkaa
open Go Go.Eng
open Go.ChangeShapes Go.WideShapes Go.ChangeAt Go.RowKit
namespace LawSessionStops
theorem ty24 : isAggB Try.prog 24 = some true ∧ Eng.shape Try.prog 8 24 = some [.arr 32 .u8] := ⟨by kernel_rfl, by kernel_rfl⟩
theorem ty25 : isAggB Try.prog 25 = some false ∧ Eng.shape Try.prog 8 25 = some [.one .u64] := ⟨by kernel_rfl, by kernel_rfl⟩
theorem ty5 : isAggB Try.prog 5 = some false ∧ Eng.shape Try.prog 8 5 = some [.one .u8] := ⟨by kernel_rfl, by kernel_rfl⟩
set_option maxRecDepth 100000 in
theorem main (xs : List V) (h : MatchL Try.prog [24, 25, 25, 25, 5, 5] xs) (w : World) (vals : List Value) (hv : VsRel A0 w xs vals) :
    Calls Try.prog 4 vals.toArray w fun e w' => e = .returned (.bool true) ∧ Below w.heap.size w w' := by
  obtain ⟨_, _, rfl, ⟨_, _, rfl, ⟨a0, rfl⟩, h0, rfl⟩, h_0⟩ := matchL_agg h ty24.1 ty24.2
  obtain ⟨_, _, rfl, ⟨a1, rfl⟩, h_1⟩ := matchL_one h_0 ty25.1 ty25.2
  obtain ⟨_, _, rfl, ⟨a2, rfl⟩, h_2⟩ := matchL_one h_1 ty25.1 ty25.2
  obtain ⟨_, _, rfl, ⟨a3, rfl⟩, h_3⟩ := matchL_one h_2 ty25.1 ty25.2
  obtain ⟨_, _, rfl, ⟨a4, rfl⟩, h_4⟩ := matchL_one h_3 ty5.1 ty5.2
  obtain ⟨_, _, rfl, ⟨a5, rfl⟩, rfl⟩ := matchL_one h_4 ty5.1 ty5.2
  exact true_of_vc estl (law_sstops a0 a1 a2 a3 a4 a5) hv
set_option maxRecDepth 100000 in
theorem lifted (os : Os) (started : os.Started) (H : Type) (enc : TypeId × Value → H) :
    ReturnsInHanded {} Try.checked os 4 .any (Rows.sessionStopsSpec.pre6 enc Try.prog Try.f4 Rows.sessionStopsRow.domain false) (Rows.sessionStopsSpec.post enc Try.prog Try.f4 false true false false) :=
  law_lifted (C := Try.checked) (rt := 4) started own laidOut (by kernel_rfl) Try.func4 rfl (fun ds h => match ds, h with | [_, _, _, _, _, _], _ => rfl) (by kernel_rfl) (by kernel_rfl) (by kernel_rfl) (by kernel_rfl)
    main
    (ChangeSpec.witness6 (enc := enc) (C := Try.checked) false ⟨#[], #[.agg #[.int .u8 0, .int .u8 0, .int .u8 0, .int .u8 0, .int .u8 0, .int .u8 0, .int .u8 0, .int .u8 0, .int .u8 0, .int .u8 0, .int .u8 0, .int .u8 0, .int .u8 0, .int .u8 0, .int .u8 0, .int .u8 0, .int .u8 0, .int .u8 0, .int .u8 0, .int .u8 0, .int .u8 0, .int .u8 0, .int .u8 0, .int .u8 0, .int .u8 0, .int .u8 0, .int .u8 0, .int .u8 0, .int .u8 0, .int .u8 0, .int .u8 0, .int .u8 0], .int .u64 0, .int .u64 0, .int .u64 0, .int .u8 0, .int .u8 0], []⟩ 8 (by kernel_rfl) (by kernel_rfl) (by kernel_rfl) (by kernel_rfl))
theorem over : Rows.sessionStopsRow.holds Try.pinned (OpenSpec.ofChange Rows.sessionStopsSpec) :=
  OpenClaim.holds_of_wide 4 Try.f4 rfl rfl rfl rfl rfl rfl rfl ⟨rfl, rfl, rfl, rfl, rfl⟩ rfl rfl rfl rfl rfl (by kernel_rfl) Try.func4 (by kernel_rfl)
    (of_decide_eq_true (by kernel_rfl)) (by unfold Func.isWrapper; first | (rw [if_pos (by decide +kernel)]; kernel_rfl) | (rw [if_neg (by decide +kernel)]; exact ⟨rfl, rfl⟩))
    (fun os started H enc _ => lifted os started H enc)
end LawSessionStops
theorem sessionStops_proved : Rows.SessionStopsSaid := LawSessionStops.over
#print axioms sessionStops_proved
end Go.Proofs.Ytimjfjlaoekfkaa
