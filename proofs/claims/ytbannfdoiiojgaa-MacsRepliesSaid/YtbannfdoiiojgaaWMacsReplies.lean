/- The statement MacsReplies: for every input the law returns true, and each argument reads as it did. No condition. -/
import Derived.Test.YtbannfdoiiojgaaMalLaw


namespace Go.Proofs.Ytbannfdoiiojgaa
open Go Go.Eng
open Go.ChangeShapes Go.WideShapes Go.ChangeAt Go.RowKit
namespace LawMacsReplies
theorem ty23 : isAggB Try.prog 23 = some true ∧ Eng.shape Try.prog 8 23 = some [.arr 32 .u8] := ⟨by kernel_rfl, by kernel_rfl⟩
theorem ty57 : isAggB Try.prog 57 = some true ∧ Eng.shape Try.prog 8 57 = some [.arr 24 .u8] := ⟨by kernel_rfl, by kernel_rfl⟩
theorem ty25 : isAggB Try.prog 25 = some true ∧ Eng.shape Try.prog 8 25 = some [.arr 16 .u8] := ⟨by kernel_rfl, by kernel_rfl⟩
theorem ty26 : isAggB Try.prog 26 = some false ∧ Eng.shape Try.prog 8 26 = some [.one .u32] := ⟨by kernel_rfl, by kernel_rfl⟩
theorem ty5 : isAggB Try.prog 5 = some false ∧ Eng.shape Try.prog 8 5 = some [.one .u8] := ⟨by kernel_rfl, by kernel_rfl⟩
theorem ty33 : isAggB Try.prog 33 = some false ∧ Eng.shape Try.prog 8 33 = some [.sl .u8] := ⟨by kernel_rfl, by kernel_rfl⟩
set_option maxRecDepth 100000 in
theorem main (xs : List V) (h : MatchL Try.prog [23, 23, 57, 25, 25, 26, 5, 5, 33] xs) (w : World) (vals : List Value) (hv : VsRel A0 w xs vals) :
    Calls Try.prog 6 vals.toArray w fun e w' => e = .returned (.bool true) ∧ Below w.heap.size w w' := by
  obtain ⟨_, _, rfl, ⟨_, _, rfl, ⟨a0, rfl⟩, h0, rfl⟩, h_0⟩ := matchL_agg h ty23.1 ty23.2
  obtain ⟨_, _, rfl, ⟨_, _, rfl, ⟨a1, rfl⟩, h1, rfl⟩, h_1⟩ := matchL_agg h_0 ty23.1 ty23.2
  obtain ⟨_, _, rfl, ⟨_, _, rfl, ⟨a2, rfl⟩, h2, rfl⟩, h_2⟩ := matchL_agg h_1 ty57.1 ty57.2
  obtain ⟨_, _, rfl, ⟨_, _, rfl, ⟨a3, rfl⟩, h3, rfl⟩, h_3⟩ := matchL_agg h_2 ty25.1 ty25.2
  obtain ⟨_, _, rfl, ⟨_, _, rfl, ⟨a4, rfl⟩, h4, rfl⟩, h_4⟩ := matchL_agg h_3 ty25.1 ty25.2
  obtain ⟨_, _, rfl, ⟨a5, rfl⟩, h_5⟩ := matchL_one h_4 ty26.1 ty26.2
  obtain ⟨_, _, rfl, ⟨a6, rfl⟩, h_6⟩ := matchL_one h_5 ty5.1 ty5.2
  obtain ⟨_, _, rfl, ⟨a7, rfl⟩, h_7⟩ := matchL_one h_6 ty5.1 ty5.2
  obtain ⟨_, _, rfl, ⟨a8, rfl⟩, h5, rfl⟩ := matchL_sl h_7 ty33.1 ty33.2
  exact true_of_vc emll (law_mreplies a0 a1 a2 a3 a4 a5 a6 a7 a8  h2 h3) hv
set_option maxRecDepth 100000 in
theorem lifted (os : Os) (started : os.Started) (H : Type) (enc : TypeId × Value → H) :
    ReturnsInHanded {} Try.checked os 6 .any (Rows.macsRepliesSpec.pre6 enc Try.prog Try.f6 Rows.macsRepliesRow.domain false) (Rows.macsRepliesSpec.post enc Try.prog Try.f6 false true false false) :=
  law_lifted (C := Try.checked) (rt := 4) started own laidOut (by kernel_rfl) Try.func6 rfl (fun ds h => match ds, h with | [_, _, _, _, _, _, _, _, _], _ => rfl) (by kernel_rfl) (by kernel_rfl) (by kernel_rfl) (by kernel_rfl)
    main
    (ChangeSpec.witness6 (enc := enc) (C := Try.checked) false ⟨#[], #[.agg #[.int .u8 0, .int .u8 0, .int .u8 0, .int .u8 0, .int .u8 0, .int .u8 0, .int .u8 0, .int .u8 0, .int .u8 0, .int .u8 0, .int .u8 0, .int .u8 0, .int .u8 0, .int .u8 0, .int .u8 0, .int .u8 0, .int .u8 0, .int .u8 0, .int .u8 0, .int .u8 0, .int .u8 0, .int .u8 0, .int .u8 0, .int .u8 0, .int .u8 0, .int .u8 0, .int .u8 0, .int .u8 0, .int .u8 0, .int .u8 0, .int .u8 0, .int .u8 0], .agg #[.int .u8 0, .int .u8 0, .int .u8 0, .int .u8 0, .int .u8 0, .int .u8 0, .int .u8 0, .int .u8 0, .int .u8 0, .int .u8 0, .int .u8 0, .int .u8 0, .int .u8 0, .int .u8 0, .int .u8 0, .int .u8 0, .int .u8 0, .int .u8 0, .int .u8 0, .int .u8 0, .int .u8 0, .int .u8 0, .int .u8 0, .int .u8 0, .int .u8 0, .int .u8 0, .int .u8 0, .int .u8 0, .int .u8 0, .int .u8 0, .int .u8 0, .int .u8 0], .agg #[.int .u8 0, .int .u8 0, .int .u8 0, .int .u8 0, .int .u8 0, .int .u8 0, .int .u8 0, .int .u8 0, .int .u8 0, .int .u8 0, .int .u8 0, .int .u8 0, .int .u8 0, .int .u8 0, .int .u8 0, .int .u8 0, .int .u8 0, .int .u8 0, .int .u8 0, .int .u8 0, .int .u8 0, .int .u8 0, .int .u8 0, .int .u8 0], .agg #[.int .u8 0, .int .u8 0, .int .u8 0, .int .u8 0, .int .u8 0, .int .u8 0, .int .u8 0, .int .u8 0, .int .u8 0, .int .u8 0, .int .u8 0, .int .u8 0, .int .u8 0, .int .u8 0, .int .u8 0, .int .u8 0], .agg #[.int .u8 0, .int .u8 0, .int .u8 0, .int .u8 0, .int .u8 0, .int .u8 0, .int .u8 0, .int .u8 0, .int .u8 0, .int .u8 0, .int .u8 0, .int .u8 0, .int .u8 0, .int .u8 0, .int .u8 0, .int .u8 0], .int .u32 0, .int .u8 0, .int .u8 0, .slice none 0 0], []⟩ 8 (by kernel_rfl) (by kernel_rfl) (by kernel_rfl) (by kernel_rfl))
theorem over : Rows.macsRepliesRow.holds Try.pinned (OpenSpec.ofChange Rows.macsRepliesSpec) :=
  OpenClaim.holds_of_wide 6 Try.f6 rfl rfl rfl rfl rfl rfl rfl ⟨rfl, rfl, rfl, rfl, rfl⟩ rfl rfl rfl rfl rfl (by kernel_rfl) Try.func6 (by kernel_rfl)
    (of_decide_eq_true (by kernel_rfl)) (by unfold Func.isWrapper; first | (rw [if_pos (by decide +kernel)]; kernel_rfl) | (rw [if_neg (by decide +kernel)]; exact ⟨rfl, rfl⟩))
    (fun os started H enc _ => lifted os started H enc)
end LawMacsReplies
theorem macsReplies_proved : Rows.MacsRepliesSaid := LawMacsReplies.over
#print axioms macsReplies_proved
end Go.Proofs.Ytbannfdoiiojgaa
