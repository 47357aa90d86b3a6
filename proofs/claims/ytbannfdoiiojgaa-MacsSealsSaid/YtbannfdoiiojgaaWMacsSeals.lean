/- The statement MacsSeals: for every input the law returns true, and each argument reads as it did. No condition. -/
import Derived.Test.YtbannfdoiiojgaaMalLaw


namespace Go.Proofs.Ytbannfdoiiojgaa
open Go Go.Eng
open Go.ChangeShapes Go.WideShapes Go.ChangeAt Go.RowKit
namespace LawMacsSeals
theorem ty23 : isAggB Try.prog 23 = some true ∧ Eng.shape Try.prog 8 23 = some [.arr 32 .u8] := ⟨by kernel_rfl, by kernel_rfl⟩
theorem ty33 : isAggB Try.prog 33 = some false ∧ Eng.shape Try.prog 8 33 = some [.sl .u8] := ⟨by kernel_rfl, by kernel_rfl⟩
theorem ty47 : isAggB Try.prog 47 = some true ∧ Eng.shape Try.prog 8 47 = some [.one .bo, .arr 16 .u8, .one .i64] := ⟨by kernel_rfl, by kernel_rfl⟩
theorem ty4 : isAggB Try.prog 4 = some false ∧ Eng.shape Try.prog 8 4 = some [.one .bo] := ⟨by kernel_rfl, by kernel_rfl⟩
theorem ty25 : isAggB Try.prog 25 = some true ∧ Eng.shape Try.prog 8 25 = some [.arr 16 .u8] := ⟨by kernel_rfl, by kernel_rfl⟩
theorem ty30 : isAggB Try.prog 30 = some true ∧ Eng.shape Try.prog 8 30 = some [.one .u32, .arr 32 .u8, .arr 48 .u8, .arr 28 .u8, .arr 16 .u8, .arr 16 .u8] := ⟨by kernel_rfl, by kernel_rfl⟩
theorem ty32 : isAggB Try.prog 32 = some true ∧ Eng.shape Try.prog 8 32 = some [.one .u32, .one .u32, .arr 32 .u8, .arr 16 .u8, .arr 16 .u8, .arr 16 .u8] := ⟨by kernel_rfl, by kernel_rfl⟩
set_option maxRecDepth 100000 in
theorem main (xs : List V) (h : MatchL Try.prog [23, 23, 33, 47, 4, 25, 30, 32] xs) (w : World) (vals : List Value) (hv : VsRel A0 w xs vals) :
    Calls Try.prog 5 vals.toArray w fun e w' => e = .returned (.bool true) ∧ Below w.heap.size w w' := by
  obtain ⟨_, _, rfl, ⟨_, _, rfl, ⟨a0, rfl⟩, h0, rfl⟩, h_0⟩ := matchL_agg h ty23.1 ty23.2
  obtain ⟨_, _, rfl, ⟨_, _, rfl, ⟨a1, rfl⟩, h1, rfl⟩, h_1⟩ := matchL_agg h_0 ty23.1 ty23.2
  obtain ⟨_, _, rfl, ⟨a2, rfl⟩, h2, h_2⟩ := matchL_sl h_1 ty33.1 ty33.2
  obtain ⟨_, _, rfl, ⟨_, _, rfl, ⟨a3, rfl⟩, _, _, rfl, ⟨a4, rfl⟩, h3, _, _, rfl, ⟨a5, b5, rfl⟩, rfl⟩, h_3⟩ := matchL_agg h_2 ty47.1 ty47.2
  obtain ⟨_, _, rfl, ⟨a6, rfl⟩, h_4⟩ := matchL_one h_3 ty4.1 ty4.2
  obtain ⟨_, _, rfl, ⟨_, _, rfl, ⟨a7, rfl⟩, h4, rfl⟩, h_5⟩ := matchL_agg h_4 ty25.1 ty25.2
  obtain ⟨_, _, rfl, ⟨_, _, rfl, ⟨a8, rfl⟩, _, _, rfl, ⟨a9, rfl⟩, h5, _, _, rfl, ⟨a10, rfl⟩, h6, _, _, rfl, ⟨a11, rfl⟩, h7, _, _, rfl, ⟨a12, rfl⟩, h8, _, _, rfl, ⟨a13, rfl⟩, h9, rfl⟩, h_6⟩ := matchL_agg h_5 ty30.1 ty30.2
  obtain ⟨_, _, rfl, ⟨_, _, rfl, ⟨a14, rfl⟩, _, _, rfl, ⟨a15, rfl⟩, _, _, rfl, ⟨a16, rfl⟩, h10, _, _, rfl, ⟨a17, rfl⟩, h11, _, _, rfl, ⟨a18, rfl⟩, h12, _, _, rfl, ⟨a19, rfl⟩, h13, rfl⟩, rfl⟩ := matchL_agg h_6 ty32.1 ty32.2
  exact true_of_vc emll (law_mseals a0 a1 a2 a3 a4 a5 a6 a7 a8 a9 a10 a11 a12 a13 a14 a15 a16 a17 a18 a19 ) hv
set_option maxRecDepth 100000 in
theorem lifted (os : Os) (started : os.Started) (H : Type) (enc : TypeId × Value → H) :
    ReturnsInHanded {} Try.checked os 5 .any (Rows.macsSealsSpec.pre6 enc Try.prog Try.f5 Rows.macsSealsRow.domain false) (Rows.macsSealsSpec.post enc Try.prog Try.f5 false true false false) :=
  law_lifted (C := Try.checked) (rt := 4) started own laidOut (by kernel_rfl) Try.func5 rfl (fun ds h => match ds, h with | [_, _, _, _, _, _, _, _], _ => rfl) (by kernel_rfl) (by kernel_rfl) (by kernel_rfl) (by kernel_rfl)
    main
    (ChangeSpec.witness6 (enc := enc) (C := Try.checked) false ⟨#[], #[.agg #[.int .u8 0, .int .u8 0, .int .u8 0, .int .u8 0, .int .u8 0, .int .u8 0, .int .u8 0, .int .u8 0, .int .u8 0, .int .u8 0, .int .u8 0, .int .u8 0, .int .u8 0, .int .u8 0, .int .u8 0, .int .u8 0, .int .u8 0, .int .u8 0, .int .u8 0, .int .u8 0, .int .u8 0, .int .u8 0, .int .u8 0, .int .u8 0, .int .u8 0, .int .u8 0, .int .u8 0, .int .u8 0, .int .u8 0, .int .u8 0, .int .u8 0, .int .u8 0], .agg #[.int .u8 0, .int .u8 0, .int .u8 0, .int .u8 0, .int .u8 0, .int .u8 0, .int .u8 0, .int .u8 0, .int .u8 0, .int .u8 0, .int .u8 0, .int .u8 0, .int .u8 0, .int .u8 0, .int .u8 0, .int .u8 0, .int .u8 0, .int .u8 0, .int .u8 0, .int .u8 0, .int .u8 0, .int .u8 0, .int .u8 0, .int .u8 0, .int .u8 0, .int .u8 0, .int .u8 0, .int .u8 0, .int .u8 0, .int .u8 0, .int .u8 0, .int .u8 0], .slice none 0 0, .agg #[.bool false, .int .u8 0, .int .u8 0, .int .u8 0, .int .u8 0, .int .u8 0, .int .u8 0, .int .u8 0, .int .u8 0, .int .u8 0, .int .u8 0, .int .u8 0, .int .u8 0, .int .u8 0, .int .u8 0, .int .u8 0, .int .u8 0, .int .i64 0], .bool false, .agg #[.int .u8 0, .int .u8 0, .int .u8 0, .int .u8 0, .int .u8 0, .int .u8 0, .int .u8 0, .int .u8 0, .int .u8 0, .int .u8 0, .int .u8 0, .int .u8 0, .int .u8 0, .int .u8 0, .int .u8 0, .int .u8 0], .agg #[.int .u32 0, .int .u8 0, .int .u8 0, .int .u8 0, .int .u8 0, .int .u8 0, .int .u8 0, .int .u8 0, .int .u8 0, .int .u8 0, .int .u8 0, .int .u8 0, .int .u8 0, .int .u8 0, .int .u8 0, .int .u8 0, .int .u8 0, .int .u8 0, .int .u8 0, .int .u8 0, .int .u8 0, .int .u8 0, .int .u8 0, .int .u8 0, .int .u8 0, .int .u8 0, .int .u8 0, .int .u8 0, .int .u8 0, .int .u8 0, .int .u8 0, .int .u8 0, .int .u8 0, .int .u8 0, .int .u8 0, .int .u8 0, .int .u8 0, .int .u8 0, .int .u8 0, .int .u8 0, .int .u8 0, .int .u8 0, .int .u8 0, .int .u8 0, .int .u8 0, .int .u8 0, .int .u8 0, .int .u8 0, .int .u8 0, .int .u8 0, .int .u8 0, .int .u8 0, .int .u8 0, .int .u8 0, .int .u8 0, .int .u8 0, .int .u8 0, .int .u8 0, .int .u8 0, .int .u8 0, .int .u8 0, .int .u8 0, .int .u8 0, .int .u8 0, .int .u8 0, .int .u8 0, .int .u8 0, .int .u8 0, .int .u8 0, .int .u8 0, .int .u8 0, .int .u8 0, .int .u8 0, .int .u8 0, .int .u8 0, .int .u8 0, .int .u8 0, .int .u8 0, .int .u8 0, .int .u8 0, .int .u8 0, .int .u8 0, .int .u8 0, .int .u8 0, .int .u8 0, .int .u8 0, .int .u8 0, .int .u8 0, .int .u8 0, .int .u8 0, .int .u8 0, .int .u8 0, .int .u8 0, .int .u8 0, .int .u8 0, .int .u8 0, .int .u8 0, .int .u8 0, .int .u8 0, .int .u8 0, .int .u8 0, .int .u8 0, .int .u8 0, .int .u8 0, .int .u8 0, .int .u8 0, .int .u8 0, .int .u8 0, .int .u8 0, .int .u8 0, .int .u8 0, .int .u8 0, .int .u8 0, .int .u8 0, .int .u8 0, .int .u8 0, .int .u8 0, .int .u8 0, .int .u8 0, .int .u8 0, .int .u8 0, .int .u8 0, .int .u8 0, .int .u8 0, .int .u8 0, .int .u8 0, .int .u8 0, .int .u8 0, .int .u8 0, .int .u8 0, .int .u8 0, .int .u8 0, .int .u8 0, .int .u8 0, .int .u8 0, .int .u8 0, .int .u8 0, .int .u8 0, .int .u8 0, .int .u8 0, .int .u8 0], .agg #[.int .u32 0, .int .u32 0, .int .u8 0, .int .u8 0, .int .u8 0, .int .u8 0, .int .u8 0, .int .u8 0, .int .u8 0, .int .u8 0, .int .u8 0, .int .u8 0, .int .u8 0, .int .u8 0, .int .u8 0, .int .u8 0, .int .u8 0, .int .u8 0, .int .u8 0, .int .u8 0, .int .u8 0, .int .u8 0, .int .u8 0, .int .u8 0, .int .u8 0, .int .u8 0, .int .u8 0, .int .u8 0, .int .u8 0, .int .u8 0, .int .u8 0, .int .u8 0, .int .u8 0, .int .u8 0, .int .u8 0, .int .u8 0, .int .u8 0, .int .u8 0, .int .u8 0, .int .u8 0, .int .u8 0, .int .u8 0, .int .u8 0, .int .u8 0, .int .u8 0, .int .u8 0, .int .u8 0, .int .u8 0, .int .u8 0, .int .u8 0, .int .u8 0, .int .u8 0, .int .u8 0, .int .u8 0, .int .u8 0, .int .u8 0, .int .u8 0, .int .u8 0, .int .u8 0, .int .u8 0, .int .u8 0, .int .u8 0, .int .u8 0, .int .u8 0, .int .u8 0, .int .u8 0, .int .u8 0, .int .u8 0, .int .u8 0, .int .u8 0, .int .u8 0, .int .u8 0, .int .u8 0, .int .u8 0, .int .u8 0, .int .u8 0, .int .u8 0, .int .u8 0, .int .u8 0, .int .u8 0, .int .u8 0, .int .u8 0]], []⟩ 8 (by kernel_rfl) (by kernel_rfl) (by kernel_rfl) (by kernel_rfl))
theorem over : Rows.macsSealsRow.holds Try.pinned (OpenSpec.ofChange Rows.macsSealsSpec) :=
  OpenClaim.holds_of_wide 5 Try.f5 rfl rfl rfl rfl rfl rfl rfl ⟨rfl, rfl, rfl, rfl, rfl⟩ rfl rfl rfl rfl rfl (by kernel_rfl) Try.func5 (by kernel_rfl)
    (of_decide_eq_true (by kernel_rfl)) (by unfold Func.isWrapper; first | (rw [if_pos (by decide +kernel)]; kernel_rfl) | (rw [if_neg (by decide +kernel)]; exact ⟨rfl, rfl⟩))
    (fun os started H enc _ => lifted os started H enc)
end LawMacsSeals
theorem macsSeals_proved : Rows.MacsSealsSaid := LawMacsSeals.over
#print axioms macsSeals_proved
end Go.Proofs.Ytbannfdoiiojgaa
