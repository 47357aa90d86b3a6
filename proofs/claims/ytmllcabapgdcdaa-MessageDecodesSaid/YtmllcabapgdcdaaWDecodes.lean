/- The statement MessageDecodes: for every input the law returns true, and each argument reads as it did. No condition. -/
import Derived.Test.YtmllcabapgdcdaaMdlLaw

namespace Go.Proofs.Ytmllcabapgdcdaa
open Go Go.Eng
open Go.ChangeShapes Go.WideShapes Go.ChangeAt Go.RowKit
namespace LawMessageDecodes
theorem ty30 : isAggB Try.prog 30 = some true ∧ Eng.shape Try.prog 8 30 = some [.one .u32, .arr 32 .u8, .arr 48 .u8, .arr 28 .u8, .arr 16 .u8, .arr 16 .u8] := ⟨by kernel_rfl, by kernel_rfl⟩
theorem ty32 : isAggB Try.prog 32 = some true ∧ Eng.shape Try.prog 8 32 = some [.one .u32, .one .u32, .arr 32 .u8, .arr 16 .u8, .arr 16 .u8, .arr 16 .u8] := ⟨by kernel_rfl, by kernel_rfl⟩
theorem ty36 : isAggB Try.prog 36 = some true ∧ Eng.shape Try.prog 8 36 = some [.one .u32, .arr 24 .u8, .arr 32 .u8] := ⟨by kernel_rfl, by kernel_rfl⟩
theorem ty41 : isAggB Try.prog 41 = some false ∧ Eng.shape Try.prog 8 41 = some [.one .u16] := ⟨by kernel_rfl, by kernel_rfl⟩
theorem ty38 : isAggB Try.prog 38 = some false ∧ Eng.shape Try.prog 8 38 = some [.sl .u8] := ⟨by kernel_rfl, by kernel_rfl⟩
theorem ty5 : isAggB Try.prog 5 = some false ∧ Eng.shape Try.prog 8 5 = some [.one .u8] := ⟨by kernel_rfl, by kernel_rfl⟩
set_option maxRecDepth 100000 in
theorem main (xs : List V) (h : MatchL Try.prog [30, 32, 36, 41, 38, 5, 5, 5] xs) (w : World) (vals : List Value) (hv : VsRel A0 w xs vals) :
    Calls Try.prog 4 vals.toArray w fun e w' => e = .returned (.bool true) ∧ Below w.heap.size w w' := by
  obtain ⟨_, _, rfl, ⟨_, _, rfl, ⟨a0, rfl⟩, _, _, rfl, ⟨a1, rfl⟩, h0, _, _, rfl, ⟨a2, rfl⟩, h1, _, _, rfl, ⟨a3, rfl⟩, h2, _, _, rfl, ⟨a4, rfl⟩, h3, _, _, rfl, ⟨a5, rfl⟩, h4, rfl⟩, h_0⟩ := matchL_agg h ty30.1 ty30.2
  obtain ⟨_, _, rfl, ⟨_, _, rfl, ⟨a6, rfl⟩, _, _, rfl, ⟨a7, rfl⟩, _, _, rfl, ⟨a8, rfl⟩, h5, _, _, rfl, ⟨a9, rfl⟩, h6, _, _, rfl, ⟨a10, rfl⟩, h7, _, _, rfl, ⟨a11, rfl⟩, h8, rfl⟩, h_1⟩ := matchL_agg h_0 ty32.1 ty32.2
  obtain ⟨_, _, rfl, ⟨_, _, rfl, ⟨a12, rfl⟩, _, _, rfl, ⟨a13, rfl⟩, h9, _, _, rfl, ⟨a14, rfl⟩, h10, rfl⟩, h_2⟩ := matchL_agg h_1 ty36.1 ty36.2
  obtain ⟨_, _, rfl, ⟨a15, rfl⟩, h_3⟩ := matchL_one h_2 ty41.1 ty41.2
  obtain ⟨_, _, rfl, ⟨a16, rfl⟩, h11, h_4⟩ := matchL_sl h_3 ty38.1 ty38.2
  obtain ⟨_, _, rfl, ⟨a17, rfl⟩, h_5⟩ := matchL_one h_4 ty5.1 ty5.2
  obtain ⟨_, _, rfl, ⟨a18, rfl⟩, h_6⟩ := matchL_one h_5 ty5.1 ty5.2
  obtain ⟨_, _, rfl, ⟨a19, rfl⟩, rfl⟩ := matchL_one h_6 ty5.1 ty5.2
  exact true_of_vc emld (law_dec _ _ _ _ _ _ _ _ _ _ _ _ _ _ _ _ _ _ _ _ h0 h1 h2 h3 h4 h5 h6 h7 h8 h9 h10) hv
set_option maxRecDepth 100000 in
theorem lifted (os : Os) (started : os.Started) (H : Type) (enc : TypeId × Value → H) :
    ReturnsInHanded {} Try.checked os 4 .any (Rows.messageDecodesSpec.pre6 enc Try.prog Try.f4 Rows.messageDecodesRow.domain false) (Rows.messageDecodesSpec.post enc Try.prog Try.f4 false true false false) :=
  law_lifted (C := Try.checked) (rt := 4) started own laidOut (by kernel_rfl) Try.func4 rfl (fun ds h => match ds, h with | [_, _, _, _, _, _, _, _], _ => rfl) (by kernel_rfl) (by kernel_rfl) (by kernel_rfl) (by kernel_rfl)
    main
    (ChangeSpec.witness6 (enc := enc) (C := Try.checked) false ⟨#[], #[.agg #[.int .u32 0, .int .u8 0, .int .u8 0, .int .u8 0, .int .u8 0, .int .u8 0, .int .u8 0, .int .u8 0, .int .u8 0, .int .u8 0, .int .u8 0, .int .u8 0, .int .u8 0, .int .u8 0, .int .u8 0, .int .u8 0, .int .u8 0, .int .u8 0, .int .u8 0, .int .u8 0, .int .u8 0, .int .u8 0, .int .u8 0, .int .u8 0, .int .u8 0, .int .u8 0, .int .u8 0, .int .u8 0, .int .u8 0, .int .u8 0, .int .u8 0, .int .u8 0, .int .u8 0, .int .u8 0, .int .u8 0, .int .u8 0, .int .u8 0, .int .u8 0, .int .u8 0, .int .u8 0, .int .u8 0, .int .u8 0, .int .u8 0, .int .u8 0, .int .u8 0, .int .u8 0, .int .u8 0, .int .u8 0, .int .u8 0, .int .u8 0, .int .u8 0, .int .u8 0, .int .u8 0, .int .u8 0, .int .u8 0, .int .u8 0, .int .u8 0, .int .u8 0, .int .u8 0, .int .u8 0, .int .u8 0, .int .u8 0, .int .u8 0, .int .u8 0, .int .u8 0, .int .u8 0, .int .u8 0, .int .u8 0, .int .u8 0, .int .u8 0, .int .u8 0, .int .u8 0, .int .u8 0, .int .u8 0, .int .u8 0, .int .u8 0, .int .u8 0, .int .u8 0, .int .u8 0, .int .u8 0, .int .u8 0, .int .u8 0, .int .u8 0, .int .u8 0, .int .u8 0, .int .u8 0, .int .u8 0, .int .u8 0, .int .u8 0, .int .u8 0, .int .u8 0, .int .u8 0, .int .u8 0, .int .u8 0, .int .u8 0, .int .u8 0, .int .u8 0, .int .u8 0, .int .u8 0, .int .u8 0, .int .u8 0, .int .u8 0, .int .u8 0, .int .u8 0, .int .u8 0, .int .u8 0, .int .u8 0, .int .u8 0, .int .u8 0, .int .u8 0, .int .u8 0, .int .u8 0, .int .u8 0, .int .u8 0, .int .u8 0, .int .u8 0, .int .u8 0, .int .u8 0, .int .u8 0, .int .u8 0, .int .u8 0, .int .u8 0, .int .u8 0, .int .u8 0, .int .u8 0, .int .u8 0, .int .u8 0, .int .u8 0, .int .u8 0, .int .u8 0, .int .u8 0, .int .u8 0, .int .u8 0, .int .u8 0, .int .u8 0, .int .u8 0, .int .u8 0, .int .u8 0, .int .u8 0, .int .u8 0, .int .u8 0], .agg #[.int .u32 0, .int .u32 0, .int .u8 0, .int .u8 0, .int .u8 0, .int .u8 0, .int .u8 0, .int .u8 0, .int .u8 0, .int .u8 0, .int .u8 0, .int .u8 0, .int .u8 0, .int .u8 0, .int .u8 0, .int .u8 0, .int .u8 0, .int .u8 0, .int .u8 0, .int .u8 0, .int .u8 0, .int .u8 0, .int .u8 0, .int .u8 0, .int .u8 0, .int .u8 0, .int .u8 0, .int .u8 0, .int .u8 0, .int .u8 0, .int .u8 0, .int .u8 0, .int .u8 0, .int .u8 0, .int .u8 0, .int .u8 0, .int .u8 0, .int .u8 0, .int .u8 0, .int .u8 0, .int .u8 0, .int .u8 0, .int .u8 0, .int .u8 0, .int .u8 0, .int .u8 0, .int .u8 0, .int .u8 0, .int .u8 0, .int .u8 0, .int .u8 0, .int .u8 0, .int .u8 0, .int .u8 0, .int .u8 0, .int .u8 0, .int .u8 0, .int .u8 0, .int .u8 0, .int .u8 0, .int .u8 0, .int .u8 0, .int .u8 0, .int .u8 0, .int .u8 0, .int .u8 0, .int .u8 0, .int .u8 0, .int .u8 0, .int .u8 0, .int .u8 0, .int .u8 0, .int .u8 0, .int .u8 0, .int .u8 0, .int .u8 0, .int .u8 0, .int .u8 0, .int .u8 0, .int .u8 0, .int .u8 0, .int .u8 0], .agg #[.int .u32 0, .int .u8 0, .int .u8 0, .int .u8 0, .int .u8 0, .int .u8 0, .int .u8 0, .int .u8 0, .int .u8 0, .int .u8 0, .int .u8 0, .int .u8 0, .int .u8 0, .int .u8 0, .int .u8 0, .int .u8 0, .int .u8 0, .int .u8 0, .int .u8 0, .int .u8 0, .int .u8 0, .int .u8 0, .int .u8 0, .int .u8 0, .int .u8 0, .int .u8 0, .int .u8 0, .int .u8 0, .int .u8 0, .int .u8 0, .int .u8 0, .int .u8 0, .int .u8 0, .int .u8 0, .int .u8 0, .int .u8 0, .int .u8 0, .int .u8 0, .int .u8 0, .int .u8 0, .int .u8 0, .int .u8 0, .int .u8 0, .int .u8 0, .int .u8 0, .int .u8 0, .int .u8 0, .int .u8 0, .int .u8 0, .int .u8 0, .int .u8 0, .int .u8 0, .int .u8 0, .int .u8 0, .int .u8 0, .int .u8 0, .int .u8 0], .int .u16 0, .slice none 0 0, .int .u8 0, .int .u8 0, .int .u8 0], []⟩ 8 (by kernel_rfl) (by kernel_rfl) (by kernel_rfl) (by kernel_rfl))
theorem over : Rows.messageDecodesRow.holds Try.pinned (OpenSpec.ofChange Rows.messageDecodesSpec) :=
  OpenClaim.holds_of_wide 4 Try.f4 rfl rfl rfl rfl rfl rfl rfl ⟨rfl, rfl, rfl, rfl, rfl⟩ rfl rfl rfl rfl rfl (by kernel_rfl) Try.func4 (by kernel_rfl)
    (of_decide_eq_true (by kernel_rfl)) (by unfold Func.isWrapper; first | (rw [if_pos (by decide +kernel)]; kernel_rfl) | (rw [if_neg (by decide +kernel)]; exact ⟨rfl, rfl⟩))
    (fun os started H enc _ => lifted os started H enc)
end LawMessageDecodes
theorem messageDecodes_proved : Rows.MessageDecodesSaid := LawMessageDecodes.over
#print axioms messageDecodes_proved
end Go.Proofs.Ytmllcabapgdcdaa
