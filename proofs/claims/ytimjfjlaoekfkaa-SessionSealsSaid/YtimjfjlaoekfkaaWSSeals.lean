/- The statement SessionSeals: for every input the law returns true, and each argument reads as it did. No condition. -/
import Derived.Test.YtimjfjlaoekfkaaJSesCon


namespace Go.Proofs.Ytimjfjlaoekfkaa
open Go Go.Eng
open Go.ChangeShapes Go.WideShapes Go.ChangeAt Go.RowKit
namespace LawSessionSeals
theorem ty30 : isAggB Try.prog 30 = some true ∧ Eng.shape Try.prog 8 30 = some [.one .u32, .one .u32, .arr 32 .u8, .arr 32 .u8, .one .u64, .one .u64, .one .bo, .one .u64, .arr 4 .u64, .one .i64, .one .bo] := ⟨by kernel_rfl, by kernel_rfl⟩
theorem ty25 : isAggB Try.prog 25 = some false ∧ Eng.shape Try.prog 8 25 = some [.one .u64] := ⟨by kernel_rfl, by kernel_rfl⟩
theorem ty31 : isAggB Try.prog 31 = some false ∧ Eng.shape Try.prog 8 31 = some [.sl .u8] := ⟨by kernel_rfl, by kernel_rfl⟩
theorem ty5 : isAggB Try.prog 5 = some false ∧ Eng.shape Try.prog 8 5 = some [.one .u8] := ⟨by kernel_rfl, by kernel_rfl⟩
theorem ty32 : isAggB Try.prog 32 = some false ∧ Eng.shape Try.prog 8 32 = some [.one .u16] := ⟨by kernel_rfl, by kernel_rfl⟩
set_option maxRecDepth 100000 in
theorem main (xs : List V) (h : MatchL Try.prog [30, 25, 31, 5, 32] xs) (w : World) (vals : List Value) (hv : VsRel A0 w xs vals) :
    Calls Try.prog 3 vals.toArray w fun e w' => e = .returned (.bool true) ∧ Below w.heap.size w w' := by
  obtain ⟨_, _, rfl, ⟨_, _, rfl, ⟨a0, rfl⟩, _, _, rfl, ⟨a1, rfl⟩, _, _, rfl, ⟨a2, rfl⟩, h0, _, _, rfl, ⟨a3, rfl⟩, h1, _, _, rfl, ⟨a4, rfl⟩, _, _, rfl, ⟨a5, rfl⟩, _, _, rfl, ⟨a6, rfl⟩, _, _, rfl, ⟨a7, rfl⟩, _, _, rfl, ⟨a8, rfl⟩, h2, _, _, rfl, ⟨a9, b9, rfl⟩, _, _, rfl, ⟨a10, rfl⟩, rfl⟩, h_0⟩ := matchL_agg h ty30.1 ty30.2
  obtain ⟨_, _, rfl, ⟨a11, rfl⟩, h_1⟩ := matchL_one h_0 ty25.1 ty25.2
  obtain ⟨_, _, rfl, ⟨a12, rfl⟩, h3, h_2⟩ := matchL_sl h_1 ty31.1 ty31.2
  obtain ⟨_, _, rfl, ⟨a13, rfl⟩, h_3⟩ := matchL_one h_2 ty5.1 ty5.2
  obtain ⟨_, _, rfl, ⟨a14, rfl⟩, rfl⟩ := matchL_one h_3 ty32.1 ty32.2
  exact true_of_vc esls (law_sseals a0 a1 a2 a3 a4 a5 a6 a7 a8 a9 a10 a11 a12 a13 a14) hv
set_option maxRecDepth 100000 in
theorem lifted (os : Os) (started : os.Started) (H : Type) (enc : TypeId × Value → H) :
    ReturnsInHanded {} Try.checked os 3 .any (Rows.sessionSealsSpec.pre6 enc Try.prog Try.f3 Rows.sessionSealsRow.domain false) (Rows.sessionSealsSpec.post enc Try.prog Try.f3 false true false false) :=
  law_lifted (C := Try.checked) (rt := 4) started own laidOut (by kernel_rfl) Try.func3 rfl (fun ds h => match ds, h with | [_, _, _, _, _], _ => rfl) (by kernel_rfl) (by kernel_rfl) (by kernel_rfl) (by kernel_rfl)
    main
    (ChangeSpec.witness6 (enc := enc) (C := Try.checked) false ⟨#[], #[.agg #[.int .u32 0, .int .u32 0, .int .u8 0, .int .u8 0, .int .u8 0, .int .u8 0, .int .u8 0, .int .u8 0, .int .u8 0, .int .u8 0, .int .u8 0, .int .u8 0, .int .u8 0, .int .u8 0, .int .u8 0, .int .u8 0, .int .u8 0, .int .u8 0, .int .u8 0, .int .u8 0, .int .u8 0, .int .u8 0, .int .u8 0, .int .u8 0, .int .u8 0, .int .u8 0, .int .u8 0, .int .u8 0, .int .u8 0, .int .u8 0, .int .u8 0, .int .u8 0, .int .u8 0, .int .u8 0, .int .u8 0, .int .u8 0, .int .u8 0, .int .u8 0, .int .u8 0, .int .u8 0, .int .u8 0, .int .u8 0, .int .u8 0, .int .u8 0, .int .u8 0, .int .u8 0, .int .u8 0, .int .u8 0, .int .u8 0, .int .u8 0, .int .u8 0, .int .u8 0, .int .u8 0, .int .u8 0, .int .u8 0, .int .u8 0, .int .u8 0, .int .u8 0, .int .u8 0, .int .u8 0, .int .u8 0, .int .u8 0, .int .u8 0, .int .u8 0, .int .u8 0, .int .u8 0, .int .u64 0, .int .u64 0, .bool false, .int .u64 0, .int .u64 0, .int .u64 0, .int .u64 0, .int .u64 0, .int .i64 0, .bool false], .int .u64 0, .slice none 0 0, .int .u8 0, .int .u16 0], []⟩ 8 (by kernel_rfl) (by kernel_rfl) (by kernel_rfl) (by kernel_rfl))
theorem over : Rows.sessionSealsRow.holds Try.pinned (OpenSpec.ofChange Rows.sessionSealsSpec) :=
  OpenClaim.holds_of_wide 3 Try.f3 rfl rfl rfl rfl rfl rfl rfl ⟨rfl, rfl, rfl, rfl, rfl⟩ rfl rfl rfl rfl rfl (by kernel_rfl) Try.func3 (by kernel_rfl)
    (of_decide_eq_true (by kernel_rfl)) (by unfold Func.isWrapper; first | (rw [if_pos (by decide +kernel)]; kernel_rfl) | (rw [if_neg (by decide +kernel)]; exact ⟨rfl, rfl⟩))
    (fun os started H enc _ => lifted os started H enc)
end LawSessionSeals
theorem sessionSeals_proved : Rows.SessionSealsSaid := LawSessionSeals.over
#print axioms sessionSeals_proved
end Go.Proofs.Ytimjfjlaoekfkaa
