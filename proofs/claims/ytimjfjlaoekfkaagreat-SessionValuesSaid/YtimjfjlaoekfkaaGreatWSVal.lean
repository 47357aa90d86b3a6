/- The statement SessionValues: for every input the law returns true, and each argument reads as it did. No condition. -/
import Derived.Test.YtimjfjlaoekfkaaGreatJMsgCon


namespace Go.Proofs.YtimjfjlaoekfkaaGreat
open Go Go.Eng
open Go.ChangeShapes Go.WideShapes Go.ChangeAt Go.RowKit
namespace LawSessionValues
theorem ty30 : isAggB Tryz.prog 30 = some true ∧ Eng.shape Tryz.prog 8 30 = some [.one .u32, .one .u32, .arr 32 .u8, .arr 32 .u8, .one .u64, .one .u64, .one .bo, .one .u64, .arr 4 .u64, .one .i64, .one .bo] := ⟨by kernel_rfl, by kernel_rfl⟩
theorem ty32 : isAggB Tryz.prog 32 = some true ∧ Eng.shape Tryz.prog 8 32 = some [.one .u64, .one .u64, .one .i64, .one .i64, .one .i64, .one .i64, .one .i64, .one .i64, .one .i64, .one .i64] := ⟨by kernel_rfl, by kernel_rfl⟩
theorem ty2 : isAggB Tryz.prog 2 = some false ∧ Eng.shape Tryz.prog 8 2 = some [.one .i64] := ⟨by kernel_rfl, by kernel_rfl⟩
theorem ty33 : isAggB Tryz.prog 33 = some false ∧ Eng.shape Tryz.prog 8 33 = some [.sl .u8] := ⟨by kernel_rfl, by kernel_rfl⟩
set_option maxRecDepth 100000 in
theorem main (xs : List V) (h : MatchL Tryz.prog [30, 32, 2, 33] xs) (w : World) (vals : List Value) (hv : VsRel A0 w xs vals) :
    Calls Tryz.prog 3 vals.toArray w fun e w' => e = .returned (.bool true) ∧ Below w.heap.size w w' := by
  obtain ⟨_, _, rfl, ⟨_, _, rfl, ⟨a0, rfl⟩, _, _, rfl, ⟨a1, rfl⟩, _, _, rfl, ⟨a2, rfl⟩, h0, _, _, rfl, ⟨a3, rfl⟩, h1, _, _, rfl, ⟨a4, rfl⟩, _, _, rfl, ⟨a5, rfl⟩, _, _, rfl, ⟨a6, rfl⟩, _, _, rfl, ⟨a7, rfl⟩, _, _, rfl, ⟨a8, rfl⟩, h2, _, _, rfl, ⟨a9, b9, rfl⟩, _, _, rfl, ⟨a10, rfl⟩, rfl⟩, h_0⟩ := matchL_agg h ty30.1 ty30.2
  obtain ⟨_, _, rfl, ⟨_, _, rfl, ⟨a11, rfl⟩, _, _, rfl, ⟨a12, rfl⟩, _, _, rfl, ⟨a13, b13, rfl⟩, _, _, rfl, ⟨a14, b14, rfl⟩, _, _, rfl, ⟨a15, b15, rfl⟩, _, _, rfl, ⟨a16, b16, rfl⟩, _, _, rfl, ⟨a17, b17, rfl⟩, _, _, rfl, ⟨a18, b18, rfl⟩, _, _, rfl, ⟨a19, b19, rfl⟩, _, _, rfl, ⟨a20, b20, rfl⟩, rfl⟩, h_1⟩ := matchL_agg h_0 ty32.1 ty32.2
  obtain ⟨_, _, rfl, ⟨a21, b21, rfl⟩, h_2⟩ := matchL_one h_1 ty2.1 ty2.2
  obtain ⟨_, _, rfl, ⟨a22, rfl⟩, h3, rfl⟩ := matchL_sl h_2 ty33.1 ty33.2
  exact true_of_vc elw (law_vals ⟨a0, a1, a2, a3, a4, a5, a6, a7, a8, a9, a10⟩ ⟨a11, a12, a13, a14, a15, a16, a17, a18, a19, a20⟩ a21 a22) hv
set_option maxRecDepth 100000 in
theorem lifted (os : Os) (started : os.Started) (H : Type) (enc : TypeId × Value → H) :
    ReturnsInHanded {} Tryz.checked os 3 .any (Rows.sessionValuesSpec.pre6 enc Tryz.prog Tryz.f3 Rows.sessionValuesRow.domain false) (Rows.sessionValuesSpec.post enc Tryz.prog Tryz.f3 false true false false) :=
  law_lifted (C := Tryz.checked) (rt := 4) started own laidOut (by kernel_rfl) Tryz.func3 rfl (fun ds h => match ds, h with | [_, _, _, _], _ => rfl) (by kernel_rfl) (by kernel_rfl) (by kernel_rfl) (by kernel_rfl)
    main
    (ChangeSpec.witness6 (enc := enc) (C := Tryz.checked) false ⟨#[], #[.agg #[.int .u32 0, .int .u32 0, .int .u8 0, .int .u8 0, .int .u8 0, .int .u8 0, .int .u8 0, .int .u8 0, .int .u8 0, .int .u8 0, .int .u8 0, .int .u8 0, .int .u8 0, .int .u8 0, .int .u8 0, .int .u8 0, .int .u8 0, .int .u8 0, .int .u8 0, .int .u8 0, .int .u8 0, .int .u8 0, .int .u8 0, .int .u8 0, .int .u8 0, .int .u8 0, .int .u8 0, .int .u8 0, .int .u8 0, .int .u8 0, .int .u8 0, .int .u8 0, .int .u8 0, .int .u8 0, .int .u8 0, .int .u8 0, .int .u8 0, .int .u8 0, .int .u8 0, .int .u8 0, .int .u8 0, .int .u8 0, .int .u8 0, .int .u8 0, .int .u8 0, .int .u8 0, .int .u8 0, .int .u8 0, .int .u8 0, .int .u8 0, .int .u8 0, .int .u8 0, .int .u8 0, .int .u8 0, .int .u8 0, .int .u8 0, .int .u8 0, .int .u8 0, .int .u8 0, .int .u8 0, .int .u8 0, .int .u8 0, .int .u8 0, .int .u8 0, .int .u8 0, .int .u8 0, .int .u64 0, .int .u64 0, .bool false, .int .u64 0, .int .u64 0, .int .u64 0, .int .u64 0, .int .u64 0, .int .i64 0, .bool false], .agg #[.int .u64 0, .int .u64 0, .int .i64 0, .int .i64 0, .int .i64 0, .int .i64 0, .int .i64 0, .int .i64 0, .int .i64 0, .int .i64 0], .int .i64 0, .slice none 0 0], []⟩ 8 (by kernel_rfl) (by kernel_rfl) (by kernel_rfl) (by kernel_rfl))
theorem over : Rows.sessionValuesRow.holds Tryz.pinned (OpenSpec.ofChange Rows.sessionValuesSpec) :=
  OpenClaim.holds_of_wide 3 Tryz.f3 rfl rfl rfl rfl rfl rfl rfl ⟨rfl, rfl, rfl, rfl, rfl⟩ rfl rfl rfl rfl rfl (by kernel_rfl) Tryz.func3 (by kernel_rfl)
    (of_decide_eq_true (by kernel_rfl)) (by unfold Func.isWrapper; first | (rw [if_pos (by decide +kernel)]; kernel_rfl) | (rw [if_neg (by decide +kernel)]; exact ⟨rfl, rfl⟩))
    (fun os started H enc _ => lifted os started H enc)
end LawSessionValues
theorem sessionValues_proved : Rows.SessionValuesSaid := LawSessionValues.over
#print axioms sessionValues_proved
end Go.Proofs.YtimjfjlaoekfkaaGreat
