/- The statement SessionOpens: for every input the law returns true, and each argument reads as it did. No condition. -/
import Derived.Test.YtimjfjlaoekfkaaSopLaw


namespace Go.Proofs.Ytimjfjlaoekfkaa
open Go Go.Eng
open Go.ChangeShapes Go.WideShapes Go.ChangeAt Go.RowKit
namespace LawSessionOpens
theorem ty30 : isAggB Try.prog 30 = some true ∧ Eng.shape Try.prog 8 30 = some [.one .u32, .one .u32, .arr 32 .u8, .arr 32 .u8, .one .u64, .one .u64, .one .bo, .one .u64, .arr 4 .u64, .one .i64, .one .bo] := ⟨by kernel_rfl, by kernel_rfl⟩
theorem ty25 : isAggB Try.prog 25 = some false ∧ Eng.shape Try.prog 8 25 = some [.one .u64] := ⟨by kernel_rfl, by kernel_rfl⟩
theorem ty31 : isAggB Try.prog 31 = some false ∧ Eng.shape Try.prog 8 31 = some [.sl .u8] := ⟨by kernel_rfl, by kernel_rfl⟩
theorem ty5 : isAggB Try.prog 5 = some false ∧ Eng.shape Try.prog 8 5 = some [.one .u8] := ⟨by kernel_rfl, by kernel_rfl⟩
set_option maxRecDepth 100000 in
theorem main (xs : List V) (h : MatchL Try.prog [30, 25, 25, 31, 31, 5, 5, 5] xs) (w : World) (vals : List Value) (hv : VsRel A0 w xs vals) :
    Calls Try.prog 5 vals.toArray w fun e w' => e = .returned (.bool true) ∧ Below w.heap.size w w' := by
  obtain ⟨_, _, rfl, ⟨_, _, rfl, ⟨a0, rfl⟩, _, _, rfl, ⟨a1, rfl⟩, _, _, rfl, ⟨a2, rfl⟩, h0, _, _, rfl, ⟨a3, rfl⟩, h1, _, _, rfl, ⟨a4, rfl⟩, _, _, rfl, ⟨a5, rfl⟩, _, _, rfl, ⟨a6, rfl⟩, _, _, rfl, ⟨a7, rfl⟩, _, _, rfl, ⟨a8, rfl⟩, h2, _, _, rfl, ⟨a9, b9, rfl⟩, _, _, rfl, ⟨a10, rfl⟩, rfl⟩, h_0⟩ := matchL_agg h ty30.1 ty30.2
  obtain ⟨_, _, rfl, ⟨a11, rfl⟩, h_1⟩ := matchL_one h_0 ty25.1 ty25.2
  obtain ⟨_, _, rfl, ⟨a12, rfl⟩, h_2⟩ := matchL_one h_1 ty25.1 ty25.2
  obtain ⟨_, _, rfl, ⟨a13, rfl⟩, h3, h_3⟩ := matchL_sl h_2 ty31.1 ty31.2
  obtain ⟨_, _, rfl, ⟨a14, rfl⟩, h4, h_4⟩ := matchL_sl h_3 ty31.1 ty31.2
  obtain ⟨_, _, rfl, ⟨a15, rfl⟩, h_5⟩ := matchL_one h_4 ty5.1 ty5.2
  obtain ⟨_, _, rfl, ⟨a16, rfl⟩, h_6⟩ := matchL_one h_5 ty5.1 ty5.2
  obtain ⟨_, _, rfl, ⟨a17, rfl⟩, rfl⟩ := matchL_one h_6 ty5.1 ty5.2
  exact true_of_vc esol (law_sopens a0 a1 a2 a3 a4 a5 a6 a7 a8 a9 a10 a11 a12 a13 a14 a15 a16 a17) hv
set_option maxRecDepth 100000 in
theorem lifted (os : Os) (started : os.Started) (H : Type) (enc : TypeId × Value → H) :
    ReturnsInHanded {} Try.checked os 5 .any (Rows.sessionOpensSpec.pre6 enc Try.prog Try.f5 Rows.sessionOpensRow.domain false) (Rows.sessionOpensSpec.post enc Try.prog Try.f5 false true false false) :=
  law_lifted (C := Try.checked) (rt := 4) started own laidOut (by kernel_rfl) Try.func5 rfl (fun ds h => match ds, h with | [_, _, _, _, _, _, _, _], _ => rfl) (by kernel_rfl) (by kernel_rfl) (by kernel_rfl) (by kernel_rfl)
    main
    (ChangeSpec.witness6 (enc := enc) (C := Try.checked) false ⟨#[], #[.agg #[.int .u32 0, .int .u32 0, .int .u8 0, .int .u8 0, .int .u8 0, .int .u8 0, .int .u8 0, .int .u8 0, .int .u8 0, .int .u8 0, .int .u8 0, .int .u8 0, .int .u8 0, .int .u8 0, .int .u8 0, .int .u8 0, .int .u8 0, .int .u8 0, .int .u8 0, .int .u8 0, .int .u8 0, .int .u8 0, .int .u8 0, .int .u8 0, .int .u8 0, .int .u8 0, .int .u8 0, .int .u8 0, .int .u8 0, .int .u8 0, .int .u8 0, .int .u8 0, .int .u8 0, .int .u8 0, .int .u8 0, .int .u8 0, .int .u8 0, .int .u8 0, .int .u8 0, .int .u8 0, .int .u8 0, .int .u8 0, .int .u8 0, .int .u8 0, .int .u8 0, .int .u8 0, .int .u8 0, .int .u8 0, .int .u8 0, .int .u8 0, .int .u8 0, .int .u8 0, .int .u8 0, .int .u8 0, .int .u8 0, .int .u8 0, .int .u8 0, .int .u8 0, .int .u8 0, .int .u8 0, .int .u8 0, .int .u8 0, .int .u8 0, .int .u8 0, .int .u8 0, .int .u8 0, .int .u64 0, .int .u64 0, .bool false, .int .u64 0, .int .u64 0, .int .u64 0, .int .u64 0, .int .u64 0, .int .i64 0, .bool false], .int .u64 0, .int .u64 0, .slice none 0 0, .slice none 0 0, .int .u8 0, .int .u8 0, .int .u8 0], []⟩ 8 (by kernel_rfl) (by kernel_rfl) (by kernel_rfl) (by kernel_rfl))
theorem over : Rows.sessionOpensRow.holds Try.pinned (OpenSpec.ofChange Rows.sessionOpensSpec) :=
  OpenClaim.holds_of_wide 5 Try.f5 rfl rfl rfl rfl rfl rfl rfl ⟨rfl, rfl, rfl, rfl, rfl⟩ rfl rfl rfl rfl rfl (by kernel_rfl) Try.func5 (by kernel_rfl)
    (of_decide_eq_true (by kernel_rfl)) (by unfold Func.isWrapper; first | (rw [if_pos (by decide +kernel)]; kernel_rfl) | (rw [if_neg (by decide +kernel)]; exact ⟨rfl, rfl⟩))
    (fun os started H enc _ => lifted os started H enc)
end LawSessionOpens
theorem sessionOpens_proved : Rows.SessionOpensSaid := LawSessionOpens.over
#print axioms sessionOpens_proved
end Go.Proofs.Ytimjfjlaoekfkaa
