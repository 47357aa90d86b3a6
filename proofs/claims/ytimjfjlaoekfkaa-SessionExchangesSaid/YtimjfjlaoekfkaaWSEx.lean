/- The statement SessionExchanges: for every input the law returns true, and each argument reads as it did. No condition. -/
import Derived.Test.YtimjfjlaoekfkaaSexLaw


namespace Go.Proofs.Ytimjfjlaoekfkaa
open Go Go.Eng
open Go.ChangeShapes Go.WideShapes Go.ChangeAt Go.RowKit
namespace LawSessionExchanges
theorem ty24 : isAggB Try.prog 24 = some true ∧ Eng.shape Try.prog 8 24 = some [.arr 32 .u8] := ⟨by kernel_rfl, by kernel_rfl⟩
theorem ty36 : isAggB Try.prog 36 = some false ∧ Eng.shape Try.prog 8 36 = some [.sls] := ⟨by kernel_rfl, by kernel_rfl⟩
theorem ty31 : isAggB Try.prog 31 = some false ∧ Eng.shape Try.prog 8 31 = some [.sl .u8] := ⟨by kernel_rfl, by kernel_rfl⟩
set_option maxRecDepth 100000 in
theorem main (xs : List V) (h : MatchL Try.prog [24, 24, 36, 31] xs) (w : World) (vals : List Value) (hv : VsRel A0 w xs vals) :
    Calls Try.prog 6 vals.toArray w fun e w' => e = .returned (.bool true) ∧ Below w.heap.size w w' := by
  obtain ⟨_, _, rfl, ⟨_, _, rfl, ⟨a0, rfl⟩, h0, rfl⟩, h_0⟩ := matchL_agg h ty24.1 ty24.2
  obtain ⟨_, _, rfl, ⟨_, _, rfl, ⟨a1, rfl⟩, h1, rfl⟩, h_1⟩ := matchL_agg h_0 ty24.1 ty24.2
  obtain ⟨a2, _, rfl, h2, h2e, h_2⟩ := matchL_sls h_1 ty36.1 ty36.2
  obtain ⟨_, _, rfl, ⟨a3, rfl⟩, h3, rfl⟩ := matchL_sl h_2 ty31.1 ty31.2
  exact true_of_vc esel (law_sex a0 a1 a3 a2) hv
set_option maxRecDepth 100000 in
theorem lifted (os : Os) (started : os.Started) (H : Type) (enc : TypeId × Value → H) :
    ReturnsInHanded {} Try.checked os 6 .any (Rows.sessionExchangesSpec.pre6 enc Try.prog Try.f6 Rows.sessionExchangesRow.domain false) (Rows.sessionExchangesSpec.post enc Try.prog Try.f6 false true false false) :=
  law_lifted (C := Try.checked) (rt := 4) started own laidOut (by kernel_rfl) Try.func6 rfl (fun ds h => match ds, h with | [_, _, _, _], _ => rfl) (by kernel_rfl) (by kernel_rfl) (by kernel_rfl) (by kernel_rfl)
    main
    (ChangeSpec.witness6 (enc := enc) (C := Try.checked) false ⟨#[], #[.agg #[.int .u8 0, .int .u8 0, .int .u8 0, .int .u8 0, .int .u8 0, .int .u8 0, .int .u8 0, .int .u8 0, .int .u8 0, .int .u8 0, .int .u8 0, .int .u8 0, .int .u8 0, .int .u8 0, .int .u8 0, .int .u8 0, .int .u8 0, .int .u8 0, .int .u8 0, .int .u8 0, .int .u8 0, .int .u8 0, .int .u8 0, .int .u8 0, .int .u8 0, .int .u8 0, .int .u8 0, .int .u8 0, .int .u8 0, .int .u8 0, .int .u8 0, .int .u8 0], .agg #[.int .u8 0, .int .u8 0, .int .u8 0, .int .u8 0, .int .u8 0, .int .u8 0, .int .u8 0, .int .u8 0, .int .u8 0, .int .u8 0, .int .u8 0, .int .u8 0, .int .u8 0, .int .u8 0, .int .u8 0, .int .u8 0, .int .u8 0, .int .u8 0, .int .u8 0, .int .u8 0, .int .u8 0, .int .u8 0, .int .u8 0, .int .u8 0, .int .u8 0, .int .u8 0, .int .u8 0, .int .u8 0, .int .u8 0, .int .u8 0, .int .u8 0, .int .u8 0], .slice none 0 0, .slice none 0 0], []⟩ 8 (by kernel_rfl) (by kernel_rfl) (by kernel_rfl) (by kernel_rfl))
theorem over : Rows.sessionExchangesRow.holds Try.pinned (OpenSpec.ofChange Rows.sessionExchangesSpec) :=
  OpenClaim.holds_of_wide 6 Try.f6 rfl rfl rfl rfl rfl rfl rfl ⟨rfl, rfl, rfl, rfl, rfl⟩ rfl rfl rfl rfl rfl (by kernel_rfl) Try.func6 (by kernel_rfl)
    (of_decide_eq_true (by kernel_rfl)) (by unfold Func.isWrapper; first | (rw [if_pos (by decide +kernel)]; kernel_rfl) | (rw [if_neg (by decide +kernel)]; exact ⟨rfl, rfl⟩))
    (fun os started H enc _ => lifted os started H enc)
end LawSessionExchanges
theorem sessionExchanges_proved : Rows.SessionExchangesSaid := LawSessionExchanges.over
#print axioms sessionExchanges_proved
end Go.Proofs.Ytimjfjlaoekfkaa
