/- The statement HandshakeAgrees: for every input the law returns true, and each argument reads as it did. No condition. -/
import Derived.Test.YtiogdokekibeiaaJCwOrd


namespace Go.Proofs.Ytiogdokekibeiaa
open Go Go.Eng
open Go.ChangeShapes Go.WideShapes Go.ChangeAt Go.RowKit
namespace LawHandshakeAgrees
theorem ty23 : isAggB Try.prog 23 = some true ∧ Eng.shape Try.prog 8 23 = some [.arr 32 .u8] := ⟨by kernel_rfl, by kernel_rfl⟩
theorem ty25 : isAggB Try.prog 25 = some true ∧ Eng.shape Try.prog 8 25 = some [.arr 12 .u8] := ⟨by kernel_rfl, by kernel_rfl⟩
theorem ty26 : isAggB Try.prog 26 = some false ∧ Eng.shape Try.prog 8 26 = some [.one .u32] := ⟨by kernel_rfl, by kernel_rfl⟩
set_option maxRecDepth 100000 in
theorem main (xs : List V) (h : MatchL Try.prog [23, 23, 23, 23, 23, 25, 26, 26] xs) (w : World) (vals : List Value) (hv : VsRel A0 w xs vals) :
    Calls Try.prog 3 vals.toArray w fun e w' => e = .returned (.bool true) ∧ Below w.heap.size w w' := by
  obtain ⟨_, _, rfl, ⟨_, _, rfl, ⟨a0, rfl⟩, h0, rfl⟩, h_0⟩ := matchL_agg h ty23.1 ty23.2
  obtain ⟨_, _, rfl, ⟨_, _, rfl, ⟨a1, rfl⟩, h1, rfl⟩, h_1⟩ := matchL_agg h_0 ty23.1 ty23.2
  obtain ⟨_, _, rfl, ⟨_, _, rfl, ⟨a2, rfl⟩, h2, rfl⟩, h_2⟩ := matchL_agg h_1 ty23.1 ty23.2
  obtain ⟨_, _, rfl, ⟨_, _, rfl, ⟨a3, rfl⟩, h3, rfl⟩, h_3⟩ := matchL_agg h_2 ty23.1 ty23.2
  obtain ⟨_, _, rfl, ⟨_, _, rfl, ⟨a4, rfl⟩, h4, rfl⟩, h_4⟩ := matchL_agg h_3 ty23.1 ty23.2
  obtain ⟨_, _, rfl, ⟨_, _, rfl, ⟨a5, rfl⟩, h5, rfl⟩, h_5⟩ := matchL_agg h_4 ty25.1 ty25.2
  obtain ⟨_, _, rfl, ⟨a6, rfl⟩, h_6⟩ := matchL_one h_5 ty26.1 ty26.2
  obtain ⟨_, _, rfl, ⟨a7, rfl⟩, rfl⟩ := matchL_one h_6 ty26.1 ty26.2
  exact true_of_vc ehgl (law_hagr a0 a1 a2 a3 a4 a5 a6 a7 h0 h1 h2 h3) hv
set_option maxRecDepth 100000 in
theorem lifted (os : Os) (started : os.Started) (H : Type) (enc : TypeId × Value → H) :
    ReturnsInHanded {} Try.checked os 3 .any (Rows.handshakeAgreesSpec.pre6 enc Try.prog Try.f3 Rows.handshakeAgreesRow.domain false) (Rows.handshakeAgreesSpec.post enc Try.prog Try.f3 false true false false) :=
  law_lifted (C := Try.checked) (rt := 4) started own laidOut (by kernel_rfl) Try.func3 rfl (fun ds h => match ds, h with | [_, _, _, _, _, _, _, _], _ => rfl) (by kernel_rfl) (by kernel_rfl) (by kernel_rfl) (by kernel_rfl)
    main
    (ChangeSpec.witness6 (enc := enc) (C := Try.checked) false ⟨#[], #[.agg #[.int .u8 0, .int .u8 0, .int .u8 0, .int .u8 0, .int .u8 0, .int .u8 0, .int .u8 0, .int .u8 0, .int .u8 0, .int .u8 0, .int .u8 0, .int .u8 0, .int .u8 0, .int .u8 0, .int .u8 0, .int .u8 0, .int .u8 0, .int .u8 0, .int .u8 0, .int .u8 0, .int .u8 0, .int .u8 0, .int .u8 0, .int .u8 0, .int .u8 0, .int .u8 0, .int .u8 0, .int .u8 0, .int .u8 0, .int .u8 0, .int .u8 0, .int .u8 0], .agg #[.int .u8 0, .int .u8 0, .int .u8 0, .int .u8 0, .int .u8 0, .int .u8 0, .int .u8 0, .int .u8 0, .int .u8 0, .int .u8 0, .int .u8 0, .int .u8 0, .int .u8 0, .int .u8 0, .int .u8 0, .int .u8 0, .int .u8 0, .int .u8 0, .int .u8 0, .int .u8 0, .int .u8 0, .int .u8 0, .int .u8 0, .int .u8 0, .int .u8 0, .int .u8 0, .int .u8 0, .int .u8 0, .int .u8 0, .int .u8 0, .int .u8 0, .int .u8 0], .agg #[.int .u8 0, .int .u8 0, .int .u8 0, .int .u8 0, .int .u8 0, .int .u8 0, .int .u8 0, .int .u8 0, .int .u8 0, .int .u8 0, .int .u8 0, .int .u8 0, .int .u8 0, .int .u8 0, .int .u8 0, .int .u8 0, .int .u8 0, .int .u8 0, .int .u8 0, .int .u8 0, .int .u8 0, .int .u8 0, .int .u8 0, .int .u8 0, .int .u8 0, .int .u8 0, .int .u8 0, .int .u8 0, .int .u8 0, .int .u8 0, .int .u8 0, .int .u8 0], .agg #[.int .u8 0, .int .u8 0, .int .u8 0, .int .u8 0, .int .u8 0, .int .u8 0, .int .u8 0, .int .u8 0, .int .u8 0, .int .u8 0, .int .u8 0, .int .u8 0, .int .u8 0, .int .u8 0, .int .u8 0, .int .u8 0, .int .u8 0, .int .u8 0, .int .u8 0, .int .u8 0, .int .u8 0, .int .u8 0, .int .u8 0, .int .u8 0, .int .u8 0, .int .u8 0, .int .u8 0, .int .u8 0, .int .u8 0, .int .u8 0, .int .u8 0, .int .u8 0], .agg #[.int .u8 0, .int .u8 0, .int .u8 0, .int .u8 0, .int .u8 0, .int .u8 0, .int .u8 0, .int .u8 0, .int .u8 0, .int .u8 0, .int .u8 0, .int .u8 0, .int .u8 0, .int .u8 0, .int .u8 0, .int .u8 0, .int .u8 0, .int .u8 0, .int .u8 0, .int .u8 0, .int .u8 0, .int .u8 0, .int .u8 0, .int .u8 0, .int .u8 0, .int .u8 0, .int .u8 0, .int .u8 0, .int .u8 0, .int .u8 0, .int .u8 0, .int .u8 0], .agg #[.int .u8 0, .int .u8 0, .int .u8 0, .int .u8 0, .int .u8 0, .int .u8 0, .int .u8 0, .int .u8 0, .int .u8 0, .int .u8 0, .int .u8 0, .int .u8 0], .int .u32 0, .int .u32 0], []⟩ 8 (by kernel_rfl) (by kernel_rfl) (by kernel_rfl) (by kernel_rfl))
theorem over : Rows.handshakeAgreesRow.holds Try.pinned (OpenSpec.ofChange Rows.handshakeAgreesSpec) :=
  OpenClaim.holds_of_wide 3 Try.f3 rfl rfl rfl rfl rfl rfl rfl ⟨rfl, rfl, rfl, rfl, rfl⟩ rfl rfl rfl rfl rfl (by kernel_rfl) Try.func3 (by kernel_rfl)
    (of_decide_eq_true (by kernel_rfl)) (by unfold Func.isWrapper; first | (rw [if_pos (by decide +kernel)]; kernel_rfl) | (rw [if_neg (by decide +kernel)]; exact ⟨rfl, rfl⟩))
    (fun os started H enc _ => lifted os started H enc)
end LawHandshakeAgrees
theorem handshakeAgrees_proved : Rows.HandshakeAgreesSaid := LawHandshakeAgrees.over
#print axioms handshakeAgrees_proved
end Go.Proofs.Ytiogdokekibeiaa
