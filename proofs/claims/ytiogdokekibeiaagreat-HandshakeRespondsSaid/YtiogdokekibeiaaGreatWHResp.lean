/- The statement HandshakeResponds: for every input the law returns true, and each argument reads as it did. No condition. -/
import Derived.Test.YtiogdokekibeiaaGreatJHabLem


namespace Go.Proofs.YtiogdokekibeiaaGreat
open Go Go.Eng
open Go.ChangeShapes Go.WideShapes Go.ChangeAt Go.RowKit
namespace LawHandshakeResponds
theorem ty34 : isAggB Tryz.prog 34 = some true ∧ Eng.shape Tryz.prog 8 34 = some [.arr 32 .u8, .arr 32 .u8] := ⟨by kernel_rfl, by kernel_rfl⟩
theorem ty32 : isAggB Tryz.prog 32 = some true ∧ Eng.shape Tryz.prog 8 32 = some [.one .u32, .arr 32 .u8, .arr 48 .u8, .arr 28 .u8, .arr 16 .u8, .arr 16 .u8] := ⟨by kernel_rfl, by kernel_rfl⟩
theorem ty23 : isAggB Tryz.prog 23 = some true ∧ Eng.shape Tryz.prog 8 23 = some [.arr 32 .u8] := ⟨by kernel_rfl, by kernel_rfl⟩
theorem ty26 : isAggB Tryz.prog 26 = some false ∧ Eng.shape Tryz.prog 8 26 = some [.one .u32] := ⟨by kernel_rfl, by kernel_rfl⟩
theorem ty5 : isAggB Tryz.prog 5 = some false ∧ Eng.shape Tryz.prog 8 5 = some [.one .u8] := ⟨by kernel_rfl, by kernel_rfl⟩
set_option maxRecDepth 100000 in
theorem main (xs : List V) (h : MatchL Tryz.prog [34, 32, 23, 23, 23, 26, 5] xs) (w : World) (vals : List Value) (hv : VsRel A0 w xs vals) :
    Calls Tryz.prog 4 vals.toArray w fun e w' => e = .returned (.bool true) ∧ Below w.heap.size w w' := by
  obtain ⟨_, _, rfl, ⟨_, _, rfl, ⟨a0, rfl⟩, h0, _, _, rfl, ⟨a1, rfl⟩, h1, rfl⟩, h_0⟩ := matchL_agg h ty34.1 ty34.2
  obtain ⟨_, _, rfl, ⟨_, _, rfl, ⟨a2, rfl⟩, _, _, rfl, ⟨a3, rfl⟩, h2, _, _, rfl, ⟨a4, rfl⟩, h3, _, _, rfl, ⟨a5, rfl⟩, h4, _, _, rfl, ⟨a6, rfl⟩, h5, _, _, rfl, ⟨a7, rfl⟩, h6, rfl⟩, h_1⟩ := matchL_agg h_0 ty32.1 ty32.2
  obtain ⟨_, _, rfl, ⟨_, _, rfl, ⟨a8, rfl⟩, h7, rfl⟩, h_2⟩ := matchL_agg h_1 ty23.1 ty23.2
  obtain ⟨_, _, rfl, ⟨_, _, rfl, ⟨a9, rfl⟩, h8, rfl⟩, h_3⟩ := matchL_agg h_2 ty23.1 ty23.2
  obtain ⟨_, _, rfl, ⟨_, _, rfl, ⟨a10, rfl⟩, h9, rfl⟩, h_4⟩ := matchL_agg h_3 ty23.1 ty23.2
  obtain ⟨_, _, rfl, ⟨a11, rfl⟩, h_5⟩ := matchL_one h_4 ty26.1 ty26.2
  obtain ⟨_, _, rfl, ⟨a12, rfl⟩, rfl⟩ := matchL_one h_5 ty5.1 ty5.2
  exact true_of_vc ehll (law_hresp a0 a1 a3 a4 a5 a6 a7 a8 a9 a10 a2 a11 a12) hv
set_option maxRecDepth 100000 in
theorem lifted (os : Os) (started : os.Started) (H : Type) (enc : TypeId × Value → H) :
    ReturnsInHanded {} Tryz.checked os 4 .any (Rows.handshakeRespondsSpec.pre6 enc Tryz.prog Tryz.f4 Rows.handshakeRespondsRow.domain false) (Rows.handshakeRespondsSpec.post enc Tryz.prog Tryz.f4 false true false false) :=
  law_lifted (C := Tryz.checked) (rt := 4) started own laidOut (by kernel_rfl) Tryz.func4 rfl (fun ds h => match ds, h with | [_, _, _, _, _, _, _], _ => rfl) (by kernel_rfl) (by kernel_rfl) (by kernel_rfl) (by kernel_rfl)
    main
    (ChangeSpec.witness6 (enc := enc) (C := Tryz.checked) false ⟨#[], #[.agg #[.int .u8 0, .int .u8 0, .int .u8 0, .int .u8 0, .int .u8 0, .int .u8 0, .int .u8 0, .int .u8 0, .int .u8 0, .int .u8 0, .int .u8 0, .int .u8 0, .int .u8 0, .int .u8 0, .int .u8 0, .int .u8 0, .int .u8 0, .int .u8 0, .int .u8 0, .int .u8 0, .int .u8 0, .int .u8 0, .int .u8 0, .int .u8 0, .int .u8 0, .int .u8 0, .int .u8 0, .int .u8 0, .int .u8 0, .int .u8 0, .int .u8 0, .int .u8 0, .int .u8 0, .int .u8 0, .int .u8 0, .int .u8 0, .int .u8 0, .int .u8 0, .int .u8 0, .int .u8 0, .int .u8 0, .int .u8 0, .int .u8 0, .int .u8 0, .int .u8 0, .int .u8 0, .int .u8 0, .int .u8 0, .int .u8 0, .int .u8 0, .int .u8 0, .int .u8 0, .int .u8 0, .int .u8 0, .int .u8 0, .int .u8 0, .int .u8 0, .int .u8 0, .int .u8 0, .int .u8 0, .int .u8 0, .int .u8 0, .int .u8 0, .int .u8 0], .agg #[.int .u32 0, .int .u8 0, .int .u8 0, .int .u8 0, .int .u8 0, .int .u8 0, .int .u8 0, .int .u8 0, .int .u8 0, .int .u8 0, .int .u8 0, .int .u8 0, .int .u8 0, .int .u8 0, .int .u8 0, .int .u8 0, .int .u8 0, .int .u8 0, .int .u8 0, .int .u8 0, .int .u8 0, .int .u8 0, .int .u8 0, .int .u8 0, .int .u8 0, .int .u8 0, .int .u8 0, .int .u8 0, .int .u8 0, .int .u8 0, .int .u8 0, .int .u8 0, .int .u8 0, .int .u8 0, .int .u8 0, .int .u8 0, .int .u8 0, .int .u8 0, .int .u8 0, .int .u8 0, .int .u8 0, .int .u8 0, .int .u8 0, .int .u8 0, .int .u8 0, .int .u8 0, .int .u8 0, .int .u8 0, .int .u8 0, .int .u8 0, .int .u8 0, .int .u8 0, .int .u8 0, .int .u8 0, .int .u8 0, .int .u8 0, .int .u8 0, .int .u8 0, .int .u8 0, .int .u8 0, .int .u8 0, .int .u8 0, .int .u8 0, .int .u8 0, .int .u8 0, .int .u8 0, .int .u8 0, .int .u8 0, .int .u8 0, .int .u8 0, .int .u8 0, .int .u8 0, .int .u8 0, .int .u8 0, .int .u8 0, .int .u8 0, .int .u8 0, .int .u8 0, .int .u8 0, .int .u8 0, .int .u8 0, .int .u8 0, .int .u8 0, .int .u8 0, .int .u8 0, .int .u8 0, .int .u8 0, .int .u8 0, .int .u8 0, .int .u8 0, .int .u8 0, .int .u8 0, .int .u8 0, .int .u8 0, .int .u8 0, .int .u8 0, .int .u8 0, .int .u8 0, .int .u8 0, .int .u8 0, .int .u8 0, .int .u8 0, .int .u8 0, .int .u8 0, .int .u8 0, .int .u8 0, .int .u8 0, .int .u8 0, .int .u8 0, .int .u8 0, .int .u8 0, .int .u8 0, .int .u8 0, .int .u8 0, .int .u8 0, .int .u8 0, .int .u8 0, .int .u8 0, .int .u8 0, .int .u8 0, .int .u8 0, .int .u8 0, .int .u8 0, .int .u8 0, .int .u8 0, .int .u8 0, .int .u8 0, .int .u8 0, .int .u8 0, .int .u8 0, .int .u8 0, .int .u8 0, .int .u8 0, .int .u8 0, .int .u8 0, .int .u8 0, .int .u8 0, .int .u8 0, .int .u8 0, .int .u8 0, .int .u8 0], .agg #[.int .u8 0, .int .u8 0, .int .u8 0, .int .u8 0, .int .u8 0, .int .u8 0, .int .u8 0, .int .u8 0, .int .u8 0, .int .u8 0, .int .u8 0, .int .u8 0, .int .u8 0, .int .u8 0, .int .u8 0, .int .u8 0, .int .u8 0, .int .u8 0, .int .u8 0, .int .u8 0, .int .u8 0, .int .u8 0, .int .u8 0, .int .u8 0, .int .u8 0, .int .u8 0, .int .u8 0, .int .u8 0, .int .u8 0, .int .u8 0, .int .u8 0, .int .u8 0], .agg #[.int .u8 0, .int .u8 0, .int .u8 0, .int .u8 0, .int .u8 0, .int .u8 0, .int .u8 0, .int .u8 0, .int .u8 0, .int .u8 0, .int .u8 0, .int .u8 0, .int .u8 0, .int .u8 0, .int .u8 0, .int .u8 0, .int .u8 0, .int .u8 0, .int .u8 0, .int .u8 0, .int .u8 0, .int .u8 0, .int .u8 0, .int .u8 0, .int .u8 0, .int .u8 0, .int .u8 0, .int .u8 0, .int .u8 0, .int .u8 0, .int .u8 0, .int .u8 0], .agg #[.int .u8 0, .int .u8 0, .int .u8 0, .int .u8 0, .int .u8 0, .int .u8 0, .int .u8 0, .int .u8 0, .int .u8 0, .int .u8 0, .int .u8 0, .int .u8 0, .int .u8 0, .int .u8 0, .int .u8 0, .int .u8 0, .int .u8 0, .int .u8 0, .int .u8 0, .int .u8 0, .int .u8 0, .int .u8 0, .int .u8 0, .int .u8 0, .int .u8 0, .int .u8 0, .int .u8 0, .int .u8 0, .int .u8 0, .int .u8 0, .int .u8 0, .int .u8 0], .int .u32 0, .int .u8 0], []⟩ 8 (by kernel_rfl) (by kernel_rfl) (by kernel_rfl) (by kernel_rfl))
theorem over : Rows.handshakeRespondsRow.holds Tryz.pinned (OpenSpec.ofChange Rows.handshakeRespondsSpec) :=
  OpenClaim.holds_of_wide 4 Tryz.f4 rfl rfl rfl rfl rfl rfl rfl ⟨rfl, rfl, rfl, rfl, rfl⟩ rfl rfl rfl rfl rfl (by kernel_rfl) Tryz.func4 (by kernel_rfl)
    (of_decide_eq_true (by kernel_rfl)) (by unfold Func.isWrapper; first | (rw [if_pos (by decide +kernel)]; kernel_rfl) | (rw [if_neg (by decide +kernel)]; exact ⟨rfl, rfl⟩))
    (fun os started H enc _ => lifted os started H enc)
end LawHandshakeResponds
theorem handshakeResponds_proved : Rows.HandshakeRespondsSaid := LawHandshakeResponds.over
#print axioms handshakeResponds_proved
end Go.Proofs.YtiogdokekibeiaaGreat
