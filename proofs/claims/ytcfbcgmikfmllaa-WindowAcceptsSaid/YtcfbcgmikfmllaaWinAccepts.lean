/- A step towards WindowAcceptsSaid: no conditions. -/
import Derived.Test.YtcfbcgmikfmllaaWinL3
import Derived.Test.YtcfbcgmikfmllaaChecked
namespace Go.Proofs.Ytcfbcgmikfmllaa
open Go Go.Eng
open Go.ChangeShapes Go.WideShapes Go.ChangeAt Go.RowKit
theorem own : ownKnob Try.prog.godebug = none := by kernel_rfl
theorem laidOut : laidOutB Try.prog = true := by kernel_rfl
theorem ty25 : isAggB Try.prog 25 = some true ∧ Eng.shape Try.prog 8 25 = some [.one .bo, .one .u64, .arr 4 .u64] := ⟨by kernel_rfl, by kernel_rfl⟩
theorem ty22 : isAggB Try.prog 22 = some false ∧ Eng.shape Try.prog 8 22 = some [.one .u64] := ⟨by kernel_rfl, by kernel_rfl⟩
theorem ty26 : isAggB Try.prog 26 = some false ∧ Eng.shape Try.prog 8 26 = some [.sl .u16] := ⟨by kernel_rfl, by kernel_rfl⟩
set_option maxRecDepth 100000 in
theorem main3 (xs : List V) (h : MatchL Try.prog [25, 22, 26, 22] xs) (w : World) (vals : List Value) (hv : VsRel A0 w xs vals) :
    Calls Try.prog 3 vals.toArray w fun e w' => e = .returned (.bool true) ∧ Below w.heap.size w w' := by
  obtain ⟨_, _, rfl, ⟨_, _, rfl, ⟨u, rfl⟩, _, _, rfl, ⟨t, rfl⟩, _, _, rfl, ⟨ws, rfl⟩, _, rfl⟩, h1⟩ := matchL_agg h ty25.1 ty25.2
  obtain ⟨_, _, rfl, ⟨c, rfl⟩, h2⟩ := matchL_one h1 ty22.1 ty22.2
  obtain ⟨_, _, rfl, ⟨l, rfl⟩, hl, h3⟩ := matchL_sl h2 ty26.1 ty26.2
  obtain ⟨_, _, rfl, ⟨fr, rfl⟩, rfl⟩ := matchL_one h3 ty22.1 ty22.2
  exact true_of_vc (E := E3) (eok (gs := [(6, gAcc), (7, gAcc), (8, gCheck), (9, gCheck), (10, gNear), (11, gBegun)]) ⟨con6, con7, con8, con9, con10, con11, trivial⟩) (law3 u t c fr ws l hl) hv
set_option maxRecDepth 100000 in
theorem lifted (os : Os) (started : os.Started) (H : Type) (enc : TypeId × Value → H) :
    ReturnsInHanded {} Try.checked os 3 .any (Rows.windowAcceptsSpec.pre6 enc Try.prog Try.f3 Rows.windowAcceptsRow.domain false) (Rows.windowAcceptsSpec.post enc Try.prog Try.f3 false true false false) :=
  law_lifted (C := Try.checked) (rt := 4) started own laidOut (by kernel_rfl) Try.func3 rfl (fun ds h => match ds, h with | [_, _, _, _], _ => rfl) (by kernel_rfl) (by kernel_rfl) (by kernel_rfl) (by kernel_rfl)
    main3
    (ChangeSpec.witness6 (enc := enc) (C := Try.checked) false ⟨#[], #[.agg #[.bool false, .int .u64 0, .int .u64 0, .int .u64 0, .int .u64 0, .int .u64 0], .int .u64 0, .slice none 0 0, .int .u64 0], []⟩ 8 (by kernel_rfl) (by kernel_rfl) (by kernel_rfl) (by kernel_rfl))
theorem over : Rows.windowAcceptsRow.holds Try.pinned (OpenSpec.ofChange Rows.windowAcceptsSpec) :=
  OpenClaim.holds_of_wide 3 Try.f3 rfl rfl rfl rfl rfl rfl rfl ⟨rfl, rfl, rfl, rfl, rfl⟩ rfl rfl rfl rfl rfl (by kernel_rfl) Try.func3 (by kernel_rfl)
    (of_decide_eq_true (by kernel_rfl)) (by unfold Func.isWrapper; first | (rw [if_pos (by decide +kernel)]; kernel_rfl) | (rw [if_neg (by decide +kernel)]; exact ⟨rfl, rfl⟩))
    (fun os started H enc _ => lifted os started H enc)
theorem windowAccepts_proved : Rows.WindowAcceptsSaid := over
#print axioms windowAccepts_proved
end Go.Proofs.Ytcfbcgmikfmllaa
