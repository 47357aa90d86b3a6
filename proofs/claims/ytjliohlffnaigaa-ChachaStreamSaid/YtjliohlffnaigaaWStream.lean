/- The statement ChachaStream: for every input the law returns true, and each argument reads as it did. No condition. -/
import Derived.Test.YtjliohlffnaigaaChaLaw

namespace Go.Proofs.Ytjliohlffnaigaa
open Go Go.Eng
open Go.ChangeShapes Go.WideShapes Go.ChangeAt Go.RowKit
namespace LawChachaStream
theorem ty25 : isAggB Try.prog 25 = some true ∧ Eng.shape Try.prog 8 25 = some [.arr 32 .u8] := ⟨by kernel_rfl, by kernel_rfl⟩
theorem ty22 : isAggB Try.prog 22 = some false ∧ Eng.shape Try.prog 8 22 = some [.one .u32] := ⟨by kernel_rfl, by kernel_rfl⟩
theorem ty27 : isAggB Try.prog 27 = some true ∧ Eng.shape Try.prog 8 27 = some [.arr 12 .u8] := ⟨by kernel_rfl, by kernel_rfl⟩
theorem ty5 : isAggB Try.prog 5 = some false ∧ Eng.shape Try.prog 8 5 = some [.one .u8] := ⟨by kernel_rfl, by kernel_rfl⟩
set_option maxRecDepth 100000 in
theorem main (xs : List V) (h : MatchL Try.prog [25, 22, 27, 5] xs) (w : World) (vals : List Value) (hv : VsRel A0 w xs vals) :
    Calls Try.prog 6 vals.toArray w fun e w' => e = .returned (.bool true) ∧ Below w.heap.size w w' := by
  obtain ⟨_, _, rfl, ⟨_, _, rfl, ⟨a0, rfl⟩, h0, rfl⟩, h_0⟩ := matchL_agg h ty25.1 ty25.2
  obtain ⟨_, _, rfl, ⟨a1, rfl⟩, h_1⟩ := matchL_one h_0 ty22.1 ty22.2
  obtain ⟨_, _, rfl, ⟨_, _, rfl, ⟨a2, rfl⟩, h1, rfl⟩, h_2⟩ := matchL_agg h_1 ty27.1 ty27.2
  obtain ⟨_, _, rfl, ⟨a3, rfl⟩, rfl⟩ := matchL_one h_2 ty5.1 ty5.2
  exact true_of_vc elaw (law_stream a0 a2 a1 a3) hv
set_option maxRecDepth 100000 in
theorem lifted (os : Os) (started : os.Started) (H : Type) (enc : TypeId × Value → H) :
    ReturnsInHanded {} Try.checked os 6 .any (Rows.chachaStreamSpec.pre6 enc Try.prog Try.f6 Rows.chachaStreamRow.domain false) (Rows.chachaStreamSpec.post enc Try.prog Try.f6 false true false false) :=
  law_lifted (C := Try.checked) (rt := 4) started own laidOut (by kernel_rfl) Try.func6 rfl (fun ds h => match ds, h with | [_, _, _, _], _ => rfl) (by kernel_rfl) (by kernel_rfl) (by kernel_rfl) (by kernel_rfl)
    main
    (ChangeSpec.witness6 (enc := enc) (C := Try.checked) false ⟨#[], #[.agg #[.int .u8 0, .int .u8 0, .int .u8 0, .int .u8 0, .int .u8 0, .int .u8 0, .int .u8 0, .int .u8 0, .int .u8 0, .int .u8 0, .int .u8 0, .int .u8 0, .int .u8 0, .int .u8 0, .int .u8 0, .int .u8 0, .int .u8 0, .int .u8 0, .int .u8 0, .int .u8 0, .int .u8 0, .int .u8 0, .int .u8 0, .int .u8 0, .int .u8 0, .int .u8 0, .int .u8 0, .int .u8 0, .int .u8 0, .int .u8 0, .int .u8 0, .int .u8 0], .int .u32 0, .agg #[.int .u8 0, .int .u8 0, .int .u8 0, .int .u8 0, .int .u8 0, .int .u8 0, .int .u8 0, .int .u8 0, .int .u8 0, .int .u8 0, .int .u8 0, .int .u8 0], .int .u8 0], []⟩ 8 (by kernel_rfl) (by kernel_rfl) (by kernel_rfl) (by kernel_rfl))
theorem over : Rows.chachaStreamRow.holds Try.pinned (OpenSpec.ofChange Rows.chachaStreamSpec) :=
  OpenClaim.holds_of_wide 6 Try.f6 rfl rfl rfl rfl rfl rfl rfl ⟨rfl, rfl, rfl, rfl, rfl⟩ rfl rfl rfl rfl rfl (by kernel_rfl) Try.func6 (by kernel_rfl)
    (of_decide_eq_true (by kernel_rfl)) (by unfold Func.isWrapper; first | (rw [if_pos (by decide +kernel)]; kernel_rfl) | (rw [if_neg (by decide +kernel)]; exact ⟨rfl, rfl⟩))
    (fun os started H enc _ => lifted os started H enc)
end LawChachaStream
theorem chachaStream_proved : Rows.ChachaStreamSaid := LawChachaStream.over
#print axioms chachaStream_proved
end Go.Proofs.Ytjliohlffnaigaa
