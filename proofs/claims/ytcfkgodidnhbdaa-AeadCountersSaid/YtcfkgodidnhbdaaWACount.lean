/- The statement AeadCounters: for every input the law returns true, and each argument reads as it did. No condition. -/
import Derived.Test.YtcfkgodidnhbdaaAelLaw

namespace Go.Proofs.Ytcfkgodidnhbdaa
open Go Go.Eng
open Go.ChangeShapes Go.WideShapes Go.ChangeAt Go.RowKit
namespace LawAeadCounters
theorem ty22 : isAggB Try.prog 22 = some false ∧ Eng.shape Try.prog 8 22 = some [.one .u64] := ⟨by kernel_rfl, by kernel_rfl⟩
set_option maxRecDepth 100000 in
theorem main (xs : List V) (h : MatchL Try.prog [22, 22] xs) (w : World) (vals : List Value) (hv : VsRel A0 w xs vals) :
    Calls Try.prog 3 vals.toArray w fun e w' => e = .returned (.bool true) ∧ Below w.heap.size w w' := by
  obtain ⟨_, _, rfl, ⟨a0, rfl⟩, h_0⟩ := matchL_one h ty22.1 ty22.2
  obtain ⟨_, _, rfl, ⟨a1, rfl⟩, rfl⟩ := matchL_one h_0 ty22.1 ty22.2
  exact true_of_vc eall (law_acount a0 a1) hv
set_option maxRecDepth 100000 in
theorem lifted (os : Os) (started : os.Started) (H : Type) (enc : TypeId × Value → H) :
    ReturnsInHanded {} Try.checked os 3 .any (Rows.aeadCountersSpec.pre6 enc Try.prog Try.f3 Rows.aeadCountersRow.domain false) (Rows.aeadCountersSpec.post enc Try.prog Try.f3 false true false false) :=
  law_lifted (C := Try.checked) (rt := 4) started own laidOut (by kernel_rfl) Try.func3 rfl (fun ds h => match ds, h with | [_, _], _ => rfl) (by kernel_rfl) (by kernel_rfl) (by kernel_rfl) (by kernel_rfl)
    main
    (ChangeSpec.witness6 (enc := enc) (C := Try.checked) false ⟨#[], #[.int .u64 0, .int .u64 0], []⟩ 8 (by kernel_rfl) (by kernel_rfl) (by kernel_rfl) (by kernel_rfl))
theorem over : Rows.aeadCountersRow.holds Try.pinned (OpenSpec.ofChange Rows.aeadCountersSpec) :=
  OpenClaim.holds_of_wide 3 Try.f3 rfl rfl rfl rfl rfl rfl rfl ⟨rfl, rfl, rfl, rfl, rfl⟩ rfl rfl rfl rfl rfl (by kernel_rfl) Try.func3 (by kernel_rfl)
    (of_decide_eq_true (by kernel_rfl)) (by unfold Func.isWrapper; first | (rw [if_pos (by decide +kernel)]; kernel_rfl) | (rw [if_neg (by decide +kernel)]; exact ⟨rfl, rfl⟩))
    (fun os started H enc _ => lifted os started H enc)
end LawAeadCounters
theorem aeadCounters_proved : Rows.AeadCountersSaid := LawAeadCounters.over
#print axioms aeadCounters_proved
end Go.Proofs.Ytcfkgodidnhbdaa
