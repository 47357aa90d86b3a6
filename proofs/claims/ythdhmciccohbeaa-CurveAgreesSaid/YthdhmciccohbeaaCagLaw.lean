/- A step towards CurveAgreesSaid: no conditions. -/
import Derived.Test.YthdhmciccohbeaaCagVc
import Derived.Test.YthdhmciccohbeaaCwByt
namespace Go.Proofs.Ythdhmciccohbeaa
open Go Go.Eng Go.Cod Go.Pol Go.Cur
set_option maxRecDepth 100000 in
theorem conCBegA : Con Try.prog 10 gYes := con_of_vcs fun args ps res h hp => by
  unfold gYes at h
  split at h <;> cases h
  refine ⟨CLm, 300, rfl, eclm, ?_⟩
  rw [vcCBegA]
  simp only [forall_eq]
  refine ⟨?_, trivial⟩
  show (keyL rfcA rfcU == rfcK) = true
  rw [rfc]
  exact beq_self_eq_true _
theorem ecal : EnvOk CAl := eok (gs := [(13, gPub), (17, gShare), (10, gYes)]) ⟨conPub, conShare, conCBegA, trivial⟩
set_option maxRecDepth 100000 in
theorem law_cagrees (a b : List UInt8) : vcFn CAl 300 7 [.agg [.vec (.n 32) (.u8 a)], .agg [.vec (.n 32) (.u8 b)]] (.s (.b true)) := by
  rw [vcCAgrees]
  have hs : shareE b (keyL a nineL) = shareE a (keyL b nineL) := by unfold shareE; rw [Go.Ed.keys_agree]
  have hk : keyL b (keyL a nineL) = keyL a (keyL b nineL) := Go.Ed.keys_agree b a
  have hz : (decide (shareE a (keyL b nineL) = Int.ofNat 0) == !keyL a (keyL b nineL) == List.replicate 32 0) = true := by
    unfold shareE
    by_cases c : keyL a (keyL b nineL) = List.replicate 32 0
    · rw [if_pos c, c, beq_self_eq_true]; rfl
    · rw [if_neg c, beq_false_of_ne c]; rfl
  simp only [forall_eq, zeros32, hs, hk, hz, beq_self_eq_true, decide_true, Bool.true_eq_false, false_imp_iff, and_true, forall_const]
end Go.Proofs.Ythdhmciccohbeaa
