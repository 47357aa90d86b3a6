/- A step towards WindowOnceSaid: no conditions. -/
import Derived.Test.YtcfbcgmikfmllaaWoVc
import Derived.Test.YtcfbcgmikfmllaaWoPlain
import Derived.Test.YtcfbcgmikfmllaaWinCon
import Derived.Test.YtcfbcgmikfmllaaWinL3
namespace Go.Proofs.Ytcfbcgmikfmllaa
open Go Go.Eng
set_option maxRecDepth 100000 in
theorem law4 (ls : List UInt16) (fr : UInt32) : vcFn E4 200 4 [.s (.xs 1 (.s ls.length) (.u16 ls)), .s (.u32 fr)] (.s (.b true)) := by
  refine Eq.mpr (vc4 ls fr) ?_
  have e80 : ((80 : Nat) : Int) = 80 := rfl
  have e0 : ((0 : Nat) : Int) = 0 := rfl
  have e1 : ((1 : Nat) : Int) = 1 := rfl
  have hN : (ls.take (min (ls.length : Int) 80).toNat).length = (min (ls.length : Int) 80).toNat := by rw [List.length_take]; omega
  simp only [forall_eq, io, e80, e0, e1]
  refine ⟨by omega, ?_⟩
  generalize ls.take (min (ls.length : Int) 80).toNat = ks at *
  rw [← hN]
  have hK : ks.length ≤ 80 := by omega
  clear hN
  refine ⟨⟨0, Nat.zero_le _, by and_intros <;> first | trivial | rfl⟩, fun x hx => ⟨fun hd => ?_, fun hd => ?_⟩⟩
  · have hlt : x < ks.length := by have := of_decide_eq_true hd; omega
    have hs : stO fr ks (x + 1) = stepO (stO fr ks x) (ctrO fr (ks.getD x 0)) := rfl
    have hc : fr.toUInt64 + (ks.getD (x : Int).toNat 0).toUInt64 % UInt64.ofNat 1200 = ctrO fr (ks.getD x 0) := rfl
    have hon := once (inv_all fr ks x) (ctrO_small fr (ks.getD x 0))
    have h64 : UInt64.ofNat 64 = 64 := rfl
    have h4 : UInt64.ofNat 4 = 4 := rfl
    have hlen : decide (0 < ((stO fr ks x).s.length : Int)) = decide (0 < (stO fr ks x).s.length) := by rw [decide_eq_decide]; omega
    rw [hc]
    simp only [h64, h4, hlen]
    generalize stO fr ks x = o at *
    generalize ctrO fr (ks.getD x 0) = c at *
    have fin : InI ((x : Int) + 1) := by unfold InI; omega
    refine ⟨⟨by omega, by omega⟩, hlt, by decide, ?_⟩
    cases hk : chk o.w c
    · have ha := acc_no' hk
      have PN : InI ((x : Int) + 1) ∧ ∃ y, y ≤ ks.length ∧ ks.length - y < ks.length - x ∧ o.m = (stO fr ks y).m ∧ (x : Int) + 1 = (y : Int) ∧ (acc o.w c).u = (stO fr ks y).w.u ∧ (acc o.w c).t = (stO fr ks y).w.t ∧ (acc o.w c).ws = (stO fr ks y).w.ws ∧ o.s = (stO fr ks y).s := by
        refine ⟨fin, x + 1, hlt, by omega, ?_⟩
        rw [hs]
        unfold stepO
        rw [if_neg (by rw [hk]; decide)]
        exact ⟨rfl, by omega, rfl, rfl, rfl, rfl⟩
      rw [hk] at hon
      rw [ha] at PN ⊢
      cases hb : o.s.contains c <;> cases hq : decide (0 < o.s.length) <;> cases hr : decide (c / 64 + 4 ≤ o.m / 64) <;> rw [hb, hq, hr] at hon <;> first | (cases hon; done) | skip
      all_goals simp [PN]
    · have PY : InI ((x : Int) + 1) ∧ ∃ y, y ≤ ks.length ∧ ks.length - y < ks.length - x ∧ (if o.m < c then c else o.m) = (stO fr ks y).m ∧ (x : Int) + 1 = (y : Int) ∧ (acc o.w c).u = (stO fr ks y).w.u ∧ (acc o.w c).t = (stO fr ks y).w.t ∧ (acc o.w c).ws = (stO fr ks y).w.ws ∧ (bif o.s.contains c then o.s else o.s ++ [c]) = (stO fr ks y).s := by
        refine ⟨fin, x + 1, hlt, by omega, ?_⟩
        rw [hs]
        unfold stepO
        rw [if_pos hk]
        exact ⟨rfl, by omega, rfl, rfl, rfl, rfl⟩
      rw [hk] at hon
      cases hb : o.s.contains c <;> cases hq : decide (0 < o.s.length) <;> cases hr : decide (c / 64 + 4 ≤ o.m / 64) <;> rw [hb, hq, hr] at hon <;> first | (cases hon; done) | skip
      all_goals rw [hb] at PY
      all_goals (simp [PY]; exact PY.2)
  · simp
theorem e4ok : EnvOk E4 := eok (gs := [(6, gAcc), (11, gBegun)]) ⟨con6, con11, trivial⟩
end Go.Proofs.Ytcfbcgmikfmllaa
