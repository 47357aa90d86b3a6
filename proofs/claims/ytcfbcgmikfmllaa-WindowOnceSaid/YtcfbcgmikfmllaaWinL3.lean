/- A step towards WindowOnceSaid: no conditions. -/
import Derived.Test.YtcfbcgmikfmllaaWinCon
import Derived.Test.YtcfbcgmikfmllaaWinLawVc
namespace Go.Proofs.Ytcfbcgmikfmllaa
open Go Go.Eng
set_option maxRecDepth 100000 in
theorem con10 : Con Try.prog 10 gNear := con_of_vcs fun args ps res h hp => by
  unfold gNear at h
  split at h <;> cases h
  rename_i u t ws x
  refine ⟨E0, 100, rfl, eok (gs := []) trivial, ?_⟩
  refine Eq.mpr (vc10 u t ws x) ?_
  have k1 : UInt16.ofNat 60000 = 60000 := rfl
  have k2 : UInt16.ofNat 600 = 600 := rfl
  have k3 : UInt16.ofNat 64 = 64 := rfl
  have k4 : UInt64.ofNat 300 = 300 := rfl
  have k5 : UInt64.ofNat 9223372036854775808 = 9223372036854775808 := rfl
  have k6 : UInt64.ofNat 4611686018427387904 = 4611686018427387904 := rfl
  simp only [k1, k2, k3, k4, k5, k6, nearS, decide_eq_true_eq, decide_eq_false_iff_not, and_true]
  refine ⟨by decide, fun h1 => ?_, fun h1 => ⟨fun h2 => ?_, fun h2 => ⟨fun h3 => ?_, fun h3 => ⟨by decide, ?_⟩⟩⟩⟩
  · rw [if_pos h1]
  · rw [if_neg h1, if_pos (.inl h2)]
  · rw [if_neg h1, if_pos (.inr h3)]
  · rw [if_neg h1, if_neg (not_or.2 ⟨h2, h3⟩)]
set_option maxRecDepth 100000 in
theorem con11 : Con Try.prog 11 gBegun := con_of_vcs fun args ps res h hp => by
  unfold gBegun at h
  split at h <;> cases h
  refine ⟨E11, 100, rfl, eok (gs := [(6, gAcc), (8, gCheck)]) ⟨con6, con8, trivial⟩, ?_⟩
  refine Eq.mpr vc11 ?_
  decide +kernel
set_option maxRecDepth 100000 in
theorem law3 (u : Bool) (t c fr : UInt64) (ws : List UInt64) (l : List UInt16) (hl : l.length < 2 ^ 47) : vcFn E3 200 3 [.agg [.one (.b u), .one (.u64 t), .vec (.n 4) (.u64 ws)], .s (.u64 c), .s (.xs 1 (.s l.length) (.u16 l)), .s (.u64 fr)] (.s (.b true)) := by
  refine Eq.mpr (vc3 u t c fr ws l) ?_
  simp only [true_and, and_true, beq_self_eq_true, bne_self_eq_false, Bool.not_true, Bool.and_self, Bool.false_eq_true, false_implies, true_implies, implies_true]
  simp only [io]
  generalize hN : (min (l.length : Int) ((40 : Nat) : Int)).toNat = N
  have hN1 : N ≤ l.length := by subst hN; omega
  have hmin : 0 ≤ min (l.length : Int) ((40 : Nat) : Int) ∧ min (l.length : Int) ((40 : Nat) : Int) ≤ l.length := by constructor <;> omega
  have st : ∀ x : Nat × Win, (x.fst : Int) ≤ ((N - 0 : Nat) : Int) → decide ((x.fst : Int) < ((N - 0 : Nat) : Int)) = true →
      (0 ≤ (x.fst : Int) ∧ (x.fst : Int) < ((N - 0 : Nat) : Int)) ∧ ((x.fst : Int)).toNat < (List.take N l).length ∧ InI ((x.fst : Int) + ((1 : Nat) : Int)) ∧
      ∃ y : Nat × Win, (y.fst : Int) ≤ ((N - 0 : Nat) : Int) ∧ (((N - 0 : Nat) : Int)).toNat - y.fst < (((N - 0 : Nat) : Int)).toNat - x.fst ∧ (x.fst : Int) + ((1 : Nat) : Int) = (y.fst : Int) ∧
        (acc x.snd (nearS x.snd.t ((List.take N l).getD ((x.fst : Int)).toNat 0))).u = y.snd.u ∧ (acc x.snd (nearS x.snd.t ((List.take N l).getD ((x.fst : Int)).toNat 0))).t = y.snd.t ∧
        (acc x.snd (nearS x.snd.t ((List.take N l).getD ((x.fst : Int)).toNat 0))).ws = y.snd.ws := by
    intro x hx h
    have h := of_decide_eq_true h
    refine ⟨⟨by omega, h⟩, by rw [List.length_take]; omega, ⟨by omega, by omega⟩, (x.1 + 1, _), ?_, ?_, ?_, rfl, rfl, rfl⟩
    · show ((x.1 + 1 : Nat) : Int) ≤ _; omega
    · show _ - (x.1 + 1) < _; omega
    · show _ = ((x.1 + 1 : Nat) : Int); rfl
  have z : ∀ w : Win, ∃ x : Nat × Win, (x.fst : Int) ≤ ((N - 0 : Nat) : Int) ∧ ((0 : Nat) : Int) = (x.fst : Int) ∧ w.u = x.snd.u ∧ w.t = x.snd.t ∧ w.ws = x.snd.ws :=
    fun w => ⟨(0, w), by show ((0 : Nat) : Int) ≤ _; omega, rfl, rfl, rfl, rfl⟩
  refine ⟨by decide, hmin, z ⟨u, t, ws⟩, fun x hx => ⟨st x hx, fun _ => ⟨hmin, z ⟨false, 0, List.replicate 4 0⟩, fun x hx => ⟨st x hx, fun _ => ⟨hmin, z ⟨true, fr, List.replicate 4 0⟩, fun x hx => ⟨st x hx, fun _ => ⟨hmin, z ⟨true, _, List.replicate 4 0⟩, fun x hx => st x hx⟩⟩⟩⟩⟩⟩⟩
end Go.Proofs.Ytcfbcgmikfmllaa
