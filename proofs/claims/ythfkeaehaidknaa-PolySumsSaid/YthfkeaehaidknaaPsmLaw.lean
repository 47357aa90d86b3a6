/- A step towards PolySumsSaid: no conditions. -/
import Derived.Test.YthfkeaehaidknaaPsmLawVc
import Derived.Test.YthfkeaehaidknaaPslLaw
import Derived.Test.YthfkeaehaidknaaPsrCon
namespace Go.Proofs.Ythfkeaehaidknaa
open Go Go.Eng Go.Cod Go.Pol
theorem fill_set {n x : Nat} (v : UInt8) (h : x < n) : (List.replicate x v ++ List.replicate (n - x) 0).set x v = List.replicate (x + 1) v ++ List.replicate (n - (x + 1)) 0 := by
  rw [List.set_append_right _ _ (by rw [List.length_replicate]; exact Nat.le_refl _), List.length_replicate, Nat.sub_self, show n - x = (n - (x + 1)) + 1 by omega, List.replicate_succ, List.set_cons_zero, List.replicate_succ']
  simp
theorem eplm : EnvOk PLm := eok (gs := [(8, gPoly), (9, gPoly), (10, gTrue0)]) ⟨conPoly, conPolyR, conPBeg, trivial⟩
set_option maxRecDepth 100000 in
theorem law_psums (k d : List UInt8) (n : UInt8) (hk : k.length = 32) : vcFn PLm 300 3 [.agg [.vec (.n 32) (.u8 k)], .s (.xs 1 (.s d.length) (.u8 d)), .s (.u8 n)] (.s (.b true)) := by
  rw [vcPolySums k d n]
  have t : (n.toNat : Int).tmod (Int.ofNat 49) = ((n.toNat % 49 : Nat) : Int) := rfl
  rw [t]
  intro y hy y1 hy1
  have hy1' : y1 = ((min d.length 200 : Nat) : Int) := by
    rw [hy1, hy]
    show min _ (200 : Int) = _
    omega
  subst hy1'
  rw [Int.toNat_natCast]
  have ld : (List.take (min d.length 200) d).length ≤ 4294967296 := by rw [List.length_take]; omega
  generalize List.take (min d.length 200) d = z at *
  refine ⟨by omega, ⟨0, by omega, rfl, rfl, rfl, rfl, rfl, rfl, rfl, rfl, rfl, by simp, rfl, trivial⟩, fun x hx => ⟨fun hd => ?_, fun hd => ?_⟩⟩
  · have hd := of_decide_eq_true hd
    have hx2 : x < 48 := by have : (x : Int) < 48 := hd; omega
    intro y hy
    subst hy
    rw [Int.toNat_natCast, Nat.zero_add]
    refine ⟨by decide, by omega, by omega, fun y hy => ⟨by rw [io]; unfold InI; omega, ?_⟩⟩
    rw [fill_set _ hx2] at hy
    exact ⟨x + 1, by omega, by omega, rfl, rfl, rfl, rfl, rfl, rfl, rfl, rfl, rfl, hy, rfl, trivial⟩
  · have hd := of_decide_eq_false hd
    have hx2 : x = 48 := by have : ¬ (x : Int) < 48 := hd; omega
    subst hx2
    refine ⟨⟨0, by omega, rfl, rfl, rfl, rfl, rfl, rfl, rfl, rfl, rfl, by simp, trivial⟩, fun x hx => ⟨fun hd => ?_, fun hd => ?_⟩⟩
    · have hd := of_decide_eq_true hd
      have hx2 : x < 32 := by have : (x : Int) < 32 := hd; omega
      intro y hy
      subst hy
      rw [Int.toNat_natCast]
      refine ⟨by omega, by omega, fun y hy => ⟨by rw [io]; unfold InI; omega, ?_⟩⟩
      rw [fill_set _ hx2] at hy
      exact ⟨x + 1, by omega, by omega, rfl, rfl, rfl, rfl, rfl, rfl, rfl, rfl, rfl, hy, trivial⟩
    · generalize UInt8.ofNat 255 - n % UInt8.ofNat 3 = v
      have lf : (List.replicate 48 v ++ List.replicate (48 - 48) 0).length = 48 := by simp
      generalize List.replicate 48 v ++ List.replicate (48 - 48) 0 = F at *
      have lt : ∀ q, (List.take q F).length ≤ 4294967296 := fun q => by rw [List.length_take]; omega
      have b1 : (0 : Int) ≤ ((n.toNat % 49 : Nat) : Int) ∧ ((n.toNat % 49 : Nat) : Int) ≤ 48 := by omega
      have b2 : 0 + (n.toNat % 49 - 0) ≤ 48 := by omega
      have b3 : F.length ≤ 4294967296 := by omega
      have n49 : ¬ Int.ofNat 49 = 0 := by decide
      simp only [forall_eq, beq_self_eq_true, Bool.not_true, Int.toNat_natCast, dropL_zero, lt, b1, b2, b3, ld, true_and, and_true, forall_const, n49, ne_eq, not_false_eq_true, Bool.false_eq_true, false_imp_iff, and_self]
      omega
end Go.Proofs.Ythfkeaehaidknaa
