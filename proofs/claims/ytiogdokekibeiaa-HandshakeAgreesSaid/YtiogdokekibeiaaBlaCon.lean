/- A step towards HandshakeAgreesSaid: no conditions. -/
import Derived.Test.YtiogdokekibeiaaBlaVc
import Derived.Test.YtiogdokekibeiaaJCodVc


namespace Go.Proofs.Ytiogdokekibeiaa
open Go Go.Eng Go.Cod Go.Cha Go.Bla
theorem rolK (n : Int) : (to64 n &&& 31).toNat ≤ 31 := by
  rw [UInt64.toNat_and]
  exact Nat.and_le_right
set_option maxRecDepth 100000 in
theorem conRotl : Con Try.prog 74 gRotl := con_of_vcs fun args ps res h hp => by
  unfold gRotl at h
  split at h <;> cases h
  rename_i x n
  refine ⟨BE0, 100, rfl, eok (gs := []) trivial, ?_⟩
  rw [vcRotl]
  have e : UInt64.ofNat 31 = 31 := rfl
  have e32 : UInt64.ofNat 32 = 32 := rfl
  have hk := rolK n
  rw [e, e32]
  refine ⟨?_, trivial⟩
  unfold rol
  have : (32 - (to64 n &&& 31)).toNat = 32 - (to64 n &&& 31).toNat := by
    rw [UInt64.toNat_sub_of_le]
    · rfl
    · rw [UInt64.le_iff_toNat_le]
      have : (32 : UInt64).toNat = 32 := rfl
      omega
  rw [this]
theorem sig_eq : [Int.ofNat 0, Int.ofNat 1] = [0, 1] := rfl
end Go.Proofs.Ytiogdokekibeiaa
