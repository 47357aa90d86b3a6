/- A step towards NoiseAgreesSaid: no conditions. -/
import Derived.Test.YtbgnjipdecekoaaBlaVc
import Derived.Test.YtbgnjipdecekoaaJCodVc

namespace Go.Proofs.Ytbgnjipdecekoaa
open Go Go.Eng Go.Cod Go.Cha Go.Bla
theorem rolK (n : Int) : (to64 n &&& 31).toNat ≤ 31 := by
  rw [UInt64.toNat_and]
  exact Nat.and_le_right
set_option maxRecDepth 100000 in
theorem conRotl : Con Try.prog 73 gRotl := con_of_vcs fun args ps res h hp => by
  unfold gRotl at h
  split at h <;> cases h
  rename_i x n
  refine ⟨BE0, 100, rfl, eok (gs := []) trivial, ?_⟩
  rw [vcRotl]
  have e : UInt64.ofNat 31 = 31 := rfl
  have e32 : UInt64.ofNat 32 = 32 := rfl
  have hk := rolK n
  rw [e, e32]
  refine ⟨?_, trivial⟩
  unfold rol
  have : (32 - (to64 n &&& 31)).toNat = 32 - (to64 n &&& 31).toNat := by
    rw [UInt64.toNat_sub_of_le]
    · rfl
    · rw [UInt64.le_iff_toNat_le]
      have : (32 : UInt64).toNat = 32 := rfl
      omega
  rw [this]
set_option maxRecDepth 100000 in
theorem conRight : Con Try.prog 74 gRight := con_of_vcs fun args ps res h hp => by
  unfold gRight at h
  split at h <;> cases h
  rename_i x n
  have hn := (all_cons.1 hp).1
  refine ⟨BE0, 100, rfl, eok (gs := []) trivial, ?_⟩
  rw [vcRight]
  simp only [io]
  refine ⟨by omega, inI_of (by omega) (by omega), by omega, ?_, trivial⟩
  unfold rol
  have e1 : (((32 : Nat) : Int) - n).toNat = 32 - n.toNat := by omega
  have e2 : 32 - (32 - n.toNat) = n.toNat := by omega
  rw [e1, e2, UInt32.or_comm]
theorem sig_eq : [Int.ofNat 0, Int.ofNat 1] = [0, 1] := rfl
set_option maxRecDepth 100000 in
theorem conOrder : Con Try.prog 62 gOrder := con_of_vcs fun args ps res h hp => by
  unfold gOrder at h
  split at h <;> cases h
  rename_i r
  have hr := (all_cons.1 hp).1
  refine ⟨BE0, 100, rfl, eok (gs := []) trivial, ?_⟩
  rw [vcOrder]
  simp only [io]
  have h1 : r.toNat < 10 := by omega
  exact ⟨⟨hr.1, by omega⟩, by omega, by kernel_rfl, trivial⟩
set_option maxRecDepth 100000 in
theorem conMixAt : Con Try.prog 63 gMixAt := con_of_vcs fun args ps res h hp => by
  unfold gMixAt at h
  split at h <;> cases h
  rename_i v a b c d x y
  have h1 := all_cons.1 hp
  have h2 := all_cons.1 h1.2
  have h3 := all_cons.1 h2.2
  have h4 := all_cons.1 h3.2
  have ha := h1.1; have hb := h2.1; have hc := h3.1; have hd := h4.1
  clear h1 h2 h3 h4 hp
  refine ⟨BEmx, 100, rfl, eok (gs := [(74, gRight)]) ⟨conRight, trivial⟩, ?_⟩
  rw [vcMixAt]
  have i16 : ((16 : Nat) : Int) = 16 := rfl
  have ha' : a.toNat < 16 := by omega
  have hb' : b.toNat < 16 := by omega
  have hc' : c.toNat < 16 := by omega
  have hd' : d.toNat < 16 := by omega
  simp only [io, i16, ha, hb, hc, hd, ha', hb', hc', hd', true_and, and_true, forall_eq]
  refine ⟨⟨by omega, by omega⟩, ⟨by omega, by omega⟩, ⟨by omega, by omega⟩, ⟨by omega, by omega⟩, ?_⟩
  kernel_rfl
end Go.Proofs.Ytbgnjipdecekoaa
