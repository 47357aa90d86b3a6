/- A step towards CurveAgreesSaid: no conditions. -/
import Derived.Test.YthdhmciccohbeaaCulVc
import Derived.Test.YthdhmciccohbeaaCubCon
import Derived.Test.YthdhmciccohbeaaCugCon
namespace Go.Proofs.Ythdhmciccohbeaa
open Go Go.Eng Go.Cod Go.Pol Go.Cur
theorem nine_eq : [UInt8.ofNat 9, (0 : UInt8), 0, 0, 0, 0, 0, 0, 0, 0, 0, 0, 0, 0, 0, 0, 0, 0, 0, 0, 0, 0, 0, 0, 0, 0, 0, 0, 0, 0, 0, 0] = nineL := rfl
theorem zeros32 : [(0 : UInt8), 0, 0, 0, 0, 0, 0, 0, 0, 0, 0, 0, 0, 0, 0, 0, 0, 0, 0, 0, 0, 0, 0, 0, 0, 0, 0, 0, 0, 0, 0, 0] = List.replicate 32 0 := rfl
theorem eclm : EnvOk CLm := eok (gs := [(8, gMulP)]) ⟨conMulP, trivial⟩
theorem eclr : EnvOk CLr := eok (gs := [(16, gMulP)]) ⟨conMulR, trivial⟩
set_option maxRecDepth 100000 in
theorem conPub : Con Try.prog 13 gPub := con_of_vcs fun args ps res h hp => by
  unfold gPub at h
  split at h <;> cases h
  rename_i s
  refine ⟨CLm, 100, rfl, eclm, ?_⟩
  rw [vcPub]
  simp only [forall_eq, nine_eq, and_self]
set_option maxRecDepth 100000 in
theorem conPubR : Con Try.prog 14 gPub := con_of_vcs fun args ps res h hp => by
  unfold gPub at h
  split at h <;> cases h
  rename_i s
  refine ⟨CLr, 100, rfl, eclr, ?_⟩
  rw [vcPubR]
  simp only [forall_eq, nine_eq, and_self]
theorem share_yes {s p : List UInt8} (h : (keyL s p == List.replicate 32 0) = true) : Int.ofNat 21 = shareE s p := by
  unfold shareE; rw [if_pos (by simpa using h)]; rfl
theorem share_no {s p : List UInt8} (h : (keyL s p == List.replicate 32 0) = false) : Int.ofNat 0 = shareE s p := by
  unfold shareE; rw [if_neg (by simpa using h)]; rfl
set_option maxRecDepth 100000 in
theorem conShare : Con Try.prog 17 gShare := con_of_vcs fun args ps res h hp => by
  unfold gShare at h
  split at h <;> cases h
  rename_i s p
  refine ⟨CLm, 100, rfl, eclm, ?_⟩
  rw [vcShare]
  simp only [forall_eq, zeros32]
  exact ⟨fun h => ⟨trivial, share_yes h, trivial⟩, fun h => ⟨trivial, share_no h, trivial⟩⟩
set_option maxRecDepth 100000 in
theorem conShareR : Con Try.prog 18 gShare := con_of_vcs fun args ps res h hp => by
  unfold gShare at h
  split at h <;> cases h
  rename_i s p
  refine ⟨CLr, 100, rfl, eclr, ?_⟩
  rw [vcShareR]
  simp only [forall_eq, zeros32]
  exact ⟨fun h => ⟨trivial, share_yes h, trivial⟩, fun h => ⟨trivial, share_no h, trivial⟩⟩
set_option maxRecDepth 100000 in
theorem conMod : Con Try.prog 9 gMod := con_of_vcs fun args ps res h hp => by
  unfold gMod at h
  split at h <;> cases h
  rename_i x n
  obtain ⟨h1, h2⟩ := (all_cons.1 hp).1
  refine ⟨CLr, 100, rfl, eclr, ?_⟩
  rw [vcMod]
  simp only [forall_eq, io]
  refine ⟨fun h => absurd (of_decide_eq_true h) (by omega), fun _ => ⟨by omega, ?_, by omega, trivial, trivial⟩⟩
  have g1 := Int.tmod_lt_of_pos x (show 0 < n by omega)
  have g2 := Int.lt_tmod_of_pos x (show 0 < n by omega)
  unfold InI; omega
end Go.Proofs.Ythdhmciccohbeaa
