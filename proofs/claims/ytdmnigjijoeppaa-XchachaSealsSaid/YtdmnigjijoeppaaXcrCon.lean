/- A step towards XchachaSealsSaid: no conditions. -/
import Derived.Test.YtdmnigjijoeppaaXcrVc
import Derived.Test.YtdmnigjijoeppaaXcCon
import Derived.Test.YtdmnigjijoeppaaAerCon
namespace Go.Proofs.Ytdmnigjijoeppaa
open Go Go.Eng Go.Cod Go.Cha Go.Pol Go.Aed Go.Xc
set_option maxRecDepth 100000 in
theorem conDeriveR : Con Try.prog 8 gDerive := con_of_vcl fun args ps res h hp hlen => by
  unfold gDerive at h
  split at h <;> cases h
  rename_i k i
  have hi : i.length = 16 := hlen.2.1.1
  refine ⟨XRd, 300, rfl, eok (gs := [(20, gLittleN), (19, gState), (18, gCore)]) ⟨conLittleRN4, conState, conCoreR, trivial⟩, ?_⟩
  refine Eq.mpr (vcDeriveR k i) ?_
  simp only [forall_eq, true_and, and_true]
  refine ⟨by omega, rfl, ?_⟩
  repeat first | refine ⟨by decide, ?_⟩ | refine ⟨rfl, ?_⟩
  kernel_rfl
set_option maxRecDepth 100000 in
theorem conInsideR : Con Try.prog 13 gInside := con_of_vcl fun args ps res h hp hlen => by
  unfold gInside at h
  split at h <;> cases h
  rename_i k n
  have hn : n.length = 24 := hlen.2.1.1
  refine ⟨XRi, 300, rfl, eok (gs := [(8, gDerive)]) ⟨conDeriveR, trivial⟩, ?_⟩
  refine Eq.mpr (vcInsideR k n) ?_
  have l8 : (List.take 8 (List.drop 16 n)).length = 8 := by rw [List.length_take, List.length_drop]; omega
  have e : over (List.replicate 12 (0 : UInt8)) 4 (List.take 8 (List.drop 16 n)) = nonceL n := by
    unfold over nonceL
    rw [l8, List.take_replicate, List.drop_replicate]
    simp
  simp only [forall_eq, true_and, and_true, dropL_eq, e]
  exact ⟨by decide, by decide, by decide, rfl⟩
set_option maxRecDepth 100000 in
theorem conXSealR : Con Try.prog 6 gXSeal := con_of_vcs fun args ps res h hp => by
  unfold gXSeal at h
  split at h <;> cases h
  rename_i k n u p v m
  obtain ⟨rfl, hp1⟩ := all_cons.1 hp
  obtain ⟨rfl, hp2⟩ := all_cons.1 hp1
  obtain ⟨hc, hp3⟩ := all_cons.1 hp2
  have hm := (all_cons.1 hp3).1
  refine ⟨XRs, 200, rfl, eok (gs := [(13, gInside), (14, gSeal), (24, gOpen)]) ⟨conInsideR, conSealR, conOpenR, trivial⟩, ?_⟩
  refine Eq.mpr (vcXSealR k n p m) ?_
  simp only [forall_eq, true_and, and_true, dropL_zero, Nat.zero_add, t_self, Nat.le_refl]
  exact ⟨hc, hm⟩
set_option maxRecDepth 100000 in
theorem conXOpenR : Con Try.prog 11 gXOpen := con_of_vcs fun args ps res h hp => by
  unfold gXOpen at h
  split at h <;> cases h
  rename_i k n u s v m
  obtain ⟨rfl, hp1⟩ := all_cons.1 hp
  obtain ⟨rfl, hp2⟩ := all_cons.1 hp1
  obtain ⟨hc, hp3⟩ := all_cons.1 hp2
  have hm := (all_cons.1 hp3).1
  refine ⟨XRs, 200, rfl, eok (gs := [(13, gInside), (14, gSeal), (24, gOpen)]) ⟨conInsideR, conSealR, conOpenR, trivial⟩, ?_⟩
  refine Eq.mpr (vcXOpenR k n s m) ?_
  simp only [forall_eq, true_and, and_true, dropL_zero, Nat.zero_add, t_self, Nat.le_refl]
  exact ⟨hc, hm⟩
end Go.Proofs.Ytdmnigjijoeppaa
