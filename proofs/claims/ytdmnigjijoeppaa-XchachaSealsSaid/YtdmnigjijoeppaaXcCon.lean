/- A step towards XchachaSealsSaid: no conditions. -/
import Derived.Test.YtdmnigjijoeppaaXcVc
import Derived.Test.YtdmnigjijoeppaaAedCon
namespace Go.Proofs.Ytdmnigjijoeppaa
open Go Go.Eng Go.Cod Go.Cha Go.Pol Go.Aed Go.Xc
theorem deriveL_len (k i : List UInt8) : (deriveL k i).length = 32 := rfl
set_option maxRecDepth 100000 in
theorem conDerive : Con Try.prog 7 gDerive := con_of_vcl fun args ps res h hp hlen => by
  unfold gDerive at h
  split at h <;> cases h
  rename_i k i
  refine ⟨XCd, 300, rfl, eok (gs := [(15, gReadL), (17, gLittleN), (16, gCore)]) ⟨conReadL, conLittleN4, conCore, trivial⟩, ?_⟩
  refine Eq.mpr (vcDerive k i) ?_
  simp only [forall_eq, true_and, and_true, take4_lt, dropL_eq]
  repeat first | refine ⟨by decide, ?_⟩ | refine ⟨rfl, ?_⟩
  kernel_rfl
theorem nonceL_len {n : List UInt8} (h : n.length = 24) : (nonceL n).length = 12 := by unfold nonceL; rw [List.length_append, List.length_replicate, List.length_take, List.length_drop]; omega
set_option maxRecDepth 100000 in
theorem conInside : Con Try.prog 21 gInside := con_of_vcl fun args ps res h hp hlen => by
  unfold gInside at h
  split at h <;> cases h
  rename_i k n
  have hn : n.length = 24 := hlen.2.1.1
  refine ⟨XCi, 300, rfl, eok (gs := [(7, gDerive), (30, gJoin)]) ⟨conDerive, conJoin, trivial⟩, ?_⟩
  refine Eq.mpr (vcInside k n) ?_
  have e : List.replicate 4 0 ++ List.take 8 (List.drop 16 n) = nonceL n := rfl
  have hl := nonceL_len hn
  simp only [forall_eq, true_and, and_true, dropL_eq, flat2, e, hl, List.take_of_length_le (Nat.le_of_eq hl)]
  exact ⟨by decide, by decide, rfl, by decide, by decide, by decide, by decide, rfl⟩
theorem t_self {x : List UInt8} : List.take x.length x = x := List.take_length
set_option maxRecDepth 100000 in
theorem conXSeal : Con Try.prog 9 gXSeal := con_of_vcs fun args ps res h hp => by
  unfold gXSeal at h
  split at h <;> cases h
  rename_i k n u p v m
  obtain ⟨rfl, hp1⟩ := all_cons.1 hp
  obtain ⟨rfl, hp2⟩ := all_cons.1 hp1
  obtain ⟨hc, hp3⟩ := all_cons.1 hp2
  have hm := (all_cons.1 hp3).1
  refine ⟨XCs, 200, rfl, eok (gs := [(21, gInside), (22, gSeal), (23, gOpen)]) ⟨conInside, conSeal, conOpen, trivial⟩, ?_⟩
  refine Eq.mpr (vcXSeal k n p m) ?_
  simp only [forall_eq, true_and, and_true, dropL_zero, Nat.zero_add, t_self, Nat.le_refl]
  exact ⟨hc, hm⟩
set_option maxRecDepth 100000 in
theorem conXOpen : Con Try.prog 10 gXOpen := con_of_vcs fun args ps res h hp => by
  unfold gXOpen at h
  split at h <;> cases h
  rename_i k n u s v m
  obtain ⟨rfl, hp1⟩ := all_cons.1 hp
  obtain ⟨rfl, hp2⟩ := all_cons.1 hp1
  obtain ⟨hc, hp3⟩ := all_cons.1 hp2
  have hm := (all_cons.1 hp3).1
  refine ⟨XCs, 200, rfl, eok (gs := [(21, gInside), (22, gSeal), (23, gOpen)]) ⟨conInside, conSeal, conOpen, trivial⟩, ?_⟩
  refine Eq.mpr (vcXOpen k n s m) ?_
  simp only [forall_eq, true_and, and_true, dropL_zero, Nat.zero_add, t_self, Nat.le_refl]
  exact ⟨hc, hm⟩
end Go.Proofs.Ytdmnigjijoeppaa
