/- A step towards AeadSealsSaid: no conditions. -/
import Derived.Test.YtcfkgodidnhbdaaAerVc
import Derived.Test.YtcfkgodidnhbdaaAedCon
import Derived.Test.YtcfkgodidnhbdaaPsrCon
namespace Go.Proofs.Ytcfkgodidnhbdaa
open Go Go.Eng Go.Cod Go.Cha Go.Pol Go.Aed
theorem fillL_len (b : List UInt8) : (fillL b).length = b.length + zp b.length := by unfold fillL; rw [List.length_append, zerosL_len]
theorem zp_mod (n x : Nat) (hx : x ≤ zp n) : ((n + x) % 16 = 0 ↔ x = zp n) := by unfold zp at *; omega
set_option maxRecDepth 100000 in
theorem conFilledR : Con Try.prog 25 gFilledR := con_of_vcs fun args ps res h hp => by
  unfold gFilledR at h
  split at h <;> cases h
  rename_i m b
  obtain ⟨rfl, hp1⟩ := all_cons.1 hp
  have hb := (all_cons.1 hp1).1
  refine ⟨ARf, 100, rfl, eok (gs := []) trivial, ?_⟩
  rw [vcFilledR b]
  have hz := zp_le b.length
  refine ⟨by omega, fun y hy => ⟨⟨0, by omega, rfl, rfl, by omega, by omega, by rw [hy]; simp, trivial⟩, fun x hx z hz2 => ⟨by decide, fun hd => ?_, fun hd => ?_⟩⟩⟩
  · have hd := of_decide_eq_true hd
    have e : z.tmod (Int.ofNat 16) = (((b.length + x) % 16 : Nat) : Int) := by rw [hz2]; rfl
    rw [e] at hd
    have hne : x ≠ zp b.length := fun h => hd (by rw [(zp_mod b.length x hx).2 h]; rfl)
    refine ⟨rfl, by omega, fun y hy => ⟨x + 1, by omega, by omega, rfl, rfl, by omega, by omega, ?_, trivial⟩⟩
    rw [hy, List.replicate_succ', List.append_assoc]
    rfl
  · have hd := of_decide_eq_false hd
    have e : z.tmod (Int.ofNat 16) = (((b.length + x) % 16 : Nat) : Int) := by rw [hz2]; rfl
    rw [e] at hd
    have hx2 : x = zp b.length := (zp_mod b.length x hx).1 (Int.ofNat.inj (Decidable.not_not.1 hd))
    subst hx2
    refine ⟨by omega, by rw [fillL_len], ?_, trivial⟩
    rw [dropL_zero, dropL_zero]
    exact List.take_of_length_le (by rw [List.length_append, List.length_replicate]; exact Nat.le_refl _)
theorem flat4 (a b c d : List UInt8) : [a, b, c, d].flatten = a ++ (b ++ (c ++ d)) := by simp
theorem mac_eq (c m : List UInt8) : fillL m ++ (fillL c ++ (littleL (to64 m.length) 8 ++ littleL (to64 c.length) 8)) = macL c m := by
  unfold fillL macL
  simp only [List.append_assoc]
set_option maxRecDepth 100000 in
theorem conTagR : Con Try.prog 18 gTag := con_of_vcs fun args ps res h hp => by
  unfold gTag at h
  split at h <;> cases h
  rename_i k n u c v m
  obtain ⟨rfl, hp1⟩ := all_cons.1 hp
  obtain ⟨rfl, hp2⟩ := all_cons.1 hp1
  obtain ⟨hc, hp3⟩ := all_cons.1 hp2
  have hm := (all_cons.1 hp3).1
  refine ⟨ARt, 200, rfl, eok (gs := [(22, gBlock), (25, gFilledR), (16, gLittleN), (24, gJoin), (23, gPoly)]) ⟨conBlockR, conFilledR, conLittleRN4, conJoinR, conPolyR, trivial⟩, ?_⟩
  rw [vcTagR k n c m]
  have hl := macL_len c m
  simp only [forall_eq, true_and, and_true, dropL_zero, Nat.zero_add, little8, flat4, mac_eq, List.take_length, Nat.le_refl]
  refine ⟨by decide, by omega, by omega, rfl, by decide, by omega, by omega, rfl⟩
set_option maxRecDepth 100000 in
theorem conSealR : Con Try.prog 10 gSeal := con_of_vcs fun args ps res h hp => by
  unfold gSeal at h
  split at h <;> cases h
  rename_i k n u p v m
  obtain ⟨rfl, hp1⟩ := all_cons.1 hp
  obtain ⟨rfl, hp2⟩ := all_cons.1 hp1
  obtain ⟨hc, hp3⟩ := all_cons.1 hp2
  have hm := (all_cons.1 hp3).1
  refine ⟨ARs, 200, rfl, eok (gs := [(17, gXor), (18, gTag)]) ⟨conXorR, conTagR, trivial⟩, ?_⟩
  rw [vcSealR k n p m]
  have t : List.take p.length (xorL k n (UInt32.ofNat 1) p) = xorL k n 1 p := List.take_of_length_le (by rw [xorL_len]; exact Nat.le_refl _)
  have t2 : List.take (p.length + 16) (sealL k n p m) = sealL k n p m := List.take_of_length_le (by rw [sealL_len]; exact Nat.le_refl _)
  have e : xorL k n (UInt32.ofNat 1) p ++ tagL k n (xorL k n 1 p) m = sealL k n p m := rfl
  simp only [forall_eq, true_and, and_true, dropL_zero, Nat.zero_add, t, e, t2, Nat.le_refl, xorL_len, sealL_len]
  refine ⟨by omega, hc, hm, by omega⟩
set_option maxRecDepth 100000 in
theorem conOpenR : Con Try.prog 13 gOpen := con_of_vcs fun args ps res h hp => by
  unfold gOpen at h
  split at h <;> cases h
  rename_i k n u s v m
  obtain ⟨rfl, hp1⟩ := all_cons.1 hp
  obtain ⟨rfl, hp2⟩ := all_cons.1 hp1
  obtain ⟨hc, hp3⟩ := all_cons.1 hp2
  have hm := (all_cons.1 hp3).1
  refine ⟨ARs, 200, rfl, eok (gs := [(17, gXor), (18, gTag)]) ⟨conXorR, conTagR, trivial⟩, ?_⟩
  rw [vcOpenR k n s m]
  intro y hy
  refine ⟨fun hd => ?_, fun hd y0 hy0 => ⟨?_, ?_⟩⟩
  · have hd := of_decide_eq_true hd
    have h16 : s.length < 16 := by have : y < 16 := hd; omega
    have e : openE k n s m = 2 := by unfold openE; rw [if_pos h16]
    have e2 : openL k n s m = [] := by unfold openL; rw [e]; rfl
    rw [e, e2]
    exact ⟨rfl, rfl, rfl, trivial⟩
  · subst hy0
    show InI ((s.length : Int) - 16)
    unfold InI; omega
  · have hd := of_decide_eq_false hd
    have h16 : ¬ s.length < 16 := by have : ¬ y < 16 := hd; omega
    have hy1' : y0 - Int.ofNat 16 = ((s.length - 16 : Nat) : Int) := by
      rw [hy0]
      show (s.length : Int) - 16 = _
      omega
    rw [hy1', Int.toNat_natCast, Nat.sub_zero]
    have l1 : (s.take (s.length - 16)).length = s.length - 16 := by rw [List.length_take]; omega
    have l2 : (s.drop (s.length - 16)).length ≤ s.length := by rw [List.length_drop]; omega
    refine ⟨by omega, rfl, rfl, by omega, hm, fun z hz z2 hz2 y3 hy3 => ⟨?_, fun hd => ?_, fun hd => ?_⟩⟩
    · have : y3 = ((s.length - 16 : Nat) : Int) := hy3
      omega
    · have e3 : y3 = ((s.length - 16 : Nat) : Int) := hy3
      rw [hz2, hz, e3, Int.toNat_natCast] at hd
      have hne : tagL k n (s.take (s.length - 16)) m ≠ s.drop (s.length - 16) := of_decide_eq_true hd
      have e : openE k n s m = 6 := by unfold openE; rw [if_neg h16, if_neg hne]
      have e2 : openL k n s m = [] := by unfold openL; rw [e]; rfl
      rw [e, e2]
      exact ⟨rfl, rfl, rfl, trivial⟩
    · have e3 : y3 = ((s.length - 16 : Nat) : Int) := hy3
      rw [hz2, hz, e3, Int.toNat_natCast] at hd
      have hne : tagL k n (s.take (s.length - 16)) m = s.drop (s.length - 16) := Decidable.not_not.1 (of_decide_eq_false hd)
      have e : openE k n s m = 0 := by unfold openE; rw [if_neg h16, if_pos hne]
      have e2 : openL k n s m = xorL k n 1 (s.take (s.length - 16)) := by unfold openL; rw [if_pos e]
      rw [e, e2]
      refine ⟨rfl, by omega, fun q hq => ⟨by omega, by rw [xorL_len], ?_, rfl, trivial⟩⟩
      rw [hq, dropL_zero, dropL_zero]
      exact List.take_of_length_le (by rw [xorL_len]; exact Nat.le_refl _)
set_option maxRecDepth 100000 in
theorem conCounterR : Con Try.prog 7 gCounter := con_of_vcs fun args ps res h hp => by
  unfold gCounter at h
  split at h <;> cases h
  rename_i c
  refine ⟨ARc, 200, rfl, eok (gs := [(16, gLittleN)]) ⟨conLittleRN4, trivial⟩, ?_⟩
  rw [vcCounterR c]
  simp only [forall_eq, true_and, and_true]
  exact ⟨Nat.le_refl _, rfl⟩
end Go.Proofs.Ytcfkgodidnhbdaa
