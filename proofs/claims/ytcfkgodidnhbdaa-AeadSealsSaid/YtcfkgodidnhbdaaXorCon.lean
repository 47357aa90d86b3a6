/- A step towards AeadSealsSaid: no conditions. -/
import Derived.Test.YtcfkgodidnhbdaaXorVc
import Derived.Test.YtcfkgodidnhbdaaBlkCon
namespace Go.Proofs.Ytcfkgodidnhbdaa
open Go Go.Eng Go.Cod Go.Cha
theorem tmod_nat (x m : Nat) : ((x : Int).tmod (m : Int)) = ((x % m : Nat) : Int) := rfl
theorem tdiv_nat (x m : Nat) : ((x : Int).tdiv (m : Int)) = ((x / m : Nat) : Int) := rfl
theorem to32_nat (x : Nat) : to32 (x : Int) = UInt32.ofNat x := by
  unfold to32
  rw [BitVec.ofInt_natCast]; rfl
theorem nat_toNat (x : Nat) : ((x : Int)).toNat = x := rfl
theorem dec_nat (x y : Nat) : decide ((x : Int) = (y : Int)) = decide (x = y) := by
  rw [decide_eq_decide]; omega
theorem declt_nat (x y : Nat) : decide ((x : Int) < (y : Int)) = decide (x < y) := by
  rw [decide_eq_decide]; omega
theorem ofNat_add1 (x : Nat) : UInt32.ofNat x + UInt32.ofNat 1 = UInt32.ofNat (x + 1) := (UInt32.ofNat_add ..).symm
theorem padAt_succ (k n : List UInt8) (c : UInt32) (x : Nat) (h : x % 64 ≠ 0) : padAt k n c x = padAt k n c (x + 1) := by
  cases x with
  | zero => simp at h
  | succ x =>
    show block k (c + UInt32.ofNat (x / 64)) n = block k (c + UInt32.ofNat ((x + 1) / 64)) n
    rw [show x / 64 = (x + 1) / 64 by omega]
set_option maxRecDepth 100000 in
theorem conXor : Con Try.prog 19 gXor := con_of_vcs fun args ps res h hp => by
  unfold gXor at h
  split at h <;> cases h
  rename_i k c n m d
  obtain ⟨rfl, hp2⟩ := all_cons.1 hp
  have hd := (all_cons.1 hp2).1
  refine ⟨EX, 300, rfl, eok (gs := [(26, gBlock)]) ⟨conBlock, trivial⟩, ?_⟩
  refine Eq.mpr (vcXor k n d c) ?_
  simp only [io, true_and, and_true, dropL_zero, Nat.zero_add, Nat.le_refl, tmod_nat, dec_nat, declt_nat, nat_toNat]
  refine ⟨⟨0, by omega, ?_, rfl, rfl, rfl, rfl, rfl⟩, fun x hx => ⟨fun h1 => ?_, fun h1 => ?_⟩⟩
  · show c = c + UInt32.ofNat 0
    exact (UInt32.add_zero c).symm
  · have h1 := of_decide_eq_true h1
    refine ⟨⟨by omega, by omega⟩, by omega, by decide, fun h2 => ?_, fun h2 => ?_⟩
    · have h2 := of_decide_eq_true h2
      refine ⟨by decide, ⟨by omega, by omega⟩, by omega, by omega, inI_of (by omega) (by omega), x + 1, by omega, by omega, ?_, rfl, rfl, ?_, rfl, ?_⟩
      · rw [UInt32.add_assoc, ofNat_add1, show (x + 63) / 64 + 1 = (x + 1 + 63) / 64 by omega]
      · show block k (c + UInt32.ofNat ((x + 63) / 64)) n = block k (c + UInt32.ofNat (x / 64)) n
        rw [show (x + 63) / 64 = x / 64 by omega]
      · rw [show (x + 63) / 64 = x / 64 by omega]; rfl
    · have h2 := of_decide_eq_false h2
      have e := padAt_succ k n c x h2
      refine ⟨by decide, ⟨by omega, by omega⟩, by omega, by omega, inI_of (by omega) (by omega), x + 1, by omega, by omega, ?_, rfl, rfl, e, rfl, ?_⟩
      · rw [show (x + 63) / 64 = (x + 1 + 63) / 64 by omega]
      · rw [e]; rfl
  · have h1 := of_decide_eq_false h1
    have e : x = d.length := by omega
    rw [e]
    exact ⟨rfl, by rw [List.take_of_length_le (by rw [xorTo_len]; exact Nat.le_refl _)]; rfl⟩
set_option maxRecDepth 100000 in
theorem conXorR : Con Try.prog 17 gXor := con_of_vcs fun args ps res h hp => by
  unfold gXor at h
  split at h <;> cases h
  rename_i k c n m d
  obtain ⟨rfl, hp2⟩ := all_cons.1 hp
  have hd := (all_cons.1 hp2).1
  refine ⟨EXr, 300, rfl, eok (gs := [(22, gBlock)]) ⟨conBlockR, trivial⟩, ?_⟩
  refine Eq.mpr (vcXorR k n d c) ?_
  simp only [io, true_and, and_true, dropL_zero, Nat.zero_add, Nat.le_refl, tmod_nat, tdiv_nat, to32_nat, dec_nat, declt_nat, nat_toNat]
  refine ⟨⟨0, by omega, rfl, rfl, rfl, rfl, rfl⟩, fun x hx => ⟨fun h1 => ?_, fun h1 => ?_⟩⟩
  · have h1 := of_decide_eq_true h1
    refine ⟨⟨by omega, by omega⟩, by omega, by decide, fun h2 => ?_, fun h2 => ?_⟩
    · have h2 := of_decide_eq_true h2
      exact ⟨⟨by decide, inI_of (by omega) (by omega)⟩, by decide, ⟨by omega, by omega⟩, by omega, by omega, inI_of (by omega) (by omega), x + 1, by omega, by omega, rfl, rfl, rfl, rfl, rfl⟩
    · have h2 := of_decide_eq_false h2
      have e := padAt_succ k n c x h2
      exact ⟨by decide, ⟨by omega, by omega⟩, by omega, by omega, inI_of (by omega) (by omega), x + 1, by omega, by omega, rfl, rfl, e, rfl, by rw [e]; rfl⟩
  · have h1 := of_decide_eq_false h1
    have e : x = d.length := by omega
    rw [e]
    exact ⟨rfl, by rw [List.take_of_length_le (by rw [xorTo_len]; exact Nat.le_refl _)]; rfl⟩
end Go.Proofs.Ytcfkgodidnhbdaa
