/- A step towards AeadSealsSaid: no conditions. -/
import Derived.Test.YtcfkgodidnhbdaaBlkVc
import Derived.Test.YtcfkgodidnhbdaaChaCon
import Derived.Test.YtcfkgodidnhbdaaCodCon
import Derived.Test.YtcfkgodidnhbdaaCodNum
namespace Go.Proofs.Ytcfkgodidnhbdaa
open Go Go.Eng Go.Cod Go.Cha
theorem u32lits : UInt32.ofNat 1634760805 = 1634760805 ∧ UInt32.ofNat 857760878 = 857760878 ∧ UInt32.ofNat 2036477234 = 2036477234 ∧ UInt32.ofNat 1797285236 = 1797285236 := ⟨rfl, rfl, rfl, rfl⟩
theorem take4_lt {α : Type} (l : List α) : (l.take 4).length < 4611686018427387904 := by rw [List.length_take]; omega
set_option maxRecDepth 100000 in
theorem conBlock : Con Try.prog 26 gBlock := con_of_vcl fun args ps res h hp hlen => by
  unfold gBlock at h
  split at h <;> cases h
  rename_i k c n
  obtain ⟨⟨hk, _⟩, _, ⟨hn, _⟩, _⟩ := hlen
  refine ⟨EB, 300, rfl, eok (gs := [(34, gReadL), (15, gLittleN), (35, gCore)]) ⟨conReadL, conLittleN4, conCore, trivial⟩, ?_⟩
  refine Eq.mpr (vcBlock k n c) ?_
  simp only [forall_eq, true_and, and_true, take4_lt, dropL_eq]
  repeat first | refine ⟨by decide, ?_⟩ | refine ⟨rfl, ?_⟩
  kernel_rfl
theorem stateR (k n : List UInt8) (c : UInt32) (hn : n.length = 12) :
    stateL k [[(shr64 c.toUInt64 0).toUInt8, (shr64 c.toUInt64 8).toUInt8, (shr64 c.toUInt64 16).toUInt8, (shr64 c.toUInt64 24).toUInt8], n].flatten = (blkIn k c n).l := by
  have e : [[(shr64 c.toUInt64 0).toUInt8, (shr64 c.toUInt64 8).toUInt8, (shr64 c.toUInt64 16).toUInt8, (shr64 c.toUInt64 24).toUInt8], n].flatten = littleL c.toUInt64 4 ++ n := by
    rw [List.flatten_cons, List.flatten_cons, List.flatten_nil, List.append_nil]; rfl
  rw [e]
  have h0 : rd (littleL c.toUInt64 4 ++ n) 0 = c := by
    unfold rd
    rw [List.drop_zero, List.take_append_of_le_length (by rw [littleL_len]; omega), List.take_of_length_le (by rw [littleL_len]; omega)]
    exact readL_little4 c
  have hd : ∀ i, rd (littleL c.toUInt64 4 ++ n) (4 + i) = rd n i := fun i => by
    unfold rd
    rw [List.drop_append, littleL_len, List.drop_of_length_le (by rw [littleL_len]; omega), List.nil_append, Nat.add_sub_cancel_left]
  have h4 := hd 0
  have h8 := hd 4
  have h12 := hd 8
  show [_, _, _, _, _, _, _, _, _, _, _, _, rd _ 0, rd _ (4 + 0), rd _ (4 + 4), rd _ (4 + 8)] = _
  rw [h0, h4, h8, h12]
  rfl
set_option maxRecDepth 100000 in
theorem conState : Con Try.prog 29 gState := con_of_vcl fun args ps res h hp hlen => by
  unfold gState at h
  split at h <;> cases h
  rename_i k m r
  obtain ⟨rfl, hp2⟩ := all_cons.1 hp
  have hr := (all_cons.1 hp2).1
  refine ⟨ESt, 300, rfl, eok (gs := [(39, gReadL)]) ⟨conReadLr, trivial⟩, ?_⟩
  refine Eq.mpr (vcState k r) ?_
  simp only [forall_eq, true_and, and_true, take4_lt, dropL_eq]
  repeat first | refine ⟨by omega, ?_⟩
  kernel_rfl
set_option maxRecDepth 100000 in
theorem conBlockR : Con Try.prog 22 gBlock := con_of_vcl fun args ps res h hp hlen => by
  unfold gBlock at h
  split at h <;> cases h
  rename_i k c n
  obtain ⟨⟨hk, _⟩, _, ⟨hn, _⟩, _⟩ := hlen
  have hn : n.length = 12 := hn
  refine ⟨EBr, 300, rfl, eok (gs := [(29, gState), (16, gLittleN), (30, gCore), (24, gJoin)]) ⟨conState, conLittleRN4, conCoreR, conJoinR, trivial⟩, ?_⟩
  refine Eq.mpr (vcBlockR k n c) ?_
  have fl : [[(shr64 c.toUInt64 0).toUInt8, (shr64 c.toUInt64 8).toUInt8, (shr64 c.toUInt64 16).toUInt8, (shr64 c.toUInt64 24).toUInt8], n].flatten.length = 16 := by simp [hn]
  have ft := List.take_of_length_le (Nat.le_of_eq fl)
  simp only [forall_eq, true_and, and_true, take4_lt, dropL_eq, List.drop_zero, ft, stateR k n c hn, fl]
  repeat first | refine ⟨by decide, ?_⟩ | refine ⟨rfl, ?_⟩
  kernel_rfl
end Go.Proofs.Ytcfkgodidnhbdaa
