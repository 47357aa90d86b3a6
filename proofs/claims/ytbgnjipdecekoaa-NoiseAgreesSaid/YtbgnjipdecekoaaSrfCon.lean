/- A step towards NoiseAgreesSaid: no conditions. -/
import Derived.Test.YtbgnjipdecekoaaSrfVc
import Derived.Test.YtbgnjipdecekoaaBrcCon
import Derived.Test.YtbgnjipdecekoaaSumCon

namespace Go.Proofs.Ytbgnjipdecekoaa
open Go Go.Eng Go.Cod Go.Cha Go.Bla
theorem tmod_natB (x m : Nat) : ((x : Int).tmod (m : Int)) = ((x % m : Nat) : Int) := rfl
theorem blk_pad (l : List UInt8) (x j : Nat) (hj : j ≤ nb l) (hx : l.length + x = 64 * (nb l + 1)) : List.take 64 (List.drop (64 * j) (l ++ List.replicate x 0)) = blk l j := by
  unfold nb at hj hx
  unfold blk over
  rw [List.drop_append_of_le_length (by omega), List.take_append, List.take_replicate, List.length_drop]
  simp only [List.take_zero, List.nil_append, Nat.zero_add, List.drop_replicate, List.length_take, List.length_drop]
  congr 2
  omega
theorem hstR_last (h : List UInt32) (l : List UInt8) : hstR h l (nb l + 1) = sumH h l := if_neg (by omega)
theorem hstR_le (h : List UInt32) (l : List UInt8) {j : Nat} (hj : j ≤ nb l) : hstR h l j = hst h l j := if_pos hj
theorem padK_text (key data : List UInt8) : padK key ++ data = textK key data := by
  unfold padK textK
  split
  · rfl
  · rw [List.append_assoc]
set_option maxRecDepth 100000 in
set_option maxHeartbeats 4000000 in
theorem conSumR : Con Try.prog 39 gSum := con_of_vcl fun args ps res h hp hlen => by
  unfold gSum at h
  split at h <;> cases h
  rename_i size m key n data
  obtain ⟨rfl, hp2⟩ := all_cons.1 hp
  obtain ⟨rfl, hp3⟩ := all_cons.1 hp2
  have hd := (all_cons.1 hp3).1
  refine ⟨BEsr, 300, rfl, eok (gs := [(51, gLittleN), (50, gComp)]) ⟨conLittleRN4, conCompR, trivial⟩, ?_⟩
  rw [vcSumR size key data]
  have hpl : (padK key).length + data.length = (textK key data).length := by rw [← padK_text, List.length_append]
  simp only [forall_eq, true_and, and_true, io, decide_eq_true_eq, decide_eq_false_iff_not, dropL_zero, Nat.zero_add, Nat.sub_zero, forall_const, Int.toNat_natCast, padK_text, hpl, tmod_natB]
  have e0 : ([UInt32.ofNat 1779033703, UInt32.ofNat 3144134277, UInt32.ofNat 1013904242, UInt32.ofNat 2773480762, UInt32.ofNat 1359893119, UInt32.ofNat 2600822924, UInt32.ofNat 528734635, UInt32.ofNat 1541459225].set 0
    ([UInt32.ofNat 1779033703, UInt32.ofNat 3144134277, UInt32.ofNat 1013904242, UInt32.ofNat 2773480762, UInt32.ofNat 1359893119, UInt32.ofNat 2600822924, UInt32.ofNat 528734635, UInt32.ofNat 1541459225].getD 0 0 ^^^ (UInt32.ofNat 16842752 ^^^ shl32 (to32 ↑key.length) 8 ^^^ to32 size))) = h0 size key.length := by kernel_rfl
  simp only [e0]
  have hl0 : (h0 size key.length).length = 8 := rfl
  have bad : ¬(1 ≤ size ∧ size ≤ 32 ∧ key.length ≤ 32) → (sumR size key data).length = 0 ∧ (sumR size key data).length = 0 ∧ ((1 : Nat) : Int) = sumE size key := fun hn => by
    simp only [sumR, sumE, if_neg hn]
    exact ⟨rfl, rfl, rfl⟩
  refine ⟨fun _ => bad (by omega), fun hs => ⟨fun _ => bad (by omega), fun hs2 => ⟨fun _ => bad (by omega), fun hk => ⟨fun hk0 => ⟨by omega, ⟨0, by omega, by omega, by omega, by simp⟩, fun x hx => ⟨fun hlt => ⟨by omega, x + 1, by omega, by omega, by omega, by omega, ?_⟩, fun hge => ⟨(), ?_⟩⟩⟩, fun hk0 => ⟨(), ?_⟩, ?_⟩⟩⟩⟩
  · rw [List.append_assoc, List.replicate_succ']; rfl
  · have hx64 : x = 64 - key.length := by omega
    have hne : ¬ key.length = 0 := by omega
    have e : padK key = key ++ List.replicate x 0 := by unfold padK; rw [if_neg hne, hx64]
    rw [e]
    simp
  · have e : padK key = [] := if_pos (by omega)
    rw [e]
    exact ⟨rfl, rfl, rfl⟩
  have hok : 1 ≤ size ∧ size ≤ 32 ∧ key.length ≤ 32 := by omega
  have hR : sumR size key data = ((sumH (h0 size key.length) (textK key data)).flatMap le4).take size.toNat := if_pos hok
  have hE : sumE size key = 0 := if_pos hok
  have hql := sum_len size (h0 size key.length) (textK key data) hl0 ⟨hok.1, hok.2.1⟩
  rw [hR, hE, hql]
  have hL : (textK key data).length ≤ 64 + data.length := by
    unfold textK
    split
    · omega
    · simp; omega
  generalize h0 size key.length = hh at *
  generalize textK key data = l at *
  clear hR hE bad e0 hpl
  refine ⟨by omega, ⟨0, Nat.zero_le _, by simp, by simp, by simp⟩, fun x hx => ⟨by decide, fun hm => ⟨?_, x + 1, ?_, ?_, by omega, by omega, ?_⟩, fun hm => ⟨fun hz => ⟨?_, x + 1, ?_, ?_, by omega, by omega, ?_⟩, fun hz => ?_⟩⟩⟩
  · unfold fillN nb at hx; omega
  · unfold fillN nb at hx ⊢; omega
  · unfold fillN nb at hx ⊢; omega
  · rw [List.append_assoc, List.replicate_succ']; rfl
  · unfold fillN nb at hx; omega
  · unfold fillN nb at hx ⊢; omega
  · unfold fillN nb at hx ⊢; omega
  · rw [List.append_assoc, List.replicate_succ']; rfl
  have hxe : l.length + x = 64 * (nb l + 1) := by unfold fillN nb at hx; unfold nb; omega
  have hML : (l ++ List.replicate x (0 : UInt8)).length = 64 * (nb l + 1) := by rw [List.length_append, List.length_replicate, hxe]
  have hT : List.take l.length (l ++ List.replicate x 0) = l := by simp
  rw [hT]
  have hB := blk_pad l x
  have hnb : nb l ≤ 70000000 := by unfold nb; omega
  generalize l ++ List.replicate x (0 : UInt8) = M at *
  rw [hML, hxe]
  have n64 : ∀ a : Nat, ((a : Int) + ((64 : Nat) : Int)).toNat = a + 64 := fun a => by omega
  refine ⟨⟨0, by omega, by omega, (hstR_le hh l (Nat.zero_le _)).symm⟩, fun j hj => ⟨fun hlt => ⟨inI_of (by omega) (by omega), inI_of (by omega) (by omega), fun hla => ⟨inI_of (by omega) (by omega), ⟨by omega, by omega⟩, ⟨by omega, by omega⟩, by omega, ?_, inI_of (by omega) (by omega), j + 1, by omega, by omega, by omega, ?_⟩, fun hla => ⟨inI_of (by omega) (by omega), ⟨by omega, by omega⟩, ⟨by omega, by omega⟩, by omega, ?_, inI_of (by omega) (by omega), j + 1, by omega, by omega, by omega, ?_⟩⟩, fun hge => ⟨by decide, by decide, by decide, by decide, by decide, by decide, by decide, by decide, ⟨by omega, by omega⟩, by omega, rfl, ?_⟩⟩⟩
  · rw [n64, List.length_take, List.length_drop, hML]; omega
  · have hje : j = nb l := by omega
    rw [n64, show 64 * j + 64 - 64 * j = 64 by omega, hB j (by omega) hxe, hje, hstR_le hh l (Nat.le_refl _), hstR_last, decide_eq_true (by omega)]
    rfl
  · rw [n64, List.length_take, List.length_drop, hML]; omega
  · rw [n64, show 64 * j + 64 - 64 * j = 64 by omega, hB j (by omega) hxe, hstR_le hh l (show j ≤ nb l by omega), hstR_le hh l (show j + 1 ≤ nb l by omega), decide_eq_false hla]
    rfl
  · have hje : j = nb l + 1 := by omega
    rw [hje, hstR_last]
    obtain ⟨w, ew⟩ := len8 (compL_len (blk l (nb l)) (to64 (l.length : Int)) true (hst_len l hl0 (nb l)))
    have ew : sumH hh l = w.l := ew
    rw [ew]
    exact ⟨by kernel_rfl, rfl⟩
end Go.Proofs.Ytbgnjipdecekoaa
