/- A step towards NoiseAgreesSaid: no conditions. -/
import Derived.Test.YtbgnjipdecekoaaSumVc
import Derived.Test.YtbgnjipdecekoaaBlaCon2

namespace Go.Proofs.Ytbgnjipdecekoaa
open Go Go.Eng Go.Cod Go.Cha Go.Bla
theorem compL_len {l : List UInt32} (b : List UInt8) (t : UInt64) (z : Bool) (h : l.length = 8) : (compL l b t z).length = 8 := by
  obtain ⟨w, rfl⟩ := len8 h
  rfl
theorem hst_len {l0 : List UInt32} (l : List UInt8) (h : l0.length = 8) : ∀ j, (hst l0 l j).length = 8
  | 0 => h
  | j + 1 => compL_len _ _ _ (hst_len l h j)
theorem blk_eq (l : List UInt8) (x : Nat) (k : Nat) (hk : k = min (l.length - 64 * x) 64) : over (List.replicate 64 (0 : UInt8)) 0 (List.take 64 (List.take k (List.drop (64 * x) l))) = blk l x := by
  unfold blk
  congr 1
  rw [List.take_take, List.take_eq_take_iff, List.length_drop]
  omega
theorem blk_len (l : List UInt8) (x : Nat) : (blk l x).length = 64 := by
  unfold blk
  rw [over_len]
  · simp
  · simp; omega
theorem sum_len (size : Int) (l0 : List UInt32) (l : List UInt8) (h : l0.length = 8) (hs : 1 ≤ size ∧ size ≤ 32) : (((sumH l0 l).flatMap le4).take size.toNat).length = size.toNat := by
  obtain ⟨w, e⟩ := len8 (compL_len (blk l (nb l)) (to64 (l.length : Int)) true (hst_len l h (nb l)))
  have e : sumH l0 l = w.l := e
  rw [e, List.length_take]
  have : (w.l.flatMap le4).length = 32 := rfl
  rw [this]
  omega
set_option maxRecDepth 100000 in
set_option maxHeartbeats 4000000 in
theorem conSum : Con Try.prog 37 gSum := con_of_vcl fun args ps res h hp hlen => by
  unfold gSum at h
  split at h <;> cases h
  rename_i size m key n data
  obtain ⟨rfl, hp2⟩ := all_cons.1 hp
  obtain ⟨rfl, hp3⟩ := all_cons.1 hp2
  have hd := (all_cons.1 hp3).1
  refine ⟨BEsum, 300, rfl, eok (gs := [(38, gJoin), (43, gLittleN), (48, gComp)]) ⟨conJoin, conLittleN4, conComp, trivial⟩, ?_⟩
  refine Eq.mpr (vcSum size key data) ?_
  have bad : ¬(1 ≤ size ∧ size ≤ 32 ∧ key.length ≤ 32) → (sumR size key data).length = 0 ∧ (sumR size key data).length = 0 ∧ Int.ofNat 1 = sumE size key ∧ True := fun hn => by
    simp only [sumR, sumE, if_neg hn]
    exact ⟨rfl, rfl, rfl, trivial⟩
  have c1 : Int.ofNat 1 = 1 := rfl
  have c32 : Int.ofNat 32 = 32 := rfl
  have c0 : Int.ofNat 0 = 0 := rfl
  refine ⟨fun hs => bad fun hb => ?_, fun hs => ⟨fun hs2 => bad fun hb => ?_, fun hs2 k hk => ⟨fun hk2 => bad fun hb => ?_, fun hk2 => ?_⟩⟩⟩
  · have := of_decide_eq_true hs
    omega
  · have := of_decide_eq_true hs2
    omega
  · have := of_decide_eq_true hk2
    omega
  have hs := of_decide_eq_false hs
  have hs2 := of_decide_eq_false hs2
  have hk2 := of_decide_eq_false hk2
  have hok : 1 ≤ size ∧ size ≤ 32 ∧ key.length ≤ 32 := by omega
  have hR : sumR size key data = sumL size key data := if_pos hok
  have hE : sumE size key = 0 := if_pos hok
  rw [hR, hE]
  intro v0 hv0 v1 hv1 k2 hk2 hh hhh k4 hk4
  have hh0 : hh = h0 size key.length := by
    subst hhh hk2 hv1 hv0
    kernel_rfl
  have hl0 : hh.length = 8 := by rw [hh0]; rfl
  clear hhh
  refine ⟨fun hne k5 hk5 => ?_, fun he => ?_⟩
  rotate_left
  · have he := of_decide_eq_false he
    have hk0 : key.length = 0 := by omega
    have hT : sumL size key data = ((sumH (h0 size key.length) data).flatMap le4).take size.toNat := by unfold sumL textK; rw [if_pos hk0]
    refine ⟨⟨0, Nat.zero_le _, rfl, rfl, rfl, rfl, rfl, rfl, rfl, rfl, rfl, rfl, rfl, trivial⟩, ?_⟩
    intro x hx n1 hn1 n2 hn2 n3 hn3
    have hx' : x ≤ (data.length - 1) / 64 := hx
    rw [List.length_drop] at hn1
    have h64 : Int.ofNat 64 = 64 := rfl
    have e3 : n3 = ((min (data.length - 64 * x) 64 : Nat) : Int) := by omega
    have e3' : n3.toNat = min (data.length - 64 * x) 64 := by omega
    rw [e3', List.length_drop]
    refine ⟨by omega, by simp only [List.length_take, List.length_drop]; omega, ?_⟩
    intro bb hbb
    have hbb : bb = blk data x := hbb.trans (blk_eq data x _ rfl)
    refine ⟨inI_of (by omega) (by omega), by omega, ?_⟩
    intro p hp q hq
    refine ⟨rfl, by rw [hbb]; exact blk_len _ _, ?_⟩
    intro s hs s2 hs2 u hu
    refine ⟨fun hz => ?_, fun hz => ?_⟩
    · have hz := of_decide_eq_true hz
      have hxe : x = nb data := by unfold nb; omega
      have hy : s2 = sumH hh data := by
        rw [hs2, hs, hbb]
        unfold sumH
        rw [← hxe]
        have hp' : p = (data.length : Int) := by omega
        rw [hp', decide_eq_true (show q = Int.ofNat 0 by omega)]
      intro a0 ha0 b0 hb0
      refine ⟨by decide, ?_⟩
      intro c0 hc0
      intro a1 ha1 b1 hb1
      refine ⟨by decide, ?_⟩
      intro c1 hc1
      intro a2 ha2 b2 hb2
      refine ⟨by decide, ?_⟩
      intro c2 hc2
      intro a3 ha3 b3 hb3
      refine ⟨by decide, ?_⟩
      intro c3 hc3
      intro a4 ha4 b4 hb4
      refine ⟨by decide, ?_⟩
      intro c4 hc4
      intro a5 ha5 b5 hb5
      refine ⟨by decide, ?_⟩
      intro c5 hc5
      intro a6 ha6 b6 hb6
      refine ⟨by decide, ?_⟩
      intro c6 hc6
      intro a7 ha7 b7 hb7
      refine ⟨by decide, ?_⟩
      intro c7 hc7
      have hw : s2 = sumH hh data := hy
      obtain ⟨w, ew⟩ := len8 (compL_len (blk data (nb data)) (to64 (data.length : Int)) true (hst_len data hl0 (nb data)))
      have ew : sumH hh data = w.l := ew
      have hc : c7 = (sumH hh data).flatMap le4 := by
        rw [ew]
        rw [hw, ew] at ha0 ha1 ha2 ha3 ha4 ha5 ha6 ha7
        subst hc7 hb7 ha7 hc6 hb6 ha6 hc5 hb5 ha5 hc4 hb4 ha4 hc3 hb3 ha3 hc2 hb2 ha2 hc1 hb1 ha1 hc0 hb0 ha0
        kernel_rfl
      have hq : sumL size key data = ((sumH hh data).flatMap le4).take size.toNat := by rw [hT, hh0]
      have hql := sum_len size hh data hl0 ⟨hok.1, hok.2.1⟩
      rw [hq, hc]
      exact ⟨⟨by omega, by omega⟩, ⟨by omega, by omega⟩, by omega, hql.symm, rfl, rfl, trivial⟩
    · have hz := of_decide_eq_false hz
      have hp' : p = ((64 * (x + 1) : Nat) : Int) := by omega
      refine ⟨x + 1, by unfold nb; omega, by unfold nb; omega, rfl, rfl, rfl, rfl, rfl, rfl, by rw [List.length_drop]; omega, by rw [List.drop_drop]; congr 1; omega, hp', rfl, ?_, trivial⟩
      rw [hs2, hs, hbb, hp', decide_eq_false (show ¬ q = Int.ofNat 0 by omega)]
      rfl
  · have hne := of_decide_eq_true hne
    have hk0 : ¬ key.length = 0 := by omega
    have hz64 : Int.ofNat 64 - k5 = ((64 - key.length : Nat) : Int) := by have : Int.ofNat 64 = 64 := rfl; omega
    rw [hz64]
    have hz64' : (((64 - key.length : Nat) : Int)).toNat = 64 - key.length := rfl
    rw [hz64']
    have htx : [key, List.take (64 - key.length) (dropL (dropL (List.replicate (64 - key.length) (0 : UInt8)) 0) 0), data].flatten = textK key data := by
      unfold textK
      rw [if_neg hk0]
      show key ++ (List.take (64 - key.length) (List.replicate (64 - key.length) 0) ++ (data ++ [])) = _
      rw [List.take_of_length_le (by simp), List.append_nil]
    have htl : (textK key data).length = 64 + data.length := by
      unfold textK
      rw [if_neg hk0]
      simp
      omega
    refine ⟨inI_of (by omega) (by omega), ⟨by omega, by omega⟩, ⟨by omega, by omega⟩, rfl, by omega, rfl, by decide, by rw [htx, htl]; omega, ?_⟩
    rw [htx]
    intro tx htx'
    subst htx'
    have hT : sumL size key data = ((sumH (h0 size key.length) (textK key data)).flatMap le4).take size.toNat := rfl
    generalize textK key data = tx at *
    refine ⟨⟨0, Nat.zero_le _, rfl, rfl, rfl, rfl, rfl, rfl, rfl, rfl, rfl, rfl, rfl, rfl, rfl, rfl, rfl, rfl, rfl, rfl, rfl, rfl, trivial⟩, ?_⟩
    intro x hx n1 hn1 n2 hn2 n3 hn3
    have hx' : x ≤ (tx.length - 1) / 64 := hx
    have h64 : Int.ofNat 64 = 64 := rfl
    have e3 : n3 = ((min (tx.length - 64 * x) 64 : Nat) : Int) := by omega
    have e3' : n3.toNat = min (tx.length - 64 * x) 64 := by omega
    rw [e3']
    refine ⟨by omega, by omega, by simp only [List.length_take]; omega, ?_⟩
    intro bb hbb
    have hbb : bb = blk tx x := hbb.trans (blk_eq tx x _ rfl)
    refine ⟨inI_of (by omega) (by omega), by omega, ?_⟩
    intro p hp q hq
    refine ⟨rfl, by rw [hbb]; exact blk_len _ _, ?_⟩
    intro s hs s2 hs2 u hu
    refine ⟨fun hz => ?_, fun hz => ?_⟩
    · have hz := of_decide_eq_true hz
      have hxe : x = nb tx := by unfold nb; omega
      have hy : s2 = sumH hh tx := by
        rw [hs2, hs, hbb]
        unfold sumH
        rw [← hxe]
        have hp' : p = (tx.length : Int) := by omega
        rw [hp', decide_eq_true (show q = Int.ofNat 0 by omega)]
      intro a0 ha0 b0 hb0
      refine ⟨by decide, ?_⟩
      intro c0 hc0
      intro a1 ha1 b1 hb1
      refine ⟨by decide, ?_⟩
      intro c1 hc1
      intro a2 ha2 b2 hb2
      refine ⟨by decide, ?_⟩
      intro c2 hc2
      intro a3 ha3 b3 hb3
      refine ⟨by decide, ?_⟩
      intro c3 hc3
      intro a4 ha4 b4 hb4
      refine ⟨by decide, ?_⟩
      intro c4 hc4
      intro a5 ha5 b5 hb5
      refine ⟨by decide, ?_⟩
      intro c5 hc5
      intro a6 ha6 b6 hb6
      refine ⟨by decide, ?_⟩
      intro c6 hc6
      intro a7 ha7 b7 hb7
      refine ⟨by decide, ?_⟩
      intro c7 hc7
      have hw : s2 = sumH hh tx := hy
      obtain ⟨w, ew⟩ := len8 (compL_len (blk tx (nb tx)) (to64 (tx.length : Int)) true (hst_len tx hl0 (nb tx)))
      have ew : sumH hh tx = w.l := ew
      have hc : c7 = (sumH hh tx).flatMap le4 := by
        rw [ew]
        rw [hw, ew] at ha0 ha1 ha2 ha3 ha4 ha5 ha6 ha7
        subst hc7 hb7 ha7 hc6 hb6 ha6 hc5 hb5 ha5 hc4 hb4 ha4 hc3 hb3 ha3 hc2 hb2 ha2 hc1 hb1 ha1 hc0 hb0 ha0
        kernel_rfl
      have hq : sumL size key data = ((sumH hh tx).flatMap le4).take size.toNat := by rw [hT, hh0]
      have hql := sum_len size hh tx hl0 ⟨hok.1, hok.2.1⟩
      rw [hq, hc]
      exact ⟨⟨by omega, by omega⟩, ⟨by omega, by omega⟩, by omega, hql.symm, rfl, rfl, trivial⟩
    · have hz := of_decide_eq_false hz
      have hp' : p = ((64 * (x + 1) : Nat) : Int) := by omega
      refine ⟨x + 1, by unfold nb; omega, by unfold nb; omega, rfl, rfl, rfl, rfl, rfl, rfl, by omega, by omega, hp', rfl, ?_, rfl, rfl, rfl, rfl, rfl, rfl, rfl, rfl, rfl, trivial⟩
      rw [hs2, hs, hbb, hp', decide_eq_false (show ¬ q = Int.ofNat 0 by omega)]
      rfl
end Go.Proofs.Ytbgnjipdecekoaa
