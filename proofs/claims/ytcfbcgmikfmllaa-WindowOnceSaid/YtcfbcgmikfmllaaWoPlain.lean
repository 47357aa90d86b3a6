/- A step towards WindowOnceSaid: no conditions. -/
import Derived.Test.YtcfbcgmikfmllaaWoSpec
namespace Go.Proofs.Ytcfbcgmikfmllaa
open Go Go.Eng
/-! what a window knows of the counters that it has accepted -/
def bitO (ws : List UInt64) (c : UInt64) : Bool := (ws.getD (ix c) 0).toBitVec.getLsbD (c.toNat % 64)
theorem shr_bit (x : UInt64) (k : Nat) : (shr64 x k &&& 1 == 0) = !x.toBitVec.getLsbD k := by
  have h : (shr64 x k &&& 1 = 0) ↔ x.toBitVec.getLsbD k = false := by
    constructor
    · intro h
      have h2 : (x.toBitVec >>> k) &&& 1#64 = 0#64 := UInt64.toBitVec_inj.2 h
      have h3 := congrArg (fun v => v.getLsbD 0) h2
      simpa [BitVec.getLsbD_and, BitVec.getLsbD_ushiftRight] using h3
    · intro h
      apply UInt64.toBitVec_inj.1
      show (x.toBitVec >>> k) &&& 1#64 = 0#64
      apply BitVec.eq_of_getLsbD_eq
      intro i hi
      rw [BitVec.getLsbD_and, BitVec.getLsbD_ushiftRight]
      by_cases h0 : i = 0
      · subst h0; simp [h]
      · simp [h0, BitVec.getLsbD_one]
  cases hb : x.toBitVec.getLsbD k with
  | true =>
    have : ¬ (shr64 x k &&& 1 = 0) := fun e => by rw [h.1 e] at hb; cases hb
    simp [this]
  | false => simp [h.2 hb]
theorem or_bit (x : UInt64) {k j : Nat} (hj : j < 64) : (x ||| shl64 1 k).toBitVec.getLsbD j = (x.toBitVec.getLsbD j || decide (j = k)) := by
  show (x.toBitVec ||| (1#64 <<< k)).getLsbD j = _
  rw [BitVec.getLsbD_or, BitVec.getLsbD_shiftLeft]
  congr 1
  by_cases h0 : j = k
  · subst h0; simp [hj]
  · by_cases h1 : j < k
    · simp [h1, h0]
    · have : ¬ j - k = 0 := by omega
      simp [h1, this, h0, BitVec.getLsbD_one]
theorem m64 (c : UInt64) : (c % 64).toNat = c.toNat % 64 := by rw [UInt64.toNat_mod]; rfl
theorem orAt_len (l : List UInt64) (c : UInt64) : (orAt l c).length = l.length := by unfold orAt; rw [List.length_set]
theorem orAt_bit {ws : List UInt64} (h : ws.length = 4) (c d : UInt64) : bitO (orAt ws c) d = (bitO ws d || (decide (ix c = ix d) && decide (d.toNat % 64 = c.toNat % 64))) := by
  have hc : ix c < ws.length := by rw [ix_eq]; omega
  have hd : d.toNat % 64 < 64 := Nat.mod_lt _ (by decide)
  unfold bitO
  show ((ws.set (ix c) (ws.getD (ix c) 0 ||| shl64 1 (c % 64).toNat)).getD (ix d) 0).toBitVec.getLsbD _ = _
  by_cases e : ix c = ix d
  · rw [← e, getD_set_eq hc, or_bit _ hd, m64]
    simp [e]
  · rw [getD_set_ne e]
    simp [e]
theorem clr_len (ws : List UInt64) (b : UInt64) : ∀ n, (clr ws b n).length = ws.length
  | 0 => rfl
  | n + 1 => by rw [clr, List.length_set, clr_len ws b n]
theorem clr_ix {b : UInt64} {n : Nat} (hb : b.toNat < 1099511627776) (hn : n < 5) : ((b + 1 + UInt64.ofNat n) % 4).toNat = (b.toNat + 1 + n) % 4 := by
  rw [UInt64.toNat_mod, UInt64.toNat_add, UInt64.toNat_add, UInt64.toNat_ofNat_of_lt' (by have : UInt64.size = 18446744073709551616 := rfl; omega)]
  have e : (4 : UInt64).toNat = 4 := rfl
  have e' : (1 : UInt64).toNat = 1 := rfl
  rw [e, e']; omega
theorem clr_keep {ws : List UInt64} {b : UInt64} (hb : b.toNat < 1099511627776) {j : Nat} : ∀ n, n ≤ 4 → (∀ i, i < n → (b.toNat + 1 + i) % 4 ≠ j) → (clr ws b n).getD j 0 = ws.getD j 0
  | 0, _, _ => rfl
  | n + 1, hn, h => by
    rw [clr, getD_set_ne (by rw [clr_ix hb (by omega)]; exact h n (by omega)), clr_keep hb n (by omega) fun i hi => h i (by omega)]
theorem clr_zero {ws : List UInt64} (hl : ws.length = 4) {b : UInt64} (hb : b.toNat < 1099511627776) {j : Nat} : ∀ n, n ≤ 4 → (∃ i, i < n ∧ (b.toNat + 1 + i) % 4 = j) → (clr ws b n).getD j 0 = 0
  | 0, _, h => by obtain ⟨i, hi, _⟩ := h; omega
  | n + 1, hn, h => by
    rw [clr]
    by_cases e : (b.toNat + 1 + n) % 4 = j
    · have e2 : ((b + 1 + UInt64.ofNat n) % 4).toNat = j := by rw [clr_ix hb (by omega)]; exact e
      rw [e2, getD_set_eq (by rw [clr_len, hl]; omega)]
    · rw [getD_set_ne (by rw [clr_ix hb (by omega)]; exact e)]
      obtain ⟨i, hi, he⟩ := h
      have : i ≠ n := fun q => by subst q; exact e he
      exact clr_zero hl hb n (by omega) ⟨i, by omega, he⟩
theorem bit0 (k : Nat) : (0 : UInt64).toBitVec.getLsbD k = false := by show (0#64).getLsbD k = false; simp
structure InvO (o : SO) : Prop where
  len : o.w.ws.length = 4
  zero : o.s = [] → o.w.u = false ∧ o.m = 0
  used : o.s ≠ [] → o.w.u = true ∧ o.w.t = o.m
  top : ∀ c ∈ o.s, c.toNat ≤ o.m.toNat
  small : o.m.toNat < 1099511627776
  bits : o.s ≠ [] → ∀ d : UInt64, d.toNat / 64 ≤ o.m.toNat / 64 → o.m.toNat / 64 < d.toNat / 64 + 4 → (bitO o.w.ws d = true ↔ d ∈ o.s)
theorem inv0 : InvO ⟨w0, [], 0⟩ := ⟨rfl, fun _ => ⟨rfl, rfl⟩, fun h => absurd rfl h, fun c h => by simp at h, by decide, fun h => absurd rfl h⟩
theorem add4 {c m : UInt64} (hc : c.toNat < 1099511627776) : (c / 64 + 4 ≤ m / 64) ↔ c.toNat / 64 + 4 ≤ m.toNat / 64 := by
  rw [UInt64.le_iff_toNat_le, UInt64.toNat_add, div64, div64]
  have e : (4 : UInt64).toNat = 4 := rfl
  rw [e]; omega
/-- a counter is accepted if it was not, and no counter at least four blocks later was -/
theorem once {o : SO} (h : InvO o) {c : UInt64} (hc : c.toNat < 1099511627776) : chk o.w c = (!o.s.contains c && !(decide (0 < o.s.length) && decide (c / 64 + 4 ≤ o.m / 64))) := by
  by_cases he : o.s = []
  · have hu := (h.zero he).1
    unfold chk
    rw [hu, he]
    simp
  · obtain ⟨hu, ht⟩ := h.used he
    have hl : 0 < o.s.length := List.length_pos_iff.2 he
    have hlen : decide (0 < o.s.length) = true := by simp [hl]
    rw [hlen]
    unfold chk
    rw [hu, ht]
    simp only [Bool.not_true, Bool.false_or, Bool.true_and]
    by_cases hlt : o.m < c
    · have hn := UInt64.lt_iff_toNat_lt.1 hlt
      have h1 : o.s.contains c = false := by
        cases hq : o.s.contains c with
        | false => rfl
        | true => exact absurd (h.top c (by simpa using hq)) (by omega)
      have h2 : decide (c / 64 + 4 ≤ o.m / 64) = false := by
        rw [decide_eq_false_iff_not, add4 hc]; omega
      rw [h1, h2]
      simp [hlt]
    · have hn : c.toNat ≤ o.m.toNat := by have := mt UInt64.lt_iff_toNat_lt.2 hlt; omega
      have hsub : (o.m / 64 - c / 64).toNat = o.m.toNat / 64 - c.toNat / 64 := by rw [sub_toNat (by rw [div64, div64]; omega), div64, div64]
      have e4 : (4 : UInt64).toNat = 4 := rfl
      have hfalse : decide (o.m < c) = false := by simp [hlt]
      rw [hfalse, Bool.false_or, shr_bit, m64]
      by_cases hw : o.m.toNat / 64 < c.toNat / 64 + 4
      · have h3 : decide (o.m / 64 - c / 64 < 4) = true := by
          rw [decide_eq_true_eq, UInt64.lt_iff_toNat_lt, hsub]; omega
        have h4 : decide (c / 64 + 4 ≤ o.m / 64) = false := by
          rw [decide_eq_false_iff_not, add4 hc]; omega
        rw [h3, h4]
        have hb := h.bits he c (by omega) hw
        have e : ((o.w.ws.getD (c / 64 % 4).toNat 0).toBitVec.getLsbD (c.toNat % 64)) = bitO o.w.ws c := rfl
        rw [e]
        cases hq : bitO o.w.ws c with
        | true =>
          have := hb.1 hq
          have h5 : o.s.contains c = true := by simpa using this
          rw [h5]; rfl
        | false =>
          have h5 : o.s.contains c = false := by
            cases hq2 : o.s.contains c with
            | false => rfl
            | true => rw [hb.2 (by simpa using hq2)] at hq; cases hq
          rw [h5]; rfl
      · have h3 : decide (o.m / 64 - c / 64 < 4) = false := by
          rw [decide_eq_false_iff_not, UInt64.lt_iff_toNat_lt, hsub]; omega
        have h4 : decide (c / 64 + 4 ≤ o.m / 64) = true := by
          rw [decide_eq_true_eq, add4 hc]; omega
        rw [h3, h4]
        simp
theorem ix_mod {c d : UInt64} : ix c = ix d ↔ c.toNat / 64 % 4 = d.toNat / 64 % 4 := by rw [ix_eq, ix_eq]
theorem same_of {c d : UInt64} (h1 : c.toNat / 64 = d.toNat / 64) (h2 : d.toNat % 64 = c.toNat % 64) : d = c := UInt64.toNat_inj.1 (by omega)
theorem step_inv {o : SO} (h : InvO o) {c : UInt64} (hc : c.toNat < 1099511627776) : InvO (stepO o c) := by
  unfold stepO
  split
  rotate_left
  · rename_i hk
    have hk : chk o.w c = false := by simpa using hk
    rw [acc_no' hk]
    exact h
  rename_i hk
  have hon := once h hc
  rw [hk] at hon
  have hnot : o.s.contains c = false := by
    cases hq : o.s.contains c with
    | false => rfl
    | true => rw [hq] at hon; simp at hon
  have hmem : c ∉ o.s := fun hm => by rw [List.contains_iff_mem.2 hm] at hnot; cases hnot
  rw [hnot, acc_yes' hk]
  simp only [cond_false]
  have hne : o.s ++ [c] ≠ [] := by simp
  by_cases he : o.s = []
  · obtain ⟨hu, hm⟩ := h.zero he
    have hmc : (if o.m < c then c else o.m) = c := by
      rw [hm]
      split
      · rfl
      · rename_i hq
        apply UInt64.toNat_inj.1
        have := mt UInt64.lt_iff_toNat_lt.2 hq
        have e : (0 : UInt64).toNat = 0 := rfl
        omega
    have ha : acc1 o.w c = ⟨true, c, List.replicate 4 0⟩ := by unfold acc1; rw [hu]; rfl
    rw [hmc, ha, he]
    refine ⟨by rw [orAt_len]; rfl, fun q => by simp at q, fun _ => ⟨rfl, rfl⟩, fun d hd => by simp at hd; subst hd; exact Nat.le_refl _, hc, fun _ d h1 h2 => ?_⟩
    show bitO (orAt (List.replicate 4 0) c) d = true ↔ d ∈ [] ++ [c]
    rw [orAt_bit rfl]
    have hz : bitO (List.replicate 4 0) d = false := by
      unfold bitO
      have : ix d < 4 := by rw [ix_eq]; omega
      generalize ix d = j at *
      match j, this with
      | 0, _ => exact bit0 _
      | 1, _ => exact bit0 _
      | 2, _ => exact bit0 _
      | 3, _ => exact bit0 _
    rw [hz]
    have h1 : d.toNat / 64 ≤ c.toNat / 64 := h1
    have h2 : c.toNat / 64 < d.toNat / 64 + 4 := h2
    simp only [Bool.false_or, Bool.and_eq_true, decide_eq_true_eq, ix_mod, List.nil_append, List.mem_singleton]
    constructor
    · rintro ⟨e1, e2⟩
      exact same_of (by omega) e2
    · rintro rfl
      exact ⟨rfl, rfl⟩
  · obtain ⟨hu, ht⟩ := h.used he
    by_cases hlt : o.m < c
    · have hn := UInt64.lt_iff_toNat_lt.1 hlt
      rw [if_pos hlt]
      have ha : acc1 o.w c = ⟨true, c, clr o.w.ws (o.m / 64) (m4 (c / 64 - o.m / 64)).toNat⟩ := by unfold acc1; rw [hu, ht]; simp [hlt]
      rw [ha]
      have hsub : (c / 64 - o.m / 64).toNat = c.toNat / 64 - o.m.toNat / 64 := by rw [sub_toNat (by rw [div64, div64]; omega), div64, div64]
      have hn4 : (m4 (c / 64 - o.m / 64)).toNat = min 4 (c.toNat / 64 - o.m.toNat / 64) := by
        unfold m4
        have e4 : (4 : UInt64).toNat = 4 := rfl
        split
        · rename_i h4
          have := UInt64.lt_iff_toNat_lt.1 h4
          omega
        · rename_i h4
          have := mt UInt64.lt_iff_toNat_lt.2 h4
          omega
      rw [hn4]
      have hbm : (o.m / 64).toNat < 1099511627776 := by rw [div64]; have := h.small; omega
      have hlen : (clr o.w.ws (o.m / 64) (min 4 (c.toNat / 64 - o.m.toNat / 64))).length = 4 := by rw [clr_len]; exact h.len
      refine ⟨by rw [orAt_len]; exact hlen, fun q => absurd q hne, fun _ => ⟨rfl, rfl⟩, fun d hd => ?_, hc, fun _ d h1 h2 => ?_⟩
      · rcases List.mem_append.1 hd with hd | hd
        · have := h.top d hd; show d.toNat ≤ c.toNat; omega
        · simp at hd; subst hd; exact Nat.le_refl _
      · have h1 : d.toNat / 64 ≤ c.toNat / 64 := h1
        have h2 : c.toNat / 64 < d.toNat / 64 + 4 := h2
        show bitO (orAt (clr o.w.ws (o.m / 64) (min 4 (c.toNat / 64 - o.m.toNat / 64))) c) d = true ↔ d ∈ o.s ++ [c]
        rw [orAt_bit hlen]
        have hself : (decide (ix c = ix d) && decide (d.toNat % 64 = c.toNat % 64)) = true ↔ d = c := by
          simp only [Bool.and_eq_true, decide_eq_true_eq, ix_mod]
          constructor
          · rintro ⟨e1, e2⟩
            exact same_of (by omega) e2
          · rintro rfl
            exact ⟨rfl, rfl⟩
        have hold : bitO (clr o.w.ws (o.m / 64) (min 4 (c.toNat / 64 - o.m.toNat / 64))) d = true ↔ d ∈ o.s := by
          by_cases hdm : d.toNat / 64 ≤ o.m.toNat / 64
          · have hk : bitO (clr o.w.ws (o.m / 64) (min 4 (c.toNat / 64 - o.m.toNat / 64))) d = bitO o.w.ws d := by
              unfold bitO
              rw [clr_keep hbm _ (by omega) fun i hi => by rw [div64, ix_eq]; omega]
            rw [hk]
            exact h.bits he d hdm (by omega)
          · have hz : bitO (clr o.w.ws (o.m / 64) (min 4 (c.toNat / 64 - o.m.toNat / 64))) d = false := by
              unfold bitO
              rw [clr_zero h.len hbm _ (by omega) (by
                rw [div64, ix_eq]
                by_cases h5 : c.toNat / 64 - o.m.toNat / 64 ≤ 4
                · exact ⟨d.toNat / 64 - o.m.toNat / 64 - 1, by omega, by omega⟩
                · exact ⟨(d.toNat / 64 - o.m.toNat / 64 - 1) % 4, by omega, by omega⟩)]
              exact bit0 _
            rw [hz]
            constructor
            · intro q; cases q
            · intro hd
              have := h.top d hd
              exact absurd this (by omega)
        rw [Bool.or_eq_true, hself, hold, List.mem_append, List.mem_singleton]
    · have hn : c.toNat ≤ o.m.toNat := by have := mt UInt64.lt_iff_toNat_lt.2 hlt; omega
      rw [if_neg hlt]
      have ha : acc1 o.w c = o.w := by unfold acc1; rw [hu, ht]; simp [hlt]
      rw [ha]
      have hwin : o.m.toNat / 64 < c.toNat / 64 + 4 := by
        rw [hnot] at hon
        have hl : 0 < o.s.length := List.length_pos_iff.2 he
        simp only [Bool.not_false, Bool.true_and] at hon
        have h5 : ¬ (c / 64 + 4 ≤ o.m / 64) := fun q => by simp [hl, q] at hon
        rw [add4 hc] at h5
        omega
      refine ⟨by rw [orAt_len]; exact h.len, fun q => absurd q hne, fun _ => ⟨hu, ht⟩, fun d hd => ?_, h.small, fun _ d h1 h2 => ?_⟩
      · rcases List.mem_append.1 hd with hd | hd
        · exact h.top d hd
        · simp at hd; subst hd; exact hn
      · have h1 : d.toNat / 64 ≤ o.m.toNat / 64 := h1
        have h2 : o.m.toNat / 64 < d.toNat / 64 + 4 := h2
        show bitO (orAt o.w.ws c) d = true ↔ d ∈ o.s ++ [c]
        rw [orAt_bit h.len]
        have hself : (decide (ix c = ix d) && decide (d.toNat % 64 = c.toNat % 64)) = true ↔ d = c := by
          simp only [Bool.and_eq_true, decide_eq_true_eq, ix_mod]
          constructor
          · rintro ⟨e1, e2⟩
            exact same_of (by omega) e2
          · rintro rfl
            exact ⟨rfl, rfl⟩
        rw [Bool.or_eq_true, hself, h.bits he d h1 h2, List.mem_append, List.mem_singleton]
theorem ctrO_small (fr : UInt32) (x : UInt16) : (ctrO fr x).toNat < 1099511627776 := by
  unfold ctrO
  have h1 := fr.toNat_lt
  rw [UInt64.toNat_add, UInt64.toNat_mod, UInt32.toNat_toUInt64, UInt16.toNat_toUInt64]
  have e : (1200 : UInt64).toNat = 1200 := rfl
  rw [e]; omega
theorem inv_all (fr : UInt32) (ls : List UInt16) : ∀ i, InvO (stO fr ls i)
  | 0 => inv0
  | i + 1 => step_inv (inv_all fr ls i) (ctrO_small fr _)
end Go.Proofs.Ytcfbcgmikfmllaa
