/- A step towards CurveAgreesSaid: no conditions. -/
import Derived.Test.YthdhmciccohbeaaCufLem
import Derived.Test.YthdhmciccohbeaaCuvLad
namespace Go.Cur
open Go Go.Eng Go.Cod Go.Pol
/-! bits of signed numbers -/
theorem iand_nat (x : Int) (m : Nat) (hm : m < 9223372036854775808) : iand x (m : Int) = (((x % 18446744073709551616).toNat &&& m : Nat) : Int) := by
  unfold iand
  have h1 : (BitVec.ofInt 64 (m : Int)).toNat = m := by
    rw [BitVec.toNat_ofInt]
    show ((m : Int) % ((2 ^ 64 : Nat) : Int)).toNat = m
    omega
  have h2 : (BitVec.ofInt 64 x).toNat = (x % 18446744073709551616).toNat := by
    rw [BitVec.toNat_ofInt]; rfl
  have h3 : (BitVec.ofInt 64 x &&& BitVec.ofInt 64 (m : Int)).toNat = (x % 18446744073709551616).toNat &&& m := by
    rw [BitVec.toNat_and, h1, h2]
  have h4 : (x % 18446744073709551616).toNat &&& m ≤ m := Nat.and_le_right
  rw [BitVec.toInt_eq_toNat_of_lt (by rw [h3]; omega), h3]
theorem iand1 (x : Int) : iand x 1 = x % 2 := by
  have := iand_nat x 1 (by decide)
  rw [show ((1 : Nat) : Int) = 1 from rfl] at this
  rw [this, Nat.and_two_pow_sub_one_eq_mod _ 1]; omega
theorem iand16 (x : Int) : iand x 65535 = x % 65536 := by
  have := iand_nat x 65535 (by decide)
  rw [show ((65535 : Nat) : Int) = 65535 from rfl] at this
  rw [this, Nat.and_two_pow_sub_one_eq_mod _ 16]; omega
theorem iand15 (x : Int) : iand x 32767 = x % 32768 := by
  have := iand_nat x 32767 (by decide)
  rw [show ((32767 : Nat) : Int) = 32767 from rfl] at this
  rw [this, Nat.and_two_pow_sub_one_eq_mod _ 15]; omega
theorem ior8 (a b : Nat) (ha : a < 256) (hb : b < 256) : ior (a : Int) ((b : Int) * 2 ^ 8) = ((a + 256 * b : Nat) : Int) := by
  unfold ior
  have h1 : (BitVec.ofInt 64 (a : Int)).toNat = a := by
    rw [BitVec.toNat_ofInt]
    show ((a : Int) % ((2 ^ 64 : Nat) : Int)).toNat = a
    omega
  have h2 : (BitVec.ofInt 64 ((b : Int) * 2 ^ 8)).toNat = b * 256 := by
    rw [BitVec.toNat_ofInt]
    show (((b : Int) * 2 ^ 8) % ((2 ^ 64 : Nat) : Int)).toNat = b * 256
    omega
  have h3 : (BitVec.ofInt 64 (a : Int) ||| BitVec.ofInt 64 ((b : Int) * 2 ^ 8)).toNat = a + 256 * b := by
    rw [BitVec.toNat_or, h1, h2, Nat.or_comm]
    have := Nat.shiftLeft_add_eq_or_of_lt (a := b) (b := a) (i := 8) (by omega)
    rw [Nat.shiftLeft_eq] at this
    rw [← this]
    omega
  rw [BitVec.toInt_eq_toNat_of_lt (by rw [h3]; omega), h3]
/-! ranges -/
theorem ev_range : ∀ (l : List Int), (∀ j, 0 ≤ d l j ∧ d l j ≤ 65535) → 0 ≤ ev l ∧ ev l < 65536 ^ l.length
  | [], _ => by simp [ev]
  | x :: r, h => by
    have h0 := h 0
    have ih := ev_range r (fun j => h (j + 1))
    have e0 : d (x :: r) 0 = x := rfl
    rw [e0] at h0
    show 0 ≤ x + 65536 * ev r ∧ x + 65536 * ev r < 65536 ^ (r.length + 1)
    rw [Int.pow_succ]
    generalize (65536 : Int) ^ r.length = p at *
    omega
theorem ev_cons {f : List Int} {n : Nat} (hl : f.length = n + 1) : ev f = d f 0 + 65536 * ev (f.drop 1) := by
  match f, hl with
  | x :: r, _ => rfl
theorem d_drop {f : List Int} (n j : Nat) : d (f.drop n) j = d f (j + n) := by
  unfold d; rw [List.getD_eq_getElem?_getD, List.getElem?_drop, List.getD_eq_getElem?_getD, Nat.add_comm]
theorem tail_range {f : List Int} (hl : f.length = 16) (h : ∀ j, 1 ≤ j → 0 ≤ d f j ∧ d f j ≤ 65535) : 0 ≤ ev (f.drop 1) ∧ ev (f.drop 1) < 1766847064778384329583297500742918515827483896875618958121606201292619776 := by
  have := ev_range (f.drop 1) (fun j => by rw [d_drop]; exact h (j + 1) (by omega))
  rw [List.length_drop, hl] at this
  exact this
theorem Dg.nm {f : List Int} (h : Dg f) : Nm f := ⟨h.len, by have := h.all 0; omega, by have := h.all 0; omega, fun j _ => h.all j⟩
theorem Dg.range {f : List Int} (h : Dg f) : 0 ≤ ev f ∧ ev f < 115792089237316195423570985008687907853269984665640564039457584007913129639936 := by
  have := ev_range f h.all
  rw [h.len] at this
  exact this
/-- carrying once makes the digits true ones -/
theorem carR_dg {f : List Int} (h : Nm f) : Dg (carR f) ∧ ∃ c, ev (carR f) = ev f - P2 * c := by
  have h0 := h.lo
  have h1 := h.hi
  obtain ⟨n, hc⟩ := carR_nm h.len (by omega) h.rest
  obtain ⟨g1, r, g2, g3, g4⟩ := carR_dig h.len (m := B17) (by decide) h.bd
  have e := carR_ev h.len
  have t0 := tail_range h.len h.rest
  have t1 := tail_range n.len g1
  have v0 := ev_cons h.len
  have v1 := ev_cons n.len
  rw [g4] at v1
  generalize d (carI f 15) 15 / 2 ^ 16 = c at *
  refine ⟨⟨n.len, fun j => ?_⟩, c, e⟩
  by_cases hj : j = 0
  · subst hj
    rw [g4]
    simp only [P2] at e
    rcases hc with rfl | rfl | rfl <;> omega
  · exact g1 j (by omega)
/-! taking the modulus away -/
theorem onceI_len (f : List Int) : ∀ i, (onceI f i).length = f.length
  | 0 => by rw [onceI, List.length_set]
  | i + 1 => by rw [onceI, onceS, List.length_set, List.length_set, onceI_len f i]
theorem mod_b {x : Int} (h : -65536 ≤ x ∧ x ≤ 65535) : x % 65536 = x + 65536 * (x / 65536 % 2) ∧ (x / 65536 % 2 = 0 ∨ x / 65536 % 2 = 1) := by omega
theorem once_inv {f : List Int} (h : Dg f) : ∀ i, i ≤ 14 → (∀ j, j < i → 0 ≤ d (onceI f i) j ∧ d (onceI f i) j ≤ 65535) ∧ (-65536 ≤ d (onceI f i) i ∧ d (onceI f i) i ≤ 65535) ∧ (∀ j, i < j → d (onceI f i) j = d f j) ∧
    ev (onceI f i) = ev f + 19 - 65536 * 65536 ^ i
  | 0, _ => by
    have h0 := h.all 0
    have l := h.len
    refine ⟨fun j hj => by omega, ?_, fun j hj => ?_, ?_⟩
    · rw [onceI, d_set (by omega)]; omega
    · rw [onceI, d_ne (by omega)]
    · rw [onceI, ev_set _ _ _ (by omega), Int.pow_zero]; omega
  | i + 1, hi => by
    obtain ⟨h1, h2, h3, h4⟩ := once_inv h i (by omega)
    have l : (onceI f i).length = 16 := by rw [onceI_len, h.len]
    have hb := h.all (i + 1)
    have hn := h3 (i + 1) (by omega)
    have c1 := mod_b h2
    have e : onceI f (i + 1) = ((onceI f i).set (i + 1) (d f (i + 1) - (65535 + d (onceI f i) i / 65536 % 2))).set i (d (onceI f i) i % 65536) := by
      show onceS (onceI f i) i = _
      unfold onceS
      rw [d_ne (by omega), hn, iand1, iand16]; rfl
    rw [e]
    refine ⟨fun j hj => ?_, ?_, fun j hj => ?_, ?_⟩
    · by_cases hji : i = j
      · subst hji
        rw [d_set (by rw [List.length_set]; omega)]; omega
      · rw [d_ne hji, d_ne (by omega)]
        exact h1 j (by omega)
    · rw [d_ne (by omega), d_set (by omega)]; omega
    · rw [d_ne (by omega), d_ne (by omega)]
      exact h3 j (by omega)
    · rw [ev_set _ _ _ (by rw [List.length_set]; omega), ev_set _ _ _ (by omega), d_ne (by omega), h4, hn, c1.1]
      have p1 : (65536 : Int) ^ (i + 1) = 65536 ^ i * 65536 := Int.pow_succ ..
      rw [p1]
      generalize (65536 : Int) ^ i = p
      grind
theorem once_ok {f : List Int} (h : Dg f) : Dg (onceR f) ∧ ev (onceR f) = if ev f < 57896044618658097711785492504343953926634992332820282019728792003956564819949 then ev f else ev f - 57896044618658097711785492504343953926634992332820282019728792003956564819949 := by
  obtain ⟨h1, h2, h3, h4⟩ := once_inv h 14 (by omega)
  have l : (onceI f 14).length = 16 := by rw [onceI_len, h.len]
  have hb := h.all 15
  have hn := h3 15 (by omega)
  have c1 := mod_b h2
  have p14 : (65536 : Int) ^ 14 = 26959946667150639794667015087019630673637144422540572481103610249216 := rfl
  have p15 : (65536 : Int) ^ 15 = 1766847064778384329583297500742918515827483896875618958121606201292619776 := rfl
  have eT : onceT (onceI f 14) = (onceI f 14).set 15 (d f 15 - (32767 + d (onceI f 14) 14 / 65536 % 2)) := by
    unfold onceT
    rw [hn, iand1]; rfl
  have d15 : d (onceT (onceI f 14)) 15 = d f 15 - (32767 + d (onceI f 14) 14 / 65536 % 2) := by rw [eT, d_set (by omega)]
  have d14 : d (onceT (onceI f 14)) 14 = d (onceI f 14) 14 := by rw [eT, d_ne (by omega)]
  have eZ : (onceT (onceI f 14)).set 14 (iand (d (onceT (onceI f 14)) 14) 65535) = ((onceI f 14).set 15 (d f 15 - (32767 + d (onceI f 14) 14 / 65536 % 2))).set 14 (d (onceI f 14) 14 % 65536) := by
    rw [d14, iand16, eT]
  have vZ : ev ((onceT (onceI f 14)).set 14 (iand (d (onceT (onceI f 14)) 14) 65535)) = ev f - 57896044618658097711785492504343953926634992332820282019728792003956564819949 := by
    rw [eZ, ev_set _ _ _ (by rw [List.length_set]; omega), ev_set _ _ _ (by omega), d_ne (by omega), h4, hn, c1.1, p14, p15]
    omega
  have lZ : ((onceT (onceI f 14)).set 14 (iand (d (onceT (onceI f 14)) 14) 65535)).length = 16 := by rw [eZ, List.length_set, List.length_set, l]
  have rZ : ∀ j, j ≠ 15 → 0 ≤ d ((onceT (onceI f 14)).set 14 (iand (d (onceT (onceI f 14)) 14) 65535)) j ∧ d ((onceT (onceI f 14)).set 14 (iand (d (onceT (onceI f 14)) 14) 65535)) j ≤ 65535 := fun j hj => by
    rw [eZ]
    by_cases h14 : j = 14
    · subst h14
      rw [d_set (by rw [List.length_set]; omega)]; omega
    · rw [d_ne (by omega), d_ne (by omega)]
      by_cases hj2 : j < 14
      · exact h1 j hj2
      · rw [h3 j (by omega)]; exact h.all j
  have sZ : d ((onceT (onceI f 14)).set 14 (iand (d (onceT (onceI f 14)) 14) 65535)) 15 = d f 15 - (32767 + d (onceI f 14) 14 / 65536 % 2) := by
    rw [eZ, d_ne (by omega), d_set (by omega)]
  have tk := ev_take ((onceT (onceI f 14)).set 14 (iand (d (onceT (onceI f 14)) 14) 65535)) 15 (by omega)
  rw [List.take_of_length_le (by omega), sZ, p15, vZ] at tk
  have rt := ev_range (((onceT (onceI f 14)).set 14 (iand (d (onceT (onceI f 14)) 14) 65535)).take 15) (fun j => by
    have e : d (((onceT (onceI f 14)).set 14 (iand (d (onceT (onceI f 14)) 14) 65535)).take 15) j = if j < 15 then d ((onceT (onceI f 14)).set 14 (iand (d (onceT (onceI f 14)) 14) 65535)) j else 0 := by
      unfold d
      rw [List.getD_eq_getElem?_getD, List.getElem?_take, List.getD_eq_getElem?_getD]
      split <;> rfl
    rw [e]
    split
    · exact rZ j (by omega)
    · omega)
  rw [List.length_take, lZ, show min 15 16 = 15 from rfl, p15] at rt
  unfold onceR
  rw [iand1, d15]
  split
  · rename_i hneg
    have : ev f < 57896044618658097711785492504343953926634992332820282019728792003956564819949 := by omega
    exact ⟨h, by rw [if_pos this]⟩
  · rename_i hneg
    have : ¬ ev f < 57896044618658097711785492504343953926634992332820282019728792003956564819949 := by omega
    refine ⟨⟨lZ, fun j => ?_⟩, by rw [if_neg this]; exact vZ⟩
    by_cases hj : j = 15
    · subst hj
      rw [sZ]; omega
    · exact rZ j hj
end Go.Cur
