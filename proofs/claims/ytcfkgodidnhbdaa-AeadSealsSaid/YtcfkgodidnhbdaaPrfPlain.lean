/- A step towards AeadSealsSaid: no conditions. -/
import Derived.Test.YtcfkgodidnhbdaaPrfSpec
namespace Go.Pol
open Go Go.Eng Go.Cod
theorem lt32 (x : UInt32) : x.toNat < 4294967296 := x.toNat_lt
theorem valD_append : ∀ (a b : List UInt32), valD (a ++ b) = valD a + 256 ^ a.length * valD b
  | [], b => by simp [valD]
  | x :: a, b => by
    rw [List.cons_append, valD, valD_append a b, valD, List.length_cons, Nat.pow_succ, Nat.mul_add, Nat.mul_comm (256 ^ a.length) 256, Nat.mul_assoc]
    omega
theorem digs_len (n : Nat) : ∀ j, (digs n j).length = j
  | 0 => rfl
  | j + 1 => by simp [digs, digs_len n j]
theorem ofNat_dig (x : Nat) : (UInt32.ofNat (x % 256)).toNat = x % 256 := UInt32.toNat_ofNat_of_lt' (by have : UInt32.size = 4294967296 := rfl; omega)
theorem digs_val (n : Nat) : ∀ j, valD (digs n j) = n % 256 ^ j
  | 0 => by simp [digs, valD, Nat.mod_one]
  | j + 1 => by
    rw [digs, valD_append, digs_val n j, digs_len, valD, valD, ofNat_dig, Nat.mul_zero, Nat.add_zero]
    exact (Nat.mod_pow_succ).symm
theorem digs_small (n : Nat) : ∀ j, small (digs n j) 256
  | 0 => by intro x hx; cases hx
  | j + 1 => by
    intro x hx
    rcases List.mem_append.1 hx with h | h
    · exact digs_small n j x h
    · rw [List.mem_singleton] at h
      rw [h, ofNat_dig]
      exact Nat.mod_lt _ (by decide)
theorem digs_congr {n m : Nat} : ∀ {j : Nat}, n % 256 ^ j = m % 256 ^ j → digs n j = digs m j
  | 0, _ => rfl
  | j + 1, h => by
    have hp : 0 < 256 ^ j := Nat.pow_pos (by decide)
    have e : ∀ x : Nat, x % 256 ^ (j + 1) % 256 ^ j = x % 256 ^ j := fun x => by rw [Nat.pow_succ, Nat.mod_mul_right_mod]
    have f : ∀ x : Nat, x % 256 ^ (j + 1) / 256 ^ j = x / 256 ^ j % 256 := fun x => by rw [Nat.pow_succ, Nat.mod_mul_right_div_self]
    rw [digs, digs, digs_congr (j := j) ((e n).symm.trans ((congrArg (· % 256 ^ j) h).trans (e m))), (f n).symm.trans ((congrArg (· / 256 ^ j) h).trans (f m))]
theorem digs_add (n m j : Nat) : digs (n + 256 ^ j * m) j = digs n j := digs_congr (by rw [Nat.add_mul_mod_self_left])
theorem digs_mod (n j : Nat) : digs (n % 256 ^ j) j = digs n j := digs_congr (Nat.mod_mod _ _)
theorem pv_zero (l : List UInt32) : pv l 0 = 0 := rfl
theorem pv_succ {l : List UInt32} {j : Nat} (h : j < l.length) : pv l (j + 1) = pv l j + 256 ^ j * (l.getD j 0).toNat := by
  unfold pv
  rw [List.take_add_one, List.getElem?_eq_getElem h, Option.toList_some, valD_append, List.length_take, Nat.min_eq_left (by omega), valD, valD, Nat.mul_zero, Nat.add_zero, List.getD_eq_getElem?_getD, List.getElem?_eq_getElem h]
  rfl
theorem pv_all (l : List UInt32) : pv l l.length = valD l := by unfold pv; rw [List.take_length]
theorem small_get {l : List UInt32} {B : Nat} (h : small l B) (hB : 0 < B) (j : Nat) : (l.getD j 0).toNat < B := by
  rw [List.getD_eq_getElem?_getD]
  by_cases hj : j < l.length
  · rw [List.getElem?_eq_getElem hj]; exact h _ (List.getElem_mem hj)
  · rw [List.getElem?_eq_none (by omega)]; exact hB
theorem pv_lt {l : List UInt32} {B : Nat} (h : small l B) (hB : 0 < B) : ∀ {j : Nat}, j ≤ l.length → pv l j + B ≤ B * 256 ^ j
  | 0, _ => by rw [pv_zero]; omega
  | j + 1, hj => by
    have ih := pv_lt h hB (j := j) (by omega)
    have hs := small_get h hB j
    rw [pv_succ (by omega), Nat.pow_succ]
    have := Nat.mul_le_mul_left (256 ^ j) (show (l.getD j 0).toNat + 1 ≤ B by omega)
    rw [Nat.mul_add, Nat.mul_one] at this
    have hp : 1 ≤ 256 ^ j := Nat.one_le_pow _ _ (by decide)
    rw [← Nat.mul_assoc, Nat.mul_comm (256 ^ j) B] at *
    omega
/-- the carry is small -/
theorem carry_lt {l : List UInt32} {B c : Nat} (h : small l B) (hB : 0 < B) {j : Nat} (hj : j ≤ l.length) : (c + pv l j) / 256 ^ j ≤ c + B := by
  have hp : 0 < 256 ^ j := Nat.pow_pos (by decide)
  have := pv_lt h hB hj
  have h1 : c + pv l j ≤ (c + B) * 256 ^ j := by
    rw [Nat.add_mul]
    have : c * 1 ≤ c * 256 ^ j := Nat.mul_le_mul_left c hp
    omega
  exact Nat.div_le_of_le_mul (by rw [Nat.mul_comm]; exact h1)
theorem getD_mid {n j : Nat} {l : List UInt32} : (digs n j ++ l.drop j).getD j 0 = l.getD j 0 := by
  rw [List.getD_eq_getElem?_getD, List.getElem?_append_right (by rw [digs_len]; exact Nat.le_refl _), digs_len, Nat.sub_self, List.getElem?_drop, Nat.add_zero, List.getD_eq_getElem?_getD]
theorem set_mid {n j : Nat} {l : List UInt32} (h : j < l.length) (x : UInt32) : (digs n j ++ l.drop j).set j x = (digs n j ++ [x]) ++ l.drop (j + 1) := by
  rw [List.set_append_right _ _ (by rw [digs_len]; exact Nat.le_refl _), digs_len, Nat.sub_self, List.drop_eq_getElem_cons h, List.set_cons_zero]
  simp
theorem and255 (x : UInt32) : (x &&& UInt32.ofNat 255).toNat = x.toNat % 256 := by
  rw [UInt32.toNat_and]
  exact Nat.and_two_pow_sub_one_eq_mod x.toNat 8
theorem and3d (x : UInt32) : (x &&& UInt32.ofNat 3).toNat = x.toNat % 4 := by
  rw [UInt32.toNat_and]
  exact Nat.and_two_pow_sub_one_eq_mod x.toNat 2
theorem ofNat_lt {n : Nat} (h : n < 4294967296) : (UInt32.ofNat n).toNat = n := UInt32.toNat_ofNat_of_lt' h
/-- one step of carrying: N is what was added up so far, t the next digit's term -/
theorem step_gen {N t j : Nat} {v : UInt32} (hv : v.toNat = N / 256 ^ j + t) :
    shr32 v 8 = UInt32.ofNat ((N + 256 ^ j * t) / 256 ^ (j + 1)) ∧ digs N j ++ [v &&& UInt32.ofNat 255] = digs (N + 256 ^ j * t) (j + 1) := by
  have hp : 0 < 256 ^ j := Nat.pow_pos (by decide)
  have e : (N + 256 ^ j * t) / 256 ^ j = v.toNat := by rw [Nat.add_mul_div_left _ _ hp, hv]
  constructor
  · apply UInt32.toNat_inj.1
    rw [Nat.pow_succ, ← Nat.div_div_eq_div_mul, e, Cod.shr32_toNat, ofNat_lt (by have := lt32 v; omega)]
  · rw [digs, digs_add, e]
    congr 2
    apply UInt32.toNat_inj.1
    rw [and255, ofNat_dig]
theorem carry_step {c : UInt32} {l : List UInt32} {B j : Nat} (h : small l B) (hB : 0 < B) (hj : j < l.length) (hb : c.toNat + 2 * B ≤ 4294967296) :
    shr32 (UInt32.ofNat ((c.toNat + pv l j) / 256 ^ j) + (digs (c.toNat + pv l j) j ++ l.drop j).getD j 0) 8 = UInt32.ofNat ((c.toNat + pv l (j + 1)) / 256 ^ (j + 1)) ∧
    (digs (c.toNat + pv l j) j ++ l.drop j).set j ((UInt32.ofNat ((c.toNat + pv l j) / 256 ^ j) + (digs (c.toNat + pv l j) j ++ l.drop j).getD j 0) &&& UInt32.ofNat 255) = digs (c.toNat + pv l (j + 1)) (j + 1) ++ l.drop (j + 1) := by
  rw [getD_mid, set_mid hj, pv_succ hj, ← Nat.add_assoc]
  have h1 := carry_lt (c := c.toNat) h hB (j := j) (by omega)
  have h2 := small_get h hB j
  have hv : (UInt32.ofNat ((c.toNat + pv l j) / 256 ^ j) + l.getD j 0).toNat = (c.toNat + pv l j) / 256 ^ j + (l.getD j 0).toNat := by
    rw [UInt32.toNat_add, ofNat_lt (by omega), Nat.mod_eq_of_lt (by omega)]
  obtain ⟨g1, g2⟩ := step_gen (j := j) hv
  rw [g2]
  exact ⟨g1, rfl⟩
theorem plus_step {a b : List UInt32} {j : Nat} (ha : small a 1048576) (hb : small b 1048576) (hja : j < a.length) (hjb : j < b.length) :
    shr32 (UInt32.ofNat ((pv a j + pv b j) / 256 ^ j) + ((digs (pv a j + pv b j) j ++ a.drop j).getD j 0 + b.getD j 0)) 8 = UInt32.ofNat ((pv a (j + 1) + pv b (j + 1)) / 256 ^ (j + 1)) ∧
    (digs (pv a j + pv b j) j ++ a.drop j).set j ((UInt32.ofNat ((pv a j + pv b j) / 256 ^ j) + ((digs (pv a j + pv b j) j ++ a.drop j).getD j 0 + b.getD j 0)) &&& UInt32.ofNat 255) = digs (pv a (j + 1) + pv b (j + 1)) (j + 1) ++ a.drop (j + 1) := by
  rw [getD_mid, set_mid hja, pv_succ hja, pv_succ hjb]
  have h1 := pv_lt ha (by decide) (j := j) (by omega)
  have h2 := pv_lt hb (by decide) (j := j) (by omega)
  have h3 := small_get ha (by decide) j
  have h4 := small_get hb (by decide) j
  have hp : 0 < 256 ^ j := Nat.pow_pos (by decide)
  have hd : (pv a j + pv b j) / 256 ^ j ≤ 2097152 := Nat.div_le_of_le_mul (by rw [Nat.mul_comm]; omega)
  have hv : (UInt32.ofNat ((pv a j + pv b j) / 256 ^ j) + (a.getD j 0 + b.getD j 0)).toNat = (pv a j + pv b j) / 256 ^ j + ((a.getD j 0).toNat + (b.getD j 0).toNat) := by
    rw [UInt32.toNat_add, UInt32.toNat_add, ofNat_lt (by omega), Nat.mod_eq_of_lt (a := (a.getD j 0).toNat + _) (by omega), Nat.mod_eq_of_lt (by omega)]
  obtain ⟨g1, g2⟩ := step_gen (j := j) hv
  rw [g2]
  have e : pv a j + pv b j + 256 ^ j * ((a.getD j 0).toNat + (b.getD j 0).toNat) = pv a j + 256 ^ j * (a.getD j 0).toNat + (pv b j + 256 ^ j * (b.getD j 0).toNat) := by rw [Nat.mul_add]; omega
  rw [← e]
  exact ⟨g1, rfl⟩
theorem p16 : (256 : Nat) ^ 16 = 340282366920938463463374607431768211456 := rfl
theorem p17 : (256 : Nat) ^ 17 = 87112285931760246646623899502532662132736 := rfl
theorem d17_len (n : Nat) : (d17 n).length = 17 := by unfold d17; simp [digs_len]
theorem d17_val {n : Nat} (h : n < 1461501637330902918203684832716283019655932542976) : valD (d17 n) = n := by
  unfold d17
  rw [valD_append, digs_val, digs_len, valD, valD, p16, ofNat_lt (by omega)]
  omega
theorem d17_small {n : Nat} (h : n < 87112285931760246646623899502532662132736) : small (d17 n) 256 := by
  intro x hx
  unfold d17 at hx
  rcases List.mem_append.1 hx with h1 | h1
  · exact digs_small n 16 x h1
  · rw [List.mem_singleton] at h1
    rw [h1, p16, ofNat_lt (by omega)]
    omega
theorem small_mono {l : List UInt32} {B C : Nat} (h : small l B) (hBC : B ≤ C) : small l C := fun x hx => Nat.lt_of_lt_of_le (h x hx) hBC
theorem top_eq {l : List UInt32} (hl : l.length = 17) (hs : small l 536870912) :
    (UInt32.ofNat ((0 + pv l 16) / 256 ^ 16) + (digs (0 + pv l 16) 16 ++ l.drop 16).getD 16 0).toNat = valD l / 256 ^ 16 ∧ valD l / 256 ^ 16 < 1073741825 ∧ digs (0 + pv l 16) 16 = digs (valD l) 16 := by
  have hv : valD l = pv l 16 + 256 ^ 16 * (l.getD 16 0).toNat := by
    have h := pv_all l
    rw [hl, pv_succ (by omega)] at h
    exact h.symm
  have hp : 0 < 256 ^ 16 := by decide
  have h1 := carry_lt (c := 0) hs (by decide) (j := 16) (by omega)
  have h2 := small_get hs (by decide) 16
  rw [getD_mid, Nat.zero_add] at *
  refine ⟨?_, ?_, ?_⟩
  · rw [UInt32.toNat_add, ofNat_lt (by omega), hv, Nat.add_mul_div_left _ _ hp, Nat.mod_eq_of_lt (by omega)]
  · rw [hv, Nat.add_mul_div_left _ _ hp]; omega
  · rw [hv, digs_add]
theorem last_get {n : Nat} {l : List UInt32} (hl : l.length = 17) : (digs n 16 ++ l.drop 16).getD 16 0 = l.getD 16 0 := getD_mid
theorem set16 {n : Nat} {l : List UInt32} (hl : l.length = 17) (x : UInt32) : (digs n 16 ++ l.drop 16).set 16 x = digs n 16 ++ [x] := by
  rw [set_mid (by omega), List.drop_of_length_le (by omega), List.append_nil]
/-- behind both passes -/
theorem round_fin {l : List UInt32} {U : UInt32} {n : Nat} (hU : U.toNat = n / 256 ^ 16) (hn : n / 256 ^ 16 < 1073741825) (hl : l = digs n 16 ++ [U &&& UInt32.ofNat 3]) :
    (UInt32.ofNat 5 * shr32 U 2).toNat = 5 * (n / 256 ^ 16 / 4) ∧ l.length = 17 ∧ small l 536870912 ∧
    (digs (5 * (n / 256 ^ 16 / 4) + pv l 16) 16 ++ l.drop 16).set 16 ((digs (5 * (n / 256 ^ 16 / 4) + pv l 16) 16 ++ l.drop 16).getD 16 0 + UInt32.ofNat ((5 * (n / 256 ^ 16 / 4) + pv l 16) / 256 ^ 16)) = d17 (red1 n) ∧ red1 n < 1461501637330902918203684832716283019655932542976 := by
  have hc : (UInt32.ofNat 5 * shr32 U 2).toNat = 5 * (n / 256 ^ 16 / 4) := by
    rw [UInt32.toNat_mul, Cod.shr32_toNat, hU]
    show 5 * (n / 256 ^ 16 / 2 ^ 2) % 2 ^ 32 = _
    omega
  have hll : l.length = 17 := by rw [hl]; simp [digs_len]
  have h3 : (U &&& UInt32.ofNat 3).toNat = n / 256 ^ 16 % 4 := by rw [and3d, hU]
  have hsm : small l 536870912 := by
    intro x hx
    rw [hl] at hx
    rcases List.mem_append.1 hx with h1 | h1
    · exact Nat.lt_of_lt_of_le (digs_small n 16 x h1) (by decide)
    · rw [List.mem_singleton] at h1
      rw [h1, h3]; omega
  have hpv : pv l 16 = n % 256 ^ 16 := by
    unfold pv
    rw [hl, List.take_append_of_le_length (by rw [digs_len]; exact Nat.le_refl _), List.take_of_length_le (by rw [digs_len]; exact Nat.le_refl _), digs_val]
  have hg : l.getD 16 0 = U &&& UInt32.ofNat 3 := by
    rw [hl, List.getD_eq_getElem?_getD, List.getElem?_append_right (by rw [digs_len]; exact Nat.le_refl _), digs_len]
    rfl
  refine ⟨hc, hll, hsm, ?_, ?_⟩
  · rw [set16 hll, last_get hll, hg, hpv]
    have e : red1 n = (5 * (n / 256 ^ 16 / 4) + n % 256 ^ 16) + 256 ^ 16 * (n / 256 ^ 16 % 4) := by
      unfold red1
      rw [p16]
      omega
    unfold d17
    rw [e, digs_add]
    congr 2
    apply UInt32.toNat_inj.1
    have hp : 0 < 256 ^ 16 := by decide
    rw [Nat.add_mul_div_left _ _ hp, UInt32.toNat_add, h3]
    have hb : (5 * (n / 256 ^ 16 / 4) + n % 256 ^ 16) / 256 ^ 16 < 1000 := by rw [p16] at *; omega
    rw [ofNat_lt (by omega), ofNat_lt (by omega), Nat.mod_eq_of_lt (by omega)]
    omega
  · unfold red1
    rw [p16] at hn
    omega
end Go.Pol
