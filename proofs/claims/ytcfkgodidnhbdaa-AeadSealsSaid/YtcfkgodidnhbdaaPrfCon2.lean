/- A step towards AeadSealsSaid: no conditions. -/
import Derived.Test.YtcfkgodidnhbdaaPrfCon
namespace Go.Proofs.Ytcfkgodidnhbdaa
open Go Go.Eng Go.Cod Go.Pol
open List
theorem outD_len (a b : List UInt32) : ∀ i, (outD a b i).length = i
  | 0 => rfl
  | i + 1 => by simp [outD, outD_len a b i]
theorem term_le {a b : List UInt32} (ha : small a 256) (hb : small b 256) (i j : Nat) : term a b i j ≤ 20808000 := by
  unfold term
  have h1 := small_get ha (by decide) j
  split
  · have h2 := small_get hb (by decide) (i - j)
    have := Nat.mul_le_mul (show (a.getD j 0).toNat ≤ 255 by omega) (show (b.getD (i - j) 0).toNat ≤ 255 by omega)
    omega
  · have h2 := small_get hb (by decide) (i + 17 - j)
    have := Nat.mul_le_mul (show (a.getD j 0).toNat ≤ 255 by omega) (show (b.getD (i + 17 - j) 0).toNat ≤ 255 by omega)
    rw [Nat.mul_assoc]
    omega
theorem uS_le {a b : List UInt32} (ha : small a 256) (hb : small b 256) (i : Nat) : ∀ j, uS a b i j ≤ 20808000 * j
  | 0 => by simp [uS]
  | j + 1 => by
    have := uS_le ha hb i j
    have := term_le ha hb i j
    rw [uS]
    omega
theorem outD_small {a b : List UInt32} (ha : small a 256) (hb : small b 256) : ∀ i, small (outD a b i) 536870912
  | 0 => by intro x hx; cases hx
  | i + 1 => by
    intro x hx
    rcases List.mem_append.1 hx with h | h
    · exact outD_small ha hb i x h
    · rw [List.mem_singleton] at h
      have := uS_le ha hb i 17
      rw [h, ofNat_lt (by omega)]
      omega
theorem uS_lo {a b : List UInt32} {i j : Nat} (h : j ≤ i) : UInt32.ofNat (uS a b i j) + a.getD j 0 * b.getD (i - j) 0 = UInt32.ofNat (uS a b i (j + 1)) := by
  rw [uS, term, if_pos h, UInt32.ofNat_add, UInt32.ofNat_mul, UInt32.ofNat_toNat, UInt32.ofNat_toNat]
theorem uS_hi {a b : List UInt32} {i j : Nat} (h : ¬ j ≤ i) : UInt32.ofNat (uS a b i j) + UInt32.ofNat 320 * a.getD j 0 * b.getD (i + 17 - j) 0 = UInt32.ofNat (uS a b i (j + 1)) := by
  rw [uS, term, if_neg h, UInt32.ofNat_add, UInt32.ofNat_mul, UInt32.ofNat_mul, UInt32.ofNat_toNat, UInt32.ofNat_toNat]
theorem outD_set {a b : List UInt32} {i : Nat} (h : i < 17) : (outD a b i ++ List.replicate (17 - i) 0).set i (UInt32.ofNat (uS a b i 17)) = outD a b (i + 1) ++ List.replicate (17 - (i + 1)) 0 := by
  rw [List.set_append_right _ _ (by rw [outD_len]; exact Nat.le_refl _), outD_len, Nat.sub_self, show 17 - i = (17 - (i + 1)) + 1 by omega, List.replicate_succ, List.set_cons_zero, outD]
  simp
set_option maxRecDepth 100000 in
theorem conTimesD : Con Try.prog 31 gTimesD := con_of_vcl fun args ps res h hp hlen => by
  unfold gTimesD at h
  split at h <;> cases h
  rename_i a b
  have la : a.length = 17 := hlen.1.1
  have lb : b.length = 17 := hlen.2.1.1
  obtain ⟨sa, hp⟩ := all_cons.1 hp
  have sb := (all_cons.1 hp).1
  refine ⟨PFt, 200, rfl, eok (gs := [(41, gReducedD)]) ⟨conReducedD, trivial⟩, ?_⟩
  rw [vcTimesD a b]
  refine ⟨⟨0, by omega, rfl, rfl, rfl, rfl, rfl, trivial⟩, fun x hx => ⟨fun hd => ?_, fun hd => ?_⟩⟩
  · have hd := of_decide_eq_true hd
    have hx2 : x < 17 := by have : (x : Int) < 17 := hd; omega
    intro y hy
    rw [Int.toNat_natCast] at *
    refine ⟨⟨0, by omega, rfl, by rw [hy]; rfl, rfl, rfl, rfl, rfl, rfl, trivial⟩, fun j hj => ⟨fun hd => ⟨fun he => ?_, fun he => ?_⟩, fun hd => ?_⟩⟩
    · have he := of_decide_eq_true he
      have hji : j ≤ x := by omega
      have es : ((x : Int) - (j : Int)).toNat = x - j := by omega
      rw [Int.toNat_natCast, es]
      refine ⟨by omega, by omega, by unfold InI; omega, by omega, by omega, fun y hy => ⟨inI_succ (by omega), fun y1 hy1 => ?_⟩⟩
      exact ⟨j + 1, by omega, by omega, rfl, by rw [hy, uS_lo hji], by rw [hy1]; rfl, rfl, rfl, rfl, rfl, trivial⟩
    · have he := of_decide_eq_false he
      have hji : ¬ j ≤ x := by omega
      have hd := of_decide_eq_true hd
      have hj2 : j < 17 := by have : (j : Int) < 17 := hd; omega
      have es : ((x : Int) + Int.ofNat 17 - (j : Int)).toNat = x + 17 - j := by
        show ((x : Int) + 17 - (j : Int)).toNat = _
        omega
      rw [Int.toNat_natCast, es]
      refine ⟨by omega, by omega, ?_, ?_, ?_, by omega, fun y hy => ⟨inI_succ (by omega), fun y1 hy1 => ?_⟩⟩
      · show InI ((x : Int) + 17)
        unfold InI; omega
      · show InI ((x : Int) + 17 - (j : Int))
        unfold InI; omega
      · show (0 : Int) ≤ (x : Int) + 17 - (j : Int) ∧ (x : Int) + 17 - (j : Int) < 17
        omega
      · exact ⟨j + 1, by omega, by omega, rfl, by rw [hy, uS_hi hji], by rw [hy1]; rfl, rfl, rfl, rfl, rfl, trivial⟩
    · have hd := of_decide_eq_false hd
      have hj2 : j = 17 := by have : ¬ (j : Int) < 17 := hd; omega
      subst hj2
      refine ⟨by omega, by omega, fun y hy => ⟨inI_succ (by omega), fun y1 hy1 => ?_⟩⟩
      exact ⟨x + 1, by omega, by omega, by rw [hy1]; rfl, rfl, rfl, rfl, by rw [hy, outD_set hx2], trivial⟩
  · have hd := of_decide_eq_false hd
    have hx2 : x = 17 := by have : ¬ (x : Int) < 17 := hd; omega
    subst hx2
    have e : outD a b 17 ++ List.replicate (17 - 17) 0 = outD a b 17 := by simp
    rw [e]
    exact ⟨outD_small sa sb 17, fun y hy y1 hy1 => ⟨by rw [hy1, hy]; rfl, trivial⟩⟩
theorem valD_lt : ∀ {l : List UInt32}, small l 256 → valD l < 256 ^ l.length
  | [], _ => by decide
  | x :: l, h => by
    have h1 := h x (List.mem_cons_self ..)
    have h2 := valD_lt (l := l) (fun y hy => h y (List.mem_cons_of_mem _ hy))
    rw [valD, List.length_cons, Nat.pow_succ]
    omega
theorem red2_lt {n : Nat} (h : n < 87112285931760246646623899502532662132736) : red1 (red1 n) < 1361129467683753853853498429727072845824 := by
  unfold red1
  omega
theorem and128 : ∀ n, n < 256 → ((UInt32.ofNat n &&& UInt32.ofNat 128) == UInt32.ofNat 0) = decide (n < 128) := by decide +kernel
theorem and3s : ∀ n, n < 4 → (UInt32.ofNat n &&& UInt32.ofNat 3) = UInt32.ofNat n := by decide +kernel
theorem d17_get (n : Nat) : (d17 n).getD 16 0 = UInt32.ofNat (n / 256 ^ 16) := by
  unfold d17
  rw [List.getD_eq_getElem?_getD, List.getElem?_append_right (by rw [digs_len]; exact Nat.le_refl _), digs_len]
  rfl
theorem d17_set (n : Nat) (x : UInt32) : (d17 n).set 16 x = digs n 16 ++ [x] := by
  unfold d17
  rw [List.set_append_right _ _ (by rw [digs_len]; exact Nat.le_refl _), digs_len]
  rfl
def c252 : List UInt32 := [UInt32.ofNat 5, UInt32.ofNat 0, UInt32.ofNat 0, UInt32.ofNat 0, UInt32.ofNat 0, UInt32.ofNat 0, UInt32.ofNat 0, UInt32.ofNat 0, UInt32.ofNat 0, UInt32.ofNat 0, UInt32.ofNat 0, UInt32.ofNat 0, UInt32.ofNat 0, UInt32.ofNat 0, UInt32.ofNat 0, UInt32.ofNat 0, UInt32.ofNat 252]
theorem c252_val : valD c252 = 85751156464076492792770401072805589286917 := by rfl
theorem c252_small : small c252 1048576 := by
  have : ∀ x ∈ c252, x.toNat < 1048576 := by decide
  exact this
theorem least_mod {m : Nat} (bm : m < 1361129467683753853853498429727072845824) :
    (m + 85751156464076492792770401072805589286917) % 87112285931760246646623899502532662132736 / 340282366920938463463374607431768211456 < 256 ∧
    ((m + 85751156464076492792770401072805589286917) % 87112285931760246646623899502532662132736 / 340282366920938463463374607431768211456 < 128 → P130 ≤ m ∧ (m + 85751156464076492792770401072805589286917) % 87112285931760246646623899502532662132736 = m - P130 ∧ (m - P130) / 340282366920938463463374607431768211456 < 4) ∧
    (¬ (m + 85751156464076492792770401072805589286917) % 87112285931760246646623899502532662132736 / 340282366920938463463374607431768211456 < 128 → ¬ P130 ≤ m) := by
  simp only [P130]
  refine ⟨?_, fun h => ⟨?_, ?_, ?_⟩, fun h => ?_⟩ <;> omega
theorem least_fin {m : Nat} {y : List UInt32} (bm : m < 1361129467683753853853498429727072845824) (hy : y = d17 ((m + 85751156464076492792770401072805589286917) % 87112285931760246646623899502532662132736)) :
    ((y.getD 16 (0 : UInt32) &&& UInt32.ofNat 128 == UInt32.ofNat 0) = true → y.set 16 (y.getD 16 (0 : UInt32) &&& UInt32.ofNat 3) = d17 (lst m)) ∧
    ((y.getD 16 (0 : UInt32) &&& UInt32.ofNat 128 == UInt32.ofNat 0) = false → d17 m = d17 (lst m)) := by
  obtain ⟨h1, h2, h3⟩ := least_mod bm
  rw [hy, d17_get, d17_set, p16]
  generalize (m + 85751156464076492792770401072805589286917) % 87112285931760246646623899502532662132736 = q at *
  rw [and128 _ h1]
  refine ⟨fun h => ?_, fun h => ?_⟩
  · obtain ⟨g1, g2, g3⟩ := h2 (of_decide_eq_true h)
    rw [g2, and3s _ g3]
    unfold lst
    rw [if_pos g1]
    unfold d17
    rw [p16]
  · unfold lst
    rw [if_neg (h3 (of_decide_eq_false h))]
set_option maxRecDepth 100000 in
theorem conLeast : Con Try.prog 33 gLeast := con_of_vcl fun args ps res h hp hlen => by
  unfold gLeast at h
  split at h <;> cases h
  rename_i a
  have la : a.length = 17 := hlen.1.1
  have sa := (all_cons.1 hp).1
  have ba := valD_lt sa
  rw [la, p17] at ba
  have bm := red2_lt ba
  refine ⟨PFl, 200, rfl, eok (gs := [(41, gReducedD), (32, gPlusD)]) ⟨conReducedD, conPlusD, trivial⟩, ?_⟩
  rw [vcLeast a]
  refine ⟨small_mono sa (by decide), ?_⟩
  generalize red1 (red1 (valD a)) = m at *
  intro y hy y1 hy1 y2 hy2
  have e1 : valD y1 = m := by rw [hy1, hy, d17_val (by omega)]
  have e2 : valD y2 = 85751156464076492792770401072805589286917 := by rw [hy2]; exact c252_val
  refine ⟨by rw [hy1, hy]; exact small_mono (d17_small (by omega)) (by decide), by rw [hy2]; exact c252_small, fun y3 hy3 y4 hy4 => ?_⟩
  rw [e1, e2] at hy3
  rw [← hy4] at hy3
  obtain ⟨f1, f2⟩ := least_fin bm hy3
  refine ⟨fun h y hy y5 hy5 => ⟨?_, trivial⟩, fun h y5 hy5 => ⟨?_, trivial⟩⟩
  · rw [hy5, hy, f1 h]
  · rw [hy5, hy1, hy, f2 h]
end Go.Proofs.Ytcfkgodidnhbdaa
