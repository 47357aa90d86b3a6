/- Steps towards SessionExchangesSaid. -/
import Derived.Test.YtimjfjlaoekfkaaJPsrVc
import Derived.Test.YtimjfjlaoekfkaaJMdcVc
import Derived.Test.YtimjfjlaoekfkaaJAerVc
import Derived.Test.YtimjfjlaoekfkaaJPolCon
import Derived.Test.YtimjfjlaoekfkaaJMsgSpec
import Derived.Test.YtimjfjlaoekfkaaBase
/- A step towards SessionExchangesSaid: no conditions. -/
namespace Go.Proofs.Ytimjfjlaoekfkaa
open Go Go.Eng Go.Cod Go.Pol
open List
theorem outD_len (a b : List UInt32) : ∀ i, (outD a b i).length = i
  | 0 => rfl
  | i + 1 => by simp [outD, outD_len a b i]
theorem term_le {a b : List UInt32} (ha : small a 256) (hb : small b 256) (i j : Nat) : term a b i j ≤ 20808000 := by
  unfold term
  have h1 := small_get ha (by decide) j
  split
  · have h2 := small_get hb (by decide) (i - j)
    have := Nat.mul_le_mul (show (a.getD j 0).toNat ≤ 255 by omega) (show (b.getD (i - j) 0).toNat ≤ 255 by omega)
    omega
  · have h2 := small_get hb (by decide) (i + 17 - j)
    have := Nat.mul_le_mul (show (a.getD j 0).toNat ≤ 255 by omega) (show (b.getD (i + 17 - j) 0).toNat ≤ 255 by omega)
    rw [Nat.mul_assoc]
    omega
theorem uS_le {a b : List UInt32} (ha : small a 256) (hb : small b 256) (i : Nat) : ∀ j, uS a b i j ≤ 20808000 * j
  | 0 => by simp [uS]
  | j + 1 => by
    have := uS_le ha hb i j
    have := term_le ha hb i j
    rw [uS]
    omega
theorem outD_small {a b : List UInt32} (ha : small a 256) (hb : small b 256) : ∀ i, small (outD a b i) 536870912
  | 0 => by intro x hx; cases hx
  | i + 1 => by
    intro x hx
    rcases List.mem_append.1 hx with h | h
    · exact outD_small ha hb i x h
    · rw [List.mem_singleton] at h
      have := uS_le ha hb i 17
      rw [h, ofNat_lt (by omega)]
      omega
theorem uS_lo {a b : List UInt32} {i j : Nat} (h : j ≤ i) : UInt32.ofNat (uS a b i j) + a.getD j 0 * b.getD (i - j) 0 = UInt32.ofNat (uS a b i (j + 1)) := by
  rw [uS, term, if_pos h, UInt32.ofNat_add, UInt32.ofNat_mul, UInt32.ofNat_toNat, UInt32.ofNat_toNat]
theorem uS_hi {a b : List UInt32} {i j : Nat} (h : ¬ j ≤ i) : UInt32.ofNat (uS a b i j) + UInt32.ofNat 320 * a.getD j 0 * b.getD (i + 17 - j) 0 = UInt32.ofNat (uS a b i (j + 1)) := by
  rw [uS, term, if_neg h, UInt32.ofNat_add, UInt32.ofNat_mul, UInt32.ofNat_mul, UInt32.ofNat_toNat, UInt32.ofNat_toNat]
theorem outD_set {a b : List UInt32} {i : Nat} (h : i < 17) : (outD a b i ++ List.replicate (17 - i) 0).set i (UInt32.ofNat (uS a b i 17)) = outD a b (i + 1) ++ List.replicate (17 - (i + 1)) 0 := by
  rw [List.set_append_right _ _ (by rw [outD_len]; exact Nat.le_refl _), outD_len, Nat.sub_self, show 17 - i = (17 - (i + 1)) + 1 by omega, List.replicate_succ, List.set_cons_zero, outD]
  simp
set_option maxRecDepth 100000 in
theorem conTimesD : Con Try.prog 65 gTimesD := con_of_vcl fun args ps res h hp hlen => by
  unfold gTimesD at h
  split at h <;> cases h
  rename_i a b
  have la : a.length = 17 := hlen.1.1
  have lb : b.length = 17 := hlen.2.1.1
  obtain ⟨sa, hp⟩ := all_cons.1 hp
  have sb := (all_cons.1 hp).1
  refine ⟨PFt, 200, rfl, eok (gs := [(74, gReducedD)]) ⟨conReducedD, trivial⟩, ?_⟩
  rw [vcTimesD a b]
  refine ⟨⟨0, by omega, rfl, rfl, rfl, rfl, rfl, trivial⟩, fun x hx => ⟨fun hd => ?_, fun hd => ?_⟩⟩
  · have hd := of_decide_eq_true hd
    have hx2 : x < 17 := by have : (x : Int) < 17 := hd; omega
    intro y hy
    rw [Int.toNat_natCast] at *
    refine ⟨⟨0, by omega, rfl, by rw [hy]; rfl, rfl, rfl, rfl, rfl, rfl, trivial⟩, fun j hj => ⟨fun hd => ⟨fun he => ?_, fun he => ?_⟩, fun hd => ?_⟩⟩
    · have he := of_decide_eq_true he
      have hji : j ≤ x := by omega
      have es : ((x : Int) - (j : Int)).toNat = x - j := by omega
      rw [Int.toNat_natCast, es]
      refine ⟨by omega, by omega, by unfold InI; omega, by omega, by omega, fun y hy => ⟨inI_succ (by omega), fun y1 hy1 => ?_⟩⟩
      exact ⟨j + 1, by omega, by omega, rfl, by rw [hy, uS_lo hji], by rw [hy1]; rfl, rfl, rfl, rfl, rfl, trivial⟩
    · have he := of_decide_eq_false he
      have hji : ¬ j ≤ x := by omega
      have hd := of_decide_eq_true hd
      have hj2 : j < 17 := by have : (j : Int) < 17 := hd; omega
      have es : ((x : Int) + Int.ofNat 17 - (j : Int)).toNat = x + 17 - j := by
        show ((x : Int) + 17 - (j : Int)).toNat = _
        omega
      rw [Int.toNat_natCast, es]
      refine ⟨by omega, by omega, ?_, ?_, ?_, by omega, fun y hy => ⟨inI_succ (by omega), fun y1 hy1 => ?_⟩⟩
      · show InI ((x : Int) + 17)
        unfold InI; omega
      · show InI ((x : Int) + 17 - (j : Int))
        unfold InI; omega
      · show (0 : Int) ≤ (x : Int) + 17 - (j : Int) ∧ (x : Int) + 17 - (j : Int) < 17
        omega
      · exact ⟨j + 1, by omega, by omega, rfl, by rw [hy, uS_hi hji], by rw [hy1]; rfl, rfl, rfl, rfl, rfl, trivial⟩
    · have hd := of_decide_eq_false hd
      have hj2 : j = 17 := by have : ¬ (j : Int) < 17 := hd; omega
      subst hj2
      refine ⟨by omega, by omega, fun y hy => ⟨inI_succ (by omega), fun y1 hy1 => ?_⟩⟩
      exact ⟨x + 1, by omega, by omega, by rw [hy1]; rfl, rfl, rfl, rfl, by rw [hy, outD_set hx2], trivial⟩
  · have hd := of_decide_eq_false hd
    have hx2 : x = 17 := by have : ¬ (x : Int) < 17 := hd; omega
    subst hx2
    have e : outD a b 17 ++ List.replicate (17 - 17) 0 = outD a b 17 := by simp
    rw [e]
    exact ⟨outD_small sa sb 17, fun y hy y1 hy1 => ⟨by rw [hy1, hy]; rfl, trivial⟩⟩
theorem valD_lt : ∀ {l : List UInt32}, small l 256 → valD l < 256 ^ l.length
  | [], _ => by decide
  | x :: l, h => by
    have h1 := h x (List.mem_cons_self ..)
    have h2 := valD_lt (l := l) (fun y hy => h y (List.mem_cons_of_mem _ hy))
    rw [valD, List.length_cons, Nat.pow_succ]
    omega
theorem red2_lt {n : Nat} (h : n < 87112285931760246646623899502532662132736) : red1 (red1 n) < 1361129467683753853853498429727072845824 := by
  unfold red1
  omega
theorem and128 : ∀ n, n < 256 → ((UInt32.ofNat n &&& UInt32.ofNat 128) == UInt32.ofNat 0) = decide (n < 128) := by decide +kernel
theorem and3s : ∀ n, n < 4 → (UInt32.ofNat n &&& UInt32.ofNat 3) = UInt32.ofNat n := by decide +kernel
theorem d17_get (n : Nat) : (d17 n).getD 16 0 = UInt32.ofNat (n / 256 ^ 16) := by
  unfold d17
  rw [List.getD_eq_getElem?_getD, List.getElem?_append_right (by rw [digs_len]; exact Nat.le_refl _), digs_len]
  rfl
theorem d17_set (n : Nat) (x : UInt32) : (d17 n).set 16 x = digs n 16 ++ [x] := by
  unfold d17
  rw [List.set_append_right _ _ (by rw [digs_len]; exact Nat.le_refl _), digs_len]
  rfl
def c252 : List UInt32 := [UInt32.ofNat 5, UInt32.ofNat 0, UInt32.ofNat 0, UInt32.ofNat 0, UInt32.ofNat 0, UInt32.ofNat 0, UInt32.ofNat 0, UInt32.ofNat 0, UInt32.ofNat 0, UInt32.ofNat 0, UInt32.ofNat 0, UInt32.ofNat 0, UInt32.ofNat 0, UInt32.ofNat 0, UInt32.ofNat 0, UInt32.ofNat 0, UInt32.ofNat 252]
theorem c252_val : valD c252 = 85751156464076492792770401072805589286917 := by rfl
theorem c252_small : small c252 1048576 := by
  have : ∀ x ∈ c252, x.toNat < 1048576 := by decide
  exact this
theorem least_mod {m : Nat} (bm : m < 1361129467683753853853498429727072845824) :
    (m + 85751156464076492792770401072805589286917) % 87112285931760246646623899502532662132736 / 340282366920938463463374607431768211456 < 256 ∧
    ((m + 85751156464076492792770401072805589286917) % 87112285931760246646623899502532662132736 / 340282366920938463463374607431768211456 < 128 → P130 ≤ m ∧ (m + 85751156464076492792770401072805589286917) % 87112285931760246646623899502532662132736 = m - P130 ∧ (m - P130) / 340282366920938463463374607431768211456 < 4) ∧
    (¬ (m + 85751156464076492792770401072805589286917) % 87112285931760246646623899502532662132736 / 340282366920938463463374607431768211456 < 128 → ¬ P130 ≤ m) := by
  simp only [P130]
  refine ⟨?_, fun h => ⟨?_, ?_, ?_⟩, fun h => ?_⟩ <;> omega
theorem least_fin {m : Nat} {y : List UInt32} (bm : m < 1361129467683753853853498429727072845824) (hy : y = d17 ((m + 85751156464076492792770401072805589286917) % 87112285931760246646623899502532662132736)) :
    ((y.getD 16 (0 : UInt32) &&& UInt32.ofNat 128 == UInt32.ofNat 0) = true → y.set 16 (y.getD 16 (0 : UInt32) &&& UInt32.ofNat 3) = d17 (lst m)) ∧
    ((y.getD 16 (0 : UInt32) &&& UInt32.ofNat 128 == UInt32.ofNat 0) = false → d17 m = d17 (lst m)) := by
  obtain ⟨h1, h2, h3⟩ := least_mod bm
  rw [hy, d17_get, d17_set, p16]
  generalize (m + 85751156464076492792770401072805589286917) % 87112285931760246646623899502532662132736 = q at *
  rw [and128 _ h1]
  refine ⟨fun h => ?_, fun h => ?_⟩
  · obtain ⟨g1, g2, g3⟩ := h2 (of_decide_eq_true h)
    rw [g2, and3s _ g3]
    unfold lst
    rw [if_pos g1]
    unfold d17
    rw [p16]
  · unfold lst
    rw [if_neg (h3 (of_decide_eq_false h))]
set_option maxRecDepth 100000 in
theorem conLeast : Con Try.prog 67 gLeast := con_of_vcl fun args ps res h hp hlen => by
  unfold gLeast at h
  split at h <;> cases h
  rename_i a
  have la : a.length = 17 := hlen.1.1
  have sa := (all_cons.1 hp).1
  have ba := valD_lt sa
  rw [la, p17] at ba
  have bm := red2_lt ba
  refine ⟨PFl, 200, rfl, eok (gs := [(74, gReducedD), (66, gPlusD)]) ⟨conReducedD, conPlusD, trivial⟩, ?_⟩
  rw [vcLeast a]
  refine ⟨small_mono sa (by decide), ?_⟩
  generalize red1 (red1 (valD a)) = m at *
  intro y hy y1 hy1 y2 hy2
  have e1 : valD y1 = m := by rw [hy1, hy, d17_val (by omega)]
  have e2 : valD y2 = 85751156464076492792770401072805589286917 := by rw [hy2]; exact c252_val
  refine ⟨by rw [hy1, hy]; exact small_mono (d17_small (by omega)) (by decide), by rw [hy2]; exact c252_small, fun y3 hy3 y4 hy4 => ?_⟩
  rw [e1, e2] at hy3
  rw [← hy4] at hy3
  obtain ⟨f1, f2⟩ := least_fin bm hy3
  refine ⟨fun h y hy y5 hy5 => ⟨?_, trivial⟩, fun h y5 hy5 => ⟨?_, trivial⟩⟩
  · rw [hy5, hy, f1 h]
  · rw [hy5, hy1, hy, f2 h]
end Go.Proofs.Ytimjfjlaoekfkaa

/- A step towards SessionExchangesSaid: no conditions. -/
namespace Go.Proofs.Ytimjfjlaoekfkaa
open Go Go.Eng Go.Cod Go.Pol
theorem outD_val {a b : List UInt32} (ha : small a 256) (hb : small b 256) : ∀ n, valD (outD a b n) = sm (fun i => 256 ^ i * uS a b i 17) n
  | 0 => rfl
  | n + 1 => by
    have := uS_le ha hb n 17
    rw [outD, valD_append, outD_val ha hb n, outD_len, valD, valD, ofNat_lt (by omega), sm, Nat.mul_zero, Nat.add_zero]
theorem red1_small {n : Nat} (h : n < 1361129467683753853853498429727072845824) : red1 n = n := by
  unfold red1
  omega
theorem x_lt (n : Nat) : n % 87112285931760246646623899502532662132736 < 87112285931760246646623899502532662132736 := Nat.mod_lt _ (by decide)
theorem vN_lt {rr : List UInt32} (hs : small rr 256) (d : List UInt8) : ∀ j, vN rr d j < 1361129467683753853853498429727072845824
  | 0 => by show 0 < _; decide
  | j + 1 => by
    rw [vN]
    have hx := d17_small (x_lt (valD (d17 (vN rr d j)) + valD (cN (d.drop (16 * j)))))
    generalize d17 ((valD (d17 (vN rr d j)) + valD (cN (d.drop (16 * j)))) % 87112285931760246646623899502532662132736) = a at *
    have h1 := (top_eq (outD_len a rr 17) (outD_small hx hs 17)).2.1
    have h2 := Go.Proofs.Ytimjfjlaoekfkaa.red1_ltD h1
    unfold timesV
    generalize red1 (valD (outD a rr 17)) = n at *
    unfold red1
    omega
theorem blk_lt (d : List UInt8) (j : Nat) : blkP d j < 680564733841876926926749214863536422912 := by
  unfold blkP
  have h1 := natL_lt ((d.drop (16 * j)).take 16)
  have h2 : ((d.drop (16 * j)).take 16).length = min 16 (d.length - 16 * j) := by rw [List.length_take, List.length_drop]
  rw [h2] at h1
  have h3 : 256 ^ (min 16 (d.length - 16 * j)) ≤ 256 ^ 16 := Nat.pow_le_pow_right (by decide) (Nat.min_le_left ..)
  have h4 : (256 : Nat) ^ 16 = 340282366920938463463374607431768211456 := rfl
  omega
theorem cN_blk (d : List UInt8) (j : Nat) : valD (cN (d.drop (16 * j))) = blkP d j := by
  rw [cN_val, List.length_drop]; rfl
theorem step_mod {v h b t r : Nat} (ih : v % P130 = h % P130) (ht : t % P130 = (v + b) * r % P130) : t % P130 = red1 ((h + b) * r) % P130 := by
  rw [red1_mod, ht, Nat.mul_mod, Nat.add_mod v, ih, ← Nat.add_mod, ← Nat.mul_mod]
theorem vN_step {rr : List UInt32} (hs : small rr 256) (hl : rr.length = 17) {v b h : Nat} (hv : v < 1361129467683753853853498429727072845824) (hb : b < 680564733841876926926749214863536422912) (ih : v % P130 = h % P130) :
    red1 (red1 (timesV (d17 ((valD (d17 v) + b) % 87112285931760246646623899502532662132736)) rr)) % P130 = red1 ((h + b) * valD rr) % P130 := by
  have e1 : valD (d17 v) = v := d17_val (by omega)
  have e2 : (v + b) % 87112285931760246646623899502532662132736 = v + b := Nat.mod_eq_of_lt (by omega)
  rw [red1_mod, red1_mod, e1, e2]
  refine step_mod ih ?_
  have e3 : valD (d17 (v + b)) = v + b := d17_val (by omega)
  have h3 : small (d17 (v + b)) 256 := d17_small (by omega)
  have h4 := times_mod (d17_len (v + b)) hl (outD_val h3 hs 17)
  rw [e3] at h4
  exact h4
theorem vN_mod {rr : List UInt32} (hs : small rr 256) (hl : rr.length = 17) (d : List UInt8) (j : Nat) : vN rr d j % P130 = hN (valD rr) d j % P130 := by
  induction j with
  | zero => rfl
  | succ j ih =>
    have h := vN_step hs hl (vN_lt hs d j) (blk_lt d j) ih
    rw [← cN_blk] at h
    rw [vN, hN, ← cN_blk]
    exact h
theorem lst_mod {m : Nat} (h : m < 1361129467683753853853498429727072845824) : lst m = m % P130 := by
  unfold lst
  simp only [P130]
  split <;> omega
theorem redP_mod {m : Nat} (h : m < 1573805947009340393518107559371927977985) : redP m = m % P130 := by
  unfold redP
  simp only [P130]
  split <;> omega
theorem hN_ltB {r : Nat} (d : List UInt8) (hr : r < 21267647932558653966460912964485513216) : ∀ j, hN r d j < 1573805947009340393518107559371927977985
  | 0 => by show 0 < _; decide
  | j + 1 => by
    have h1 := hN_ltB d hr j
    have h2 := blk_lt d j
    rw [hN]
    have := Nat.mul_le_mul (show hN r d j + blkP d j ≤ 2722258935367507707706996859454145691647 by omega) (show r ≤ 21267647932558653966460912964485513215 by omega)
    unfold red1
    omega
theorem rOf_lt (k : List UInt8) : rOf k < 21267647932558653966460912964485513216 := by
  have h0 : (readL (k.take 8) &&& UInt64.ofNat 1152921487695413247).toNat ≤ 1152921487695413247 := by rw [UInt64.toNat_and]; exact Nat.and_le_right
  have h1 : (readL ((k.drop 8).take 8) &&& UInt64.ofNat 1152921487695413244).toNat ≤ 1152921487695413244 := by rw [UInt64.toNat_and]; exact Nat.and_le_right
  unfold rOf r0 r1
  simp only [D64]
  omega
theorem sOf_nat {k : List UInt8} (hk : k.length = 32) : natL ((k.drop 16).take 16) = sOf k := by
  have l1 : ((k.drop 16).take 8).length = 8 := by rw [List.length_take, List.length_drop]; omega
  have l2 : ((k.drop 24).take 8).length = 8 := by rw [List.length_take, List.length_drop]; omega
  have e : (k.drop 16).take 16 = (k.drop 16).take 8 ++ (k.drop 24).take 8 := by
    rw [show 16 = 8 + 8 from rfl, List.take_add, List.drop_drop]
  rw [e, natL_append, l1, ← readL_nat _ (by omega), ← readL_nat _ (by omega)]
  rfl
theorem tag_eq {k d : List UInt8} {y6 : List UInt32} {N : Nat} (hk : k.length = 32) (hs : small y6 256) (hl : y6.length = 17) (hv : valD y6 = rOf k)
    (hN : N = valD (d17 (lst (red1 (red1 (valD (d17 (vN y6 d (nbP d)))))))) + valD (padD (k.drop 16) 16)) : cutD (d17 (N % 87112285931760246646623899502532662132736)) 16 = polyL k d := by
  have hb := vN_lt hs d (nbP d)
  have hm := vN_mod hs hl d (nbP d)
  rw [hv] at hm
  have hh := hN_ltB d (rOf_lt k) (nbP d)
  rw [d17_val (n := vN y6 d (nbP d)) (by omega), red1_small hb, red1_small hb, lst_mod hb, hm, ← redP_mod hh, padD_val, sOf_nat hk] at hN
  have hr : redP (Go.Pol.hN (rOf k) d (nbP d)) < 1573805947009340393518107559371927977985 := by
    unfold redP; simp only [P130]; split <;> omega
  rw [d17_val (by omega)] at hN
  obtain ⟨c1, c2⟩ := cut_d17 (N % 87112285931760246646623899502532662132736)
  have lp : (polyL k d).length = 16 := by unfold polyL; rw [List.length_append, littleL_len, littleL_len]
  refine natL_inj2 (by rw [c2, lp]) ?_
  have e : natL (polyL k d) = polyN k d % 340282366920938463463374607431768211456 := by
    unfold polyL
    rw [natL_append, natL_little, natL_little, littleL_len, u_nat, u_nat]
    have e : (256 : Nat) ^ 8 = 18446744073709551616 := rfl
    rw [e]
    simp only [D64]
    omega
  rw [c1, e, hN]
  unfold polyN
  omega
set_option maxRecDepth 100000 in
set_option maxHeartbeats 1000000 in
theorem conPolyR : Con Try.prog 57 gPoly := con_of_vcl fun args ps res h hp hlen => by
  unfold gPoly at h
  split at h <;> cases h
  rename_i k m d
  obtain ⟨rfl, hp2⟩ := all_cons.1 hp
  have hl := (all_cons.1 hp2).1
  have hk : k.length = 32 := hlen.1.1
  refine ⟨PRp, 200, rfl, eok (gs := [(66, gPlusD), (65, gTimesD), (67, gLeast)]) ⟨conPlusD, conTimesD, conLeast, trivial⟩, ?_⟩
  rw [vcPolyR k d]
  have lk16 : (k.drop 16).length = 16 := by rw [List.length_drop]; omega
  refine ⟨⟨0, by omega, rfl, rfl, rfl, rfl, rfl, (padD_zero _).symm, rfl, trivial⟩, fun x hx => ⟨fun hd => ?_, fun hd => ?_⟩⟩
  · have hd := of_decide_eq_true hd
    have hx2 : x < 16 := by have : (x : Int) < 16 := hd; omega
    rw [Int.toNat_natCast]
    refine ⟨by omega, by omega, by omega, by omega, fun y hy => ⟨inI_succ (by omega), fun y1 hy1 => ?_⟩⟩
    rw [List.drop_zero, padD_step (by omega) (by omega)] at hy
    exact ⟨x + 1, by omega, by omega, rfl, rfl, by rw [hy1]; rfl, rfl, rfl, by rw [List.drop_zero]; exact hy, rfl, trivial⟩
  · obtain rfl := x16 hx hd
    intro y0 h0 y1 h1 y2 h2 y3 h3 y4 h4 y5 h5 y6 h6
    have hy6 := key_mask hk rfl h0 h1 h2 h3 h4 h5 h6
    have l6 : y6.length = 17 := by rw [hy6, List.length_append, List.length_map, andL_len, List.length_take]; show min (min 16 k.length) 16 + 1 = 17; omega
    have s6 : small y6 256 := by rw [hy6]; exact small_app (small_map _) (small_zeros 1)
    have v6 : valD y6 = rOf k := by rw [hy6, valD_append, valD_map, rOf_eq hk]; show _ + _ * (0 + 256 * 0) = _; omega
    clear h0 h1 h2 h3 h4 h5 h6 hy6 y0 y1 y2 y3 y4 y5
    refine ⟨⟨0, by omega, by rw [Nat.mul_zero, List.drop_zero], by rw [Nat.mul_zero, List.drop_zero], rfl, rfl, rfl, (show List.replicate 17 0 = d17 0 by decide +kernel), trivial⟩, fun j hj => ?_⟩
    intro y4 hy4
    have hb := vN_lt s6 d j
    refine ⟨fun hd y5 hy5 y7 hy7 y8 hy8 => ?_, fun hd => ?_⟩
    · have hd := of_decide_eq_true hd
      have hlt : 0 < (d.drop (16 * j)).length := by have : (0 : Int) < y4 := hd; omega
      have hy8' : y8 = ((min (d.drop (16 * j)).length 16 : Nat) : Int) := by
        rw [hy8, hy7, hy5]
        show min _ (16 : Int) = _
        omega
      clear hy8 hy7 hy5 hy4 hd
      subst hy8'
      rw [Int.toNat_natCast]
      refine ⟨⟨0, by omega, rfl, rfl, rfl, rfl, rfl, rfl, rfl, rfl, (padD_zero _).symm, trivial⟩, fun i hi => ⟨fun hd => ?_, fun hd => ?_⟩⟩
      · have hd := of_decide_eq_true hd
        rw [Int.toNat_natCast]
        refine ⟨by omega, by omega, by omega, by omega, fun y hy => ⟨inI_succ (by omega), fun y1 hy1 => ?_⟩⟩
        rw [padD_step (by omega) (by omega)] at hy
        exact ⟨i + 1, by omega, by omega, rfl, rfl, rfl, by rw [hy1]; rfl, rfl, rfl, rfl, rfl, hy, trivial⟩
      · have hd := of_decide_eq_false hd
        have hi2 : i = min (d.drop (16 * j)).length 16 := by omega
        subst hi2
        refine ⟨by omega, by omega, fun y hy => ?_⟩
        have hyc : y = cN (d.drop (16 * j)) := hy
        rw [hyc]
        refine ⟨small_mono (d17_small (by omega)) (by decide), small_mono (cN_small _) (by decide), fun y9 hy9 => ⟨?_, s6, fun y10 hy10 y11 hy11 => ⟨by omega, j + 1, ?_, ?_, ?_, ?_, rfl, rfl, rfl, ?_, trivial⟩⟩⟩
        · rw [hy9]; exact d17_small (x_lt _)
        · unfold nbP; rw [List.length_drop] at hlt; omega
        · unfold nbP at *; rw [List.length_drop] at hlt; omega
        · rw [List.length_drop, List.length_drop]; omega
        · rw [List.drop_drop]
          rw [List.length_drop]
          by_cases hx : 16 ≤ d.length - 16 * j
          · rw [Nat.min_eq_right hx]; congr 1
          · rw [List.drop_of_length_le (by omega), List.drop_of_length_le (by omega)]
        · rw [hy11, hy10, hy9]; rfl
    · have hd := of_decide_eq_false hd
      have hje : j = nbP d := by
        have : ¬ (0 : Int) < y4 := hd
        rw [List.length_drop] at hy4
        unfold nbP at hj ⊢; omega
      subst hje
      refine ⟨d17_small (by omega), fun y5 hy5 y7 hy7 => ⟨⟨0, by omega, rfl, rfl, rfl, rfl, rfl, (padD_zero _).symm, trivial⟩, fun x hx => ⟨fun hd => ?_, fun hd => ?_⟩⟩⟩
      · have hd := of_decide_eq_true hd
        have hx2 : x < 16 := by have : (x : Int) < 16 := hd; omega
        have e : Int.ofNat 16 + (x : Int) = ((16 + x : Nat) : Int) := rfl
        rw [e, Int.toNat_natCast, Int.toNat_natCast]
        refine ⟨by unfold InI; omega, by omega, by omega, by omega, by omega, fun y hy => ⟨inI_succ (by omega), fun y1 hy1 => ?_⟩⟩
        have e2 : k.getD (16 + x) 0 = (k.drop 16).getD x 0 := by rw [List.getD_eq_getElem?_getD, List.getD_eq_getElem?_getD, List.getElem?_drop]
        rw [e2, padD_step (by omega) (by omega)] at hy
        exact ⟨x + 1, by omega, by omega, by rw [hy1]; rfl, rfl, rfl, rfl, rfl, hy, trivial⟩
      · obtain rfl := x16 hx hd
        refine ⟨?_, small_mono (padD_small _ _) (by decide), fun y8 hy8 y9 hy9 => ?_⟩
        · rw [hy7, hy5, d17_val (by omega), red1_small hb, red1_small hb]
          refine small_mono (d17_small ?_) (by decide)
          unfold lst; split <;> omega
        · rw [hy7, hy5] at hy8
          have h9 : cutD y9 16 = polyL k d := by
            rw [hy9, hy8]
            exact tag_eq hk s6 l6 v6 rfl
          have l9 : y9.length = 17 := by rw [hy9, hy8, d17_len]
          clear hy9 hy8
          refine ⟨⟨0, by omega, rfl, rfl, rfl, rfl, rfl, rfl, (cutD_zero _).symm, trivial⟩, fun i hi => ⟨fun hd => ?_, fun hd => ?_⟩⟩
          · have hd := of_decide_eq_true hd
            have hx2 : i < 16 := by have : (i : Int) < 16 := hd; omega
            intro z hz
            subst hz
            rw [Int.toNat_natCast]
            refine ⟨by omega, by omega, by omega, by omega, fun y hy => ⟨inI_succ (by omega), ?_⟩⟩
            rw [cutD_step (by omega) (by omega)] at hy
            exact ⟨i + 1, by omega, by omega, rfl, rfl, rfl, rfl, rfl, rfl, hy, trivial⟩
          · obtain rfl := x16 hi hd
            intro z hz
            exact ⟨by rw [hz, h9], trivial⟩
end Go.Proofs.Ytimjfjlaoekfkaa

/- A step towards SessionExchangesSaid: no conditions. -/
namespace Go.Proofs.Ytimjfjlaoekfkaa
open Go Go.Eng Go.Cod Go.Cha Go.Pol Go.Aed
theorem fillL_len (b : List UInt8) : (fillL b).length = b.length + zp b.length := by unfold fillL; rw [List.length_append, zerosL_len]
theorem zp_mod (n x : Nat) (hx : x ≤ zp n) : ((n + x) % 16 = 0 ↔ x = zp n) := by unfold zp at *; omega
set_option maxRecDepth 100000 in
theorem conFilledR : Con Try.prog 58 gFilledR := con_of_vcs fun args ps res h hp => by
  unfold gFilledR at h
  split at h <;> cases h
  rename_i m b
  obtain ⟨rfl, hp1⟩ := all_cons.1 hp
  have hb := (all_cons.1 hp1).1
  refine ⟨ARf, 100, rfl, eok (gs := []) trivial, ?_⟩
  rw [vcFilledR b]
  have hz := zp_le b.length
  refine ⟨by omega, fun y hy => ⟨⟨0, by omega, rfl, rfl, by omega, by omega, by rw [hy]; simp, trivial⟩, fun x hx z hz2 => ⟨by decide, fun hd => ?_, fun hd => ?_⟩⟩⟩
  · have hd := of_decide_eq_true hd
    have e : z.tmod (Int.ofNat 16) = (((b.length + x) % 16 : Nat) : Int) := by rw [hz2]; rfl
    rw [e] at hd
    have hne : x ≠ zp b.length := fun h => hd (by rw [(zp_mod b.length x hx).2 h]; rfl)
    refine ⟨rfl, by omega, fun y hy => ⟨x + 1, by omega, by omega, rfl, rfl, by omega, by omega, ?_, trivial⟩⟩
    rw [hy, List.replicate_succ', List.append_assoc]
    rfl
  · have hd := of_decide_eq_false hd
    have e : z.tmod (Int.ofNat 16) = (((b.length + x) % 16 : Nat) : Int) := by rw [hz2]; rfl
    rw [e] at hd
    have hx2 : x = zp b.length := (zp_mod b.length x hx).1 (Int.ofNat.inj (Decidable.not_not.1 hd))
    subst hx2
    refine ⟨by omega, by rw [fillL_len], ?_, trivial⟩
    rw [dropL_zero, dropL_zero]
    exact List.take_of_length_le (by rw [List.length_append, List.length_replicate]; exact Nat.le_refl _)
theorem flat4 (a b c d : List UInt8) : [a, b, c, d].flatten = a ++ (b ++ (c ++ d)) := by simp
theorem mac_eq (c m : List UInt8) : fillL m ++ (fillL c ++ (littleL (to64 m.length) 8 ++ littleL (to64 c.length) 8)) = macL c m := by
  unfold fillL macL
  simp only [List.append_assoc]
set_option maxRecDepth 100000 in
theorem conTagR : Con Try.prog 46 gTag := con_of_vcs fun args ps res h hp => by
  unfold gTag at h
  split at h <;> cases h
  rename_i k n u c v m
  obtain ⟨rfl, hp1⟩ := all_cons.1 hp
  obtain ⟨rfl, hp2⟩ := all_cons.1 hp1
  obtain ⟨hc, hp3⟩ := all_cons.1 hp2
  have hm := (all_cons.1 hp3).1
  refine ⟨ARt, 200, rfl, eok (gs := [(56, gBlock), (58, gFilledR), (47, gLittleN), (48, gJoin), (57, gPoly)]) ⟨conBlockR, conFilledR, conLittleRN4, conJoinR, conPolyR, trivial⟩, ?_⟩
  rw [vcTagR k n c m]
  have hl := macL_len c m
  simp only [forall_eq, true_and, and_true, dropL_zero, Nat.zero_add, little8, flat4, mac_eq, List.take_length, Nat.le_refl]
  refine ⟨by decide, by omega, by omega, rfl, by decide, by omega, by omega, rfl⟩
set_option maxRecDepth 100000 in
theorem conSealR : Con Try.prog 24 gSeal := con_of_vcs fun args ps res h hp => by
  unfold gSeal at h
  split at h <;> cases h
  rename_i k n u p v m
  obtain ⟨rfl, hp1⟩ := all_cons.1 hp
  obtain ⟨rfl, hp2⟩ := all_cons.1 hp1
  obtain ⟨hc, hp3⟩ := all_cons.1 hp2
  have hm := (all_cons.1 hp3).1
  refine ⟨ARs, 200, rfl, eok (gs := [(45, gXor), (46, gTag)]) ⟨conXorR, conTagR, trivial⟩, ?_⟩
  rw [vcSealR k n p m]
  have t : List.take p.length (xorL k n (UInt32.ofNat 1) p) = xorL k n 1 p := List.take_of_length_le (by rw [xorL_len]; exact Nat.le_refl _)
  have t2 : List.take (p.length + 16) (sealL k n p m) = sealL k n p m := List.take_of_length_le (by rw [sealL_len]; exact Nat.le_refl _)
  have e : xorL k n (UInt32.ofNat 1) p ++ tagL k n (xorL k n 1 p) m = sealL k n p m := rfl
  simp only [forall_eq, true_and, and_true, dropL_zero, Nat.zero_add, t, e, t2, Nat.le_refl, xorL_len, sealL_len]
  refine ⟨by omega, hc, hm, by omega⟩
set_option maxRecDepth 100000 in
theorem conOpenR : Con Try.prog 41 gOpen := con_of_vcs fun args ps res h hp => by
  unfold gOpen at h
  split at h <;> cases h
  rename_i k n u s v m
  obtain ⟨rfl, hp1⟩ := all_cons.1 hp
  obtain ⟨rfl, hp2⟩ := all_cons.1 hp1
  obtain ⟨hc, hp3⟩ := all_cons.1 hp2
  have hm := (all_cons.1 hp3).1
  refine ⟨ARs, 200, rfl, eok (gs := [(45, gXor), (46, gTag)]) ⟨conXorR, conTagR, trivial⟩, ?_⟩
  rw [vcOpenR k n s m]
  intro y hy
  refine ⟨fun hd => ?_, fun hd y0 hy0 => ⟨?_, ?_⟩⟩
  · have hd := of_decide_eq_true hd
    have h16 : s.length < 16 := by have : y < 16 := hd; omega
    have e : openE k n s m = 2 := by unfold openE; rw [if_pos h16]
    have e2 : openL k n s m = [] := by unfold openL; rw [e]; rfl
    rw [e, e2]
    exact ⟨rfl, rfl, rfl, trivial⟩
  · subst hy0
    show InI ((s.length : Int) - 16)
    unfold InI; omega
  · have hd := of_decide_eq_false hd
    have h16 : ¬ s.length < 16 := by have : ¬ y < 16 := hd; omega
    have hy1' : y0 - Int.ofNat 16 = ((s.length - 16 : Nat) : Int) := by
      rw [hy0]
      show (s.length : Int) - 16 = _
      omega
    rw [hy1', Int.toNat_natCast, Nat.sub_zero]
    have l1 : (s.take (s.length - 16)).length = s.length - 16 := by rw [List.length_take]; omega
    have l2 : (s.drop (s.length - 16)).length ≤ s.length := by rw [List.length_drop]; omega
    refine ⟨by omega, rfl, rfl, by omega, hm, fun z hz z2 hz2 y3 hy3 => ⟨?_, fun hd => ?_, fun hd => ?_⟩⟩
    · have : y3 = ((s.length - 16 : Nat) : Int) := hy3
      omega
    · have e3 : y3 = ((s.length - 16 : Nat) : Int) := hy3
      rw [hz2, hz, e3, Int.toNat_natCast] at hd
      have hne : tagL k n (s.take (s.length - 16)) m ≠ s.drop (s.length - 16) := of_decide_eq_true hd
      have e : openE k n s m = 6 := by unfold openE; rw [if_neg h16, if_neg hne]
      have e2 : openL k n s m = [] := by unfold openL; rw [e]; rfl
      rw [e, e2]
      exact ⟨rfl, rfl, rfl, trivial⟩
    · have e3 : y3 = ((s.length - 16 : Nat) : Int) := hy3
      rw [hz2, hz, e3, Int.toNat_natCast] at hd
      have hne : tagL k n (s.take (s.length - 16)) m = s.drop (s.length - 16) := Decidable.not_not.1 (of_decide_eq_false hd)
      have e : openE k n s m = 0 := by unfold openE; rw [if_neg h16, if_pos hne]
      have e2 : openL k n s m = xorL k n 1 (s.take (s.length - 16)) := by unfold openL; rw [if_pos e]
      rw [e, e2]
      refine ⟨rfl, by omega, fun q hq => ⟨by omega, by rw [xorL_len], ?_, rfl, trivial⟩⟩
      rw [hq, dropL_zero, dropL_zero]
      exact List.take_of_length_le (by rw [xorL_len]; exact Nat.le_refl _)
set_option maxRecDepth 100000 in
theorem conCounterR : Con Try.prog 25 gCounter := con_of_vcs fun args ps res h hp => by
  unfold gCounter at h
  split at h <;> cases h
  rename_i c
  refine ⟨ARc, 200, rfl, eok (gs := [(47, gLittleN)]) ⟨conLittleRN4, trivial⟩, ?_⟩
  rw [vcCounterR c]
  simp only [forall_eq, true_and, and_true]
  exact ⟨Nat.le_refl _, rfl⟩
end Go.Proofs.Ytimjfjlaoekfkaa

/- A step towards SessionExchangesSaid: no conditions. -/
namespace Go.Proofs.Ytimjfjlaoekfkaa
open Go Go.Eng Go.Win
noncomputable def WI0 : Env := mkE Try.prog [] [] 2
noncomputable def WIp : Env := mkE Try.prog [(38, gCheck)] [(1, JA)] 2
noncomputable def WIr : Env := mkE Try.prog [(37, gCheck)] [(0, JB)] 2
set_option maxRecDepth 100000 in
theorem vcWCheckR (u : Bool) (t c : UInt64) (ws : List UInt64) : (vcFn WI0 100 37 [.agg [.one (.b u), .one (.u64 t), .vec (.n 4) (.u64 ws)], .s (.u64 c)] (.s (.b (chk ⟨u, t, ws⟩ c)))) =
  (((!u) = true → true = chk { u := u, t := t, ws := ws : Win } c ∧ True) ∧ ((!u) = false → (decide (t < c) = true → true = chk { u := u, t := t, ws := ws : Win } c ∧ True) ∧ (decide (t < c) = false → UInt64.ofNat (nat_lit 64) ≠ (0 : UInt64) ∧ UInt64.ofNat (nat_lit 64) ≠ (0 : UInt64) ∧ (decide (t / UInt64.ofNat (nat_lit 64) - c / UInt64.ofNat (nat_lit 64) ≤ UInt64.ofNat (nat_lit 3)) = true → UInt64.ofNat (nat_lit 64) ≠ (0 : UInt64) ∧ UInt64.ofNat (nat_lit 4) ≠ (0 : UInt64) ∧ (c / UInt64.ofNat (nat_lit 64) % UInt64.ofNat (nat_lit 4)).toNat < (4 : Nat) ∧ (c / UInt64.ofNat (nat_lit 64) % UInt64.ofNat (nat_lit 4)).toNat < (4 : Nat) ∧ UInt64.ofNat (nat_lit 64) ≠ (0 : UInt64) ∧ (shr64 (ws.getD (c / UInt64.ofNat (nat_lit 64) % UInt64.ofNat (nat_lit 4)).toNat (0 : UInt64)) (c % UInt64.ofNat (nat_lit 64)).toNat &&& UInt64.ofNat (nat_lit 1) == UInt64.ofNat (nat_lit 0)) = chk { u := u, t := t, ws := ws : Win } c ∧ True) ∧ (decide (t / UInt64.ofNat (nat_lit 64) - c / UInt64.ofNat (nat_lit 64) ≤ UInt64.ofNat (nat_lit 3)) = false → false = chk { u := u, t := t, ws := ws : Win } c ∧ True)))) := by kernel_rfl
set_option maxRecDepth 100000 in
theorem vcWCheck (u : Bool) (t c : UInt64) (ws : List UInt64) : (vcFn WI0 100 38 [.agg [.one (.b u), .one (.u64 t), .vec (.n 4) (.u64 ws)], .s (.u64 c)] (.s (.b (chk ⟨u, t, ws⟩ c)))) =
  (((!u) = true → true = chk { u := u, t := t, ws := ws : Win } c ∧ True) ∧ ((!u) = false → (decide (t < c) = true → true = chk { u := u, t := t, ws := ws : Win } c ∧ True) ∧ (decide (t < c) = false → UInt64.ofNat (nat_lit 64) ≠ (0 : UInt64) ∧ UInt64.ofNat (nat_lit 64) ≠ (0 : UInt64) ∧ (decide (t / UInt64.ofNat (nat_lit 64) - c / UInt64.ofNat (nat_lit 64) < UInt64.ofNat (nat_lit 4)) = true → UInt64.ofNat (nat_lit 4) ≠ (0 : UInt64) ∧ (c / UInt64.ofNat (nat_lit 64) % UInt64.ofNat (nat_lit 4)).toNat < (4 : Nat) ∧ (c / UInt64.ofNat (nat_lit 64) % UInt64.ofNat (nat_lit 4)).toNat < (4 : Nat) ∧ UInt64.ofNat (nat_lit 64) ≠ (0 : UInt64) ∧ (shr64 (ws.getD (c / UInt64.ofNat (nat_lit 64) % UInt64.ofNat (nat_lit 4)).toNat (0 : UInt64)) (c % UInt64.ofNat (nat_lit 64)).toNat &&& UInt64.ofNat (nat_lit 1) == UInt64.ofNat (nat_lit 0)) = chk { u := u, t := t, ws := ws : Win } c ∧ True) ∧ (decide (t / UInt64.ofNat (nat_lit 64) - c / UInt64.ofNat (nat_lit 64) < UInt64.ofNat (nat_lit 4)) = false → false = chk { u := u, t := t, ws := ws : Win } c ∧ True)))) := by kernel_rfl
set_option maxRecDepth 100000 in
theorem vcWAcc (u : Bool) (t c : UInt64) (ws : List UInt64) : (vcFn WIp 100 39 [.agg [.one (.b u), .one (.u64 t), .vec (.n 4) (.u64 ws)], .s (.u64 c)] (.tup [(acc ⟨u, t, ws⟩ c).W, .s (.b (chk ⟨u, t, ws⟩ c))])) =
  (((!chk { u := u, t := t, ws := ws : Win } c) = true → u = (acc { u := u, t := t, ws := ws : Win } c).u ∧ t = (acc { u := u, t := t, ws := ws : Win } c).t ∧ ws = (acc { u := u, t := t, ws := ws : Win } c).ws ∧ false = chk { u := u, t := t, ws := ws : Win } c ∧ True) ∧ ((!chk { u := u, t := t, ws := ws : Win } c) = false → UInt64.ofNat (nat_lit 64) ≠ (0 : UInt64) ∧ ((!u) = true → UInt64.ofNat (nat_lit 4) ≠ (0 : UInt64) ∧ (c / UInt64.ofNat (nat_lit 64) % UInt64.ofNat (nat_lit 4)).toNat < (4 : Nat) ∧ (c / UInt64.ofNat (nat_lit 64) % UInt64.ofNat (nat_lit 4)).toNat < (4 : Nat) ∧ UInt64.ofNat (nat_lit 64) ≠ (0 : UInt64) ∧ (c / UInt64.ofNat (nat_lit 64) % UInt64.ofNat (nat_lit 4)).toNat < (4 : Nat) ∧ (c / UInt64.ofNat (nat_lit 64) % UInt64.ofNat (nat_lit 4)).toNat < (4 : Nat) ∧ true = (acc { u := u, t := t, ws := ws : Win } c).u ∧ c = (acc { u := u, t := t, ws := ws : Win } c).t ∧ (List.replicate (4 : Nat) (0 : UInt64)).set (c / UInt64.ofNat (nat_lit 64) % UInt64.ofNat (nat_lit 4)).toNat ((List.replicate (4 : Nat) (0 : UInt64)).getD (c / UInt64.ofNat (nat_lit 64) % UInt64.ofNat (nat_lit 4)).toNat (0 : UInt64) ||| shl64 (UInt64.ofNat (nat_lit 1)) (c % UInt64.ofNat (nat_lit 64)).toNat) = (acc { u := u, t := t, ws := ws : Win } c).ws ∧ true = chk { u := u, t := t, ws := ws : Win } c ∧ True) ∧ ((!u) = false → (decide (t < c) = true → UInt64.ofNat (nat_lit 64) ≠ (0 : UInt64) ∧ (∃ (x : Nat), x ≤ (if UInt64.ofNat (nat_lit 4) < c / UInt64.ofNat (nat_lit 64) - t / UInt64.ofNat (nat_lit 64) then UInt64.ofNat (nat_lit 4) else c / UInt64.ofNat (nat_lit 64) - t / UInt64.ofNat (nat_lit 64)).toNat ∧ c = c ∧ c / UInt64.ofNat (nat_lit 64) = c / UInt64.ofNat (nat_lit 64) ∧ t / UInt64.ofNat (nat_lit 64) = t / UInt64.ofNat (nat_lit 64) ∧ ((if UInt64.ofNat (nat_lit 4) < c / UInt64.ofNat (nat_lit 64) - t / UInt64.ofNat (nat_lit 64) then UInt64.ofNat (nat_lit 4) else c / UInt64.ofNat (nat_lit 64) - t / UInt64.ofNat (nat_lit 64)) = if UInt64.ofNat (nat_lit 4) < c / UInt64.ofNat (nat_lit 64) - t / UInt64.ofNat (nat_lit 64) then UInt64.ofNat (nat_lit 4) else c / UInt64.ofNat (nat_lit 64) - t / UInt64.ofNat (nat_lit 64)) ∧ UInt64.ofNat (nat_lit 0) = UInt64.ofNat x ∧ u = true ∧ t = t ∧ ws = clr ws (t / (64 : UInt64)) x ∧ false = false ∧ (0 : UInt64) = (0 : UInt64) ∧ List.replicate (4 : Nat) (0 : UInt64) = List.replicate (4 : Nat) (0 : UInt64) ∧ True) ∧ ∀ (x : Nat), x ≤ (if UInt64.ofNat (nat_lit 4) < c / UInt64.ofNat (nat_lit 64) - t / UInt64.ofNat (nat_lit 64) then UInt64.ofNat (nat_lit 4) else c / UInt64.ofNat (nat_lit 64) - t / UInt64.ofNat (nat_lit 64)).toNat → (decide (UInt64.ofNat x < if UInt64.ofNat (nat_lit 4) < c / UInt64.ofNat (nat_lit 64) - t / UInt64.ofNat (nat_lit 64) then UInt64.ofNat (nat_lit 4) else c / UInt64.ofNat (nat_lit 64) - t / UInt64.ofNat (nat_lit 64)) = true → UInt64.ofNat (nat_lit 4) ≠ (0 : UInt64) ∧ ((t / UInt64.ofNat (nat_lit 64) + UInt64.ofNat (nat_lit 1) + UInt64.ofNat x) % UInt64.ofNat (nat_lit 4)).toNat < (4 : Nat) ∧ ((t / UInt64.ofNat (nat_lit 64) + UInt64.ofNat (nat_lit 1) + UInt64.ofNat x) % UInt64.ofNat (nat_lit 4)).toNat < (4 : Nat) ∧ ∃ (y : Nat), y ≤ (if UInt64.ofNat (nat_lit 4) < c / UInt64.ofNat (nat_lit 64) - t / UInt64.ofNat (nat_lit 64) then UInt64.ofNat (nat_lit 4) else c / UInt64.ofNat (nat_lit 64) - t / UInt64.ofNat (nat_lit 64)).toNat ∧ (if UInt64.ofNat (nat_lit 4) < c / UInt64.ofNat (nat_lit 64) - t / UInt64.ofNat (nat_lit 64) then UInt64.ofNat (nat_lit 4) else c / UInt64.ofNat (nat_lit 64) - t / UInt64.ofNat (nat_lit 64)).toNat - y < (if UInt64.ofNat (nat_lit 4) < c / UInt64.ofNat (nat_lit 64) - t / UInt64.ofNat (nat_lit 64) then UInt64.ofNat (nat_lit 4) else c / UInt64.ofNat (nat_lit 64) - t / UInt64.ofNat (nat_lit 64)).toNat - x ∧ c = c ∧ c / UInt64.ofNat (nat_lit 64) = c / UInt64.ofNat (nat_lit 64) ∧ t / UInt64.ofNat (nat_lit 64) = t / UInt64.ofNat (nat_lit 64) ∧ ((if UInt64.ofNat (nat_lit 4) < c / UInt64.ofNat (nat_lit 64) - t / UInt64.ofNat (nat_lit 64) then UInt64.ofNat (nat_lit 4) else c / UInt64.ofNat (nat_lit 64) - t / UInt64.ofNat (nat_lit 64)) = if UInt64.ofNat (nat_lit 4) < c / UInt64.ofNat (nat_lit 64) - t / UInt64.ofNat (nat_lit 64) then UInt64.ofNat (nat_lit 4) else c / UInt64.ofNat (nat_lit 64) - t / UInt64.ofNat (nat_lit 64)) ∧ UInt64.ofNat x + UInt64.ofNat (nat_lit 1) = UInt64.ofNat y ∧ true = true ∧ t = t ∧ (clr ws (t / (64 : UInt64)) x).set ((t / UInt64.ofNat (nat_lit 64) + UInt64.ofNat (nat_lit 1) + UInt64.ofNat x) % UInt64.ofNat (nat_lit 4)).toNat (UInt64.ofNat (nat_lit 0)) = clr ws (t / (64 : UInt64)) y ∧ false = false ∧ (0 : UInt64) = (0 : UInt64) ∧ List.replicate (4 : Nat) (0 : UInt64) = List.replicate (4 : Nat) (0 : UInt64) ∧ True) ∧ (decide (UInt64.ofNat x < if UInt64.ofNat (nat_lit 4) < c / UInt64.ofNat (nat_lit 64) - t / UInt64.ofNat (nat_lit 64) then UInt64.ofNat (nat_lit 4) else c / UInt64.ofNat (nat_lit 64) - t / UInt64.ofNat (nat_lit 64)) = false → UInt64.ofNat (nat_lit 4) ≠ (0 : UInt64) ∧ (c / UInt64.ofNat (nat_lit 64) % UInt64.ofNat (nat_lit 4)).toNat < (4 : Nat) ∧ (c / UInt64.ofNat (nat_lit 64) % UInt64.ofNat (nat_lit 4)).toNat < (4 : Nat) ∧ UInt64.ofNat (nat_lit 64) ≠ (0 : UInt64) ∧ (c / UInt64.ofNat (nat_lit 64) % UInt64.ofNat (nat_lit 4)).toNat < (4 : Nat) ∧ (c / UInt64.ofNat (nat_lit 64) % UInt64.ofNat (nat_lit 4)).toNat < (4 : Nat) ∧ true = (acc { u := u, t := t, ws := ws : Win } c).u ∧ c = (acc { u := u, t := t, ws := ws : Win } c).t ∧ (clr ws (t / (64 : UInt64)) x).set (c / UInt64.ofNat (nat_lit 64) % UInt64.ofNat (nat_lit 4)).toNat ((clr ws (t / (64 : UInt64)) x).getD (c / UInt64.ofNat (nat_lit 64) % UInt64.ofNat (nat_lit 4)).toNat (0 : UInt64) ||| shl64 (UInt64.ofNat (nat_lit 1)) (c % UInt64.ofNat (nat_lit 64)).toNat) = (acc { u := u, t := t, ws := ws : Win } c).ws ∧ true = chk { u := u, t := t, ws := ws : Win } c ∧ True)) ∧ (decide (t < c) = false → UInt64.ofNat (nat_lit 4) ≠ (0 : UInt64) ∧ (c / UInt64.ofNat (nat_lit 64) % UInt64.ofNat (nat_lit 4)).toNat < (4 : Nat) ∧ (c / UInt64.ofNat (nat_lit 64) % UInt64.ofNat (nat_lit 4)).toNat < (4 : Nat) ∧ UInt64.ofNat (nat_lit 64) ≠ (0 : UInt64) ∧ (c / UInt64.ofNat (nat_lit 64) % UInt64.ofNat (nat_lit 4)).toNat < (4 : Nat) ∧ (c / UInt64.ofNat (nat_lit 64) % UInt64.ofNat (nat_lit 4)).toNat < (4 : Nat) ∧ u = (acc { u := u, t := t, ws := ws : Win } c).u ∧ t = (acc { u := u, t := t, ws := ws : Win } c).t ∧ ws.set (c / UInt64.ofNat (nat_lit 64) % UInt64.ofNat (nat_lit 4)).toNat (ws.getD (c / UInt64.ofNat (nat_lit 64) % UInt64.ofNat (nat_lit 4)).toNat (0 : UInt64) ||| shl64 (UInt64.ofNat (nat_lit 1)) (c % UInt64.ofNat (nat_lit 64)).toNat) = (acc { u := u, t := t, ws := ws : Win } c).ws ∧ true = chk { u := u, t := t, ws := ws : Win } c ∧ True)))) := by kernel_rfl
set_option maxRecDepth 100000 in
theorem vcWAccR (u : Bool) (t c : UInt64) (ws : List UInt64) : (vcFn WIr 100 15 [.agg [.one (.b u), .one (.u64 t), .vec (.n 4) (.u64 ws)], .s (.u64 c)] (.tup [(acc ⟨u, t, ws⟩ c).W, .s (.b (chk ⟨u, t, ws⟩ c))])) =
  (((!chk { u := u, t := t, ws := ws : Win } c) = true → u = (acc { u := u, t := t, ws := ws : Win } c).u ∧ t = (acc { u := u, t := t, ws := ws : Win } c).t ∧ ws = (acc { u := u, t := t, ws := ws : Win } c).ws ∧ false = chk { u := u, t := t, ws := ws : Win } c ∧ True) ∧ ((!chk { u := u, t := t, ws := ws : Win } c) = false → ((!u) = true → (decide (c < c) = true → (∃ (x : Nat), x ≤ (m4 (c / (64 : UInt64) - c / (64 : UInt64))).toNat ∧ c = c ∧ UInt64.ofNat (nat_lit 1) = (1 : UInt64) + UInt64.ofNat x ∧ true = true ∧ c = c ∧ List.replicate (4 : Nat) (0 : UInt64) = clr (List.replicate (4 : Nat) (0 : UInt64)) (c / (64 : UInt64)) x ∧ false = false ∧ (0 : UInt64) = (0 : UInt64) ∧ List.replicate (4 : Nat) (0 : UInt64) = List.replicate (4 : Nat) (0 : UInt64) ∧ True) ∧ ∀ (x : Nat), x ≤ (m4 (c / (64 : UInt64) - c / (64 : UInt64))).toNat → UInt64.ofNat (nat_lit 64) ≠ (0 : UInt64) ∧ UInt64.ofNat (nat_lit 64) ≠ (0 : UInt64) ∧ (decide ((1 : UInt64) + UInt64.ofNat x ≤ if UInt64.ofNat (nat_lit 4) < c / UInt64.ofNat (nat_lit 64) - c / UInt64.ofNat (nat_lit 64) then UInt64.ofNat (nat_lit 4) else c / UInt64.ofNat (nat_lit 64) - c / UInt64.ofNat (nat_lit 64)) = true → UInt64.ofNat (nat_lit 64) ≠ (0 : UInt64) ∧ UInt64.ofNat (nat_lit 4) ≠ (0 : UInt64) ∧ ((c / UInt64.ofNat (nat_lit 64) + ((1 : UInt64) + UInt64.ofNat x)) % UInt64.ofNat (nat_lit 4)).toNat < (4 : Nat) ∧ ((c / UInt64.ofNat (nat_lit 64) + ((1 : UInt64) + UInt64.ofNat x)) % UInt64.ofNat (nat_lit 4)).toNat < (4 : Nat) ∧ ∃ (y : Nat), y ≤ (m4 (c / (64 : UInt64) - c / (64 : UInt64))).toNat ∧ (m4 (c / (64 : UInt64) - c / (64 : UInt64))).toNat - y < (m4 (c / (64 : UInt64) - c / (64 : UInt64))).toNat - x ∧ c = c ∧ (1 : UInt64) + UInt64.ofNat x + UInt64.ofNat (nat_lit 1) = (1 : UInt64) + UInt64.ofNat y ∧ true = true ∧ c = c ∧ (clr (List.replicate (4 : Nat) (0 : UInt64)) (c / (64 : UInt64)) x).set ((c / UInt64.ofNat (nat_lit 64) + ((1 : UInt64) + UInt64.ofNat x)) % UInt64.ofNat (nat_lit 4)).toNat (UInt64.ofNat (nat_lit 0)) = clr (List.replicate (4 : Nat) (0 : UInt64)) (c / (64 : UInt64)) y ∧ false = false ∧ (0 : UInt64) = (0 : UInt64) ∧ List.replicate (4 : Nat) (0 : UInt64) = List.replicate (4 : Nat) (0 : UInt64) ∧ True) ∧ (decide ((1 : UInt64) + UInt64.ofNat x ≤ if UInt64.ofNat (nat_lit 4) < c / UInt64.ofNat (nat_lit 64) - c / UInt64.ofNat (nat_lit 64) then UInt64.ofNat (nat_lit 4) else c / UInt64.ofNat (nat_lit 64) - c / UInt64.ofNat (nat_lit 64)) = false → UInt64.ofNat (nat_lit 64) ≠ (0 : UInt64) ∧ UInt64.ofNat (nat_lit 4) ≠ (0 : UInt64) ∧ (c / UInt64.ofNat (nat_lit 64) % UInt64.ofNat (nat_lit 4)).toNat < (4 : Nat) ∧ (c / UInt64.ofNat (nat_lit 64) % UInt64.ofNat (nat_lit 4)).toNat < (4 : Nat) ∧ UInt64.ofNat (nat_lit 64) ≠ (0 : UInt64) ∧ (c / UInt64.ofNat (nat_lit 64) % UInt64.ofNat (nat_lit 4)).toNat < (4 : Nat) ∧ (c / UInt64.ofNat (nat_lit 64) % UInt64.ofNat (nat_lit 4)).toNat < (4 : Nat) ∧ true = (acc { u := u, t := t, ws := ws : Win } c).u ∧ c = (acc { u := u, t := t, ws := ws : Win } c).t ∧ (clr (List.replicate (4 : Nat) (0 : UInt64)) (c / (64 : UInt64)) x).set (c / UInt64.ofNat (nat_lit 64) % UInt64.ofNat (nat_lit 4)).toNat ((clr (List.replicate (4 : Nat) (0 : UInt64)) (c / (64 : UInt64)) x).getD (c / UInt64.ofNat (nat_lit 64) % UInt64.ofNat (nat_lit 4)).toNat (0 : UInt64) ||| shl64 (UInt64.ofNat (nat_lit 1)) (c % UInt64.ofNat (nat_lit 64)).toNat) = (acc { u := u, t := t, ws := ws : Win } c).ws ∧ true = chk { u := u, t := t, ws := ws : Win } c ∧ True)) ∧ (decide (c < c) = false → UInt64.ofNat (nat_lit 64) ≠ (0 : UInt64) ∧ UInt64.ofNat (nat_lit 4) ≠ (0 : UInt64) ∧ (c / UInt64.ofNat (nat_lit 64) % UInt64.ofNat (nat_lit 4)).toNat < (4 : Nat) ∧ (c / UInt64.ofNat (nat_lit 64) % UInt64.ofNat (nat_lit 4)).toNat < (4 : Nat) ∧ UInt64.ofNat (nat_lit 64) ≠ (0 : UInt64) ∧ (c / UInt64.ofNat (nat_lit 64) % UInt64.ofNat (nat_lit 4)).toNat < (4 : Nat) ∧ (c / UInt64.ofNat (nat_lit 64) % UInt64.ofNat (nat_lit 4)).toNat < (4 : Nat) ∧ true = (acc { u := u, t := t, ws := ws : Win } c).u ∧ c = (acc { u := u, t := t, ws := ws : Win } c).t ∧ (List.replicate (4 : Nat) (0 : UInt64)).set (c / UInt64.ofNat (nat_lit 64) % UInt64.ofNat (nat_lit 4)).toNat ((List.replicate (4 : Nat) (0 : UInt64)).getD (c / UInt64.ofNat (nat_lit 64) % UInt64.ofNat (nat_lit 4)).toNat (0 : UInt64) ||| shl64 (UInt64.ofNat (nat_lit 1)) (c % UInt64.ofNat (nat_lit 64)).toNat) = (acc { u := u, t := t, ws := ws : Win } c).ws ∧ true = chk { u := u, t := t, ws := ws : Win } c ∧ True)) ∧ ((!u) = false → (decide (t < c) = true → (∃ (x : Nat), x ≤ (m4 (c / (64 : UInt64) - t / (64 : UInt64))).toNat ∧ c = c ∧ UInt64.ofNat (nat_lit 1) = (1 : UInt64) + UInt64.ofNat x ∧ u = true ∧ t = t ∧ ws = clr ws (t / (64 : UInt64)) x ∧ false = false ∧ (0 : UInt64) = (0 : UInt64) ∧ List.replicate (4 : Nat) (0 : UInt64) = List.replicate (4 : Nat) (0 : UInt64) ∧ True) ∧ ∀ (x : Nat), x ≤ (m4 (c / (64 : UInt64) - t / (64 : UInt64))).toNat → UInt64.ofNat (nat_lit 64) ≠ (0 : UInt64) ∧ UInt64.ofNat (nat_lit 64) ≠ (0 : UInt64) ∧ (decide ((1 : UInt64) + UInt64.ofNat x ≤ if UInt64.ofNat (nat_lit 4) < c / UInt64.ofNat (nat_lit 64) - t / UInt64.ofNat (nat_lit 64) then UInt64.ofNat (nat_lit 4) else c / UInt64.ofNat (nat_lit 64) - t / UInt64.ofNat (nat_lit 64)) = true → UInt64.ofNat (nat_lit 64) ≠ (0 : UInt64) ∧ UInt64.ofNat (nat_lit 4) ≠ (0 : UInt64) ∧ ((t / UInt64.ofNat (nat_lit 64) + ((1 : UInt64) + UInt64.ofNat x)) % UInt64.ofNat (nat_lit 4)).toNat < (4 : Nat) ∧ ((t / UInt64.ofNat (nat_lit 64) + ((1 : UInt64) + UInt64.ofNat x)) % UInt64.ofNat (nat_lit 4)).toNat < (4 : Nat) ∧ ∃ (y : Nat), y ≤ (m4 (c / (64 : UInt64) - t / (64 : UInt64))).toNat ∧ (m4 (c / (64 : UInt64) - t / (64 : UInt64))).toNat - y < (m4 (c / (64 : UInt64) - t / (64 : UInt64))).toNat - x ∧ c = c ∧ (1 : UInt64) + UInt64.ofNat x + UInt64.ofNat (nat_lit 1) = (1 : UInt64) + UInt64.ofNat y ∧ true = true ∧ t = t ∧ (clr ws (t / (64 : UInt64)) x).set ((t / UInt64.ofNat (nat_lit 64) + ((1 : UInt64) + UInt64.ofNat x)) % UInt64.ofNat (nat_lit 4)).toNat (UInt64.ofNat (nat_lit 0)) = clr ws (t / (64 : UInt64)) y ∧ false = false ∧ (0 : UInt64) = (0 : UInt64) ∧ List.replicate (4 : Nat) (0 : UInt64) = List.replicate (4 : Nat) (0 : UInt64) ∧ True) ∧ (decide ((1 : UInt64) + UInt64.ofNat x ≤ if UInt64.ofNat (nat_lit 4) < c / UInt64.ofNat (nat_lit 64) - t / UInt64.ofNat (nat_lit 64) then UInt64.ofNat (nat_lit 4) else c / UInt64.ofNat (nat_lit 64) - t / UInt64.ofNat (nat_lit 64)) = false → UInt64.ofNat (nat_lit 64) ≠ (0 : UInt64) ∧ UInt64.ofNat (nat_lit 4) ≠ (0 : UInt64) ∧ (c / UInt64.ofNat (nat_lit 64) % UInt64.ofNat (nat_lit 4)).toNat < (4 : Nat) ∧ (c / UInt64.ofNat (nat_lit 64) % UInt64.ofNat (nat_lit 4)).toNat < (4 : Nat) ∧ UInt64.ofNat (nat_lit 64) ≠ (0 : UInt64) ∧ (c / UInt64.ofNat (nat_lit 64) % UInt64.ofNat (nat_lit 4)).toNat < (4 : Nat) ∧ (c / UInt64.ofNat (nat_lit 64) % UInt64.ofNat (nat_lit 4)).toNat < (4 : Nat) ∧ true = (acc { u := u, t := t, ws := ws : Win } c).u ∧ c = (acc { u := u, t := t, ws := ws : Win } c).t ∧ (clr ws (t / (64 : UInt64)) x).set (c / UInt64.ofNat (nat_lit 64) % UInt64.ofNat (nat_lit 4)).toNat ((clr ws (t / (64 : UInt64)) x).getD (c / UInt64.ofNat (nat_lit 64) % UInt64.ofNat (nat_lit 4)).toNat (0 : UInt64) ||| shl64 (UInt64.ofNat (nat_lit 1)) (c % UInt64.ofNat (nat_lit 64)).toNat) = (acc { u := u, t := t, ws := ws : Win } c).ws ∧ true = chk { u := u, t := t, ws := ws : Win } c ∧ True)) ∧ (decide (t < c) = false → UInt64.ofNat (nat_lit 64) ≠ (0 : UInt64) ∧ UInt64.ofNat (nat_lit 4) ≠ (0 : UInt64) ∧ (c / UInt64.ofNat (nat_lit 64) % UInt64.ofNat (nat_lit 4)).toNat < (4 : Nat) ∧ (c / UInt64.ofNat (nat_lit 64) % UInt64.ofNat (nat_lit 4)).toNat < (4 : Nat) ∧ UInt64.ofNat (nat_lit 64) ≠ (0 : UInt64) ∧ (c / UInt64.ofNat (nat_lit 64) % UInt64.ofNat (nat_lit 4)).toNat < (4 : Nat) ∧ (c / UInt64.ofNat (nat_lit 64) % UInt64.ofNat (nat_lit 4)).toNat < (4 : Nat) ∧ u = (acc { u := u, t := t, ws := ws : Win } c).u ∧ t = (acc { u := u, t := t, ws := ws : Win } c).t ∧ ws.set (c / UInt64.ofNat (nat_lit 64) % UInt64.ofNat (nat_lit 4)).toNat (ws.getD (c / UInt64.ofNat (nat_lit 64) % UInt64.ofNat (nat_lit 4)).toNat (0 : UInt64) ||| shl64 (UInt64.ofNat (nat_lit 1)) (c % UInt64.ofNat (nat_lit 64)).toNat) = (acc { u := u, t := t, ws := ws : Win } c).ws ∧ true = chk { u := u, t := t, ws := ws : Win } c ∧ True)))) := by kernel_rfl
end Go.Proofs.Ytimjfjlaoekfkaa
