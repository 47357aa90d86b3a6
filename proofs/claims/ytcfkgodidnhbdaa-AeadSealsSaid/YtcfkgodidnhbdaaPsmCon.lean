/- A step towards AeadSealsSaid: no conditions. -/
import Derived.Test.YtcfkgodidnhbdaaPsmVc
import Derived.Test.YtcfkgodidnhbdaaPolCon
namespace Go.Proofs.Ytcfkgodidnhbdaa
open Go Go.Eng Go.Cod Go.Pol
theorem natL_zeros : ∀ n, natL (List.replicate n 0) = 0
  | 0 => rfl
  | n + 1 => by rw [List.replicate_succ, natL, natL_zeros n]; rfl
theorem piece_eq {part : List UInt8} {n : Nat} (hn : part.length = n) (h : n ≤ 16) : (over (List.replicate 24 (0 : UInt8)) 0 part).set n (UInt8.ofNat 1) = part ++ UInt8.ofNat 1 :: List.replicate (23 - n) 0 := by
  unfold over
  rw [List.take_zero, List.nil_append, Nat.zero_add, List.drop_replicate, hn, show 24 - n = (23 - n) + 1 by omega, List.replicate_succ, List.set_append_right _ _ (by omega), hn, Nat.sub_self, List.set_cons_zero]
theorem piece_nat {part : List UInt8} {n : Nat} (hn : part.length = n) (h : n ≤ 16) :
    natL ((over (List.replicate 24 (0 : UInt8)) 0 part).set n (UInt8.ofNat 1)) = natL part + 256 ^ n ∧ ((over (List.replicate 24 (0 : UInt8)) 0 part).set n (UInt8.ofNat 1)).length = 24 := by
  rw [piece_eq hn h]
  refine ⟨?_, ?_⟩
  · rw [natL_append, natL, natL_zeros, hn]
    show _ + 256 ^ n * (1 + 0) = _
    omega
  · simp only [List.length_append, List.length_cons, List.length_replicate]; omega
theorem split24 {q : List UInt8} (h : q.length = 24) : (readL (q.take 8)).toNat + 18446744073709551616 * (readL ((q.drop 8).take 8)).toNat + 340282366920938463463374607431768211456 * (readL ((q.drop 16).take 8)).toNat = natL q := by
  have l1 : (q.take 8).length = 8 := by rw [List.length_take]; omega
  have l2 : ((q.drop 8).take 8).length = 8 := by rw [List.length_take, List.length_drop]; omega
  rw [readL_nat _ (by omega), readL_nat _ (by omega), readL_nat _ (by rw [List.length_take]; omega)]
  have e : q = q.take 8 ++ ((q.drop 8).take 8 ++ (q.drop 16).take 8) := by
    have a : (q.drop 16).take 8 = (q.drop 8).drop 8 := by rw [List.drop_drop, List.take_of_length_le (by rw [List.length_drop]; omega)]
    rw [a, List.take_append_drop, List.take_append_drop]
  conv => rhs; rw [e]
  rw [natL_append, natL_append, l1, l2]
  have : (256 : Nat) ^ 8 = 18446744073709551616 := rfl
  rw [this, Nat.mul_add, ← Nat.mul_assoc]
  omega
theorem add3 {H lo hi : Nat} {top : UInt64} (hH : H < 1573805947009340393518107559371927977985) (h1 : lo < 18446744073709551616) (h2 : hi < 18446744073709551616) (ht : top.toNat ≤ 1) :
    (w3 (val3 (w3 H) + (lo + 18446744073709551616 * hi))).set 2 ((w3 (val3 (w3 H) + (lo + 18446744073709551616 * hi))).getD 2 0 + top) = w3 (H + (lo + 18446744073709551616 * hi + 340282366920938463463374607431768211456 * top.toNat)) := by
  rw [w3_val (by simp only [D192]; omega)]
  unfold w3
  simp only [List.getD_cons_zero, List.getD_cons_succ, List.set_cons_zero, List.set_cons_succ]
  congr 1
  · exact u_eq (by rw [u_nat]; simp only [D64]; omega)
  congr 1
  · exact u_eq (by rw [u_nat]; simp only [D64]; omega)
  congr 1
  · refine u_eq ?_
    rw [UInt64.toNat_add, u_nat]
    simp only [D64, D128]
    omega
theorem red1_lt {x : Nat} (h : x < 57896044618658097711785492504343953926634992332820282019728792003956564819968) : red1 x < 1573805947009340393518107559371927977985 := by
  unfold red1; omega
theorem blkP_lt (d : List UInt8) (j : Nat) : blkP d j < 680564733841876926926749214863536422912 := by
  unfold blkP
  have h1 := natL_lt ((d.drop (16 * j)).take 16)
  have h2 : ((d.drop (16 * j)).take 16).length = min 16 (d.length - 16 * j) := by rw [List.length_take, List.length_drop]
  rw [h2] at h1
  have h3 : 256 ^ (min 16 (d.length - 16 * j)) ≤ 256 ^ 16 := Nat.pow_le_pow_right (by decide) (Nat.min_le_left ..)
  have h4 : (256 : Nat) ^ 16 = 340282366920938463463374607431768211456 := rfl
  omega
theorem hN_lt {r : Nat} (d : List UInt8) (hr : r < 21267647932558653966460912964485513216) : ∀ j, hN r d j < 1573805947009340393518107559371927977985
  | 0 => by show 0 < _; decide
  | j + 1 => by
    have h1 := hN_lt d hr j
    have h2 := blkP_lt d j
    show red1 ((hN r d j + blkP d j) * r) < _
    refine red1_lt ?_
    have := Nat.mul_le_mul (show hN r d j + blkP d j ≤ 2722258935367507707706996859454145691647 by omega) (show r ≤ 21267647932558653966460912964485513215 by omega)
    omega
theorem r0_lt (x : UInt64) : (x &&& UInt64.ofNat 1152921487695413247).toNat < 1152921504606846976 := by
  have : (x &&& UInt64.ofNat 1152921487695413247).toNat ≤ 1152921487695413247 := by rw [UInt64.toNat_and]; exact Nat.and_le_right
  omega
theorem r1_lt (x : UInt64) : (x &&& UInt64.ofNat 1152921487695413244).toNat < 1152921504606846976 := by
  have : (x &&& UInt64.ofNat 1152921487695413244).toNat ≤ 1152921487695413244 := by rw [UInt64.toNat_and]; exact Nat.and_le_right
  omega
theorem hN0 (r : Nat) (d : List UInt8) : List.replicate 3 (0 : UInt64) = w3 (hN r d 0) := by
  show List.replicate 3 (0 : UInt64) = w3 0
  decide +kernel
set_option maxRecDepth 100000 in
set_option maxHeartbeats 4000000 in
theorem conPoly : Con Try.prog 27 gPoly := con_of_vcl fun args ps res h hp hlen => by
  unfold gPoly at h
  split at h <;> cases h
  rename_i k m d
  obtain ⟨rfl, hp2⟩ := all_cons.1 hp
  have hl := (all_cons.1 hp2).1
  have hk : k.length = 32 := hlen.1.1
  refine ⟨PEs, 200, rfl, eokX (gs := [(34, gReadL), (15, gLittleN), (14, gJoin), (36, gAddN), (37, gTimes), (38, gReduced)]) ⟨conReadL, conLittleN4, conJoin, conAddN, conTimes, conReduced, trivial⟩, ?_⟩
  rw [vcPoly k d]
  have t8 : ∀ l : List UInt8, (List.take 8 l).length < 4611686018427387904 := fun l => by rw [List.length_take]; omega
  have dd : ∀ (l : List UInt8) (i : Nat), dropL l i = l.drop i := fun l i => by cases i <;> rfl
  have minNN : ∀ a b : Nat, min (a : Int) (b : Int) = ((min a b : Nat) : Int) := fun a b => by omega
  simp only [forall_eq, true_and, and_true, io, decide_eq_true_eq, decide_eq_false_iff_not, dd, Nat.zero_add, forall_const, Int.toNat_natCast, minNN, t8]
  show _ ∧ _ ∧ (∃ x, _) ∧ _
  refine ⟨by decide, by decide, ⟨0, Nat.zero_le _, rfl, rfl, hN0 _ d⟩, fun j hj => ⟨fun hlt => ?_, fun hge => ?_⟩⟩
  · have hj' : 16 * j < d.length := by rw [List.length_drop] at hlt; omega
    have hmin : min (List.drop (16 * j) d).length 16 = min 16 (d.length - 16 * j) := by rw [List.length_drop, Nat.min_comm]
    have hpt : List.take 24 (List.take (min 16 (d.length - 16 * j)) (List.drop (16 * j) d)) = (d.drop (16 * j)).take 16 := by
      rw [List.take_take, List.take_eq_take_iff, List.length_drop]; omega
    have hpl : ((d.drop (16 * j)).take 16).length = min 16 (d.length - 16 * j) := by rw [List.length_take, List.length_drop]
    have hn16 : min 16 (d.length - 16 * j) ≤ 16 := Nat.min_le_left ..
    rw [hmin, hpt]
    obtain ⟨g1, g2⟩ := piece_nat hpl hn16
    have hsp := split24 g2
    have hR : (readL (List.take 8 k) &&& UInt64.ofNat 1152921487695413247).toNat + D64 * (readL (List.take 8 (List.drop 8 k)) &&& UInt64.ofNat 1152921487695413244).toNat < 21267647932558653966460912964485513216 := by
      have := r0_lt (readL (List.take 8 k))
      have := r1_lt (readL (List.take 8 (List.drop 8 k)))
      simp only [D64]
      omega
    have hb1 := r0_lt (readL (List.take 8 k))
    have hb2 := r1_lt (readL (List.take 8 (List.drop 8 k)))
    have hH := hN_lt d hR j
    have hB : natL ((over (List.replicate 24 (0 : UInt8)) 0 ((d.drop (16 * j)).take 16)).set (min 16 (d.length - 16 * j)) (UInt8.ofNat 1)) = blkP d j := g1
    rw [hB] at hsp
    have hbl := blkP_lt d j
    have hs1 := lt64 (readL (List.take 8 ((over (List.replicate 24 (0 : UInt8)) 0 ((d.drop (16 * j)).take 16)).set (min 16 (d.length - 16 * j)) (UInt8.ofNat 1))))
    have hs2 := lt64 (readL (List.take 8 (List.drop 8 ((over (List.replicate 24 (0 : UInt8)) 0 ((d.drop (16 * j)).take 16)).set (min 16 (d.length - 16 * j)) (UInt8.ofNat 1)))))
    have hadd := add3 (top := readL (List.take 8 (List.drop 16 ((over (List.replicate 24 (0 : UInt8)) 0 ((d.drop (16 * j)).take 16)).set (min 16 (d.length - 16 * j)) (UInt8.ofNat 1))))) hH hs1 hs2 (by omega)
    rw [hsp] at hadd
    simp only [D64] at hadd hH hR ⊢
    rw [hadd, w3_val (by simp only [D192]; omega)]
    refine ⟨⟨by omega, by rw [List.length_drop]; omega⟩, by rw [hpl]; omega, ⟨by omega, by omega⟩, by omega, ⟨by omega, by rw [List.length_drop]; omega⟩, by decide, by decide, by decide, by omega, hb1, hb2, j + 1, ?_, ?_, ?_, ?_, rfl⟩
    · unfold nbP; omega
    · unfold nbP; omega
    · rw [List.length_drop, List.length_drop]; omega
    · rw [List.drop_drop]
      by_cases hx : 16 ≤ d.length - 16 * j
      · rw [Nat.min_eq_left hx]; congr 1
      · rw [List.drop_of_length_le (by omega), List.drop_of_length_le (by omega)]
  · have hje : j = nbP d := by rw [List.length_drop] at hge; unfold nbP at hj ⊢; omega
    subst hje
    have hR : rOf k < 21267647932558653966460912964485513216 := by
      have := r0_lt (readL (List.take 8 k))
      have := r1_lt (readL (List.take 8 (List.drop 8 k)))
      unfold rOf r0 r1
      simp only [D64]
      omega
    have hH := hN_lt d hR (nbP d)
    have e0 : (readL (List.take 8 k) &&& UInt64.ofNat 1152921487695413247).toNat + D64 * (readL (List.take 8 (List.drop 8 k)) &&& UInt64.ofNat 1152921487695413244).toNat = rOf k := rfl
    rw [e0, w3_val (n := hN (rOf k) d (nbP d)) (by simp only [D192]; omega)]
    have e1 : (if hN (rOf k) d (nbP d) < P130 then hN (rOf k) d (nbP d) else hN (rOf k) d (nbP d) - P130) = redP (hN (rOf k) d (nbP d)) := rfl
    rw [e1]
    have hred : redP (hN (rOf k) d (nbP d)) < D192 := by unfold redP; simp only [P130, D192]; split <;> omega
    rw [w3_val hred]
    have e2 : redP (hN (rOf k) d (nbP d)) + ((readL (List.take 8 (List.drop 16 k))).toNat + D64 * (readL (List.take 8 (List.drop 24 k))).toNat) = polyN k d := rfl
    rw [e2]
    refine ⟨by decide, by decide, rfl, by decide, (show 16 ≤ 4294967296 by decide), Nat.le_refl 16, Nat.le_refl 16, by kernel_rfl⟩
end Go.Proofs.Ytcfkgodidnhbdaa
