/- Steps towards MacsCookiesSaid. -/
import Derived.Test.YtbannfdoiiojgaaJXorCon
import Derived.Test.YtbannfdoiiojgaaJMdcCon
import Derived.Test.YtbannfdoiiojgaaJPsmSpec
import Derived.Test.YtbannfdoiiojgaaBase
/- A step towards MacsCookiesSaid: no conditions. -/
namespace Go.Proofs.Ytbannfdoiiojgaa
open Go Go.Eng Go.Cod Go.Pol
theorem natL_zeros : ∀ n, natL (List.replicate n 0) = 0
  | 0 => rfl
  | n + 1 => by rw [List.replicate_succ, natL, natL_zeros n]; rfl
theorem piece_eq {part : List UInt8} {n : Nat} (hn : part.length = n) (h : n ≤ 16) : (over (List.replicate 24 (0 : UInt8)) 0 part).set n (UInt8.ofNat 1) = part ++ UInt8.ofNat 1 :: List.replicate (23 - n) 0 := by
  unfold over
  rw [List.take_zero, List.nil_append, Nat.zero_add, List.drop_replicate, hn, show 24 - n = (23 - n) + 1 by omega, List.replicate_succ, List.set_append_right _ _ (by omega), hn, Nat.sub_self, List.set_cons_zero]
theorem piece_nat {part : List UInt8} {n : Nat} (hn : part.length = n) (h : n ≤ 16) :
    natL ((over (List.replicate 24 (0 : UInt8)) 0 part).set n (UInt8.ofNat 1)) = natL part + 256 ^ n ∧ ((over (List.replicate 24 (0 : UInt8)) 0 part).set n (UInt8.ofNat 1)).length = 24 := by
  rw [piece_eq hn h]
  refine ⟨?_, ?_⟩
  · rw [natL_append, natL, natL_zeros, hn]
    show _ + 256 ^ n * (1 + 0) = _
    omega
  · simp only [List.length_append, List.length_cons, List.length_replicate]; omega
theorem split24 {q : List UInt8} (h : q.length = 24) : (readL (q.take 8)).toNat + 18446744073709551616 * (readL ((q.drop 8).take 8)).toNat + 340282366920938463463374607431768211456 * (readL ((q.drop 16).take 8)).toNat = natL q := by
  have l1 : (q.take 8).length = 8 := by rw [List.length_take]; omega
  have l2 : ((q.drop 8).take 8).length = 8 := by rw [List.length_take, List.length_drop]; omega
  rw [readL_nat _ (by omega), readL_nat _ (by omega), readL_nat _ (by rw [List.length_take]; omega)]
  have e : q = q.take 8 ++ ((q.drop 8).take 8 ++ (q.drop 16).take 8) := by
    have a : (q.drop 16).take 8 = (q.drop 8).drop 8 := by rw [List.drop_drop, List.take_of_length_le (by rw [List.length_drop]; omega)]
    rw [a, List.take_append_drop, List.take_append_drop]
  conv => rhs; rw [e]
  rw [natL_append, natL_append, l1, l2]
  have : (256 : Nat) ^ 8 = 18446744073709551616 := rfl
  rw [this, Nat.mul_add, ← Nat.mul_assoc]
  omega
theorem add3 {H lo hi : Nat} {top : UInt64} (hH : H < 1573805947009340393518107559371927977985) (h1 : lo < 18446744073709551616) (h2 : hi < 18446744073709551616) (ht : top.toNat ≤ 1) :
    (w3 (val3 (w3 H) + (lo + 18446744073709551616 * hi))).set 2 ((w3 (val3 (w3 H) + (lo + 18446744073709551616 * hi))).getD 2 0 + top) = w3 (H + (lo + 18446744073709551616 * hi + 340282366920938463463374607431768211456 * top.toNat)) := by
  rw [w3_val (by simp only [D192]; omega)]
  unfold w3
  simp only [List.getD_cons_zero, List.getD_cons_succ, List.set_cons_zero, List.set_cons_succ]
  congr 1
  · exact u_eq (by rw [u_nat]; simp only [D64]; omega)
  congr 1
  · exact u_eq (by rw [u_nat]; simp only [D64]; omega)
  congr 1
  · refine u_eq ?_
    rw [UInt64.toNat_add, u_nat]
    simp only [D64, D128]
    omega
theorem red1_lt {x : Nat} (h : x < 57896044618658097711785492504343953926634992332820282019728792003956564819968) : red1 x < 1573805947009340393518107559371927977985 := by
  unfold red1; omega
theorem blkP_lt (d : List UInt8) (j : Nat) : blkP d j < 680564733841876926926749214863536422912 := by
  unfold blkP
  have h1 := natL_lt ((d.drop (16 * j)).take 16)
  have h2 : ((d.drop (16 * j)).take 16).length = min 16 (d.length - 16 * j) := by rw [List.length_take, List.length_drop]
  rw [h2] at h1
  have h3 : 256 ^ (min 16 (d.length - 16 * j)) ≤ 256 ^ 16 := Nat.pow_le_pow_right (by decide) (Nat.min_le_left ..)
  have h4 : (256 : Nat) ^ 16 = 340282366920938463463374607431768211456 := rfl
  omega
theorem hN_lt {r : Nat} (d : List UInt8) (hr : r < 21267647932558653966460912964485513216) : ∀ j, hN r d j < 1573805947009340393518107559371927977985
  | 0 => by show 0 < _; decide
  | j + 1 => by
    have h1 := hN_lt d hr j
    have h2 := blkP_lt d j
    show red1 ((hN r d j + blkP d j) * r) < _
    refine red1_lt ?_
    have := Nat.mul_le_mul (show hN r d j + blkP d j ≤ 2722258935367507707706996859454145691647 by omega) (show r ≤ 21267647932558653966460912964485513215 by omega)
    omega
theorem r0_lt (x : UInt64) : (x &&& UInt64.ofNat 1152921487695413247).toNat < 1152921504606846976 := by
  have : (x &&& UInt64.ofNat 1152921487695413247).toNat ≤ 1152921487695413247 := by rw [UInt64.toNat_and]; exact Nat.and_le_right
  omega
theorem r1_lt (x : UInt64) : (x &&& UInt64.ofNat 1152921487695413244).toNat < 1152921504606846976 := by
  have : (x &&& UInt64.ofNat 1152921487695413244).toNat ≤ 1152921487695413244 := by rw [UInt64.toNat_and]; exact Nat.and_le_right
  omega
theorem hN0 (r : Nat) (d : List UInt8) : List.replicate 3 (0 : UInt64) = w3 (hN r d 0) := by
  show List.replicate 3 (0 : UInt64) = w3 0
  decide +kernel
set_option maxRecDepth 100000 in
set_option maxHeartbeats 4000000 in
theorem conPoly : Con Try.prog 108 gPoly := con_of_vcl fun args ps res h hp hlen => by
  unfold gPoly at h
  split at h <;> cases h
  rename_i k m d
  obtain ⟨rfl, hp2⟩ := all_cons.1 hp
  have hl := (all_cons.1 hp2).1
  have hk : k.length = 32 := hlen.1.1
  refine ⟨PEs, 200, rfl, eokX (gs := [(85, gReadL), (73, gLittleN), (42, gJoin), (116, gAddN), (117, gTimes), (118, gReduced)]) ⟨conReadL, conLittleN4, conJoin, conAddN, conTimes, conReduced, trivial⟩, ?_⟩
  rw [vcPoly k d]
  have t8 : ∀ l : List UInt8, (List.take 8 l).length < 4611686018427387904 := fun l => by rw [List.length_take]; omega
  have dd : ∀ (l : List UInt8) (i : Nat), dropL l i = l.drop i := fun l i => by cases i <;> rfl
  have minNN : ∀ a b : Nat, min (a : Int) (b : Int) = ((min a b : Nat) : Int) := fun a b => by omega
  simp only [forall_eq, true_and, and_true, io, decide_eq_true_eq, decide_eq_false_iff_not, dd, Nat.zero_add, forall_const, Int.toNat_natCast, minNN, t8]
  show _ ∧ _ ∧ (∃ x, _) ∧ _
  refine ⟨by decide, by decide, ⟨0, Nat.zero_le _, rfl, rfl, hN0 _ d⟩, fun j hj => ⟨fun hlt => ?_, fun hge => ?_⟩⟩
  · have hj' : 16 * j < d.length := by rw [List.length_drop] at hlt; omega
    have hmin : min (List.drop (16 * j) d).length 16 = min 16 (d.length - 16 * j) := by rw [List.length_drop, Nat.min_comm]
    have hpt : List.take 24 (List.take (min 16 (d.length - 16 * j)) (List.drop (16 * j) d)) = (d.drop (16 * j)).take 16 := by
      rw [List.take_take, List.take_eq_take_iff, List.length_drop]; omega
    have hpl : ((d.drop (16 * j)).take 16).length = min 16 (d.length - 16 * j) := by rw [List.length_take, List.length_drop]
    have hn16 : min 16 (d.length - 16 * j) ≤ 16 := Nat.min_le_left ..
    rw [hmin, hpt]
    obtain ⟨g1, g2⟩ := piece_nat hpl hn16
    have hsp := split24 g2
    have hR : (readL (List.take 8 k) &&& UInt64.ofNat 1152921487695413247).toNat + D64 * (readL (List.take 8 (List.drop 8 k)) &&& UInt64.ofNat 1152921487695413244).toNat < 21267647932558653966460912964485513216 := by
      have := r0_lt (readL (List.take 8 k))
      have := r1_lt (readL (List.take 8 (List.drop 8 k)))
      simp only [D64]
      omega
    have hb1 := r0_lt (readL (List.take 8 k))
    have hb2 := r1_lt (readL (List.take 8 (List.drop 8 k)))
    have hH := hN_lt d hR j
    have hB : natL ((over (List.replicate 24 (0 : UInt8)) 0 ((d.drop (16 * j)).take 16)).set (min 16 (d.length - 16 * j)) (UInt8.ofNat 1)) = blkP d j := g1
    rw [hB] at hsp
    have hbl := blkP_lt d j
    have hs1 := lt64 (readL (List.take 8 ((over (List.replicate 24 (0 : UInt8)) 0 ((d.drop (16 * j)).take 16)).set (min 16 (d.length - 16 * j)) (UInt8.ofNat 1))))
    have hs2 := lt64 (readL (List.take 8 (List.drop 8 ((over (List.replicate 24 (0 : UInt8)) 0 ((d.drop (16 * j)).take 16)).set (min 16 (d.length - 16 * j)) (UInt8.ofNat 1)))))
    have hadd := add3 (top := readL (List.take 8 (List.drop 16 ((over (List.replicate 24 (0 : UInt8)) 0 ((d.drop (16 * j)).take 16)).set (min 16 (d.length - 16 * j)) (UInt8.ofNat 1))))) hH hs1 hs2 (by omega)
    rw [hsp] at hadd
    simp only [D64] at hadd hH hR ⊢
    rw [hadd, w3_val (by simp only [D192]; omega)]
    refine ⟨⟨by omega, by rw [List.length_drop]; omega⟩, by rw [hpl]; omega, ⟨by omega, by omega⟩, by omega, ⟨by omega, by rw [List.length_drop]; omega⟩, by decide, by decide, by decide, by omega, hb1, hb2, j + 1, ?_, ?_, ?_, ?_, rfl⟩
    · unfold nbP; omega
    · unfold nbP; omega
    · rw [List.length_drop, List.length_drop]; omega
    · rw [List.drop_drop]
      by_cases hx : 16 ≤ d.length - 16 * j
      · rw [Nat.min_eq_left hx]; congr 1
      · rw [List.drop_of_length_le (by omega), List.drop_of_length_le (by omega)]
  · have hje : j = nbP d := by rw [List.length_drop] at hge; unfold nbP at hj ⊢; omega
    subst hje
    have hR : rOf k < 21267647932558653966460912964485513216 := by
      have := r0_lt (readL (List.take 8 k))
      have := r1_lt (readL (List.take 8 (List.drop 8 k)))
      unfold rOf r0 r1
      simp only [D64]
      omega
    have hH := hN_lt d hR (nbP d)
    have e0 : (readL (List.take 8 k) &&& UInt64.ofNat 1152921487695413247).toNat + D64 * (readL (List.take 8 (List.drop 8 k)) &&& UInt64.ofNat 1152921487695413244).toNat = rOf k := rfl
    rw [e0, w3_val (n := hN (rOf k) d (nbP d)) (by simp only [D192]; omega)]
    have e1 : (if hN (rOf k) d (nbP d) < P130 then hN (rOf k) d (nbP d) else hN (rOf k) d (nbP d) - P130) = redP (hN (rOf k) d (nbP d)) := rfl
    rw [e1]
    have hred : redP (hN (rOf k) d (nbP d)) < D192 := by unfold redP; simp only [P130, D192]; split <;> omega
    rw [w3_val hred]
    have e2 : redP (hN (rOf k) d (nbP d)) + ((readL (List.take 8 (List.drop 16 k))).toNat + D64 * (readL (List.take 8 (List.drop 24 k))).toNat) = polyN k d := rfl
    rw [e2]
    refine ⟨by decide, by decide, rfl, by decide, (show 16 ≤ 4294967296 by decide), Nat.le_refl 16, Nat.le_refl 16, by kernel_rfl⟩
end Go.Proofs.Ytbannfdoiiojgaa

/- A step towards MacsCookiesSaid: no conditions. -/
namespace Go.Proofs.Ytbannfdoiiojgaa
open Go Go.Eng Go.Cod Go.Cha Go.Pol Go.Aed
theorem dif_zero {a b : List UInt8} (h : a.length = b.length) : ∀ {i}, i ≤ a.length → (dif a b i = 0 ↔ a.take i = b.take i)
  | 0, _ => by simp [dif]
  | i + 1, hi => by
    have ih := dif_zero h (i := i) (by omega)
    rw [dif, UInt8.or_eq_zero_iff, UInt8.xor_eq_zero_iff, ih, List.take_add_one, List.take_add_one, List.getElem?_eq_getElem (show i < a.length by omega), List.getElem?_eq_getElem (show i < b.length by omega)]
    rw [List.getD_eq_getElem?_getD, List.getD_eq_getElem?_getD, List.getElem?_eq_getElem (show i < a.length by omega), List.getElem?_eq_getElem (show i < b.length by omega)]
    constructor
    · rintro ⟨h1, h2⟩
      rw [h1]
      simp only [Option.getD_some] at h2
      rw [h2]
    · intro h1
      have hl : (a.take i).length = (b.take i).length := by rw [List.length_take, List.length_take]; omega
      obtain ⟨h2, h3⟩ := List.append_inj h1 hl
      exact ⟨h2, by simpa using h3⟩
theorem inI_lt {x : Nat} (h : x < 4611686018427387904) : InI ((x : Int) + Int.ofNat 1) := by
  show InI ((x : Int) + 1)
  unfold InI; omega
theorem beq_ff {a b : List UInt8} (h : a ≠ b) : (a == b) = false := by simpa using h
set_option maxRecDepth 100000 in
theorem conEqual : Con Try.prog 35 gEqual := con_of_vcs fun args ps res h hp => by
  unfold gEqual at h
  split at h <;> cases h
  rename_i m a n b
  obtain ⟨rfl, hp1⟩ := all_cons.1 hp
  obtain ⟨rfl, hp2⟩ := all_cons.1 hp1
  have ha := (all_cons.1 hp2).1
  refine ⟨AEe, 100, rfl, eok (gs := []) trivial, ?_⟩
  rw [vcEqual a b]
  refine ⟨fun hd => ⟨?_, trivial⟩, fun hd => ?_⟩
  · have hd := of_decide_eq_true hd
    refine (beq_ff fun e => hd ?_).symm
    rw [e]
  · have hd := of_decide_eq_false hd
    have hl : a.length = b.length := by omega
    refine ⟨⟨0, by omega, rfl, rfl, rfl, rfl, rfl, rfl, rfl, trivial⟩, fun x hx => ⟨fun hx2 => ?_, fun hx2 => ?_⟩⟩
    · have hx2 := of_decide_eq_true hx2
      rw [Int.toNat_natCast]
      exact ⟨by omega, by omega, by omega, by omega, inI_lt (by omega), x + 1, by omega, by omega, rfl, rfl, rfl, rfl, rfl, rfl, rfl, trivial⟩
    · have hx2 := of_decide_eq_false hx2
      have hxe : x = a.length := by omega
      subst hxe
      refine ⟨?_, trivial⟩
      have := dif_zero hl (i := a.length) (Nat.le_refl _)
      rw [List.take_length, List.take_of_length_le (by omega)] at this
      by_cases e : a = b
      · rw [this.2 e, beq_iff_eq.2 e]; rfl
      · rw [beq_ff e]
        have : ¬ dif a b a.length = 0 := fun h => e (this.1 h)
        simpa using this
theorem zp_int (n : Nat) : (Int.ofNat 16 - (n : Int).tmod (Int.ofNat 16)).tmod (Int.ofNat 16) = ((zp n : Nat) : Int) := by
  have e : Int.ofNat 16 - (n : Int).tmod (Int.ofNat 16) = ((16 - n % 16 : Nat) : Int) := by
    show (16 : Int) - ((n % 16 : Nat) : Int) = _
    omega
  rw [e]; rfl
theorem zp_le (n : Nat) : zp n ≤ 15 := by unfold zp; omega
theorem zerosL_len (n : Nat) : (zerosL n).length = zp n := List.length_replicate ..
set_option maxRecDepth 100000 in
theorem conFilled : Con Try.prog 109 gFilled := con_of_vcs fun args ps res h hp => by
  unfold gFilled at h
  split at h <;> cases h
  rename_i m b
  obtain ⟨rfl, hp⟩ := all_cons.1 hp
  refine ⟨AE0, 100, rfl, eok (gs := []) trivial, ?_⟩
  rw [vcFilled b]
  have hz := zp_le b.length
  have hi : InI (Int.ofNat 16 - (b.length : Int).tmod (Int.ofNat 16)) := by
    have e : Int.ofNat 16 - (b.length : Int).tmod (Int.ofNat 16) = ((16 - b.length % 16 : Nat) : Int) := by
      show (16 : Int) - ((b.length % 16 : Nat) : Int) = _
      omega
    rw [e]; unfold InI; omega
  rw [zp_int, Int.toNat_natCast, dropL_zero, dropL_zero]
  exact ⟨by decide, hi, by decide, by omega, by omega, rfl, by omega, rfl, List.take_of_length_le (by rw [List.length_replicate]; exact Nat.le_refl _), trivial⟩
theorem little8 (x : UInt64) : [(shr64 x 0).toUInt8, (shr64 x 8).toUInt8, (shr64 x 16).toUInt8, (shr64 x 24).toUInt8, (shr64 x 32).toUInt8, (shr64 x 40).toUInt8, (shr64 x 48).toUInt8, (shr64 x 56).toUInt8] = littleL x 8 := rfl
theorem flat6 (a b c d e f : List UInt8) : [a, b, c, d, e, f].flatten = a ++ (b ++ (c ++ (d ++ (e ++ f)))) := by simp
theorem flat2 (a b : List UInt8) : [a, b].flatten = a ++ b := by simp
theorem macL_len (c m : List UInt8) : (macL c m).length ≤ m.length + c.length + 46 := by
  have h1 := zp_le m.length
  have h2 := zp_le c.length
  unfold macL
  simp only [List.length_append, zerosL_len, littleL_len]
  omega
theorem polyL_len (k d : List UInt8) : (polyL k d).length = 16 := by unfold polyL; rw [List.length_append, littleL_len, littleL_len]
theorem tagL_len (k n c m : List UInt8) : (tagL k n c m).length = 16 := polyL_len ..
set_option maxRecDepth 100000 in
theorem conTag : Con Try.prog 96 gTag := con_of_vcs fun args ps res h hp => by
  unfold gTag at h
  split at h <;> cases h
  rename_i k n u c v m
  obtain ⟨rfl, hp1⟩ := all_cons.1 hp
  obtain ⟨rfl, hp2⟩ := all_cons.1 hp1
  obtain ⟨hc, hp3⟩ := all_cons.1 hp2
  have hm := (all_cons.1 hp3).1
  refine ⟨AEt, 200, rfl, eok (gs := [(107, gBlock), (109, gFilled), (73, gLittleN), (42, gJoin), (108, gPoly)]) ⟨conBlock, conFilled, conLittleN4, conJoin, conPoly, trivial⟩, ?_⟩
  rw [vcTag k n c m]
  have t : ∀ q, List.take (zp q) (zerosL q) = zerosL q := fun q => List.take_of_length_le (by rw [zerosL_len]; exact Nat.le_refl _)
  have hl := macL_len c m
  have e : m ++ (zerosL m.length ++ (c ++ (zerosL c.length ++ (littleL (to64 m.length) 8 ++ littleL (to64 c.length) 8)))) = macL c m := rfl
  simp only [forall_eq, true_and, and_true, dropL_zero, Nat.zero_add, little8, t, flat6, e, List.take_length, Nat.le_refl]
  refine ⟨by decide, by omega, by omega, rfl, by decide, by omega, by omega, rfl⟩
theorem sealL_len (k n p m : List UInt8) : (sealL k n p m).length = p.length + 16 := by unfold sealL; rw [List.length_append, tagL_len, xorL_len]
set_option maxRecDepth 100000 in
theorem conSeal : Con Try.prog 81 gSeal := con_of_vcs fun args ps res h hp => by
  unfold gSeal at h
  split at h <;> cases h
  rename_i k n u p v m
  obtain ⟨rfl, hp1⟩ := all_cons.1 hp
  obtain ⟨rfl, hp2⟩ := all_cons.1 hp1
  obtain ⟨hc, hp3⟩ := all_cons.1 hp2
  have hm := (all_cons.1 hp3).1
  refine ⟨AEs, 200, rfl, eok (gs := [(95, gXor), (96, gTag), (42, gJoin)]) ⟨conXor, conTag, conJoin, trivial⟩, ?_⟩
  rw [vcSeal k n p m]
  have t : List.take p.length (xorL k n (UInt32.ofNat 1) p) = xorL k n 1 p := List.take_of_length_le (by rw [xorL_len]; exact Nat.le_refl _)
  have e : xorL k n 1 p ++ tagL k n (xorL k n 1 p) m = sealL k n p m := rfl
  simp only [forall_eq, true_and, and_true, dropL_zero, Nat.zero_add, t, flat2, e, List.take_length, Nat.le_refl, xorL_len, sealL_len]
  refine ⟨by omega, hc, hm, rfl, by decide, by omega⟩
set_option maxRecDepth 100000 in
theorem conOpen : Con Try.prog 82 gOpen := con_of_vcs fun args ps res h hp => by
  unfold gOpen at h
  split at h <;> cases h
  rename_i k n u s v m
  obtain ⟨rfl, hp1⟩ := all_cons.1 hp
  obtain ⟨rfl, hp2⟩ := all_cons.1 hp1
  obtain ⟨hc, hp3⟩ := all_cons.1 hp2
  have hm := (all_cons.1 hp3).1
  refine ⟨AEo, 200, rfl, eok (gs := [(95, gXor), (96, gTag), (35, gEqual)]) ⟨conXor, conTag, conEqual, trivial⟩, ?_⟩
  rw [vcOpen k n s m]
  intro y hy
  refine ⟨fun hd => ?_, fun hd y0 hy0 => ⟨?_, fun y1 hy1 => ?_⟩⟩
  · have hd := of_decide_eq_true hd
    have h16 : s.length < 16 := by have : y < 16 := hd; omega
    have e : openE k n s m = 2 := by unfold openE; rw [if_pos h16]
    have e2 : openL k n s m = [] := by unfold openL; rw [e]; rfl
    rw [e, e2]
    exact ⟨rfl, rfl, rfl, trivial⟩
  · subst hy0
    show InI ((s.length : Int) - 16)
    unfold InI; omega
  · have hd := of_decide_eq_false hd
    have h16 : ¬ s.length < 16 := by have : ¬ y < 16 := hd; omega
    have hy1' : y1 = ((s.length - 16 : Nat) : Int) := by
      rw [hy1, hy0]
      show (s.length : Int) - 16 = _
      omega
    subst hy1'
    rw [Int.toNat_natCast]
    have l1 : (s.take (s.length - 16)).length = s.length - 16 := by rw [List.length_take]; omega
    have l2 : (s.drop (s.length - 16)).length ≤ s.length := by rw [List.length_drop]; omega
    refine ⟨by omega, rfl, rfl, by omega, hm, fun z hz z2 hz2 => ⟨by omega, rfl, rfl, by rw [hz2, hz, tagL_len]; decide, by omega, fun hd => ?_, fun hd => ?_⟩⟩
    · rw [hz2, hz] at hd
      have hne : tagL k n (s.take (s.length - 16)) m ≠ s.drop (s.length - 16) := by simpa using hd
      have e : openE k n s m = 6 := by unfold openE; rw [if_neg h16, if_neg hne]
      have e2 : openL k n s m = [] := by unfold openL; rw [e]; rfl
      rw [e, e2]
      exact ⟨rfl, rfl, rfl, trivial⟩
    · rw [hz2, hz] at hd
      have hne : tagL k n (s.take (s.length - 16)) m = s.drop (s.length - 16) := by simpa using hd
      have e : openE k n s m = 0 := by unfold openE; rw [if_neg h16, if_pos hne]
      have e2 : openL k n s m = xorL k n 1 (s.take (s.length - 16)) := by unfold openL; rw [if_pos e]
      rw [e, e2]
      refine ⟨by omega, rfl, by omega, fun q hq => ⟨by omega, by rw [xorL_len], ?_, rfl, trivial⟩⟩
      rw [hq, dropL_zero, dropL_zero]
      exact List.take_of_length_le (by rw [xorL_len]; exact Nat.le_refl _)
end Go.Proofs.Ytbannfdoiiojgaa

/- A step towards MacsCookiesSaid: no conditions. -/
namespace Go.Proofs.Ytbannfdoiiojgaa
open Go Go.Eng Go.Cod Go.Cha Go.Pol Go.Aed Go.Xc
theorem deriveL_len (k i : List UInt8) : (deriveL k i).length = 32 := rfl
set_option maxRecDepth 100000 in
theorem conDerive : Con Try.prog 94 gDerive := con_of_vcl fun args ps res h hp hlen => by
  unfold gDerive at h
  split at h <;> cases h
  rename_i k i
  refine ⟨XCd, 300, rfl, eok (gs := [(85, gReadL), (73, gLittleN), (106, gCore)]) ⟨conReadL, conLittleN4, conCore, trivial⟩, ?_⟩
  refine Eq.mpr (vcDerive k i) ?_
  simp only [forall_eq, true_and, and_true, take4_lt, dropL_eq]
  repeat first | refine ⟨by decide, ?_⟩ | refine ⟨rfl, ?_⟩
  kernel_rfl
theorem nonceL_len {n : List UInt8} (h : n.length = 24) : (nonceL n).length = 12 := by unfold nonceL; rw [List.length_append, List.length_replicate, List.length_take, List.length_drop]; omega
set_option maxRecDepth 100000 in
theorem conInside : Con Try.prog 80 gInside := con_of_vcl fun args ps res h hp hlen => by
  unfold gInside at h
  split at h <;> cases h
  rename_i k n
  have hn : n.length = 24 := hlen.2.1.1
  refine ⟨XCi, 300, rfl, eok (gs := [(94, gDerive), (42, gJoin)]) ⟨conDerive, conJoin, trivial⟩, ?_⟩
  refine Eq.mpr (vcInside k n) ?_
  have e : List.replicate 4 0 ++ List.take 8 (List.drop 16 n) = nonceL n := rfl
  have hl := nonceL_len hn
  simp only [forall_eq, true_and, and_true, dropL_eq, flat2, e, hl, List.take_of_length_le (Nat.le_of_eq hl)]
  exact ⟨by decide, by decide, rfl, by decide, by decide, by decide, by decide, rfl⟩
theorem t_self {x : List UInt8} : List.take x.length x = x := List.take_length
set_option maxRecDepth 100000 in
theorem conXSeal : Con Try.prog 55 gXSeal := con_of_vcs fun args ps res h hp => by
  unfold gXSeal at h
  split at h <;> cases h
  rename_i k n u p v m
  obtain ⟨rfl, hp1⟩ := all_cons.1 hp
  obtain ⟨rfl, hp2⟩ := all_cons.1 hp1
  obtain ⟨hc, hp3⟩ := all_cons.1 hp2
  have hm := (all_cons.1 hp3).1
  refine ⟨XCs, 200, rfl, eok (gs := [(80, gInside), (81, gSeal), (82, gOpen)]) ⟨conInside, conSeal, conOpen, trivial⟩, ?_⟩
  refine Eq.mpr (vcXSeal k n p m) ?_
  simp only [forall_eq, true_and, and_true, dropL_zero, Nat.zero_add, t_self, Nat.le_refl]
  exact ⟨hc, hm⟩
set_option maxRecDepth 100000 in
theorem conXOpen : Con Try.prog 57 gXOpen := con_of_vcs fun args ps res h hp => by
  unfold gXOpen at h
  split at h <;> cases h
  rename_i k n u s v m
  obtain ⟨rfl, hp1⟩ := all_cons.1 hp
  obtain ⟨rfl, hp2⟩ := all_cons.1 hp1
  obtain ⟨hc, hp3⟩ := all_cons.1 hp2
  have hm := (all_cons.1 hp3).1
  refine ⟨XCs, 200, rfl, eok (gs := [(80, gInside), (81, gSeal), (82, gOpen)]) ⟨conInside, conSeal, conOpen, trivial⟩, ?_⟩
  refine Eq.mpr (vcXOpen k n s m) ?_
  simp only [forall_eq, true_and, and_true, dropL_zero, Nat.zero_add, t_self, Nat.le_refl]
  exact ⟨hc, hm⟩
end Go.Proofs.Ytbannfdoiiojgaa

/- A step towards MacsCookiesSaid: no conditions. -/
namespace Go.Proofs.Ytbannfdoiiojgaa
open Go Go.Eng Go.Cod Go.Cha Go.Pol Go.Aed Go.Xc
noncomputable def XRd : Env := mkE Try.prog [(77, gLittleN), (102, gState), (101, gCore)] [] 18 true
noncomputable def XRi : Env := mkE Try.prog [(91, gDerive)] [] 10 true
noncomputable def XRs : Env := mkE Try.prog [(78, gInside), (79, gSeal), (84, gOpen)] [] 10 true
set_option maxRecDepth 100000 in
theorem vcDeriveR (k i : List UInt8) : (vcFn XRd 300 91 [.agg [.vec (.n 32) (.u8 k)], .agg [.vec (.n 16) (.u8 i)]] (.w (.agg [.vec (.n 32) (.u8 (deriveL k i))]))) =
  (i.length = i.length ∧ (16 : Nat) ≤ i.length ∧ ∀ (y : List UInt32), y = stateL k i → y.length = (16 : Nat) ∧ ∀ (y_1 : List UInt32), y_1 = coreL y → ∀ (y : List UInt32), y = y_1 → ∀ (y_2 : List UInt8), y_2 = [(shr64 (y.getD (0 : Nat) (0 : UInt32)).toUInt64 (0 : Nat)).toUInt8, (shr64 (y.getD (0 : Nat) (0 : UInt32)).toUInt64 (8 : Nat)).toUInt8, (shr64 (y.getD (0 : Nat) (0 : UInt32)).toUInt64 (16 : Nat)).toUInt8, (shr64 (y.getD (0 : Nat) (0 : UInt32)).toUInt64 (24 : Nat)).toUInt8] → (4 : Nat) ≤ (32 : Nat) ∧ ∀ (y_3 : List UInt8), y_3 = over (List.replicate (32 : Nat) (0 : UInt8)) (0 : Nat) y_2 → ∀ (y_4 : List UInt8), y_4 = [(shr64 (y.getD (12 : Nat) (0 : UInt32)).toUInt64 (0 : Nat)).toUInt8, (shr64 (y.getD (12 : Nat) (0 : UInt32)).toUInt64 (8 : Nat)).toUInt8, (shr64 (y.getD (12 : Nat) (0 : UInt32)).toUInt64 (16 : Nat)).toUInt8, (shr64 (y.getD (12 : Nat) (0 : UInt32)).toUInt64 (24 : Nat)).toUInt8] → (20 : Nat) ≤ (32 : Nat) ∧ ∀ (y_5 : List UInt8), y_5 = over y_3 (16 : Nat) y_4 → ∀ (y_6 : List UInt8), y_6 = [(shr64 (y.getD (1 : Nat) (0 : UInt32)).toUInt64 (0 : Nat)).toUInt8, (shr64 (y.getD (1 : Nat) (0 : UInt32)).toUInt64 (8 : Nat)).toUInt8, (shr64 (y.getD (1 : Nat) (0 : UInt32)).toUInt64 (16 : Nat)).toUInt8, (shr64 (y.getD (1 : Nat) (0 : UInt32)).toUInt64 (24 : Nat)).toUInt8] → (8 : Nat) ≤ (32 : Nat) ∧ ∀ (y_7 : List UInt8), y_7 = over y_5 (4 : Nat) y_6 → ∀ (y_8 : List UInt8), y_8 = [(shr64 (y.getD (13 : Nat) (0 : UInt32)).toUInt64 (0 : Nat)).toUInt8, (shr64 (y.getD (13 : Nat) (0 : UInt32)).toUInt64 (8 : Nat)).toUInt8, (shr64 (y.getD (13 : Nat) (0 : UInt32)).toUInt64 (16 : Nat)).toUInt8, (shr64 (y.getD (13 : Nat) (0 : UInt32)).toUInt64 (24 : Nat)).toUInt8] → (24 : Nat) ≤ (32 : Nat) ∧ ∀ (y_9 : List UInt8), y_9 = over y_7 (20 : Nat) y_8 → ∀ (y_10 : List UInt8), y_10 = [(shr64 (y.getD (2 : Nat) (0 : UInt32)).toUInt64 (0 : Nat)).toUInt8, (shr64 (y.getD (2 : Nat) (0 : UInt32)).toUInt64 (8 : Nat)).toUInt8, (shr64 (y.getD (2 : Nat) (0 : UInt32)).toUInt64 (16 : Nat)).toUInt8, (shr64 (y.getD (2 : Nat) (0 : UInt32)).toUInt64 (24 : Nat)).toUInt8] → (12 : Nat) ≤ (32 : Nat) ∧ ∀ (y_11 : List UInt8), y_11 = over y_9 (8 : Nat) y_10 → ∀ (y_12 : List UInt8), y_12 = [(shr64 (y.getD (14 : Nat) (0 : UInt32)).toUInt64 (0 : Nat)).toUInt8, (shr64 (y.getD (14 : Nat) (0 : UInt32)).toUInt64 (8 : Nat)).toUInt8, (shr64 (y.getD (14 : Nat) (0 : UInt32)).toUInt64 (16 : Nat)).toUInt8, (shr64 (y.getD (14 : Nat) (0 : UInt32)).toUInt64 (24 : Nat)).toUInt8] → (28 : Nat) ≤ (32 : Nat) ∧ ∀ (y_13 : List UInt8), y_13 = over y_11 (24 : Nat) y_12 → ∀ (y_14 : List UInt8), y_14 = [(shr64 (y.getD (3 : Nat) (0 : UInt32)).toUInt64 (0 : Nat)).toUInt8, (shr64 (y.getD (3 : Nat) (0 : UInt32)).toUInt64 (8 : Nat)).toUInt8, (shr64 (y.getD (3 : Nat) (0 : UInt32)).toUInt64 (16 : Nat)).toUInt8, (shr64 (y.getD (3 : Nat) (0 : UInt32)).toUInt64 (24 : Nat)).toUInt8] → (16 : Nat) ≤ (32 : Nat) ∧ ∀ (y_15 : List UInt8), y_15 = over y_13 (12 : Nat) y_14 → ∀ (y_16 : List UInt8), y_16 = [(shr64 (y.getD (15 : Nat) (0 : UInt32)).toUInt64 (0 : Nat)).toUInt8, (shr64 (y.getD (15 : Nat) (0 : UInt32)).toUInt64 (8 : Nat)).toUInt8, (shr64 (y.getD (15 : Nat) (0 : UInt32)).toUInt64 (16 : Nat)).toUInt8, (shr64 (y.getD (15 : Nat) (0 : UInt32)).toUInt64 (24 : Nat)).toUInt8] → (32 : Nat) ≤ (32 : Nat) ∧ ∀ (y : List UInt8), y = over y_15 (28 : Nat) y_16 → ∀ (y_17 : List UInt8), y_17 = y → y_17 = deriveL k i ∧ True) := by kernel_rfl
set_option maxRecDepth 100000 in
theorem vcInsideR (k n : List UInt8) : (vcFn XRi 300 78 [.agg [.vec (.n 32) (.u8 k)], .agg [.vec (.n 24) (.u8 n)]] (.tup [.agg [.vec (.n 32) (.u8 (keyL k n))], .agg [.vec (.n 12) (.u8 (nonceL n))]])) =
  ((16 : Nat) ≤ (24 : Nat) ∧ ∀ (y : List UInt8), y = List.take (16 : Nat) n → (24 : Nat) ≤ (24 : Nat) ∧ (12 : Nat) ≤ (12 : Nat) ∧ ∀ (y_1 : List UInt8), y_1 = over (List.replicate (12 : Nat) (0 : UInt8)) (4 : Nat) (List.take (8 : Nat) (dropL n (16 : Nat))) → ∀ (y_2 : List UInt8), y_2 = deriveL k y → ∀ (y : List UInt8), y = y_2 → ∀ (y_3 : List UInt8), y_3 = y_1 → y = keyL k n ∧ y_3 = nonceL n ∧ True) := by kernel_rfl
set_option maxRecDepth 100000 in
theorem vcXSealR (k n p m : List UInt8) : (vcFn XRs 200 51 [.agg [.vec (.n 32) (.u8 k)], .agg [.vec (.n 24) (.u8 n)], .s (.xs 1 (.s p.length) (.u8 p)), .s (.xs 1 (.s m.length) (.u8 m))] (.s (.xs 1 (.s (sealL (keyL k n) (nonceL n) p m).length) (.u8 (sealL (keyL k n) (nonceL n) p m))))) =
  (∀ (y : List UInt8), y = keyL k n → ∀ (y_1 : List UInt8), y_1 = nonceL n → ∀ (y_2 : List UInt8), y_2 = y → ∀ (y : List UInt8), y = y_1 → p.length = p.length ∧ m.length = m.length ∧ p.length ≤ (1073741824 : Nat) ∧ m.length ≤ (1073741824 : Nat) ∧ ∀ (y_3 : List UInt8), y_3 = sealL y_2 y p m → (0 : Nat) + (sealL y_2 y p m).length ≤ (sealL y_2 y p m).length ∧ (sealL y_2 y p m).length = (sealL (keyL k n) (nonceL n) p m).length ∧ List.take (sealL y_2 y p m).length (dropL (dropL y_3 (0 : Nat)) (0 : Nat)) = sealL (keyL k n) (nonceL n) p m ∧ True) := by kernel_rfl
set_option maxRecDepth 100000 in
theorem vcXOpenR (k n s m : List UInt8) : (vcFn XRs 200 59 [.agg [.vec (.n 32) (.u8 k)], .agg [.vec (.n 24) (.u8 n)], .s (.xs 1 (.s s.length) (.u8 s)), .s (.xs 1 (.s m.length) (.u8 m))] (.tup [.s (.xs 1 (.s (openL (keyL k n) (nonceL n) s m).length) (.u8 (openL (keyL k n) (nonceL n) s m))), .s (.i64 (openE (keyL k n) (nonceL n) s m))])) =
  (∀ (y : List UInt8), y = keyL k n → ∀ (y_1 : List UInt8), y_1 = nonceL n → ∀ (y_2 : List UInt8), y_2 = y → ∀ (y : List UInt8), y = y_1 → s.length = s.length ∧ m.length = m.length ∧ s.length ≤ (1073741824 : Nat) ∧ m.length ≤ (1073741824 : Nat) ∧ ∀ (y_3 : Int), y_3 = openE y_2 y s m → ∀ (y_4 : List UInt8), y_4 = openL y_2 y s m → ∀ (y_5 : Int), y_5 = y_3 → (0 : Nat) + (openL y_2 y s m).length ≤ (openL y_2 y s m).length ∧ (openL y_2 y s m).length = (openL (keyL k n) (nonceL n) s m).length ∧ List.take (openL y_2 y s m).length (dropL (dropL y_4 (0 : Nat)) (0 : Nat)) = openL (keyL k n) (nonceL n) s m ∧ y_5 = openE (keyL k n) (nonceL n) s m ∧ True) := by kernel_rfl
end Go.Proofs.Ytbannfdoiiojgaa
