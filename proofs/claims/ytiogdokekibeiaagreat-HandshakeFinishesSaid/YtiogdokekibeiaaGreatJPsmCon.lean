/- Steps towards HandshakeFinishesSaid. -/
import Derived.Test.YtiogdokekibeiaaGreatJXorCon
import Derived.Test.YtiogdokekibeiaaGreatJAedVc
import Derived.Test.YtiogdokekibeiaaGreatJCodNum
import Derived.Test.YtiogdokekibeiaaGreatBase
/- A step towards HandshakeFinishesSaid: no conditions. -/
namespace Go.Proofs.YtiogdokekibeiaaGreat
open Go Go.Eng Go.Cod Go.Pol
theorem natL_zeros : ∀ n, natL (List.replicate n 0) = 0
  | 0 => rfl
  | n + 1 => by rw [List.replicate_succ, natL, natL_zeros n]; rfl
theorem piece_eq {part : List UInt8} {n : Nat} (hn : part.length = n) (h : n ≤ 16) : (over (List.replicate 24 (0 : UInt8)) 0 part).set n (UInt8.ofNat 1) = part ++ UInt8.ofNat 1 :: List.replicate (23 - n) 0 := by
  unfold over
  rw [List.take_zero, List.nil_append, Nat.zero_add, List.drop_replicate, hn, show 24 - n = (23 - n) + 1 by omega, List.replicate_succ, List.set_append_right _ _ (by omega), hn, Nat.sub_self, List.set_cons_zero]
theorem piece_nat {part : List UInt8} {n : Nat} (hn : part.length = n) (h : n ≤ 16) :
    natL ((over (List.replicate 24 (0 : UInt8)) 0 part).set n (UInt8.ofNat 1)) = natL part + 256 ^ n ∧ ((over (List.replicate 24 (0 : UInt8)) 0 part).set n (UInt8.ofNat 1)).length = 24 := by
  rw [piece_eq hn h]
  refine ⟨?_, ?_⟩
  · rw [natL_append, natL, natL_zeros, hn]
    show _ + 256 ^ n * (1 + 0) = _
    omega
  · simp only [List.length_append, List.length_cons, List.length_replicate]; omega
theorem split24 {q : List UInt8} (h : q.length = 24) : (readL (q.take 8)).toNat + 18446744073709551616 * (readL ((q.drop 8).take 8)).toNat + 340282366920938463463374607431768211456 * (readL ((q.drop 16).take 8)).toNat = natL q := by
  have l1 : (q.take 8).length = 8 := by rw [List.length_take]; omega
  have l2 : ((q.drop 8).take 8).length = 8 := by rw [List.length_take, List.length_drop]; omega
  rw [readL_nat _ (by omega), readL_nat _ (by omega), readL_nat _ (by rw [List.length_take]; omega)]
  have e : q = q.take 8 ++ ((q.drop 8).take 8 ++ (q.drop 16).take 8) := by
    have a : (q.drop 16).take 8 = (q.drop 8).drop 8 := by rw [List.drop_drop, List.take_of_length_le (by rw [List.length_drop]; omega)]
    rw [a, List.take_append_drop, List.take_append_drop]
  conv => rhs; rw [e]
  rw [natL_append, natL_append, l1, l2]
  have : (256 : Nat) ^ 8 = 18446744073709551616 := rfl
  rw [this, Nat.mul_add, ← Nat.mul_assoc]
  omega
theorem add3 {H lo hi : Nat} {top : UInt64} (hH : H < 1573805947009340393518107559371927977985) (h1 : lo < 18446744073709551616) (h2 : hi < 18446744073709551616) (ht : top.toNat ≤ 1) :
    (w3 (val3 (w3 H) + (lo + 18446744073709551616 * hi))).set 2 ((w3 (val3 (w3 H) + (lo + 18446744073709551616 * hi))).getD 2 0 + top) = w3 (H + (lo + 18446744073709551616 * hi + 340282366920938463463374607431768211456 * top.toNat)) := by
  rw [w3_val (by simp only [D192]; omega)]
  unfold w3
  simp only [List.getD_cons_zero, List.getD_cons_succ, List.set_cons_zero, List.set_cons_succ]
  congr 1
  · exact u_eq (by rw [u_nat]; simp only [D64]; omega)
  congr 1
  · exact u_eq (by rw [u_nat]; simp only [D64]; omega)
  congr 1
  · refine u_eq ?_
    rw [UInt64.toNat_add, u_nat]
    simp only [D64, D128]
    omega
theorem red1_lt {x : Nat} (h : x < 57896044618658097711785492504343953926634992332820282019728792003956564819968) : red1 x < 1573805947009340393518107559371927977985 := by
  unfold red1; omega
theorem blkP_lt (d : List UInt8) (j : Nat) : blkP d j < 680564733841876926926749214863536422912 := by
  unfold blkP
  have h1 := natL_lt ((d.drop (16 * j)).take 16)
  have h2 : ((d.drop (16 * j)).take 16).length = min 16 (d.length - 16 * j) := by rw [List.length_take, List.length_drop]
  rw [h2] at h1
  have h3 : 256 ^ (min 16 (d.length - 16 * j)) ≤ 256 ^ 16 := Nat.pow_le_pow_right (by decide) (Nat.min_le_left ..)
  have h4 : (256 : Nat) ^ 16 = 340282366920938463463374607431768211456 := rfl
  omega
theorem hN_lt {r : Nat} (d : List UInt8) (hr : r < 21267647932558653966460912964485513216) : ∀ j, hN r d j < 1573805947009340393518107559371927977985
  | 0 => by show 0 < _; decide
  | j + 1 => by
    have h1 := hN_lt d hr j
    have h2 := blkP_lt d j
    show red1 ((hN r d j + blkP d j) * r) < _
    refine red1_lt ?_
    have := Nat.mul_le_mul (show hN r d j + blkP d j ≤ 2722258935367507707706996859454145691647 by omega) (show r ≤ 21267647932558653966460912964485513215 by omega)
    omega
theorem r0_lt (x : UInt64) : (x &&& UInt64.ofNat 1152921487695413247).toNat < 1152921504606846976 := by
  have : (x &&& UInt64.ofNat 1152921487695413247).toNat ≤ 1152921487695413247 := by rw [UInt64.toNat_and]; exact Nat.and_le_right
  omega
theorem r1_lt (x : UInt64) : (x &&& UInt64.ofNat 1152921487695413244).toNat < 1152921504606846976 := by
  have : (x &&& UInt64.ofNat 1152921487695413244).toNat ≤ 1152921487695413244 := by rw [UInt64.toNat_and]; exact Nat.and_le_right
  omega
theorem hN0 (r : Nat) (d : List UInt8) : List.replicate 3 (0 : UInt64) = w3 (hN r d 0) := by
  show List.replicate 3 (0 : UInt64) = w3 0
  decide +kernel
set_option maxRecDepth 100000 in
set_option maxHeartbeats 4000000 in
theorem conPoly : Con Tryz.prog 106 gPoly := con_of_vcl fun args ps res h hp hlen => by
  unfold gPoly at h
  split at h <;> cases h
  rename_i k m d
  obtain ⟨rfl, hp2⟩ := all_cons.1 hp
  have hl := (all_cons.1 hp2).1
  have hk : k.length = 32 := hlen.1.1
  refine ⟨PEs, 200, rfl, eokX (gs := [(89, gReadL), (88, gLittleN), (63, gJoin), (118, gAddN), (119, gTimes), (120, gReduced)]) ⟨conReadL, conLittleN4, conJoin, conAddN, conTimes, conReduced, trivial⟩, ?_⟩
  rw [vcPoly k d]
  have t8 : ∀ l : List UInt8, (List.take 8 l).length < 4611686018427387904 := fun l => by rw [List.length_take]; omega
  have dd : ∀ (l : List UInt8) (i : Nat), dropL l i = l.drop i := fun l i => by cases i <;> rfl
  have minNN : ∀ a b : Nat, min (a : Int) (b : Int) = ((min a b : Nat) : Int) := fun a b => by omega
  simp only [forall_eq, true_and, and_true, io, decide_eq_true_eq, decide_eq_false_iff_not, dd, Nat.zero_add, forall_const, Int.toNat_natCast, minNN, t8]
  show _ ∧ _ ∧ (∃ x, _) ∧ _
  refine ⟨by decide, by decide, ⟨0, Nat.zero_le _, rfl, rfl, hN0 _ d⟩, fun j hj => ⟨fun hlt => ?_, fun hge => ?_⟩⟩
  · have hj' : 16 * j < d.length := by rw [List.length_drop] at hlt; omega
    have hmin : min (List.drop (16 * j) d).length 16 = min 16 (d.length - 16 * j) := by rw [List.length_drop, Nat.min_comm]
    have hpt : List.take 24 (List.take (min 16 (d.length - 16 * j)) (List.drop (16 * j) d)) = (d.drop (16 * j)).take 16 := by
      rw [List.take_take, List.take_eq_take_iff, List.length_drop]; omega
    have hpl : ((d.drop (16 * j)).take 16).length = min 16 (d.length - 16 * j) := by rw [List.length_take, List.length_drop]
    have hn16 : min 16 (d.length - 16 * j) ≤ 16 := Nat.min_le_left ..
    rw [hmin, hpt]
    obtain ⟨g1, g2⟩ := piece_nat hpl hn16
    have hsp := split24 g2
    have hR : (readL (List.take 8 k) &&& UInt64.ofNat 1152921487695413247).toNat + D64 * (readL (List.take 8 (List.drop 8 k)) &&& UInt64.ofNat 1152921487695413244).toNat < 21267647932558653966460912964485513216 := by
      have := r0_lt (readL (List.take 8 k))
      have := r1_lt (readL (List.take 8 (List.drop 8 k)))
      simp only [D64]
      omega
    have hb1 := r0_lt (readL (List.take 8 k))
    have hb2 := r1_lt (readL (List.take 8 (List.drop 8 k)))
    have hH := hN_lt d hR j
    have hB : natL ((over (List.replicate 24 (0 : UInt8)) 0 ((d.drop (16 * j)).take 16)).set (min 16 (d.length - 16 * j)) (UInt8.ofNat 1)) = blkP d j := g1
    rw [hB] at hsp
    have hbl := blkP_lt d j
    have hs1 := lt64 (readL (List.take 8 ((over (List.replicate 24 (0 : UInt8)) 0 ((d.drop (16 * j)).take 16)).set (min 16 (d.length - 16 * j)) (UInt8.ofNat 1))))
    have hs2 := lt64 (readL (List.take 8 (List.drop 8 ((over (List.replicate 24 (0 : UInt8)) 0 ((d.drop (16 * j)).take 16)).set (min 16 (d.length - 16 * j)) (UInt8.ofNat 1)))))
    have hadd := add3 (top := readL (List.take 8 (List.drop 16 ((over (List.replicate 24 (0 : UInt8)) 0 ((d.drop (16 * j)).take 16)).set (min 16 (d.length - 16 * j)) (UInt8.ofNat 1))))) hH hs1 hs2 (by omega)
    rw [hsp] at hadd
    simp only [D64] at hadd hH hR ⊢
    rw [hadd, w3_val (by simp only [D192]; omega)]
    refine ⟨⟨by omega, by rw [List.length_drop]; omega⟩, by rw [hpl]; omega, ⟨by omega, by omega⟩, by omega, ⟨by omega, by rw [List.length_drop]; omega⟩, by decide, by decide, by decide, by omega, hb1, hb2, j + 1, ?_, ?_, ?_, ?_, rfl⟩
    · unfold nbP; omega
    · unfold nbP; omega
    · rw [List.length_drop, List.length_drop]; omega
    · rw [List.drop_drop]
      by_cases hx : 16 ≤ d.length - 16 * j
      · rw [Nat.min_eq_left hx]; congr 1
      · rw [List.drop_of_length_le (by omega), List.drop_of_length_le (by omega)]
  · have hje : j = nbP d := by rw [List.length_drop] at hge; unfold nbP at hj ⊢; omega
    subst hje
    have hR : rOf k < 21267647932558653966460912964485513216 := by
      have := r0_lt (readL (List.take 8 k))
      have := r1_lt (readL (List.take 8 (List.drop 8 k)))
      unfold rOf r0 r1
      simp only [D64]
      omega
    have hH := hN_lt d hR (nbP d)
    have e0 : (readL (List.take 8 k) &&& UInt64.ofNat 1152921487695413247).toNat + D64 * (readL (List.take 8 (List.drop 8 k)) &&& UInt64.ofNat 1152921487695413244).toNat = rOf k := rfl
    rw [e0, w3_val (n := hN (rOf k) d (nbP d)) (by simp only [D192]; omega)]
    have e1 : (if hN (rOf k) d (nbP d) < P130 then hN (rOf k) d (nbP d) else hN (rOf k) d (nbP d) - P130) = redP (hN (rOf k) d (nbP d)) := rfl
    rw [e1]
    have hred : redP (hN (rOf k) d (nbP d)) < D192 := by unfold redP; simp only [P130, D192]; split <;> omega
    rw [w3_val hred]
    have e2 : redP (hN (rOf k) d (nbP d)) + ((readL (List.take 8 (List.drop 16 k))).toNat + D64 * (readL (List.take 8 (List.drop 24 k))).toNat) = polyN k d := rfl
    rw [e2]
    refine ⟨by decide, by decide, rfl, by decide, (show 16 ≤ 4294967296 by decide), Nat.le_refl 16, Nat.le_refl 16, by kernel_rfl⟩
end Go.Proofs.YtiogdokekibeiaaGreat

/- A step towards HandshakeFinishesSaid: no conditions. -/
namespace Go.Proofs.YtiogdokekibeiaaGreat
set_option maxRecDepth 100000
open Go Go.Eng Go.Cod Go.Cha Go.Pol Go.Aed
theorem dif_zero {a b : List UInt8} (h : a.length = b.length) : ∀ {i}, i ≤ a.length → (dif a b i = 0 ↔ a.take i = b.take i)
  | 0, _ => by simp [dif]
  | i + 1, hi => by
    have ih := dif_zero h (i := i) (by omega)
    rw [dif, UInt8.or_eq_zero_iff, UInt8.xor_eq_zero_iff, ih, List.take_add_one, List.take_add_one, List.getElem?_eq_getElem (show i < a.length by omega), List.getElem?_eq_getElem (show i < b.length by omega)]
    rw [List.getD_eq_getElem?_getD, List.getD_eq_getElem?_getD, List.getElem?_eq_getElem (show i < a.length by omega), List.getElem?_eq_getElem (show i < b.length by omega)]
    constructor
    · rintro ⟨h1, h2⟩
      rw [h1]
      simp only [Option.getD_some] at h2
      rw [h2]
    · intro h1
      have hl : (a.take i).length = (b.take i).length := by rw [List.length_take, List.length_take]; omega
      obtain ⟨h2, h3⟩ := List.append_inj h1 hl
      exact ⟨h2, by simpa using h3⟩
theorem inI_lt {x : Nat} (h : x < 4611686018427387904) : InI ((x : Int) + Int.ofNat 1) := by
  show InI ((x : Int) + 1)
  unfold InI; omega
theorem beq_ff {a b : List UInt8} (h : a ≠ b) : (a == b) = false := by simpa using h
theorem conEqual : Con Tryz.prog 100 gEqual := con_of_vcs fun args ps res h hp => by
  unfold gEqual at h
  split at h <;> cases h
  rename_i m a n b
  obtain ⟨rfl, hp1⟩ := all_cons.1 hp
  obtain ⟨rfl, hp2⟩ := all_cons.1 hp1
  have ha := (all_cons.1 hp2).1
  refine ⟨AEe, 100, rfl, eok (gs := []) trivial, ?_⟩
  rw [vcEqual a b]
  refine ⟨fun hd => ⟨?_, trivial⟩, fun hd => ?_⟩
  · have hd := of_decide_eq_true hd
    refine (beq_ff fun e => hd ?_).symm
    rw [e]
  · have hd := of_decide_eq_false hd
    have hl : a.length = b.length := by omega
    refine ⟨⟨0, by omega, rfl, rfl, rfl, rfl, rfl, rfl, rfl, trivial⟩, fun x hx => ⟨fun hx2 => ?_, fun hx2 => ?_⟩⟩
    · have hx2 := of_decide_eq_true hx2
      rw [Int.toNat_natCast]
      exact ⟨by omega, by omega, by omega, by omega, inI_lt (by omega), x + 1, by omega, by omega, rfl, rfl, rfl, rfl, rfl, rfl, rfl, trivial⟩
    · have hx2 := of_decide_eq_false hx2
      have hxe : x = a.length := by omega
      subst hxe
      refine ⟨?_, trivial⟩
      have := dif_zero hl (i := a.length) (Nat.le_refl _)
      rw [List.take_length, List.take_of_length_le (by omega)] at this
      by_cases e : a = b
      · rw [this.2 e, beq_iff_eq.2 e]; rfl
      · rw [beq_ff e]
        have : ¬ dif a b a.length = 0 := fun h => e (this.1 h)
        simpa using this
theorem zp_int (n : Nat) : (Int.ofNat 16 - (n : Int).tmod (Int.ofNat 16)).tmod (Int.ofNat 16) = ((zp n : Nat) : Int) := by
  have e : Int.ofNat 16 - (n : Int).tmod (Int.ofNat 16) = ((16 - n % 16 : Nat) : Int) := by
    show (16 : Int) - ((n % 16 : Nat) : Int) = _
    omega
  rw [e]; rfl
theorem zp_le (n : Nat) : zp n ≤ 15 := by unfold zp; omega
theorem zerosL_len (n : Nat) : (zerosL n).length = zp n := List.length_replicate ..
theorem conFilled : Con Tryz.prog 107 gFilled := con_of_vcs fun args ps res h hp => by
  unfold gFilled at h
  split at h <;> cases h
  rename_i m b
  obtain ⟨rfl, hp⟩ := all_cons.1 hp
  refine ⟨AE0, 100, rfl, eok (gs := []) trivial, ?_⟩
  rw [vcFilled b]
  have hz := zp_le b.length
  have hi : InI (Int.ofNat 16 - (b.length : Int).tmod (Int.ofNat 16)) := by
    have e : Int.ofNat 16 - (b.length : Int).tmod (Int.ofNat 16) = ((16 - b.length % 16 : Nat) : Int) := by
      show (16 : Int) - ((b.length % 16 : Nat) : Int) = _
      omega
    rw [e]; unfold InI; omega
  rw [zp_int, Int.toNat_natCast, dropL_zero, dropL_zero]
  exact ⟨by decide, hi, by decide, by omega, by omega, rfl, by omega, rfl, List.take_of_length_le (by rw [List.length_replicate]; exact Nat.le_refl _), trivial⟩
theorem little8 (x : UInt64) : [(shr64 x 0).toUInt8, (shr64 x 8).toUInt8, (shr64 x 16).toUInt8, (shr64 x 24).toUInt8, (shr64 x 32).toUInt8, (shr64 x 40).toUInt8, (shr64 x 48).toUInt8, (shr64 x 56).toUInt8] = littleL x 8 := rfl
theorem flat6 (a b c d e f : List UInt8) : [a, b, c, d, e, f].flatten = a ++ (b ++ (c ++ (d ++ (e ++ f)))) := by simp
theorem flat2 (a b : List UInt8) : [a, b].flatten = a ++ b := by simp
theorem macL_len (c m : List UInt8) : (macL c m).length ≤ m.length + c.length + 46 := by
  have h1 := zp_le m.length
  have h2 := zp_le c.length
  unfold macL
  simp only [List.length_append, zerosL_len, littleL_len]
  omega
theorem polyL_len (k d : List UInt8) : (polyL k d).length = 16 := by unfold polyL; rw [List.length_append, littleL_len, littleL_len]
theorem tagL_len (k n c m : List UInt8) : (tagL k n c m).length = 16 := polyL_len ..
theorem conTag : Con Tryz.prog 93 gTag := con_of_vcs fun args ps res h hp => by
  unfold gTag at h
  split at h <;> cases h
  rename_i k n u c v m
  obtain ⟨rfl, hp1⟩ := all_cons.1 hp
  obtain ⟨rfl, hp2⟩ := all_cons.1 hp1
  obtain ⟨hc, hp3⟩ := all_cons.1 hp2
  have hm := (all_cons.1 hp3).1
  refine ⟨AEt, 200, rfl, eok (gs := [(105, gBlock), (107, gFilled), (88, gLittleN), (63, gJoin), (106, gPoly)]) ⟨conBlock, conFilled, conLittleN4, conJoin, conPoly, trivial⟩, ?_⟩
  rw [vcTag k n c m]
  have t : ∀ q, List.take (zp q) (zerosL q) = zerosL q := fun q => List.take_of_length_le (by rw [zerosL_len]; exact Nat.le_refl _)
  have hl := macL_len c m
  have e : m ++ (zerosL m.length ++ (c ++ (zerosL c.length ++ (littleL (to64 m.length) 8 ++ littleL (to64 c.length) 8)))) = macL c m := rfl
  simp only [forall_eq, true_and, and_true, dropL_zero, Nat.zero_add, little8, t, flat6, e, List.take_length, Nat.le_refl]
  refine ⟨by decide, by omega, by omega, rfl, by decide, by omega, by omega, rfl⟩
theorem sealL_len (k n p m : List UInt8) : (sealL k n p m).length = p.length + 16 := by unfold sealL; rw [List.length_append, tagL_len, xorL_len]
theorem conSeal : Con Tryz.prog 73 gSeal := con_of_vcs fun args ps res h hp => by
  unfold gSeal at h
  split at h <;> cases h
  rename_i k n u p v m
  obtain ⟨rfl, hp1⟩ := all_cons.1 hp
  obtain ⟨rfl, hp2⟩ := all_cons.1 hp1
  obtain ⟨hc, hp3⟩ := all_cons.1 hp2
  have hm := (all_cons.1 hp3).1
  refine ⟨AEs, 200, rfl, eok (gs := [(92, gXor), (93, gTag), (63, gJoin)]) ⟨conXor, conTag, conJoin, trivial⟩, ?_⟩
  rw [vcSeal k n p m]
  have t : List.take p.length (xorL k n (UInt32.ofNat 1) p) = xorL k n 1 p := List.take_of_length_le (by rw [xorL_len]; exact Nat.le_refl _)
  have e : xorL k n 1 p ++ tagL k n (xorL k n 1 p) m = sealL k n p m := rfl
  simp only [forall_eq, true_and, and_true, dropL_zero, Nat.zero_add, t, flat2, e, List.take_length, Nat.le_refl, xorL_len, sealL_len]
  refine ⟨by omega, hc, hm, rfl, by decide, by omega⟩
theorem conOpen : Con Tryz.prog 81 gOpen := con_of_vcs fun args ps res h hp => by
  unfold gOpen at h
  split at h <;> cases h
  rename_i k n u s v m
  obtain ⟨rfl, hp1⟩ := all_cons.1 hp
  obtain ⟨rfl, hp2⟩ := all_cons.1 hp1
  obtain ⟨hc, hp3⟩ := all_cons.1 hp2
  have hm := (all_cons.1 hp3).1
  refine ⟨AEo, 200, rfl, eok (gs := [(92, gXor), (93, gTag), (100, gEqual)]) ⟨conXor, conTag, conEqual, trivial⟩, ?_⟩
  rw [vcOpen k n s m]
  intro y hy
  refine ⟨fun hd => ?_, fun hd y0 hy0 => ⟨?_, fun y1 hy1 => ?_⟩⟩
  · have hd := of_decide_eq_true hd
    have h16 : s.length < 16 := by have : y < 16 := hd; omega
    have e : openE k n s m = 2 := by unfold openE; rw [if_pos h16]
    have e2 : openL k n s m = [] := by unfold openL; rw [e]; rfl
    rw [e, e2]
    exact ⟨rfl, rfl, rfl, trivial⟩
  · subst hy0
    show InI ((s.length : Int) - 16)
    unfold InI; omega
  · have hd := of_decide_eq_false hd
    have h16 : ¬ s.length < 16 := by have : ¬ y < 16 := hd; omega
    have hy1' : y1 = ((s.length - 16 : Nat) : Int) := by
      rw [hy1, hy0]
      show (s.length : Int) - 16 = _
      omega
    subst hy1'
    rw [Int.toNat_natCast]
    have l1 : (s.take (s.length - 16)).length = s.length - 16 := by rw [List.length_take]; omega
    have l2 : (s.drop (s.length - 16)).length ≤ s.length := by rw [List.length_drop]; omega
    refine ⟨by omega, rfl, rfl, by omega, hm, fun z hz z2 hz2 => ⟨by omega, rfl, rfl, by rw [hz2, hz, tagL_len]; decide, by omega, fun hd => ?_, fun hd => ?_⟩⟩
    · rw [hz2, hz] at hd
      have hne : tagL k n (s.take (s.length - 16)) m ≠ s.drop (s.length - 16) := by simpa using hd
      have e : openE k n s m = 6 := by unfold openE; rw [if_neg h16, if_neg hne]
      have e2 : openL k n s m = [] := by unfold openL; rw [e]; rfl
      rw [e, e2]
      exact ⟨rfl, rfl, rfl, trivial⟩
    · rw [hz2, hz] at hd
      have hne : tagL k n (s.take (s.length - 16)) m = s.drop (s.length - 16) := by simpa using hd
      have e : openE k n s m = 0 := by unfold openE; rw [if_neg h16, if_pos hne]
      have e2 : openL k n s m = xorL k n 1 (s.take (s.length - 16)) := by unfold openL; rw [if_pos e]
      rw [e, e2]
      refine ⟨by omega, rfl, by omega, fun q hq => ⟨by omega, by rw [xorL_len], ?_, rfl, trivial⟩⟩
      rw [hq, dropL_zero, dropL_zero]
      exact List.take_of_length_le (by rw [xorL_len]; exact Nat.le_refl _)
theorem countL_len (c : UInt64) : (countL c).length = 12 := by unfold countL; rw [List.length_append, littleL_len]; rfl
theorem conCounter : Con Tryz.prog 74 gCounter := con_of_vcs fun args ps res h hp => by
  unfold gCounter at h
  split at h <;> cases h
  rename_i c
  refine ⟨AEc, 200, rfl, eok (gs := [(88, gLittleN), (63, gJoin)]) ⟨conLittleN4, conJoin, trivial⟩, ?_⟩
  rw [vcCounter c]
  have e : List.replicate 4 0 ++ littleL c 8 = countL c := rfl
  simp only [forall_eq, true_and, and_true, little8, flat2, e, countL_len]
  exact ⟨rfl, by decide, by decide, Nat.le_refl _, Nat.le_refl _, List.take_of_length_le (by rw [countL_len]; exact Nat.le_refl _)⟩
end Go.Proofs.YtiogdokekibeiaaGreat

/- A step towards HandshakeFinishesSaid: no conditions. -/
namespace Go.Proofs.YtiogdokekibeiaaGreat
set_option maxRecDepth 100000
open Go Go.Eng Go.Cod Go.Cha Go.Pol Go.Aed
noncomputable def ARf : Env := mkE Tryz.prog [] [(0, JFilledR)] 2 true
noncomputable def ARt : Env := mkE Tryz.prog [(97, gBlock), (99, gFilledR), (96, gLittleN), (76, gJoin), (98, gPoly)] [] 10 true
noncomputable def ARs : Env := mkE Tryz.prog [(78, gXor), (79, gTag)] [] 10 true
noncomputable def ARc : Env := mkE Tryz.prog [(96, gLittleN)] [] 10 true
theorem vcFilledR (b : List UInt8) : (vcFn ARf 100 99 [.s (.xs 1 (.s b.length) (.u8 b))] (.s (.xs 1 (.s (fillL b).length) (.u8 (fillL b))))) =
  ((0 : Nat) + b.length ≤ (4294967296 : Nat) ∧ ∀ (y : List UInt8), y = [] ++ b → (∃ (x : Nat), x ≤ zp b.length ∧ b.length = b.length ∧ b = b ∧ (0 : Nat) + b.length = b.length + x ∧ (0 : Nat) + b.length = b.length + x ∧ y = b ++ List.replicate x (0 : UInt8) ∧ True) ∧ ∀ (x : Nat), x ≤ zp b.length → ∀ (y : Int), y = (↑(b.length + x) : Int) → Int.ofNat (16 : Nat) ≠ (0 : Int) ∧ (decide (y.tmod (Int.ofNat (16 : Nat)) ≠ Int.ofNat (0 : Nat)) = true → b.length + x = b.length + x ∧ b.length + x + (1 : Nat) ≤ (4294967296 : Nat) ∧ ∀ (y : List UInt8), y = b ++ List.replicate x (0 : UInt8) ++ [UInt8.ofNat (nat_lit 0)] → ∃ (y_1 : Nat), y_1 ≤ zp b.length ∧ zp b.length - y_1 < zp b.length - x ∧ b.length = b.length ∧ b = b ∧ b.length + x + (1 : Nat) = b.length + y_1 ∧ b.length + x + (1 : Nat) = b.length + y_1 ∧ y = b ++ List.replicate y_1 (0 : UInt8) ∧ True) ∧ (decide (y.tmod (Int.ofNat (16 : Nat)) ≠ Int.ofNat (0 : Nat)) = false → (0 : Nat) + (b.length + x) ≤ b.length + x ∧ b.length + x = (fillL b).length ∧ List.take (b.length + x) (dropL (dropL (b ++ List.replicate x (0 : UInt8)) (0 : Nat)) (0 : Nat)) = fillL b ∧ True)) := by kernel_rfl
theorem vcTagR (k n c m : List UInt8) : (vcFn ARt 200 79 [.agg [.vec (.n 32) (.u8 k)], .agg [.vec (.n 12) (.u8 n)], .s (.xs 1 (.s c.length) (.u8 c)), .s (.xs 1 (.s m.length) (.u8 m))] (.w (.agg [.vec (.n 16) (.u8 (tagL k n c m))]))) =
  (∀ (y : List UInt8), y = block k (UInt32.ofNat (nat_lit 0)) n → ∀ (y_1 : List UInt8), y_1 = y → (32 : Nat) ≤ (64 : Nat) ∧ ∀ (y : List UInt8), y = List.take (32 : Nat) y_1 → m.length = m.length ∧ m.length ≤ (4294967000 : Nat) ∧ ∀ (y_2 : List UInt8), y_2 = fillL m → c.length = c.length ∧ c.length ≤ (4294967000 : Nat) ∧ ∀ (y_3 : List UInt8), y_3 = fillL c → ∀ (y_4 : Int), y_4 = (↑m.length : Int) → ∀ (y_5 : List UInt8), y_5 = [(shr64 (to64 y_4) (0 : Nat)).toUInt8, (shr64 (to64 y_4) (8 : Nat)).toUInt8, (shr64 (to64 y_4) (16 : Nat)).toUInt8, (shr64 (to64 y_4) (24 : Nat)).toUInt8, (shr64 (to64 y_4) (32 : Nat)).toUInt8, (shr64 (to64 y_4) (40 : Nat)).toUInt8, (shr64 (to64 y_4) (48 : Nat)).toUInt8, (shr64 (to64 y_4) (56 : Nat)).toUInt8] → ∀ (y_6 : Int), y_6 = (↑c.length : Int) → ∀ (y_7 : List UInt8), y_7 = [(shr64 (to64 y_6) (0 : Nat)).toUInt8, (shr64 (to64 y_6) (8 : Nat)).toUInt8, (shr64 (to64 y_6) (16 : Nat)).toUInt8, (shr64 (to64 y_6) (24 : Nat)).toUInt8, (shr64 (to64 y_6) (32 : Nat)).toUInt8, (shr64 (to64 y_6) (40 : Nat)).toUInt8, (shr64 (to64 y_6) (48 : Nat)).toUInt8, (shr64 (to64 y_6) (56 : Nat)).toUInt8] → (0 : Nat) + (fillL m).length ≤ (fillL m).length ∧ (0 : Nat) + (fillL c).length ≤ (fillL c).length ∧ [List.take (fillL m).length (dropL (dropL y_2 (0 : Nat)) (0 : Nat)), List.take (fillL c).length (dropL (dropL y_3 (0 : Nat)) (0 : Nat)), y_5, y_7].length = (4 : Nat) ∧ (4 : Nat) < (4611686018427387904 : Nat) ∧ [List.take (fillL m).length (dropL (dropL y_2 (0 : Nat)) (0 : Nat)), List.take (fillL c).length (dropL (dropL y_3 (0 : Nat)) (0 : Nat)), y_5, y_7].flatten.length ≤ (4294967296 : Nat) ∧ ∀ (y_8 : List UInt8), y_8 = [List.take (fillL m).length (dropL (dropL y_2 (0 : Nat)) (0 : Nat)), List.take (fillL c).length (dropL (dropL y_3 (0 : Nat)) (0 : Nat)), y_5, y_7].flatten → (0 : Nat) + [List.take (fillL m).length (dropL (dropL y_2 (0 : Nat)) (0 : Nat)), List.take (fillL c).length (dropL (dropL y_3 (0 : Nat)) (0 : Nat)), y_5, y_7].flatten.length ≤ [List.take (fillL m).length (dropL (dropL y_2 (0 : Nat)) (0 : Nat)), List.take (fillL c).length (dropL (dropL y_3 (0 : Nat)) (0 : Nat)), y_5, y_7].flatten.length ∧ (List.take [List.take (fillL m).length (dropL (dropL y_2 (0 : Nat)) (0 : Nat)), List.take (fillL c).length (dropL (dropL y_3 (0 : Nat)) (0 : Nat)), y_5, y_7].flatten.length (dropL (dropL y_8 (0 : Nat)) (0 : Nat))).length = (List.take [List.take (fillL m).length (dropL (dropL y_2 (0 : Nat)) (0 : Nat)), List.take (fillL c).length (dropL (dropL y_3 (0 : Nat)) (0 : Nat)), y_5, y_7].flatten.length (dropL (dropL y_8 (0 : Nat)) (0 : Nat))).length ∧ (List.take [List.take (fillL m).length (dropL (dropL y_2 (0 : Nat)) (0 : Nat)), List.take (fillL c).length (dropL (dropL y_3 (0 : Nat)) (0 : Nat)), y_5, y_7].flatten.length (dropL (dropL y_8 (0 : Nat)) (0 : Nat))).length ≤ (4294967296 : Nat) ∧ ∀ (y_9 : List UInt8), y_9 = polyL y (List.take [List.take (fillL m).length (dropL (dropL y_2 (0 : Nat)) (0 : Nat)), List.take (fillL c).length (dropL (dropL y_3 (0 : Nat)) (0 : Nat)), y_5, y_7].flatten.length (dropL (dropL y_8 (0 : Nat)) (0 : Nat))) → ∀ (y : List UInt8), y = y_9 → y = tagL k n c m ∧ True) := by kernel_rfl
theorem vcSealR (k n p m : List UInt8) : (vcFn ARs 200 48 [.agg [.vec (.n 32) (.u8 k)], .agg [.vec (.n 12) (.u8 n)], .s (.xs 1 (.s p.length) (.u8 p)), .s (.xs 1 (.s m.length) (.u8 m))] (.s (.xs 1 (.s (sealL k n p m).length) (.u8 (sealL k n p m))))) =
  (p.length = p.length ∧ p.length ≤ (4294967296 : Nat) ∧ ∀ (y : List UInt8), y = xorL k n (UInt32.ofNat (nat_lit 1)) p → (0 : Nat) + p.length ≤ p.length ∧ (List.take p.length (dropL (dropL y (0 : Nat)) (0 : Nat))).length = (List.take p.length (dropL (dropL y (0 : Nat)) (0 : Nat))).length ∧ m.length = m.length ∧ (List.take p.length (dropL (dropL y (0 : Nat)) (0 : Nat))).length ≤ (1073741824 : Nat) ∧ m.length ≤ (1073741824 : Nat) ∧ ∀ (y_1 : List UInt8), y_1 = tagL k n (List.take p.length (dropL (dropL y (0 : Nat)) (0 : Nat))) m → ∀ (y_2 : List UInt8), y_2 = y_1 → p.length = p.length ∧ p.length + (16 : Nat) ≤ (4294967296 : Nat) ∧ ∀ (y_3 : List UInt8), y_3 = y ++ y_2 → (0 : Nat) + (p.length + (16 : Nat)) ≤ p.length + (16 : Nat) ∧ p.length + (16 : Nat) = (sealL k n p m).length ∧ List.take (p.length + (16 : Nat)) (dropL (dropL y_3 (0 : Nat)) (0 : Nat)) = sealL k n p m ∧ True) := by kernel_rfl
theorem vcOpenR (k n s m : List UInt8) : (vcFn ARs 200 54 [.agg [.vec (.n 32) (.u8 k)], .agg [.vec (.n 12) (.u8 n)], .s (.xs 1 (.s s.length) (.u8 s)), .s (.xs 1 (.s m.length) (.u8 m))] (.tup [.s (.xs 1 (.s (openL k n s m).length) (.u8 (openL k n s m))), .s (.i64 (openE k n s m))])) =
  (∀ (y : Int), y = (↑s.length : Int) → (decide (y < Int.ofNat (16 : Nat)) = true → (openL k n s m).length = (0 : Nat) ∧ (openL k n s m).length = (0 : Nat) ∧ Int.ofNat (2 : Nat) = openE k n s m ∧ True) ∧ (decide (y < Int.ofNat (16 : Nat)) = false → ∀ (y : Int), y = (↑s.length : Int) → InI (y - Int.ofNat (16 : Nat)) ∧ ((0 : Int) ≤ y - Int.ofNat (16 : Nat) ∧ y - Int.ofNat (16 : Nat) ≤ (↑s.length : Int)) ∧ (List.take (y - Int.ofNat (16 : Nat)).toNat s).length = (List.take (y - Int.ofNat (16 : Nat)).toNat s).length ∧ m.length = m.length ∧ (List.take (y - Int.ofNat (16 : Nat)).toNat s).length ≤ (1073741824 : Nat) ∧ m.length ≤ (1073741824 : Nat) ∧ ∀ (y_1 : List UInt8), y_1 = tagL k n (List.take (y - Int.ofNat (16 : Nat)).toNat s) m → ∀ (y_2 : List UInt8), y_2 = y_1 → ∀ (y_3 : Int), y_3 = (↑((y - Int.ofNat (16 : Nat)).toNat - (0 : Nat)) : Int) → ((0 : Int) ≤ y_3 ∧ y_3 ≤ (↑s.length : Int)) ∧ (decide (y_2 ≠ List.drop y_3.toNat s) = true → (openL k n s m).length = (0 : Nat) ∧ (openL k n s m).length = (0 : Nat) ∧ Int.ofNat (6 : Nat) = openE k n s m ∧ True) ∧ (decide (y_2 ≠ List.drop y_3.toNat s) = false → (List.take (y - Int.ofNat (16 : Nat)).toNat s).length = (List.take (y - Int.ofNat (16 : Nat)).toNat s).length ∧ (List.take (y - Int.ofNat (16 : Nat)).toNat s).length ≤ (4294967296 : Nat) ∧ ∀ (y_4 : List UInt8), y_4 = xorL k n (UInt32.ofNat (nat_lit 1)) (List.take (y - Int.ofNat (16 : Nat)).toNat s) → (0 : Nat) + (List.take (y - Int.ofNat (16 : Nat)).toNat s).length ≤ (List.take (y - Int.ofNat (16 : Nat)).toNat s).length ∧ (List.take (y - Int.ofNat (16 : Nat)).toNat s).length = (openL k n s m).length ∧ List.take (List.take (y - Int.ofNat (16 : Nat)).toNat s).length (dropL (dropL y_4 (0 : Nat)) (0 : Nat)) = openL k n s m ∧ Int.ofNat (0 : Nat) = openE k n s m ∧ True))) := by kernel_rfl
end Go.Proofs.YtiogdokekibeiaaGreat

/- A step towards HandshakeFinishesSaid: no conditions. -/
namespace Go.Pol
open Go Go.Eng Go.Cod
def gTrue0 : SpecF := fun args => match args with
  | [] => some ([], .s (.b true))
  | _ => none
def car (a s : List UInt8) (i : Nat) : Nat := (natL a % 256 ^ i + natL s % 256 ^ i) / 256 ^ i
noncomputable def JAdds (σ : St) : Option Inv :=
  match names σ.fr 2, names σ.fr 8 with
  | some p, some q => match getO σ.own p, getO σ.own q with
    | some [.vec _ (.u8 k)], some [.vec _ (.u8 a)] => some {
        α := Nat
        ok := fun i => i ≤ 16
        mu := fun i => 16 - i
        keep := [2, 4, 8, 9]
        slots := fun i => [(28, .s (.i64 i)), (10, .s (.i64 (car a (k.drop 16) i : Nat)))]
        own := fun _ => []
        ext := fun _ => [] }
    | _, _ => none
  | _, _ => none
end Go.Pol
