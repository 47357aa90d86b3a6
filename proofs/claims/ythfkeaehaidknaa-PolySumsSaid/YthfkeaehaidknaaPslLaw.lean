/- A step towards PolySumsSaid: no conditions. -/
import Derived.Test.YthfkeaehaidknaaPslVc
import Derived.Test.YthfkeaehaidknaaPsmCon
namespace Go.Proofs.Ythfkeaehaidknaa
open Go Go.Eng Go.Cod Go.Pol
theorem len32 {l : List UInt8} (h : l.length = 32) : ∃ a0 a1 a2 a3 a4 a5 a6 a7 a8 a9 a10 a11 a12 a13 a14 a15 a16 a17 a18 a19 a20 a21 a22 a23 a24 a25 a26 a27 a28 a29 a30 a31, l = [a0, a1, a2, a3, a4, a5, a6, a7, a8, a9, a10, a11, a12, a13, a14, a15, a16, a17, a18, a19, a20, a21, a22, a23, a24, a25, a26, a27, a28, a29, a30, a31] := by
  match l, h with
  | [a0, a1, a2, a3, a4, a5, a6, a7, a8, a9, a10, a11, a12, a13, a14, a15, a16, a17, a18, a19, a20, a21, a22, a23, a24, a25, a26, a27, a28, a29, a30, a31], _ => exact ⟨a0, a1, a2, a3, a4, a5, a6, a7, a8, a9, a10, a11, a12, a13, a14, a15, a16, a17, a18, a19, a20, a21, a22, a23, a24, a25, a26, a27, a28, a29, a30, a31, rfl⟩
theorem natL_inj : ∀ {a b : List UInt8}, a.length = b.length → natL a = natL b → a = b
  | [], [], _, _ => rfl
  | [], _ :: _, h, _ => by simp at h
  | _ :: _, [], h, _ => by simp at h
  | x :: a, y :: b, h, hn => by
    have hx := x.toNat_lt
    have hy := y.toNat_lt
    simp only [natL] at hn
    have e1 : x = y := UInt8.toNat_inj.1 (by omega)
    have e2 := natL_inj (a := a) (b := b) (by simpa using h) (by omega)
    rw [e1, e2]
theorem little_read {l : List UInt8} (h : l.length = 8) : littleL (readL l) 8 = l := by
  refine natL_inj (by rw [littleL_len, h]) ?_
  rw [natL_little, readL_nat l (by omega), Nat.mod_eq_of_lt]
  have := natL_lt l
  rw [h] at this
  exact this
theorem le16_s {k : List UInt8} (hk : k.length = 32) : littleL (u (sOf k)) 8 ++ littleL (u (sOf k / D64)) 8 = k.drop 16 := by
  have l1 := lt64 (readL ((k.drop 16).take 8))
  have l2 := lt64 (readL ((k.drop 24).take 8))
  have e1 : u (sOf k) = readL ((k.drop 16).take 8) := (u_eq (by unfold sOf; simp only [D64]; omega)).symm
  have e2 : u (sOf k / D64) = readL ((k.drop 24).take 8) := (u_eq (by unfold sOf; simp only [D64]; omega)).symm
  rw [e1, e2, little_read (by rw [List.length_take, List.length_drop]; omega), little_read (by rw [List.length_take, List.length_drop]; omega)]
  have a : (k.drop 24).take 8 = (k.drop 16).drop 8 := by rw [List.drop_drop, List.take_of_length_le (by rw [List.length_drop]; omega)]
  rw [a, List.take_append_drop]
theorem hN_zero (d : List UInt8) : ∀ j, hN 0 d j = 0
  | 0 => rfl
  | j + 1 => by
    show red1 ((hN 0 d j + blkP d j) * 0) = 0
    rw [Nat.mul_zero]; rfl
theorem poly_r0 {k : List UInt8} (d : List UInt8) (hk : k.length = 32) (hr : rOf k = 0) : polyL k d = k.drop 16 := by
  have e : polyN k d = sOf k := by
    unfold polyN
    rw [hr, hN_zero]
    show redP 0 + sOf k = sOf k
    rw [show redP 0 = 0 from rfl, Nat.zero_add]
  unfold polyL
  rw [e, le16_s hk]
theorem poly_nil {k : List UInt8} (hk : k.length = 32) : polyL k [] = k.drop 16 := by
  have e : polyN k [] = sOf k := by
    unfold polyN
    show redP 0 + sOf k = sOf k
    rw [show redP 0 = 0 from rfl, Nat.zero_add]
  unfold polyL
  rw [e, le16_s hk]
theorem minNN (a b : Nat) : min (a : Int) (b : Int) = ((min a b : Nat) : Int) := by omega
theorem natNN (a b : Nat) : (0 ≤ ((min a b : Nat) : Int) ∧ ((min a b : Nat) : Int) ≤ (a : Int)) = True := eq_true ⟨by omega, by omega⟩
set_option maxRecDepth 100000 in
theorem conPBeg : Con Try.prog 10 gTrue0 := con_of_vcs fun args ps res h hp => by
  unfold gTrue0 at h
  split at h <;> cases h
  refine ⟨PLb, 200, rfl, eok (gs := [(8, gPoly)]) ⟨conPoly, trivial⟩, ?_⟩
  rw [vcPBeg]
  decide +kernel
theorem epll : EnvOk PLl := eok (gs := [(8, gPoly), (10, gTrue0)]) ⟨conPoly, conPBeg, trivial⟩
theorem epla : EnvOk PLa := eok (gs := [(8, gPoly), (10, gTrue0)]) ⟨conPoly, conPBeg, trivial⟩
set_option maxRecDepth 100000 in
theorem law_second (k d : List UInt8) (hk : k.length = 32) : vcFn PLl 300 4 [.agg [.vec (.n 32) (.u8 k)], .s (.xs 1 (.s d.length) (.u8 d))] (.s (.b true)) := by
  rw [vcSecond k d]
  intro y0 hy0 y1 hy1 y2 hy2 y3 hy3 y4 hy4 y5 hy5 y6 hy6 y7 hy7 y8 hy8 y9 hy9 y10 hy10 y11 hy11 y12 hy12 y13 hy13 y14 hy14 y15 hy15 y16 hy16
  have hx : y16 = List.replicate 16 0 ++ k.drop 16 := by
    obtain ⟨a0, a1, a2, a3, a4, a5, a6, a7, a8, a9, a10, a11, a12, a13, a14, a15, a16, a17, a18, a19, a20, a21, a22, a23, a24, a25, a26, a27, a28, a29, a30, a31, rfl⟩ := len32 hk
    subst hy16 hy15 hy14 hy13 hy12 hy11 hy10 hy9 hy8 hy7 hy6 hy5 hy4 hy3 hy2 hy1 hy0
    kernel_rfl
  rw [hx]
  clear hx hy16 hy15 hy14 hy13 hy12 hy11 hy10 hy9 hy8 hy7 hy6 hy5 hy4 hy3 hy2 hy1 hy0
  have l32 : (List.replicate 16 (0 : UInt8) ++ k.drop 16).length = 32 := by simp [hk]
  have hr : rOf (List.replicate 16 (0 : UInt8) ++ k.drop 16) = 0 := by kernel_rfl
  have hd : (List.replicate 16 (0 : UInt8) ++ k.drop 16).drop 16 = k.drop 16 := rfl
  have t16 : List.take 16 (dropL k 16) = k.drop 16 := List.take_of_length_le (by show (k.drop 16).length ≤ 16; rw [List.length_drop]; omega)
  have ld : (List.take (min d.length 100) d).length ≤ 4294967296 := by rw [List.length_take]; omega
  simp only [forall_eq, io, minNN, natNN, Int.toNat_natCast, poly_r0 _ l32 hr, hd, t16, ld, poly_nil hk, List.replicate_zero]
  simp
theorem xor_and8 (a x m : UInt8) (h : x &&& m = 0) : (a ^^^ x) &&& m = a &&& m := by
  have e : (a ^^^ x) &&& m = (a &&& m) ^^^ (x &&& m) := by
    apply UInt8.toBitVec_inj.1
    show (a.toBitVec ^^^ x.toBitVec) &&& m.toBitVec = (a.toBitVec &&& m.toBitVec) ^^^ (x.toBitVec &&& m.toBitVec)
    apply BitVec.eq_of_getLsbD_eq
    intro i hi
    simp only [BitVec.getLsbD_and, BitVec.getLsbD_xor]
    cases a.toBitVec.getLsbD i <;> cases x.toBitVec.getLsbD i <;> cases m.toBitVec.getLsbD i <;> rfl
  rw [e, h]
  simp
theorem hi4 (b : UInt8) : shl8 b 4 &&& 15 = 0 := by
  apply UInt8.toBitVec_inj.1
  show (b.toBitVec <<< 4) &&& 15#8 = 0#8
  generalize b.toBitVec = x
  revert x
  decide +kernel
theorem lo2 (b : UInt8) : (b &&& UInt8.ofNat 3) &&& 252 = 0 := by
  apply UInt8.toBitVec_inj.1
  show (b.toBitVec &&& 3#8) &&& 252#8 = 0#8
  generalize b.toBitVec = x
  revert x
  decide +kernel
theorem read_and (a m : UInt8) (l p : List UInt8) : readL (a :: l) &&& readL (m :: p) = shl64 (readL l &&& readL p) 8 ||| (a &&& m).toUInt64 := by
  show (shl64 (readL l) 8 ||| a.toUInt64) &&& (shl64 (readL p) 8 ||| m.toUInt64) = _
  generalize readL l = x
  generalize readL p = y
  apply UInt64.toBitVec_inj.1
  show ((x.toBitVec <<< 8) ||| a.toBitVec.setWidth 64) &&& ((y.toBitVec <<< 8) ||| m.toBitVec.setWidth 64) = ((x.toBitVec &&& y.toBitVec) <<< 8) ||| (a.toBitVec &&& m.toBitVec).setWidth 64
  generalize x.toBitVec = X
  generalize y.toBitVec = Y
  generalize a.toBitVec = A
  generalize m.toBitVec = M
  apply BitVec.eq_of_getLsbD_eq
  intro i hi
  simp only [BitVec.getLsbD_and, BitVec.getLsbD_or, BitVec.getLsbD_shiftLeft, BitVec.getLsbD_setWidth, hi, decide_true, Bool.true_and]
  by_cases h : i < 8
  · simp [h]
  · have ha : A.getLsbD i = false := BitVec.getLsbD_of_ge A i (by omega)
    have hm : M.getLsbD i = false := BitVec.getLsbD_of_ge M i (by omega)
    simp [h, ha, hm]
theorem mask0 : UInt64.ofNat 1152921487695413247 = readL [255, 255, 255, 15, 252, 255, 255, 15] := by decide +kernel
theorem mask1 : UInt64.ofNat 1152921487695413244 = readL [252, 255, 255, 15, 252, 255, 255, 15] := by decide +kernel
set_option maxRecDepth 100000 in
theorem law_clamps (k d : List UInt8) (n : UInt16) (hk : k.length = 32) : vcFn PLl 300 5 [.agg [.vec (.n 32) (.u8 k)], .s (.xs 1 (.s d.length) (.u8 d)), .s (.u16 n)] (.s (.b true)) := by
  rw [vcClamps k d n]
  have ld : (List.take (min d.length 100) d).length ≤ 4294967296 := by rw [List.length_take]; omega
  simp only [forall_eq, io, minNN, natNN, Int.toNat_natCast, ld, true_and, and_true]
  generalize List.take (min d.length 100) d = x
  obtain ⟨a0, a1, a2, a3, a4, a5, a6, a7, a8, a9, a10, a11, a12, a13, a14, a15, a16, a17, a18, a19, a20, a21, a22, a23, a24, a25, a26, a27, a28, a29, a30, a31, rfl⟩ := len32 hk
  have key : ∀ b3 b7 b11 b15 b4 b8 b12 : UInt8, polyL [a0, a1, a2, a3 ^^^ shl8 b3 4, a4 ^^^ (b4 &&& UInt8.ofNat 3), a5, a6, a7 ^^^ shl8 b7 4, a8 ^^^ (b8 &&& UInt8.ofNat 3), a9, a10, a11 ^^^ shl8 b11 4, a12 ^^^ (b12 &&& UInt8.ofNat 3), a13, a14, a15 ^^^ shl8 b15 4, a16, a17, a18, a19, a20, a21, a22, a23, a24, a25, a26, a27, a28, a29, a30, a31] x = polyL [a0, a1, a2, a3, a4, a5, a6, a7, a8, a9, a10, a11, a12, a13, a14, a15, a16, a17, a18, a19, a20, a21, a22, a23, a24, a25, a26, a27, a28, a29, a30, a31] x := by
    intro b3 b7 b11 b15 b4 b8 b12
    have e0 : r0 [a0, a1, a2, a3 ^^^ shl8 b3 4, a4 ^^^ (b4 &&& UInt8.ofNat 3), a5, a6, a7 ^^^ shl8 b7 4, a8 ^^^ (b8 &&& UInt8.ofNat 3), a9, a10, a11 ^^^ shl8 b11 4, a12 ^^^ (b12 &&& UInt8.ofNat 3), a13, a14, a15 ^^^ shl8 b15 4, a16, a17, a18, a19, a20, a21, a22, a23, a24, a25, a26, a27, a28, a29, a30, a31] = r0 [a0, a1, a2, a3, a4, a5, a6, a7, a8, a9, a10, a11, a12, a13, a14, a15, a16, a17, a18, a19, a20, a21, a22, a23, a24, a25, a26, a27, a28, a29, a30, a31] := by
      show readL [a0, a1, a2, a3 ^^^ shl8 b3 4, a4 ^^^ (b4 &&& UInt8.ofNat 3), a5, a6, a7 ^^^ shl8 b7 4] &&& UInt64.ofNat 1152921487695413247 = readL [a0, a1, a2, a3, a4, a5, a6, a7] &&& UInt64.ofNat 1152921487695413247
      rw [mask0]
      simp only [read_and, xor_and8 _ _ _ (hi4 _), xor_and8 _ _ _ (lo2 _)]
    have e1 : r1 [a0, a1, a2, a3 ^^^ shl8 b3 4, a4 ^^^ (b4 &&& UInt8.ofNat 3), a5, a6, a7 ^^^ shl8 b7 4, a8 ^^^ (b8 &&& UInt8.ofNat 3), a9, a10, a11 ^^^ shl8 b11 4, a12 ^^^ (b12 &&& UInt8.ofNat 3), a13, a14, a15 ^^^ shl8 b15 4, a16, a17, a18, a19, a20, a21, a22, a23, a24, a25, a26, a27, a28, a29, a30, a31] = r1 [a0, a1, a2, a3, a4, a5, a6, a7, a8, a9, a10, a11, a12, a13, a14, a15, a16, a17, a18, a19, a20, a21, a22, a23, a24, a25, a26, a27, a28, a29, a30, a31] := by
      show readL [a8 ^^^ (b8 &&& UInt8.ofNat 3), a9, a10, a11 ^^^ shl8 b11 4, a12 ^^^ (b12 &&& UInt8.ofNat 3), a13, a14, a15 ^^^ shl8 b15 4] &&& UInt64.ofNat 1152921487695413244 = readL [a8, a9, a10, a11, a12, a13, a14, a15] &&& UInt64.ofNat 1152921487695413244
      rw [mask1]
      simp only [read_and, xor_and8 _ _ _ (hi4 _), xor_and8 _ _ _ (lo2 _)]
    unfold polyL polyN rOf
    rw [e0, e1]
    rfl
  have hkey := key (shr16 n 0).toUInt8 (shr16 n 4).toUInt8 (shr16 n 8).toUInt8 (shr16 n 12).toUInt8 (shr16 n 0).toUInt8 (shr16 n 2).toUInt8 (shr16 n 4).toUInt8
  have hset : ∀ q, polyL q x = polyL [a0, a1, a2, a3, a4, a5, a6, a7, a8, a9, a10, a11, a12, a13, a14, a15, a16, a17, a18, a19, a20, a21, a22, a23, a24, a25, a26, a27, a28, a29, a30, a31] x → ((polyL q x == polyL [a0, a1, a2, a3, a4, a5, a6, a7, a8, a9, a10, a11, a12, a13, a14, a15, a16, a17, a18, a19, a20, a21, a22, a23, a24, a25, a26, a27, a28, a29, a30, a31] x) = false → false = true) := fun q h => by rw [h]; simp
  repeat' first | apply And.intro | (intro h; exact trivial)
  all_goals first | omega | exact trivial | skip
  intro h
  exact hset _ hkey h
/-! ### sums, byte by byte -/
theorem natL_digit : ∀ (l : List UInt8) (i : Nat), (l.getD i 0).toNat = natL l / 256 ^ i % 256
  | [], i => by simp [natL]
  | b :: r, 0 => by
    have := b.toNat_lt
    simp [natL]
  | b :: r, i + 1 => by
    have hb := b.toNat_lt
    have ih := natL_digit r i
    have e : natL (b :: r) / 256 ^ (i + 1) = natL r / 256 ^ i := by
      rw [Nat.pow_succ, Nat.mul_comm, ← Nat.div_div_eq_div_mul]
      congr 1
      simp only [natL]
      omega
    rw [e, ← ih]
    rfl
theorem natL_poly (k d : List UInt8) : natL (polyL k d) = polyN k d % 340282366920938463463374607431768211456 := by
  unfold polyL
  rw [natL_append, natL_little, natL_little, littleL_len, u_nat, u_nat]
  have e : (256 : Nat) ^ 8 = 18446744073709551616 := rfl
  rw [e]
  simp only [D64]
  omega
theorem step_nat {A S c ai si M : Nat} (hM : 0 < M) (hc : c = (A % M + S % M) / M) (ha : ai = A / M % 256) (hs : si = S / M % 256) :
    (ai + si + c) / 256 = (A % (M * 256) + S % (M * 256)) / (M * 256) ∧ (A + S) / M % 256 = (ai + si + c) % 256 := by
  have hA : A % (M * 256) = A % M + M * (A / M % 256) := Nat.mod_mul
  have hS : S % (M * 256) = S % M + M * (S / M % 256) := Nat.mod_mul
  have d1 := Nat.div_add_mod A M
  have d2 := Nat.div_add_mod S M
  constructor
  · rw [hA, hS, ← ha, ← hs, ← Nat.div_div_eq_div_mul]
    congr 1
    rw [hc, show A % M + M * ai + (S % M + M * si) = (A % M + S % M) + M * (ai + si) by rw [Nat.mul_add]; omega, Nat.add_mul_div_left _ _ hM]
    omega
  · have e : (A + S) / M = A / M + S / M + c := by
      rw [hc]
      conv => lhs; rw [← d1, ← d2]
      rw [show M * (A / M) + A % M + (M * (S / M) + S % M) = (A % M + S % M) + M * (A / M + S / M) by rw [Nat.mul_add]; omega, Nat.add_mul_div_left _ _ hM]
      omega
    rw [e, ha, hs]
    omega
theorem to8_nat (n : Nat) : to8 ((n : Nat) : Int) = UInt8.ofNat n := by
  apply UInt8.toBitVec_inj.1
  show BitVec.ofInt 8 (n : Int) = BitVec.ofNat 8 n
  rw [BitVec.ofInt_natCast]
set_option maxRecDepth 100000 in
theorem law_adds (k d : List UInt8) (hk : k.length = 32) : vcFn PLa 300 6 [.agg [.vec (.n 32) (.u8 k)], .s (.xs 1 (.s d.length) (.u8 d))] (.s (.b true)) := by
  rw [vcAdds k d]
  have ld : (List.take (min d.length 100) d).length ≤ 4294967296 := by rw [List.length_take]; omega
  intro z0 hz0 z1 hz1
  have hz : z1 = ((min d.length 100 : Nat) : Int) := by subst hz1 hz0; exact minNN _ _
  rw [hz, natNN]
  clear hz hz1 hz0 z1 z0
  refine ⟨trivial, ?_⟩
  intro y0 hy0 y1 hy1 y2 hy2 y3 hy3 y4 hy4 y5 hy5 y6 hy6 y7 hy7 y8 hy8 y9 hy9 y10 hy10 y11 hy11 y12 hy12 y13 hy13 y14 hy14 y15 hy15 y16 hy16
  have hx : y16 = k.take 16 ++ List.replicate 16 0 := by
    obtain ⟨a0, a1, a2, a3, a4, a5, a6, a7, a8, a9, a10, a11, a12, a13, a14, a15, a16, a17, a18, a19, a20, a21, a22, a23, a24, a25, a26, a27, a28, a29, a30, a31, rfl⟩ := len32 hk
    subst hy16 hy15 hy14 hy13 hy12 hy11 hy10 hy9 hy8 hy7 hy6 hy5 hy4 hy3 hy2 hy1 hy0
    kernel_rfl
  rw [hx]
  clear hx hy16 hy15 hy14 hy13 hy12 hy11 hy10 hy9 hy8 hy7 hy6 hy5 hy4 hy3 hy2 hy1 hy0
  simp only [forall_eq, io, Int.toNat_natCast, ld, true_and, and_true, decide_eq_true_eq, decide_eq_false_iff_not]
  generalize List.take (min d.length 100) d = x
  have lt16 : (k.take 16).length = 16 := by rw [List.length_take]; omega
  have hr : rOf (k.take 16 ++ List.replicate 16 0) = rOf k := by
    obtain ⟨a0, a1, a2, a3, a4, a5, a6, a7, a8, a9, a10, a11, a12, a13, a14, a15, a16, a17, a18, a19, a20, a21, a22, a23, a24, a25, a26, a27, a28, a29, a30, a31, rfl⟩ := len32 hk
    kernel_rfl
  have hs0 : sOf (k.take 16 ++ List.replicate 16 0) = 0 := by
    obtain ⟨a0, a1, a2, a3, a4, a5, a6, a7, a8, a9, a10, a11, a12, a13, a14, a15, a16, a17, a18, a19, a20, a21, a22, a23, a24, a25, a26, a27, a28, a29, a30, a31, rfl⟩ := len32 hk
    kernel_rfl
  have hS : sOf k = natL (k.drop 16) := by
    unfold sOf
    rw [readL_nat _ (by rw [List.length_take]; omega), readL_nat _ (by rw [List.length_take]; omega)]
    have e : k.drop 16 = (k.drop 16).take 8 ++ (k.drop 24).take 8 := by
      have a : (k.drop 24).take 8 = (k.drop 16).drop 8 := by rw [List.drop_drop, List.take_of_length_le (by rw [List.length_drop]; omega)]
      rw [a, List.take_append_drop]
    conv => rhs; rw [e]
    rw [natL_append, show ((k.drop 16).take 8).length = 8 by rw [List.length_take, List.length_drop]; omega]
  have hA := natL_poly (k.take 16 ++ List.replicate 16 0) x
  have hB := natL_poly k x
  have pA : polyN (k.take 16 ++ List.replicate 16 0) x = redP (hN (rOf k) x (nbP x)) := by unfold polyN; rw [hr, hs0]; rfl
  have pB : polyN k x = redP (hN (rOf k) x (nbP x)) + natL (k.drop 16) := by unfold polyN; rw [hS]
  rw [pA] at hA
  rw [pB] at hB
  generalize redP (hN (rOf k) x (nbP x)) = H at *
  generalize polyL (k.take 16 ++ List.replicate 16 0) x = a at *
  generalize polyL k x = b at *
  have kd : ∀ i, k.getD (16 + i) 0 = (k.drop 16).getD i 0 := fun i => by rw [List.getD_eq_getElem?_getD, List.getD_eq_getElem?_getD, List.getElem?_drop]
  have hsl := natL_lt (k.drop 16)
  generalize k.drop 16 = s at *
  refine ⟨⟨0, by omega, by unfold car; simp [Nat.mod_one], rfl⟩, fun i hi => ⟨fun hlt => ?_, fun _ => trivial⟩⟩
  have hlt : i < 16 := by omega
  have cadd : ((16 : Nat) : Int) + (i : Int) = ((16 + i : Nat) : Int) := rfl
  rw [cadd, Int.toNat_natCast, kd]
  have hM : 0 < 256 ^ i := Nat.pow_pos (by decide)
  obtain ⟨g1, g2⟩ := step_nat (A := natL a) (S := natL s) hM (c := car a s i) rfl (natL_digit a i) (natL_digit s i)
  have hb : (b.getD i 0).toNat = ((a.getD i 0).toNat + (s.getD i 0).toNat + car a s i) % 256 := by
    rw [natL_digit, ← g2, hB, hA]
    have hp : 340282366920938463463374607431768211456 = 256 ^ i * (256 * 256 ^ (15 - i)) := by
      rw [← Nat.pow_succ', ← Nat.pow_add, show i + (15 - i + 1) = 16 by omega]
    rw [hp]
    have hm : ∀ X : Nat, X % (256 ^ i * (256 * 256 ^ (15 - i))) / 256 ^ i % 256 = X / 256 ^ i % 256 := fun X => by
      rw [Nat.mod_mul_right_div_self, Nat.mod_mul_right_mod]
    rw [hm, ← hm (H % (256 ^ i * (256 * 256 ^ (15 - i))) + natL s), ← hm (H + natL s), Nat.mod_add_mod]
  have la := (a.getD i 0).toNat_lt
  have lsd := (s.getD i 0).toNat_lt
  have lc : car a s i ≤ 1 := by
    unfold car
    have := Nat.mod_lt (natL a) hM
    have := Nat.mod_lt (natL s) hM
    have : (natL a % 256 ^ i + natL s % 256 ^ i) / 256 ^ i < 2 := Nat.div_lt_of_lt_mul (by omega)
    omega
  have e8 : b.getD i 0 = to8 (((a.getD i 0).toNat : Int) + ((s.getD i 0).toNat : Int) + (car a s i : Int)) := by
    rw [show (((a.getD i 0).toNat : Int) + ((s.getD i 0).toNat : Int) + (car a s i : Int)) = (((a.getD i 0).toNat + (s.getD i 0).toNat + car a s i : Nat) : Int) by omega, to8_nat]
    apply UInt8.toNat_inj.1
    rw [hb, UInt8.toNat_ofNat']
  refine ⟨⟨by omega, by omega⟩, hlt, inI_of (by omega) (by omega), ⟨by omega, by omega⟩, by omega, inI_of (by omega) (by omega), inI_of (by omega) (by omega), ⟨by omega, by omega⟩, hlt, fun h => ?_, fun _ => ⟨by decide, inI_of (by omega) (by omega), i + 1, by omega, by omega, ?_, rfl⟩⟩
  · rw [e8] at h
    simp at h
  · have p8 : (2 : Int) ^ 8 = 256 := rfl
    rw [p8]
    have : car a s (i + 1) = ((a.getD i 0).toNat + (s.getD i 0).toNat + car a s i) / 256 := by
      rw [g1]
      rfl
    omega
end Go.Proofs.Ythfkeaehaidknaa
