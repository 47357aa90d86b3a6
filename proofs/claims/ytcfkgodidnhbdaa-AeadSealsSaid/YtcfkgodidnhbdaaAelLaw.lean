/- A step towards AeadSealsSaid: no conditions. -/
import Derived.Test.YtcfkgodidnhbdaaAelVc
import Derived.Test.YtcfkgodidnhbdaaAerCon
namespace Go.Proofs.Ytcfkgodidnhbdaa
open Go Go.Eng Go.Cod Go.Cha Go.Pol Go.Aed
theorem ael_minNN (a b : Nat) : min (a : Int) (b : Int) = ((min a b : Nat) : Int) := by omega
theorem ael_xx (k n : List UInt8) (c : UInt32) (d : List UInt8) : xorL k n c (xorL k n c d) = d := by
  apply List.ext_getElem?
  intro i
  rw [xorL_get, xorL_get]
  cases d[i]? with
  | none => rfl
  | some x =>
    show some (x ^^^ _ ^^^ _) = some x
    rw [UInt8.xor_assoc, UInt8.xor_self, UInt8.xor_zero]
theorem openE_seal (k n p m : List UInt8) : openE k n (sealL k n p m) m = 0 := by
  have l : (sealL k n p m).length - 16 = (xorL k n 1 p).length := by rw [sealL_len, xorL_len]; omega
  unfold openE
  rw [if_neg (by rw [sealL_len]; omega), if_pos]
  rw [l]
  unfold sealL
  rw [List.take_append_of_le_length (Nat.le_refl _), List.take_length, List.drop_append_of_le_length (Nat.le_refl _), List.drop_length, List.nil_append]
theorem openL_seal (k n p m : List UInt8) : openL k n (sealL k n p m) m = p := by
  have l : (sealL k n p m).length - 16 = (xorL k n 1 p).length := by rw [sealL_len, xorL_len]; omega
  unfold openL
  rw [if_pos (openE_seal ..), l]
  unfold sealL
  rw [List.take_append_of_le_length (Nat.le_refl _), List.take_length, ael_xx]
theorem open_cases (k n s m : List UInt8) (h : 16 ≤ s.length) : (openE k n s m = 6 ∧ openL k n s m = []) ∨ (openE k n s m = 0 ∧ sealL k n (openL k n s m) m = s) := by
  by_cases ht : tagL k n (s.take (s.length - 16)) m = s.drop (s.length - 16)
  · have e : openE k n s m = 0 := by unfold openE; rw [if_neg (by omega), if_pos ht]
    refine .inr ⟨e, ?_⟩
    unfold openL
    rw [if_pos e]
    unfold sealL
    rw [ael_xx, ht, List.take_append_drop]
  · have e : openE k n s m = 6 := by unfold openE; rw [if_neg (by omega), if_neg ht]
    refine .inl ⟨e, ?_⟩
    unfold openL
    rw [e]; rfl
theorem openL_le (k n s m : List UInt8) : (openL k n s m).length ≤ s.length := by
  unfold openL
  split
  · rw [xorL_len, List.length_take]; omega
  · exact Nat.zero_le _
set_option maxRecDepth 100000 in
theorem conABeg : Con Try.prog 8 Go.Pol.gTrue0 := con_of_vcs fun args ps res h hp => by
  unfold Go.Pol.gTrue0 at h
  split at h <;> cases h
  refine ⟨ALb, 300, rfl, eok (gs := [(11, gSeal)]) ⟨conSeal, trivial⟩, ?_⟩
  rw [vcABeg]
  intro y0 h0 y1 h1 y2 h2 y3 h3 y4 h4 y5 h5 y6 h6 y7 h7 y8 h8 y9 h9 y10 h10 y11 h11 y12 h12 y13 h13 y14 h14 y15 h15 y16 h16 y17 h17 y18 h18 y19 h19 y20 h20 y21 h21 y22 h22 y23 h23 y24 h24 y25 h25 y26 h26 y27 h27 y28 h28 y29 h29 y30 h30 y31 h31
  have key : y31 = (List.range 32).map fun i => UInt8.ofNat (128 + i) := by
    rw [h31, h30, h29, h28, h27, h26, h25, h24, h23, h22, h21, h20, h19, h18, h17, h16, h15, h14, h13, h12, h11, h10, h9, h8, h7, h6, h5, h4, h3, h2, h1, h0]
    decide +kernel
  clear h31 h30 h29 h28 h27 h26 h25 h24 h23 h22 h21 h20 h19 h18 h17 h16 h15 h14 h13 h12 h11 h10 h9 h8 h7 h6 h5 h4 h3 h2 h1 h0
  intro y hy
  refine ⟨by decide, rfl, rfl, by decide, by decide, fun s hs y18 h18 => ?_⟩
  have e1 : s.take 4 = [211, 26, 141, 52] := by
    rw [hs, hy, key]
    decide +kernel
  have e2 : s.drop 114 = [26, 225, 11, 89, 79, 9, 226, 106, 126, 144, 46, 203, 208, 96, 6, 145] := by
    rw [hs, hy, key]
    decide +kernel
  have ls : s.length = 130 := by rw [hs, sealL_len]; rfl
  rw [sealL_len] at h18 ⊢
  have e18 : y18 = 130 := h18.trans (by decide)
  rw [e18]
  refine ⟨fun _ => ?_, fun h => by revert h; decide⟩
  have e3 : s.take 4 = (ByteArray.mk #[211, 26, 141, 52]).data.toList := e1
  rw [e3]
  refine ⟨by decide, by decide, fun _ => ⟨by decide, by decide, ?_, trivial⟩, fun h => by revert h; decide⟩
  rw [dropL_zero, dropL_eq, List.take_of_length_le (by rw [List.length_drop, ls]; decide), e2]
  decide
theorem eall : EnvOk ALl := eok (gs := [(11, gSeal), (12, gOpen), (10, gSeal), (13, gOpen), (6, gCounter), (7, gCounter), (8, Go.Pol.gTrue0)]) ⟨conSeal, conOpen, conSealR, conOpenR, conCounter, conCounterR, conABeg, trivial⟩
theorem count_inj {a b : UInt64} (h : countL a = countL b) : a = b := by
  unfold countL at h
  have := List.append_cancel_left h
  rw [← readL_little8 a, ← readL_little8 b, this]
theorem count_beq (a b : UInt64) : (countL a == countL b) = (a == b) := by
  by_cases h : a = b
  · rw [h]; simp
  · rw [beq_ff fun e => h (count_inj e), Bool.eq_iff_iff]
    simp [h]
theorem count_read (a : UInt64) : shl64 (shl64 (shl64 (shl64 (shl64 (shl64 (shl64 (shl64 (UInt64.ofNat 0) 8 ||| ((countL a).getD 11 0).toUInt64) 8 ||| ((countL a).getD 10 0).toUInt64) 8 ||| ((countL a).getD 9 0).toUInt64) 8 ||| ((countL a).getD 8 0).toUInt64) 8 ||| ((countL a).getD 7 0).toUInt64) 8 ||| ((countL a).getD 6 0).toUInt64) 8 ||| ((countL a).getD 5 0).toUInt64) 8 ||| ((countL a).getD 4 0).toUInt64 = a := by
  conv => rhs; rw [← readL_little8 a]
  rfl
set_option maxRecDepth 100000 in
theorem law_acount (a b : UInt64) : vcFn ALl 300 3 [.s (.u64 a), .s (.u64 b)] (.s (.b true)) := by
  rw [vcACount a b]
  have h4 : List.take 4 (countL a) = [0, 0, 0, 0] := rfl
  simp only [forall_eq, count_read, count_beq, beq_self_eq_true, h4]
  exact ⟨fun _ => ⟨fun _ => ⟨fun _ => ⟨by decide, fun _ => ⟨trivial, trivial⟩, fun h => by revert h; decide⟩, fun h => by cases h⟩, fun h => by cases h⟩, fun h => by cases h⟩
theorem set_same {s : List UInt8} {i : Nat} : s.set i (s.getD i 0 ^^^ UInt8.ofNat 0) = s := by
  show s.set i (s.getD i 0 ^^^ 0) = s
  rw [UInt8.xor_zero]
  by_cases h : i < s.length
  · rw [List.getD_eq_getElem?_getD, List.getElem?_eq_getElem h, Option.getD_some, List.set_getElem_self]
  · rw [List.set_eq_of_length_le (by omega)]
theorem take_set (l : List UInt8) (i : Nat) (x : UInt8) : (l.set i x).take l.length = l.set i x := List.take_of_length_le (by rw [List.length_set]; exact Nat.le_refl _)
theorem tmod_nn (a b : Nat) : (a : Int).tmod (b : Int) = ((a % b : Nat) : Int) := rfl
set_option maxRecDepth 100000 in
theorem law_areturns (k n p m : List UInt8) (ix by1 : UInt8) : vcFn ALl 300 5 [.agg [.vec (.n 32) (.u8 k)], .agg [.vec (.n 12) (.u8 n)], .s (.xs 1 (.s p.length) (.u8 p)), .s (.xs 1 (.s m.length) (.u8 m)), .s (.u8 ix), .s (.u8 by1)] (.s (.b true)) := by
  rw [vcAReturns k n p m ix by1]
  simp only [forall_eq, io, ael_minNN, tmod_nn, Int.toNat_natCast, dropL_zero, Nat.zero_add, Nat.sub_zero, List.take_length, take_set, openE_seal, openL_seal]
  have lP : (List.take (min p.length 150) p).length = min p.length 150 := by rw [List.length_take]; omega
  have lM : (List.take (min m.length 40) m).length = min m.length 40 := by rw [List.length_take]; omega
  generalize List.take (min p.length 150) p = P at *
  generalize List.take (min m.length 40) m = M at *
  have lS := sealL_len k n P M
  have oS := openE_seal k n P M
  generalize sealL k n P M = S at *
  have key : ∀ q, (openE k n (S.set q (S.getD q 0 ^^^ by1)) M = 6 ∧ openL k n (S.set q (S.getD q 0 ^^^ by1)) M = [] ∧ by1 ≠ UInt8.ofNat 0) ∨ (openE k n (S.set q (S.getD q 0 ^^^ by1)) M = 0 ∧ sealL k n (openL k n (S.set q (S.getD q 0 ^^^ by1)) M) M = S.set q (S.getD q 0 ^^^ by1)) := by
    intro q
    rcases open_cases k n (S.set q (S.getD q 0 ^^^ by1)) M (by rw [List.length_set]; omega) with ⟨h1, h2⟩ | h
    · refine .inl ⟨h1, h2, fun h0 => ?_⟩
      rw [h0, set_same, oS] at h1
      exact absurd h1 (by decide)
    · exact .inr h
  have hq : ix.toNat % S.length < S.length := Nat.mod_lt _ (by omega)
  have key := key (ix.toNat % S.length)
  have lT : (S.set (ix.toNat % S.length) (S.getD (ix.toNat % S.length) 0 ^^^ by1)).length = S.length := List.length_set ..
  generalize S.set (ix.toNat % S.length) (S.getD (ix.toNat % S.length) 0 ^^^ by1) = T at *
  have lO := openL_le k n T M
  rcases key with ⟨h1, h2, h3⟩ | ⟨h1, h2⟩
  · have h3' : (by1 != UInt8.ofNat 0) = true := by simpa using h3
    rw [h1, h2, h3']
    simp only [ne_eq, not_true_eq_false, decide_true, decide_false, Bool.false_eq_true, false_imp_iff, true_and, and_true, forall_const, List.length_nil, lT]
    have e1 : (P.length ≤ 1073741824) = True := eq_true (by omega)
    have e2 : (M.length ≤ 1073741824) = True := eq_true (by omega)
    have e3 : (S.length ≤ 1073741824) = True := eq_true (by omega)
    have e4 : ((S.length : Int) = ((min p.length 150 : Nat) : Int) + ((16 : Nat) : Int)) = True := eq_true (by omega)
    have e5 : ((S.length : Int) = 0) = False := eq_false (by omega)
    have e6 : InI (((min p.length 150 : Nat) : Int) + ((16 : Nat) : Int)) = True := eq_true (by unfold InI; omega)
    simp only [e1, e2, e3, e4, e5, e6, Nat.le_refl, true_and, and_true]
    simp
    omega
  · rw [h1, h2]
    simp only [ne_eq, not_true_eq_false, decide_true, decide_false, Bool.false_eq_true, false_imp_iff, true_and, and_true, forall_const, List.length_nil, lT]
    have e1 : (P.length ≤ 1073741824) = True := eq_true (by omega)
    have e2 : (M.length ≤ 1073741824) = True := eq_true (by omega)
    have e3 : (S.length ≤ 1073741824) = True := eq_true (by omega)
    have e4 : ((S.length : Int) = ((min p.length 150 : Nat) : Int) + ((16 : Nat) : Int)) = True := eq_true (by omega)
    have e5 : ((S.length : Int) = 0) = False := eq_false (by omega)
    have e6 : InI (((min p.length 150 : Nat) : Int) + ((16 : Nat) : Int)) = True := eq_true (by unfold InI; omega)
    have e7 : ((openL k n T M).length ≤ 1073741824) = True := eq_true (by omega)
    simp only [e1, e2, e3, e4, e5, e6, e7, Nat.le_refl, true_and, and_true]
    simp
    omega
set_option maxRecDepth 100000 in
theorem law_aseals (k n p m s : List UInt8) (ix by1 : UInt8) : vcFn ALl 300 4 [.agg [.vec (.n 32) (.u8 k)], .agg [.vec (.n 12) (.u8 n)], .s (.xs 1 (.s p.length) (.u8 p)), .s (.xs 1 (.s m.length) (.u8 m)), .s (.xs 1 (.s s.length) (.u8 s)), .s (.u8 ix), .s (.u8 by1)] (.s (.b true)) := by
  rw [vcASeals k n p m s ix by1]
  simp only [forall_eq, io, ael_minNN, tmod_nn, Int.toNat_natCast, dropL_zero, Nat.zero_add, Nat.sub_zero, List.take_length, take_set]
  have lP : (List.take (min p.length 150) p).length = min p.length 150 := by rw [List.length_take]; omega
  have lM : (List.take (min m.length 40) m).length = min m.length 40 := by rw [List.length_take]; omega
  have lK : (List.take (min s.length 60) s).length = min s.length 60 := by rw [List.length_take]; omega
  generalize List.take (min p.length 150) p = P at *
  generalize List.take (min m.length 40) m = M at *
  generalize List.take (min s.length 60) s = K at *
  have lS := sealL_len k n P M
  generalize sealL k n P M = S at *
  have hq : ix.toNat % S.length < S.length := Nat.mod_lt _ (by omega)
  generalize ix.toNat % S.length = q at *
  have lT : (S.set q (S.getD q 0 ^^^ by1)).length = S.length := List.length_set ..
  generalize S.set q (S.getD q 0 ^^^ by1) = T at *
  have lQ : (List.take q S).length = q := by rw [List.length_take]; omega
  generalize List.take q S = Q at *
  have e1 : (P.length ≤ 1073741824) = True := eq_true (by omega)
  have e2 : (M.length ≤ 1073741824) = True := eq_true (by omega)
  have e3 : (S.length ≤ 1073741824) = True := eq_true (by omega)
  have e4 : (K.length ≤ 1073741824) = True := eq_true (by omega)
  have e5 : ((S.length : Int) = 0) = False := eq_false (by omega)
  have e6 : (Q.length ≤ 1073741824) = True := eq_true (by omega)
  have e7 : (T.length ≤ 1073741824) = True := eq_true (by omega)
  simp only [ne_eq, not_true_eq_false, decide_true, decide_false, Bool.false_eq_true, false_imp_iff, true_and, and_true, forall_const, e1, e2, e3, e4, e5, e6, e7, Nat.le_refl, not_false_eq_true]
  simp
  omega
theorem ael_use : True := trivial
end Go.Proofs.Ytcfkgodidnhbdaa
