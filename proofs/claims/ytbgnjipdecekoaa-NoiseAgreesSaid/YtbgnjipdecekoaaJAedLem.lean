/- Steps towards NoiseAgreesSaid. -/
import Derived.Test.YtbgnjipdecekoaaJAedCon
import Derived.Test.YtbgnjipdecekoaaJNoaVc
import Derived.Test.YtbgnjipdecekoaaJBlrCon
/- A step towards NoiseAgreesSaid: no conditions. -/
namespace Go.Proofs.Ytbgnjipdecekoaa
open Go Go.Eng Go.Cod Go.Cha Go.Pol Go.Aed
theorem ael_minNN (a b : Nat) : min (a : Int) (b : Int) = ((min a b : Nat) : Int) := by omega
theorem ael_xx (k n : List UInt8) (c : UInt32) (d : List UInt8) : xorL k n c (xorL k n c d) = d := by
  apply List.ext_getElem?
  intro i
  rw [xorL_get, xorL_get]
  cases d[i]? with
  | none => rfl
  | some x =>
    show some (x ^^^ _ ^^^ _) = some x
    rw [UInt8.xor_assoc, UInt8.xor_self, UInt8.xor_zero]
theorem openE_seal (k n p m : List UInt8) : openE k n (sealL k n p m) m = 0 := by
  have l : (sealL k n p m).length - 16 = (xorL k n 1 p).length := by rw [sealL_len, xorL_len]; omega
  unfold openE
  rw [if_neg (by rw [sealL_len]; omega), if_pos]
  rw [l]
  unfold sealL
  rw [List.take_append_of_le_length (Nat.le_refl _), List.take_length, List.drop_append_of_le_length (Nat.le_refl _), List.drop_length, List.nil_append]
theorem openL_seal (k n p m : List UInt8) : openL k n (sealL k n p m) m = p := by
  have l : (sealL k n p m).length - 16 = (xorL k n 1 p).length := by rw [sealL_len, xorL_len]; omega
  unfold openL
  rw [if_pos (openE_seal ..), l]
  unfold sealL
  rw [List.take_append_of_le_length (Nat.le_refl _), List.take_length, ael_xx]
theorem open_cases (k n s m : List UInt8) (h : 16 ≤ s.length) : (openE k n s m = 6 ∧ openL k n s m = []) ∨ (openE k n s m = 0 ∧ sealL k n (openL k n s m) m = s) := by
  by_cases ht : tagL k n (s.take (s.length - 16)) m = s.drop (s.length - 16)
  · have e : openE k n s m = 0 := by unfold openE; rw [if_neg (by omega), if_pos ht]
    refine .inr ⟨e, ?_⟩
    unfold openL
    rw [if_pos e]
    unfold sealL
    rw [ael_xx, ht, List.take_append_drop]
  · have e : openE k n s m = 6 := by unfold openE; rw [if_neg (by omega), if_neg ht]
    refine .inl ⟨e, ?_⟩
    unfold openL
    rw [e]; rfl
theorem openL_le (k n s m : List UInt8) : (openL k n s m).length ≤ s.length := by
  unfold openL
  split
  · rw [xorL_len, List.length_take]; omega
  · exact Nat.zero_le _
theorem set_same {s : List UInt8} {i : Nat} : s.set i (s.getD i 0 ^^^ UInt8.ofNat 0) = s := by
  show s.set i (s.getD i 0 ^^^ 0) = s
  rw [UInt8.xor_zero]
  by_cases h : i < s.length
  · rw [List.getD_eq_getElem?_getD, List.getElem?_eq_getElem h, Option.getD_some, List.set_getElem_self]
  · rw [List.set_eq_of_length_le (by omega)]
theorem take_set (l : List UInt8) (i : Nat) (x : UInt8) : (l.set i x).take l.length = l.set i x := List.take_of_length_le (by rw [List.length_set]; exact Nat.le_refl _)
theorem tmod_nn (a b : Nat) : (a : Int).tmod (b : Int) = ((a % b : Nat) : Int) := rfl
end Go.Proofs.Ytbgnjipdecekoaa

/- A step towards NoiseAgreesSaid: no conditions. -/
namespace Go.Proofs.Ytbgnjipdecekoaa
open Go Go.Eng Go.Cod Go.Cha Go.Pol Go.Aed Go.Bla Go.Kdf Go.Nos
theorem startC_ne : (!startC == List.replicate 32 0) = true := by decide +kernel
theorem zeros32 : [(0 : UInt8), 0, 0, 0, 0, 0, 0, 0, 0, 0, 0, 0, 0, 0, 0, 0, 0, 0, 0, 0, 0, 0, 0, 0, 0, 0, 0, 0, 0, 0, 0, 0] = List.replicate 32 0 := rfl
set_option maxRecDepth 100000 in
theorem conNBeg : Con Try.prog 19 Go.Pol.gTrue0 := con_of_vcs fun args ps res h hp => by
  unfold Go.Pol.gTrue0 at h
  split at h <;> cases h
  refine ⟨NLb, 300, rfl, eok (gs := [(28, gHash), (13, gStart)]) ⟨conHash, conNStart, trivial⟩, ?_⟩
  rw [vcNBeg]
  have e5 : sumL 32 [] constr = startC := rfl
  simp only [forall_eq, true_and, and_true, litC, flat1, e5, zeros32, startC_ne, beq_self_eq_true, forall_const, Bool.true_eq_false, false_imp_iff]
  decide
theorem enll : EnvOk NLl := eok (gs := [(15, gMixHash), (17, gMixChain), (7, gMixKey), (9, gMixShared), (11, gSplit), (13, gStart), (20, gNSeal), (22, gNOpen), (16, gMixHash), (18, gMixChain), (8, gMixKey), (10, gMixShared), (12, gSplit), (14, gStart), (21, gNSeal), (23, gNOpen), (19, Go.Pol.gTrue0)])
  ⟨conNMixHash, conNMixChain, conNMixKey, conNMixShared, conNSplit, conNStart, conNSeal, conNOpen, conQMixHash, conQMixChain, conQMixKey, conQMixShared, conQSplit, conQStart, conQSeal, conQOpen, conNBeg, trivial⟩
set_option maxRecDepth 100000 in
theorem law_nsteps (h c p x a b : List UInt8) : vcFn NLl 300 3 [.agg [.vec (.n 32) (.u8 h), .vec (.n 32) (.u8 c)], .agg [.vec (.n 32) (.u8 p)], .agg [.vec (.n 32) (.u8 x)], .s (.xs 1 (.s a.length) (.u8 a)), .s (.xs 1 (.s b.length) (.u8 b))] (.s (.b true)) := by
  rw [vcNSteps h c p x a b]
  simp only [forall_eq, io, ael_minNN, Int.toNat_natCast, fl2_len]
  have lP : (List.take (min a.length 60) a).length = min a.length 60 := by rw [List.length_take]; omega
  have lM : (List.take (min b.length 60) b).length = min b.length 60 := by rw [List.length_take]; omega
  generalize List.take (min a.length 60) a = P at *
  generalize List.take (min b.length 60) b = M at *
  simp only [beq_self_eq_true, Bool.and_self, Bool.true_eq_false, false_imp_iff, and_true, true_and, forall_const]
  refine ⟨by omega, by omega, by omega, by omega, rfl, by omega, by omega, rfl, by omega, by omega, by omega, by omega, by omega, by omega, by omega, by omega⟩
set_option maxRecDepth 100000 in
theorem law_nseals (h c k p raw : List UInt8) (ix by1 : UInt8) : vcFn NLl 300 4 [.agg [.vec (.n 32) (.u8 h), .vec (.n 32) (.u8 c)], .agg [.vec (.n 32) (.u8 k)], .s (.xs 1 (.s p.length) (.u8 p)), .s (.xs 1 (.s raw.length) (.u8 raw)), .s (.u8 ix), .s (.u8 by1)] (.s (.b true)) := by
  rw [vcNSeals h c k p raw ix by1]
  simp only [forall_eq, io, ael_minNN, tmod_nn, Int.toNat_natCast, dropL_zero, Nat.zero_add, Nat.sub_zero, List.take_length, take_set]
  have lP : (List.take (min p.length 60) p).length = min p.length 60 := by rw [List.length_take]; omega
  have lM : (List.take (min raw.length 60) raw).length = min raw.length 60 := by rw [List.length_take]; omega
  generalize List.take (min p.length 60) p = P at *
  generalize List.take (min raw.length 60) raw = M at *
  have lS := nSealL_len h k P
  generalize nSealL h k P = S at *
  have hq : ix.toNat % S.length < S.length := Nat.mod_lt _ (by omega)
  generalize ix.toNat % S.length = q at *
  have lT : (S.set q (S.getD q 0 ^^^ by1)).length = S.length := List.length_set ..
  generalize S.set q (S.getD q 0 ^^^ by1) = T at *
  have e1 : (P.length ≤ 1073741824) = True := eq_true (by omega)
  have e2 : (M.length ≤ 1073741824) = True := eq_true (by omega)
  have e3 : (S.length ≤ 1073741824) = True := eq_true (by omega)
  have e5 : ((S.length : Int) = 0) = False := eq_false (by omega)
  have e7 : (T.length ≤ 1073741824) = True := eq_true (by omega)
  simp only [ne_eq, not_true_eq_false, decide_true, decide_false, Bool.false_eq_true, false_imp_iff, true_and, and_true, forall_const, e1, e2, e3, e5, e7, Nat.le_refl, not_false_eq_true, beq_self_eq_true, Bool.not_true, bne_self_eq_false, Bool.and_self]
  simp
  omega
end Go.Proofs.Ytbgnjipdecekoaa

/- A step towards NoiseAgreesSaid: no conditions. -/
namespace Go.Proofs.Ytbgnjipdecekoaa
open Go Go.Eng Go.Cod Go.Cha Go.Pol Go.Aed Go.Bla Go.Kdf Go.Nos
theorem na_tk (l : List UInt8) (n : Nat) (h : n = l.length) : List.take n (dropL (dropL l 0) 0) = l := by
  subst h
  simp only [dropL_zero, List.take_length]
theorem na_tk' (l : List UInt8) : List.take l.length (dropL (dropL l 0) 0) = l := na_tk l _ rfl
theorem na_cut (l : List UInt8) : List.take (min (l.length : Int) 40).toNat l = l.take 40 := by
  have : (min (l.length : Int) 40).toNat = min l.length 40 := by omega
  rw [this]
  rcases Nat.le_total l.length 40 with h | h
  · rw [Nat.min_eq_left h, List.take_length, List.take_of_length_le h]
  · rw [Nat.min_eq_right h]
theorem na_cutlen (l : List UInt8) : (min (l.length : Int) 40).toNat = (l.take 40).length := by
  rw [List.length_take]; omega
theorem na_half (l : List UInt8) (n : Nat) : [List.take n l, List.drop n l].flatten = l := by simp
theorem na_half2 (l : List UInt8) (n : Nat) : [l].flatten = l := by simp
theorem na_mix (h l : List UInt8) (n : Nat) : mixH h [List.take n l, List.drop n l] = mixH h [l] := by
  unfold mixH; rw [na_half, na_half2 l 0]
theorem na_E (h k p : List UInt8) : nOpenE h k (nSealL h k p) = 0 := openE_seal _ _ _ _
theorem na_L (h k p : List UInt8) : nOpenL h k (nSealL h k p) = p := openL_seal _ _ _ _
theorem na_H (h k p : List UInt8) : opH h k (nSealL h k p) = mixH h [nSealL h k p] := by unfold opH; rw [if_pos (na_E h k p)]
theorem na_C (h c k p : List UInt8) : opC h c k (nSealL h k p) = c := by unfold opC; rw [if_pos (na_E h k p)]
theorem enal : EnvOk NAl := eok (gs := [(15, gMixHash), (17, gMixChain), (7, gMixKey), (11, gSplit), (13, gStart), (20, gNSeal), (22, gNOpen), (19, Go.Pol.gTrue0)])
  ⟨conNMixHash, conNMixChain, conNMixKey, conNSplit, conNStart, conNSeal, conNOpen, conNBeg, trivial⟩
set_option maxRecDepth 100000 in
theorem law_nagr (p : List UInt8) (ls : List (List UInt8)) : vcFn NAl 300 5 [.agg [.vec (.n 32) (.u8 p)], .s (.xs 1 (.s ls.length) (.sl ls))] (.s (.b true)) := by
  refine Eq.mpr (vcNAgr p ls) ?_
  have e8 : ((8 : Nat) : Int) = 8 := rfl
  have e40 : ((40 : Nat) : Int) = 40 := rfl
  have hN : (ls.take (min (ls.length : Int) 8).toNat).length = (min (ls.length : Int) 8).toNat := by rw [List.length_take]; omega
  simp only [forall_eq, io, e8, e40]
  refine ⟨by omega, ?_⟩
  generalize ls.take (min (ls.length : Int) 8).toNat = ks at *
  rw [← hN]
  have hK : ks.length ≤ 8 := by omega
  clear hN
  refine ⟨⟨0, Nat.zero_le _, by simp [noA]⟩, fun x hx => ?_⟩
  simp only [Int.toNat_natCast, na_cut]
  simp only [na_cutlen, Nat.sub_zero]
  have hq : ((ks.getD x []).take 40).length ≤ 40 := by rw [List.length_take]; omega
  have hs : noA (startH p, startC) ks (x + 1) = stepA (noA (startH p, startC) ks x) x ((ks.getD x []).take 40) := rfl
  generalize (ks.getD x []).take 40 = r at *
  generalize hA : noA (startH p, startC) ks x = A at *
  obtain ⟨h, c⟩ := A
  simp only []
  have m3 : ∀ k : Nat, ((x : Int).tmod ((3 : Nat) : Int) = (k : Int)) ↔ x % 3 = k := fun k => by
    have e : (x : Int).tmod ((3 : Nat) : Int) = ((x % 3 : Nat) : Int) := rfl
    rw [e]; omega
  have dv : (r.length : Int).tdiv ((2 : Nat) : Int) = ((r.length / 2 : Nat) : Int) := rfl
  simp only [m3, dv, Int.toNat_natCast, na_mix, na_half, na_tk', na_E, na_L, na_H, na_C, ne_eq, beq_self_eq_true, Bool.and_self, Bool.not_true, Bool.false_eq_true, false_imp_iff, true_and, forall_const]
  have l1 : (nSealL h (exI c r 2 1) r).length = r.length + 16 := sealL_len _ _ _ _
  have fin : x < ks.length → InI ((x : Int) + ((1 : Nat) : Int)) := fun hx => by unfold InI; omega
  have k2 : r.length / 2 ≤ r.length := Nat.div_le_self _ _
  refine ⟨fun hd => ?_, fun _ => ⟨fun h => (by cases h), fun h => (by cases h)⟩⟩
  have hlt : x < ks.length := by have := of_decide_eq_true hd; omega
  refine ⟨⟨by omega, by omega⟩, hlt, ⟨by omega, by omega⟩, by decide, fun h3 => ?_, fun h3 => ⟨fun h4 => ?_, fun h4 => ?_⟩⟩
  · have h3 : x % 3 = 0 := of_decide_eq_true h3
    have hI : InI ((r.length / 2 : Nat) : Int) := by unfold InI; omega
    refine ⟨rfl, by decide, by simp; omega, ⟨by decide, hI⟩, ⟨by omega, by omega⟩, ⟨by decide, hI⟩, ⟨by omega, by omega⟩, rfl, by decide, by omega, fin hlt, x + 1, hlt, by omega, by omega, ?_⟩
    rw [hs]
    unfold stepA
    rw [if_pos h3]
    exact ⟨rfl, rfl, rfl, rfl, trivial⟩
  · have h3 : ¬ x % 3 = 0 := of_decide_eq_false h3
    have h4 : x % 3 = 1 := of_decide_eq_true h4
    refine ⟨by omega, by omega, fin hlt, x + 1, hlt, by omega, by omega, ?_⟩
    rw [hs]
    unfold stepA
    rw [if_neg h3, if_pos h4]
    exact ⟨rfl, rfl, rfl, rfl, trivial⟩
  · have h3 : ¬ x % 3 = 0 := of_decide_eq_false h3
    have h4 : ¬ x % 3 = 1 := of_decide_eq_false h4
    refine ⟨by omega, by omega, by omega, by omega, by omega, fun h => absurd h (by decide), fun _ => ⟨by omega, fun h => absurd h (by simp), fun _ => ⟨fin hlt, x + 1, hlt, by omega, by omega, ?_⟩⟩⟩
    rw [hs]
    unfold stepA
    rw [if_neg h3, if_neg h4]
    exact ⟨rfl, rfl, rfl, rfl, trivial⟩
end Go.Proofs.Ytbgnjipdecekoaa
