/- A step towards XchachaSealsSaid: no conditions. -/
import Derived.Test.YtdmnigjijoeppaaXclVc
import Derived.Test.YtdmnigjijoeppaaXcrCon
import Derived.Test.YtdmnigjijoeppaaAedLem
namespace Go.Proofs.Ytdmnigjijoeppaa
open Go Go.Eng Go.Cod Go.Cha Go.Pol Go.Aed Go.Xc
set_option maxRecDepth 100000 in
theorem conXBeg : Con Try.prog 12 Go.Pol.gTrue0 := con_of_vcs fun args ps res h hp => by
  unfold Go.Pol.gTrue0 at h
  split at h <;> cases h
  refine ⟨XLb, 300, rfl, eok (gs := [(7, gDerive)]) ⟨conDerive, trivial⟩, ?_⟩
  rw [vcXBeg]
  intro y0 h0 y1 h1 y2 h2 y3 h3 y4 h4 y5 h5 y6 h6 y7 h7 y8 h8 y9 h9 y10 h10 y11 h11 y12 h12 y13 h13 y14 h14 y15 h15 y16 h16 y17 h17 y18 h18 y19 h19 y20 h20 y21 h21 y22 h22 y23 h23 y24 h24 y25 h25 y26 h26 y27 h27 y28 h28 y29 h29 y30 h30 y31 h31
  have key : y31 = (List.range 32).map fun i => UInt8.ofNat i := by
    rw [h31, h30, h29, h28, h27, h26, h25, h24, h23, h22, h21, h20, h19, h18, h17, h16, h15, h14, h13, h12, h11, h10, h9, h8, h7, h6, h5, h4, h3, h2, h1, h0]
    decide +kernel
  clear h31 h30 h29 h28 h27 h26 h25 h24 h23 h22 h21 h20 h19 h18 h17 h16 h15 h14 h13 h12 h11 h10 h9 h8 h7 h6 h5 h4 h3 h2 h1 h0
  intro y hy
  refine ⟨?_, trivial⟩
  rw [hy, key]
  decide +kernel
theorem exll : EnvOk XLl := eok (gs := [(7, gDerive), (9, gXSeal), (10, gXOpen), (8, gDerive), (6, gXSeal), (11, gXOpen), (12, Go.Pol.gTrue0)]) ⟨conDerive, conXSeal, conXOpen, conDeriveR, conXSealR, conXOpenR, conXBeg, trivial⟩
set_option maxRecDepth 100000 in
theorem law_xreturns (k n p m : List UInt8) : vcFn XLl 300 4 [.agg [.vec (.n 32) (.u8 k)], .agg [.vec (.n 24) (.u8 n)], .s (.xs 1 (.s p.length) (.u8 p)), .s (.xs 1 (.s m.length) (.u8 m))] (.s (.b true)) := by
  rw [vcXReturns k n p m]
  simp only [forall_eq, io, ael_minNN, tmod_nn, Int.toNat_natCast, dropL_zero, Nat.zero_add, Nat.sub_zero, List.take_length, take_set, openE_seal, openL_seal]
  have lP : (List.take (min p.length 100) p).length = min p.length 100 := by rw [List.length_take]; omega
  have lM : (List.take (min m.length 30) m).length = min m.length 30 := by rw [List.length_take]; omega
  generalize List.take (min p.length 100) p = P at *
  generalize List.take (min m.length 30) m = M at *
  have lS := sealL_len (keyL k n) (nonceL n) P M
  generalize sealL (keyL k n) (nonceL n) P M = S at *
  have e1 : (P.length ≤ 1073741824) = True := eq_true (by omega)
  have e2 : (M.length ≤ 1073741824) = True := eq_true (by omega)
  have e3 : (S.length ≤ 1073741824) = True := eq_true (by omega)
  have e4 : ((S.length : Int) = ((min p.length 100 : Nat) : Int) + ((16 : Nat) : Int)) = True := eq_true (by omega)
  have e6 : InI (((min p.length 100 : Nat) : Int) + ((16 : Nat) : Int)) = True := eq_true (by unfold InI; omega)
  simp only [e1, e2, e3, e4, e6, Nat.le_refl, true_and, and_true, decide_true]
  simp
  omega
set_option maxRecDepth 100000 in
theorem law_xseals (k i n p m : List UInt8) (ix by1 : UInt8) : vcFn XLl 300 3 [.agg [.vec (.n 32) (.u8 k)], .agg [.vec (.n 16) (.u8 i)], .agg [.vec (.n 24) (.u8 n)], .s (.xs 1 (.s p.length) (.u8 p)), .s (.xs 1 (.s m.length) (.u8 m)), .s (.u8 ix), .s (.u8 by1)] (.s (.b true)) := by
  rw [vcXSeals k i n p m ix by1]
  simp only [forall_eq, io, ael_minNN, tmod_nn, Int.toNat_natCast, dropL_zero, Nat.zero_add, Nat.sub_zero, List.take_length, take_set]
  have lP : (List.take (min p.length 100) p).length = min p.length 100 := by rw [List.length_take]; omega
  have lM : (List.take (min m.length 30) m).length = min m.length 30 := by rw [List.length_take]; omega
  generalize List.take (min p.length 100) p = P at *
  generalize List.take (min m.length 30) m = M at *
  have lS := sealL_len (keyL k n) (nonceL n) P M
  generalize sealL (keyL k n) (nonceL n) P M = S at *
  have hq : ix.toNat % S.length < S.length := Nat.mod_lt _ (by omega)
  generalize ix.toNat % S.length = q at *
  have lT : (S.set q (S.getD q 0 ^^^ by1)).length = S.length := List.length_set ..
  generalize S.set q (S.getD q 0 ^^^ by1) = T at *
  have lQ : (List.take q S).length = q := by rw [List.length_take]; omega
  generalize List.take q S = Q at *
  have e1 : (P.length ≤ 1073741824) = True := eq_true (by omega)
  have e2 : (M.length ≤ 1073741824) = True := eq_true (by omega)
  have e3 : (S.length ≤ 1073741824) = True := eq_true (by omega)
  have e5 : ((S.length : Int) = 0) = False := eq_false (by omega)
  have e6 : (Q.length ≤ 1073741824) = True := eq_true (by omega)
  have e7 : (T.length ≤ 1073741824) = True := eq_true (by omega)
  simp only [ne_eq, not_true_eq_false, decide_true, decide_false, Bool.false_eq_true, false_imp_iff, true_and, and_true, forall_const, e1, e2, e3, e5, e6, e7, Nat.le_refl, not_false_eq_true, beq_self_eq_true, Bool.not_true, bne_self_eq_false]
  simp
  omega
end Go.Proofs.Ytdmnigjijoeppaa
