/- A step towards SessionOpensSaid: no conditions. -/
import Derived.Test.YtimjfjlaoekfkaaSopVc
import Derived.Test.YtimjfjlaoekfkaaJSesCon

namespace Go.Proofs.Ytimjfjlaoekfkaa
open Go Go.Eng Go.Cod Go.Cha Go.Pol Go.Aed Go.Msg Go.Win Go.Ses
theorem esol : EnvOk SOl := eok (gs := [(17, gSOpen), (18, gSOpen), (16, gSealed), (15, gAcc), (10, Go.Pol.gTrue0)]) ⟨conSOpen, conSOpenR, conSealed, conWAccR, conSBeg, trivial⟩
theorem fillL_le (q : List UInt8) (h : q.length ≤ 60) : (fillL q).length ≤ 100 := by
  rw [fillL_len]
  have : zp q.length ≤ 16 := by unfold zp; omega
  omega
theorem sealed_len (s : Ses) (c : UInt64) (q : List UInt8) (h : q.length ≤ 60) : 32 ≤ (sealedL s c q).length ∧ (sealedL s c q).length ≤ 200 := by
  have hf := fillL_le q h
  have l4 := littleL_len s.lo.toUInt64 4
  have l8 := littleL_len c 8
  unfold sealedL tranL
  simp only [List.length_append, l4, l8, sealL_len, List.length_cons, List.length_nil]
  omega
theorem ex0 : ∃ x : Nat, x ≤ 3 ∧ ((0 : Nat) : Int) = (x : Int) := ⟨0, by omega, rfl⟩
theorem exN (x : Nat) (h : (x : Int) < ((3 : Nat) : Int)) : ∃ y : Nat, y ≤ 3 ∧ 3 - y < 3 - x ∧ (x : Int) + ((1 : Nat) : Int) = (y : Int) := ⟨x + 1, by omega, by omega, by omega⟩
theorem inN (x : Nat) (h : (x : Int) < ((3 : Nat) : Int)) : InI ((x : Int) + ((1 : Nat) : Int)) := by unfold InI; omega
theorem round_ok (b raw : List UInt8) (at_ by_ : UInt8) (x ql : Nat) (hb : 32 ≤ b.length ∧ b.length ≤ 200) (hd : (x : Int) < ((3 : Nat) : Int)) (hq : ql ≤ 60) :
    (0 ≤ (x : Int) ∧ (x : Int) < ((3 : Nat) : Int)) ∧ x < 3 ∧ ql ≤ 2000 ∧ b.length ≤ 4294967296 ∧ ¬(b.length : Int) = 0 ∧ (0 ≤ ((at_.toNat % b.length : Nat) : Int) ∧ ((at_.toNat % b.length : Nat) : Int) < (b.length : Int)) ∧ at_.toNat % b.length < b.length ∧
      (0 ≤ ((at_.toNat % b.length : Nat) : Int) ∧ ((at_.toNat % b.length : Nat) : Int) < (b.length : Int)) ∧ at_.toNat % b.length < b.length ∧ ¬UInt8.ofNat 2 = 0 ∧ (∃ x : Nat, x ≤ 3 ∧ ((0 : Nat) : Int) = (x : Int)) ∧
      ∀ x_1 : Nat, x_1 ≤ 3 → ((x_1 : Int) < ((3 : Nat) : Int) → (0 ≤ (x_1 : Int) ∧ (x_1 : Int) < ((3 : Nat) : Int)) ∧ x_1 < 3 ∧ (0 ≤ ((min raw.length 60 : Nat) : Int) ∧ ((min raw.length 60 : Nat) : Int) ≤ (raw.length : Int)) ∧ b.length ≤ 1073741824 ∧ b.length ≤ 1073741824 ∧
          (List.take b.length (b.set (at_.toNat % b.length) (b.getD (at_.toNat % b.length) 0 ^^^ by_))).length ≤ 1073741824 ∧ (List.take b.length (b.set (at_.toNat % b.length) (b.getD (at_.toNat % b.length) 0 ^^^ by_))).length ≤ 1073741824 ∧
          (List.take (min raw.length 60) raw).length ≤ 1073741824 ∧ (List.take (min raw.length 60) raw).length ≤ 1073741824 ∧ InI ((x_1 : Int) + ((1 : Nat) : Int)) ∧ ∃ y : Nat, y ≤ 3 ∧ 3 - y < 3 - x_1 ∧ (x_1 : Int) + ((1 : Nat) : Int) = (y : Int)) ∧
        (¬(x_1 : Int) < ((3 : Nat) : Int) → InI ((x : Int) + ((1 : Nat) : Int)) ∧ ∃ y : Nat, y ≤ 3 ∧ 3 - y < 3 - x ∧ (x : Int) + ((1 : Nat) : Int) = (y : Int)) := by
  have hm : at_.toNat % b.length < b.length := Nat.mod_lt _ (by omega)
  generalize at_.toNat % b.length = m at *
  have e1 : (List.take b.length (b.set m (b.getD m 0 ^^^ by_))).length ≤ 1073741824 := by rw [List.length_take]; omega
  have e2 : (List.take (min raw.length 60) raw).length ≤ 1073741824 := by rw [List.length_take]; omega
  exact ⟨by omega, by omega, by omega, by omega, by omega, by omega, hm, by omega, hm, by decide, ex0, fun y hy => ⟨fun h => ⟨by omega, by omega, by omega, by omega, by omega, e1, e1, e2, e2, inN y h, exN y h⟩, fun _ => ⟨inN x hd, exN x hd⟩⟩⟩
set_option maxRecDepth 100000 in
set_option maxHeartbeats 8000000 in
theorem law_sopens (lo re : UInt32) (sd rv : List UInt8) (nx fe : UInt64) (wu : Bool) (wt : UInt64) (ww : List UInt64) (bo : Int) (ini : Bool) (limit counter : UInt64) (p raw : List UInt8) (at_ by_ near : UInt8) : vcFn SOl 300 5 [.agg [.one (.u32 lo), .one (.u32 re), .vec (.n 32) (.u8 sd), .vec (.n 32) (.u8 rv), .one (.u64 nx), .one (.u64 fe), .one (.b wu), .one (.u64 wt), .vec (.n 4) (.u64 ww), .one (.i64 bo), .one (.b ini)], .s (.u64 limit), .s (.u64 counter), .s (.xs 1 (.s p.length) (.u8 p)), .s (.xs 1 (.s raw.length) (.u8 raw)), .s (.u8 at_), .s (.u8 by_), .s (.u8 near)] (.s (.b true)) := by
  rw [vcSOpens]
  simp only [forall_eq, io, ael_minNN, tmod_nn, Int.toNat_natCast, dropL_zero, Nat.zero_add, Nat.sub_zero, List.take_length, beq_self_eq_true, Bool.and_self, Bool.not_true, bne_self_eq_false, Bool.false_eq_true, false_imp_iff, true_and, and_true, ne_eq, not_true_eq_false, decide_false, forall_const, Nat.le_refl]
  simp only [decide_eq_true_eq, decide_eq_false_iff_not]
  have hq : (List.take (min p.length 60) p).length ≤ 60 := by rw [List.length_take]; omega
  generalize List.take (min p.length 60) p = q at *
  refine ⟨by omega, ex0, fun x hx => ⟨fun hd => ?_, fun hd => ⟨ex0, fun x hx => ⟨fun hd => ?_, fun hd => ?_⟩⟩⟩⟩
  · have hb := sealed_len ⟨lo, re, sd, rv, nx, fe, wu, wt, ww, bo, ini⟩ ([counter, wt - near.toUInt64, wt + near.toUInt64].getD x 0) q hq
    generalize sealedL ⟨lo, re, sd, rv, nx, fe, wu, wt, ww, bo, ini⟩ ([counter, wt - near.toUInt64, wt + near.toUInt64].getD x 0) q = b at *
    exact round_ok b raw at_ by_ x q.length hb hd hq
  · generalize acc ⟨false, 0, List.replicate 4 0⟩ counter = a at *
    have hb := sealed_len ⟨lo, re, sd, rv, nx, fe, a.u, a.t, a.ws, bo, ini⟩ ([counter, a.t - near.toUInt64, a.t + near.toUInt64].getD x 0) q hq
    generalize sealedL ⟨lo, re, sd, rv, nx, fe, a.u, a.t, a.ws, bo, ini⟩ ([counter, a.t - near.toUInt64, a.t + near.toUInt64].getD x 0) q = b at *
    exact round_ok b raw at_ by_ x q.length hb hd hq
  · exact trivial
end Go.Proofs.Ytimjfjlaoekfkaa
