/- A step towards SessionStopsSaid: no conditions. -/
import Derived.Test.YtimjfjlaoekfkaaSstVc
import Derived.Test.YtimjfjlaoekfkaaJSesCon

namespace Go.Proofs.Ytimjfjlaoekfkaa
open Go Go.Eng Go.Cod Go.Cha Go.Pol Go.Aed Go.Msg Go.Win Go.Ses
theorem estl : EnvOk STl := eok (gs := [(11, gNew), (8, gSSeal), (12, gDec dTran), (13, gOpen), (14, gCounter), (10, Go.Pol.gTrue0)]) ⟨conNew, conSSeal, conDTran, conOpen, conCounter, conSBeg, trivial⟩
theorem fill1 : fillL [UInt8.ofNat 1] = 1 :: List.replicate 15 0 := by decide +kernel
def stop3 (fe limit : UInt64) : UInt64 := if UInt64.ofNat 18446744073709543423 < (if limit < fe then limit else fe) then UInt64.ofNat 18446744073709543423 else if limit < fe then limit else fe
theorem stop3_le (fe limit n : UInt64) : stop3 fe limit ≤ n ↔ ¬ (n < fe ∧ n < limit ∧ n < maxC) := by
  unfold stop3 maxC
  rw [show (18446744073709543423 : UInt64) = UInt64.ofNat 18446744073709543423 from rfl]
  generalize UInt64.ofNat 18446744073709543423 = m
  simp only [UInt64.lt_iff_toNat_lt, UInt64.le_iff_toNat_le]
  split <;> split <;> simp_all <;> omega
theorem seal_stop (s : Ses) (limit : UInt64) (h : stop3 s.fe limit ≤ s.nx) : sSealE s limit [UInt8.ofNat 1] = 12 ∧ sSealL s limit [UInt8.ofNat 1] = [] ∧ sSealS s limit [UInt8.ofNat 1] = zS := by
  have e : sSealE s limit [UInt8.ofNat 1] = 12 := by
    unfold sSealE
    rw [if_neg (by decide), if_neg ((stop3_le _ _ _).1 h)]
  refine ⟨e, ?_, ?_⟩
  · unfold sSealL; rw [e]; rfl
  · unfold sSealS; rw [e]; rfl
theorem seal_go (s : Ses) (limit : UInt64) (h : ¬ stop3 s.fe limit ≤ s.nx) : sSealE s limit [UInt8.ofNat 1] = 0 ∧ sSealL s limit [UInt8.ofNat 1] = tranL s.re s.nx (sealL s.sd (countL s.nx) (1 :: List.replicate 15 0) []) ∧
    sSealS s limit [UInt8.ofNat 1] = ⟨s.lo, s.re, s.sd, s.rv, s.nx + 1, s.fe, s.wu, s.wt, s.ww, s.bo, s.ini⟩ := by
  have e : sSealE s limit [UInt8.ofNat 1] = 0 := by
    unfold sSealE
    rw [if_neg (by decide), if_pos (Decidable.not_not.1 fun hn => h ((stop3_le _ _ _).2 hn))]
  refine ⟨e, ?_, ?_⟩
  · unfold sSealL sBody; rw [if_pos e, fill1]
  · unfold sSealS; rw [if_pos e]
theorem go_dec (r : UInt32) (c : UInt64) (k n : List UInt8) : kindL (tranL r c (sealL k n (1 :: List.replicate 15 0) [])) = 4 ∧ fld32 4 (tranL r c (sealL k n (1 :: List.replicate 15 0) [])) 4 = r ∧ fld64 4 (tranL r c (sealL k n (1 :: List.replicate 15 0) [])) 8 = c ∧
    fldR 4 (tranL r c (sealL k n (1 :: List.replicate 15 0) [])) 16 = sealL k n (1 :: List.replicate 15 0) [] ∧ (sealL k n (1 :: List.replicate 15 0) []).length = 32 ∧ (tranL r c (sealL k n (1 :: List.replicate 15 0) [])).length = 48 ∧ decE 4 (tranL r c (sealL k n (1 :: List.replicate 15 0) [])) = 0 := by
  have l : (sealL k n (1 :: List.replicate 15 0) []).length = 32 := by rw [sealL_len]; rfl
  obtain ⟨h1, h2, h3, h4, h5, h6, h7⟩ := tran_ok (r := r) (ct := c) (b := sealL k n (1 :: List.replicate 15 0) []) (by omega) (by omega)
  refine ⟨h4, h5, h6, h7, l, by omega, ?_⟩
  unfold decE; rw [if_pos h4]
theorem z0 : decide ((0 : Int) ≠ ((0 : Nat) : Int)) = false := by decide
theorem z16 : decide ((((1 : UInt8) :: List.replicate 15 0).length : Int) ≠ ((16 : Nat) : Int)) = false := by decide
theorem zg : (((1 : UInt8) :: List.replicate 15 0).getD 0 0 != UInt8.ofNat 1) = false := by decide
theorem zs (x : UInt64) : (x + 1 != x + UInt64.ofNat 1) = false := bne_self_eq_false (x + 1)
set_option maxRecDepth 100000 in
set_option maxHeartbeats 4000000 in
theorem law_sstops (k : List UInt8) (nx fe limit : UInt64) (near tries : UInt8) : vcFn STl 300 4 [.agg [.vec (.n 32) (.u8 k)], .s (.u64 nx), .s (.u64 fe), .s (.u64 limit), .s (.u8 near), .s (.u8 tries)] (.s (.b true)) := by
  rw [vcSStops]
  simp only [forall_eq, io, tmod_nn, Int.toNat_natCast, dropL_zero, Nat.zero_add, Nat.sub_zero, List.take_length, newS, List.replicate_zero]
  have key : ∀ n : UInt64, (decide (stop3 fe limit ≤ n) = true → stop3 fe limit ≤ n) ∧ (decide (stop3 fe limit ≤ n) = false → ¬ stop3 fe limit ≤ n) := fun n => ⟨of_decide_eq_true, of_decide_eq_false⟩
  refine ⟨by decide, fun _ => ⟨by decide, by decide, ⟨(0, fe - (near / UInt8.ofNat 2 % UInt8.ofNat 8).toUInt64), by simp⟩, fun x hx => ⟨by decide, fun hi => ?_, fun _ => ?_⟩⟩, fun _ => ⟨⟨(0, nx), by simp⟩, fun x hx => ⟨by decide, fun hi => ?_, fun _ => ?_⟩⟩⟩
  all_goals first | exact ⟨rfl, trivial⟩ | exact ⟨trivial, trivial⟩ | exact trivial | skip
  all_goals
    have hi := of_decide_eq_true hi
    refine ⟨trivial, by decide, fun hs => ?_, fun hs => ?_⟩
  case refine_1.refine_1 | refine_3.refine_1 =>
    obtain ⟨e1, e2, e3⟩ := seal_stop ⟨UInt32.ofNat 1, UInt32.ofNat 2, k, k, x.snd, fe, false, 0, List.replicate 4 0, ((0 : Nat) : Int), true⟩ limit (of_decide_eq_true hs)
    simp only [e1, e2, e3, zS]
    refine ⟨fun h => absurd (of_decide_eq_true h) (by decide), fun _ => ⟨fun h => absurd (of_decide_eq_true h) (by decide), fun _ => ⟨fun h => absurd h (by decide), fun _ => ⟨by unfold InI; omega, ⟨(x.fst + 1, x.snd), ?_⟩⟩⟩⟩⟩
    and_intros <;> first | trivial | rfl | omega
  all_goals
    obtain ⟨e1, e2, e3⟩ := seal_go ⟨UInt32.ofNat 1, UInt32.ofNat 2, k, k, x.snd, fe, false, 0, List.replicate 4 0, ((0 : Nat) : Int), true⟩ limit (of_decide_eq_false hs)
    simp only [e1, e2, e3]
    obtain ⟨d1, d2, d3, d4, d5, d6, d7⟩ := go_dec (UInt32.ofNat 2) x.snd k (countL x.snd)
    simp only [d1, d2, d3, d4, d5, d6, d7, openE_seal, openL_seal]
    simp only [z0, z16, zg, zs, bne_self_eq_false, Bool.false_eq_true, false_imp_iff, true_and, forall_const]
    have i1 : InI ((x.fst : Int) + ((1 : Nat) : Int)) := by unfold InI; omega
    have i2 : x.fst + 1 ≤ tries.toNat % 12 := by omega
    have i3 : tries.toNat % 12 - (x.fst + 1) < tries.toNat % 12 - x.fst := by omega
    have i4 : (x.fst : Int) + ((1 : Nat) : Int) = ((x.fst + 1 : Nat) : Int) := by omega
    exact ⟨by decide, by decide, by decide, by decide, by decide, by decide, i1, (x.fst + 1, x.snd + 1), i2, i3, i4, Eq.refl (x.snd + 1), trivial⟩
end Go.Proofs.Ytimjfjlaoekfkaa
