/- A step towards MessageEncodesSaid: no conditions. -/
import Derived.Test.YtmllcabapgdcdaaMsgLawVc
import Derived.Test.YtmllcabapgdcdaaMsgCon
namespace Go.Proofs.Ytmllcabapgdcdaa
open Go Go.Eng Go.Cod Go.Msg
set_option maxRecDepth 100000 in
theorem conMBeg : Con Try.prog 15 gTrue0 := con_of_vcs fun args ps res h hp => by
  unfold gTrue0 at h
  split at h <;> cases h
  refine ⟨EMb, 200, rfl, eok (gs := [(7, gTran)]) ⟨conTran, trivial⟩, ?_⟩
  rw [vcMBeg]
  have e1 : tranR (UInt32.ofNat 1) (UInt64.ofNat 2) (List.replicate 16 0) = [4, 0, 0, 0, 1, 0, 0, 0, 2, 0, 0, 0, 0, 0, 0, 0, 0, 0, 0, 0, 0, 0, 0, 0, 0, 0, 0, 0, 0, 0, 0, 0] := by decide +kernel
  have e2 : tranE (List.replicate 16 0) = 0 := by decide +kernel
  simp only [e1, e2, io]
  simp
set_option maxRecDepth 100000 in
theorem eML : EnvOk EML := eok (gs := [(7, gTran), (8, gTran), (9, gInit), (10, gInit), (11, gResp), (12, gResp), (13, gCook), (14, gCook), (15, gTrue0)]) ⟨conTran, conTranR, conInit, conInitR, conResp, conRespR, conCook, conCookR, conMBeg, trivial⟩
theorem tmod_nat (x m : Nat) : ((x : Int).tmod (m : Int)) = ((x % m : Nat) : Int) := rfl
set_option maxRecDepth 100000 in
theorem law_enc (s : UInt32) (e st t m1 m2 : List UInt8) (s' r' : UInt32) (e' em' m1' m2' : List UInt8) (cr : UInt32) (cn cc : List UInt8) (dr : UInt32) (dc : UInt64) (b : List UInt8) (n : UInt16) : vcFn EML 200 3 [.agg [.one (.u32 s), .vec (.n 32) (.u8 e), .vec (.n 48) (.u8 st), .vec (.n 28) (.u8 t), .vec (.n 16) (.u8 m1), .vec (.n 16) (.u8 m2)], .agg [.one (.u32 s'), .one (.u32 r'), .vec (.n 32) (.u8 e'), .vec (.n 16) (.u8 em'), .vec (.n 16) (.u8 m1'), .vec (.n 16) (.u8 m2')], .agg [.one (.u32 cr), .vec (.n 24) (.u8 cn), .vec (.n 32) (.u8 cc)], .agg [.one (.u32 dr), .one (.u64 dc), .one (.xs 1 (.s b.length) (.u8 b))], .s (.u16 n)] (.s (.b true)) := by
  rw [vcMEnc]
  simp only [io, tmod_nat, dropL_zero]
  have hp : (((2060 : Nat) : Int) + ((n.toNat % 40 : Nat) : Int)) = ((2060 + n.toNat % 40 : Nat) : Int) := by omega
  simp only [hp]
  have hq : 2060 + n.toNat % 40 ≤ 2100 := by omega
  have hm : (min (b.length : Int) ((60 : Nat) : Int)).toNat = min b.length 60 := by omega
  simp only [hm]
  have hl : (List.take (min b.length 60) b).length ≤ 60 := by rw [List.length_take]; omega
  have h0 : (0 : Int) ≤ min (b.length : Int) ((60 : Nat) : Int) ∧ min (b.length : Int) ((60 : Nat) : Int) ≤ (b.length : Int) := by omega
  generalize List.take (min b.length 60) b = q at *
  generalize 2060 + n.toNat % 40 = p at *
  have hi : InI (p : Int) := inI_of (by omega) (by omega)
  have h4 : q.length ≤ 4294967296 := by omega
  have h5 : p ≤ 4294967296 := by omega
  have h6 : (p : Int) ≤ 4294967296 := by omega
  have h7 : (0 : Int) ≤ (p : Int) := by omega
  have e1 : ((p : Int)).toNat = p := rfl
  simp only [e1, h0, hi, h6, h7, true_and, and_true, Nat.zero_add, Nat.le_refl, ne_eq, not_true_eq_false, decide_false, decide_true, Bool.false_eq_true, false_implies, true_implies, implies_true, List.take_length, List.length_take, List.length_replicate, Nat.min_self, h4, h5, Bool.true_eq_false]
  omega
end Go.Proofs.Ytmllcabapgdcdaa
