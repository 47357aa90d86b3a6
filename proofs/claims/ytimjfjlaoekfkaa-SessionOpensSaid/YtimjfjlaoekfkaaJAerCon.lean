/- Steps towards SessionOpensSaid. -/
import Derived.Test.YtimjfjlaoekfkaaJAerVc
import Derived.Test.YtimjfjlaoekfkaaJPolCon
import Derived.Test.YtimjfjlaoekfkaaJPrfVc
import Derived.Test.YtimjfjlaoekfkaaJMsgSpec
import Derived.Test.YtimjfjlaoekfkaaBase
import Derived.Test.YtimjfjlaoekfkaaJChaVc
/- A step towards SessionOpensSaid: no conditions. -/
namespace Go.Proofs.Ytimjfjlaoekfkaa
open Go Go.Eng Go.Cod Go.Cha Go.Pol Go.Aed
theorem fillL_len (b : List UInt8) : (fillL b).length = b.length + zp b.length := by unfold fillL; rw [List.length_append, zerosL_len]
theorem zp_mod (n x : Nat) (hx : x ≤ zp n) : ((n + x) % 16 = 0 ↔ x = zp n) := by unfold zp at *; omega
set_option maxRecDepth 100000 in
theorem conFilledR : Con Try.prog 58 gFilledR := con_of_vcs fun args ps res h hp => by
  unfold gFilledR at h
  split at h <;> cases h
  rename_i m b
  obtain ⟨rfl, hp1⟩ := all_cons.1 hp
  have hb := (all_cons.1 hp1).1
  refine ⟨ARf, 100, rfl, eok (gs := []) trivial, ?_⟩
  rw [vcFilledR b]
  have hz := zp_le b.length
  refine ⟨by omega, fun y hy => ⟨⟨0, by omega, rfl, rfl, by omega, by omega, by rw [hy]; simp, trivial⟩, fun x hx z hz2 => ⟨by decide, fun hd => ?_, fun hd => ?_⟩⟩⟩
  · have hd := of_decide_eq_true hd
    have e : z.tmod (Int.ofNat 16) = (((b.length + x) % 16 : Nat) : Int) := by rw [hz2]; rfl
    rw [e] at hd
    have hne : x ≠ zp b.length := fun h => hd (by rw [(zp_mod b.length x hx).2 h]; rfl)
    refine ⟨rfl, by omega, fun y hy => ⟨x + 1, by omega, by omega, rfl, rfl, by omega, by omega, ?_, trivial⟩⟩
    rw [hy, List.replicate_succ', List.append_assoc]
    rfl
  · have hd := of_decide_eq_false hd
    have e : z.tmod (Int.ofNat 16) = (((b.length + x) % 16 : Nat) : Int) := by rw [hz2]; rfl
    rw [e] at hd
    have hx2 : x = zp b.length := (zp_mod b.length x hx).1 (Int.ofNat.inj (Decidable.not_not.1 hd))
    subst hx2
    refine ⟨by omega, by rw [fillL_len], ?_, trivial⟩
    rw [dropL_zero, dropL_zero]
    exact List.take_of_length_le (by rw [List.length_append, List.length_replicate]; exact Nat.le_refl _)
theorem flat4 (a b c d : List UInt8) : [a, b, c, d].flatten = a ++ (b ++ (c ++ d)) := by simp
theorem mac_eq (c m : List UInt8) : fillL m ++ (fillL c ++ (littleL (to64 m.length) 8 ++ littleL (to64 c.length) 8)) = macL c m := by
  unfold fillL macL
  simp only [List.append_assoc]
set_option maxRecDepth 100000 in
theorem conTagR : Con Try.prog 46 gTag := con_of_vcs fun args ps res h hp => by
  unfold gTag at h
  split at h <;> cases h
  rename_i k n u c v m
  obtain ⟨rfl, hp1⟩ := all_cons.1 hp
  obtain ⟨rfl, hp2⟩ := all_cons.1 hp1
  obtain ⟨hc, hp3⟩ := all_cons.1 hp2
  have hm := (all_cons.1 hp3).1
  refine ⟨ARt, 200, rfl, eok (gs := [(56, gBlock), (58, gFilledR), (47, gLittleN), (48, gJoin), (57, gPoly)]) ⟨conBlockR, conFilledR, conLittleRN4, conJoinR, conPolyR, trivial⟩, ?_⟩
  rw [vcTagR k n c m]
  have hl := macL_len c m
  simp only [forall_eq, true_and, and_true, dropL_zero, Nat.zero_add, little8, flat4, mac_eq, List.take_length, Nat.le_refl]
  refine ⟨by decide, by omega, by omega, rfl, by decide, by omega, by omega, rfl⟩
set_option maxRecDepth 100000 in
theorem conSealR : Con Try.prog 24 gSeal := con_of_vcs fun args ps res h hp => by
  unfold gSeal at h
  split at h <;> cases h
  rename_i k n u p v m
  obtain ⟨rfl, hp1⟩ := all_cons.1 hp
  obtain ⟨rfl, hp2⟩ := all_cons.1 hp1
  obtain ⟨hc, hp3⟩ := all_cons.1 hp2
  have hm := (all_cons.1 hp3).1
  refine ⟨ARs, 200, rfl, eok (gs := [(45, gXor), (46, gTag)]) ⟨conXorR, conTagR, trivial⟩, ?_⟩
  rw [vcSealR k n p m]
  have t : List.take p.length (xorL k n (UInt32.ofNat 1) p) = xorL k n 1 p := List.take_of_length_le (by rw [xorL_len]; exact Nat.le_refl _)
  have t2 : List.take (p.length + 16) (sealL k n p m) = sealL k n p m := List.take_of_length_le (by rw [sealL_len]; exact Nat.le_refl _)
  have e : xorL k n (UInt32.ofNat 1) p ++ tagL k n (xorL k n 1 p) m = sealL k n p m := rfl
  simp only [forall_eq, true_and, and_true, dropL_zero, Nat.zero_add, t, e, t2, Nat.le_refl, xorL_len, sealL_len]
  refine ⟨by omega, hc, hm, by omega⟩
set_option maxRecDepth 100000 in
theorem conOpenR : Con Try.prog 41 gOpen := con_of_vcs fun args ps res h hp => by
  unfold gOpen at h
  split at h <;> cases h
  rename_i k n u s v m
  obtain ⟨rfl, hp1⟩ := all_cons.1 hp
  obtain ⟨rfl, hp2⟩ := all_cons.1 hp1
  obtain ⟨hc, hp3⟩ := all_cons.1 hp2
  have hm := (all_cons.1 hp3).1
  refine ⟨ARs, 200, rfl, eok (gs := [(45, gXor), (46, gTag)]) ⟨conXorR, conTagR, trivial⟩, ?_⟩
  rw [vcOpenR k n s m]
  intro y hy
  refine ⟨fun hd => ?_, fun hd y0 hy0 => ⟨?_, ?_⟩⟩
  · have hd := of_decide_eq_true hd
    have h16 : s.length < 16 := by have : y < 16 := hd; omega
    have e : openE k n s m = 2 := by unfold openE; rw [if_pos h16]
    have e2 : openL k n s m = [] := by unfold openL; rw [e]; rfl
    rw [e, e2]
    exact ⟨rfl, rfl, rfl, trivial⟩
  · subst hy0
    show InI ((s.length : Int) - 16)
    unfold InI; omega
  · have hd := of_decide_eq_false hd
    have h16 : ¬ s.length < 16 := by have : ¬ y < 16 := hd; omega
    have hy1' : y0 - Int.ofNat 16 = ((s.length - 16 : Nat) : Int) := by
      rw [hy0]
      show (s.length : Int) - 16 = _
      omega
    rw [hy1', Int.toNat_natCast, Nat.sub_zero]
    have l1 : (s.take (s.length - 16)).length = s.length - 16 := by rw [List.length_take]; omega
    have l2 : (s.drop (s.length - 16)).length ≤ s.length := by rw [List.length_drop]; omega
    refine ⟨by omega, rfl, rfl, by omega, hm, fun z hz z2 hz2 y3 hy3 => ⟨?_, fun hd => ?_, fun hd => ?_⟩⟩
    · have : y3 = ((s.length - 16 : Nat) : Int) := hy3
      omega
    · have e3 : y3 = ((s.length - 16 : Nat) : Int) := hy3
      rw [hz2, hz, e3, Int.toNat_natCast] at hd
      have hne : tagL k n (s.take (s.length - 16)) m ≠ s.drop (s.length - 16) := of_decide_eq_true hd
      have e : openE k n s m = 6 := by unfold openE; rw [if_neg h16, if_neg hne]
      have e2 : openL k n s m = [] := by unfold openL; rw [e]; rfl
      rw [e, e2]
      exact ⟨rfl, rfl, rfl, trivial⟩
    · have e3 : y3 = ((s.length - 16 : Nat) : Int) := hy3
      rw [hz2, hz, e3, Int.toNat_natCast] at hd
      have hne : tagL k n (s.take (s.length - 16)) m = s.drop (s.length - 16) := Decidable.not_not.1 (of_decide_eq_false hd)
      have e : openE k n s m = 0 := by unfold openE; rw [if_neg h16, if_pos hne]
      have e2 : openL k n s m = xorL k n 1 (s.take (s.length - 16)) := by unfold openL; rw [if_pos e]
      rw [e, e2]
      refine ⟨rfl, by omega, fun q hq => ⟨by omega, by rw [xorL_len], ?_, rfl, trivial⟩⟩
      rw [hq, dropL_zero, dropL_zero]
      exact List.take_of_length_le (by rw [xorL_len]; exact Nat.le_refl _)
set_option maxRecDepth 100000 in
theorem conCounterR : Con Try.prog 25 gCounter := con_of_vcs fun args ps res h hp => by
  unfold gCounter at h
  split at h <;> cases h
  rename_i c
  refine ⟨ARc, 200, rfl, eok (gs := [(47, gLittleN)]) ⟨conLittleRN4, trivial⟩, ?_⟩
  rw [vcCounterR c]
  simp only [forall_eq, true_and, and_true]
  exact ⟨Nat.le_refl _, rfl⟩
end Go.Proofs.Ytimjfjlaoekfkaa

/- A step towards SessionOpensSaid: no conditions. -/
namespace Go.Proofs.Ytimjfjlaoekfkaa
open Go Go.Eng Go.Cod Go.Cha Go.Pol Go.Aed
theorem ael_minNN (a b : Nat) : min (a : Int) (b : Int) = ((min a b : Nat) : Int) := by omega
theorem ael_xx (k n : List UInt8) (c : UInt32) (d : List UInt8) : xorL k n c (xorL k n c d) = d := by
  apply List.ext_getElem?
  intro i
  rw [xorL_get, xorL_get]
  cases d[i]? with
  | none => rfl
  | some x =>
    show some (x ^^^ _ ^^^ _) = some x
    rw [UInt8.xor_assoc, UInt8.xor_self, UInt8.xor_zero]
theorem openE_seal (k n p m : List UInt8) : openE k n (sealL k n p m) m = 0 := by
  have l : (sealL k n p m).length - 16 = (xorL k n 1 p).length := by rw [sealL_len, xorL_len]; omega
  unfold openE
  rw [if_neg (by rw [sealL_len]; omega), if_pos]
  rw [l]
  unfold sealL
  rw [List.take_append_of_le_length (Nat.le_refl _), List.take_length, List.drop_append_of_le_length (Nat.le_refl _), List.drop_length, List.nil_append]
theorem openL_seal (k n p m : List UInt8) : openL k n (sealL k n p m) m = p := by
  have l : (sealL k n p m).length - 16 = (xorL k n 1 p).length := by rw [sealL_len, xorL_len]; omega
  unfold openL
  rw [if_pos (openE_seal ..), l]
  unfold sealL
  rw [List.take_append_of_le_length (Nat.le_refl _), List.take_length, ael_xx]
theorem open_cases (k n s m : List UInt8) (h : 16 ≤ s.length) : (openE k n s m = 6 ∧ openL k n s m = []) ∨ (openE k n s m = 0 ∧ sealL k n (openL k n s m) m = s) := by
  by_cases ht : tagL k n (s.take (s.length - 16)) m = s.drop (s.length - 16)
  · have e : openE k n s m = 0 := by unfold openE; rw [if_neg (by omega), if_pos ht]
    refine .inr ⟨e, ?_⟩
    unfold openL
    rw [if_pos e]
    unfold sealL
    rw [ael_xx, ht, List.take_append_drop]
  · have e : openE k n s m = 6 := by unfold openE; rw [if_neg (by omega), if_neg ht]
    refine .inl ⟨e, ?_⟩
    unfold openL
    rw [e]; rfl
theorem openL_le (k n s m : List UInt8) : (openL k n s m).length ≤ s.length := by
  unfold openL
  split
  · rw [xorL_len, List.length_take]; omega
  · exact Nat.zero_le _
theorem set_same {s : List UInt8} {i : Nat} : s.set i (s.getD i 0 ^^^ UInt8.ofNat 0) = s := by
  show s.set i (s.getD i 0 ^^^ 0) = s
  rw [UInt8.xor_zero]
  by_cases h : i < s.length
  · rw [List.getD_eq_getElem?_getD, List.getElem?_eq_getElem h, Option.getD_some, List.set_getElem_self]
  · rw [List.set_eq_of_length_le (by omega)]
theorem take_set (l : List UInt8) (i : Nat) (x : UInt8) : (l.set i x).take l.length = l.set i x := List.take_of_length_le (by rw [List.length_set]; exact Nat.le_refl _)
theorem tmod_nn (a b : Nat) : (a : Int).tmod (b : Int) = ((a % b : Nat) : Int) := rfl
end Go.Proofs.Ytimjfjlaoekfkaa

/- A step towards SessionOpensSaid: no conditions. -/
namespace Go.Proofs.Ytimjfjlaoekfkaa
open Go Go.Eng Go.Cod Go.Msg
noncomputable def EM0 : Env := mkE Try.prog [(47, gLittleN)] [] 2
noncomputable def EM : Env := mkE Try.prog [(36, gLittleN)] [] 10
noncomputable def EMr : Env := mkE Try.prog [(47, gLittleN), (49, gU32), (48, gJoin)] [] 10
set_option maxRecDepth 100000 in
theorem vcU32 (n : UInt32) : (vcFn EM0 100 49 [.s (.u32 n)] (.s (.xs 1 (.n 4) (.u8 [(shr64 n.toUInt64 0).toUInt8, (shr64 n.toUInt64 8).toUInt8, (shr64 n.toUInt64 16).toUInt8, (shr64 n.toUInt64 24).toUInt8])))) =
  ([(shr64 n.toUInt64 (0 : Nat)).toUInt8, (shr64 n.toUInt64 (8 : Nat)).toUInt8, (shr64 n.toUInt64 (16 : Nat)).toUInt8, (shr64 n.toUInt64 (24 : Nat)).toUInt8] = [(shr64 n.toUInt64 (0 : Nat)).toUInt8, (shr64 n.toUInt64 (8 : Nat)).toUInt8, (shr64 n.toUInt64 (16 : Nat)).toUInt8, (shr64 n.toUInt64 (24 : Nat)).toUInt8] ∧ True) := by kernel_rfl
set_option maxRecDepth 100000 in
theorem vcTran (r : UInt32) (c : UInt64) (b : List UInt8) : (vcFn EM 100 21 [.agg [.one (.u32 r), .one (.u64 c), .one (.xs 1 (.s b.length) (.u8 b))]] (.tup [.s (.xs 1 (.s (tranR r c b).length) (.u8 (tranR r c b))), .s (.i64 (tranE b))])) =
  ((decide ((↑b.length : Int) < Int.ofNat (16 : Nat)) = true → (tranR r c b).length = (0 : Nat) ∧ (tranR r c b).length = (0 : Nat) ∧ Int.ofNat (2 : Nat) = tranE b ∧ True) ∧ (decide ((↑b.length : Int) < Int.ofNat (16 : Nat)) = false → (decide (Int.ofNat (2084 : Nat) < (↑b.length : Int)) = true → (tranR r c b).length = (0 : Nat) ∧ (tranR r c b).length = (0 : Nat) ∧ Int.ofNat (3 : Nat) = tranE b ∧ True) ∧ (decide (Int.ofNat (2084 : Nat) < (↑b.length : Int)) = false → (8 : Nat) ≤ (4294967296 : Nat) ∧ (16 : Nat) ≤ (4294967296 : Nat) ∧ (16 : Nat) + b.length ≤ (4294967296 : Nat) ∧ (0 : Nat) + ((16 : Nat) + b.length) ≤ (16 : Nat) + b.length ∧ (16 : Nat) + b.length = (tranR r c b).length ∧ List.take ((16 : Nat) + b.length) (dropL (dropL ([to8 (Int.ofNat (4 : Nat)), UInt8.ofNat (nat_lit 0), UInt8.ofNat (nat_lit 0), UInt8.ofNat (nat_lit 0), (shr64 r.toUInt64 (0 : Nat)).toUInt8, (shr64 r.toUInt64 (8 : Nat)).toUInt8, (shr64 r.toUInt64 (16 : Nat)).toUInt8, (shr64 r.toUInt64 (24 : Nat)).toUInt8, (shr64 c (0 : Nat)).toUInt8, (shr64 c (8 : Nat)).toUInt8, (shr64 c (16 : Nat)).toUInt8, (shr64 c (24 : Nat)).toUInt8, (shr64 c (32 : Nat)).toUInt8, (shr64 c (40 : Nat)).toUInt8, (shr64 c (48 : Nat)).toUInt8, (shr64 c (56 : Nat)).toUInt8] ++ b) (0 : Nat)) (0 : Nat)) = tranR r c b ∧ Int.ofNat (0 : Nat) = tranE b ∧ True))) := by kernel_rfl
set_option maxRecDepth 100000 in
theorem vcTranR (r : UInt32) (c : UInt64) (b : List UInt8) : (vcFn EMr 100 27 [.agg [.one (.u32 r), .one (.u64 c), .one (.xs 1 (.s b.length) (.u8 b))]] (.tup [.s (.xs 1 (.s (tranR r c b).length) (.u8 (tranR r c b))), .s (.i64 (tranE b))])) =
  ((decide ((↑b.length : Int) < Int.ofNat (16 : Nat)) = true → (tranR r c b).length = (0 : Nat) ∧ (tranR r c b).length = (0 : Nat) ∧ Int.ofNat (2 : Nat) = tranE b ∧ True) ∧ (decide ((↑b.length : Int) < Int.ofNat (16 : Nat)) = false → (decide (Int.ofNat (2084 : Nat) < (↑b.length : Int)) = true → (tranR r c b).length = (0 : Nat) ∧ (tranR r c b).length = (0 : Nat) ∧ Int.ofNat (3 : Nat) = tranE b ∧ True) ∧ (decide (Int.ofNat (2084 : Nat) < (↑b.length : Int)) = false → [[UInt8.ofNat (nat_lit 4), UInt8.ofNat (nat_lit 0), UInt8.ofNat (nat_lit 0), UInt8.ofNat (nat_lit 0)], [(shr64 r.toUInt64 (0 : Nat)).toUInt8, (shr64 r.toUInt64 (8 : Nat)).toUInt8, (shr64 r.toUInt64 (16 : Nat)).toUInt8, (shr64 r.toUInt64 (24 : Nat)).toUInt8], [(shr64 c (0 : Nat)).toUInt8, (shr64 c (8 : Nat)).toUInt8, (shr64 c (16 : Nat)).toUInt8, (shr64 c (24 : Nat)).toUInt8, (shr64 c (32 : Nat)).toUInt8, (shr64 c (40 : Nat)).toUInt8, (shr64 c (48 : Nat)).toUInt8, (shr64 c (56 : Nat)).toUInt8], b].length = (4 : Nat) ∧ (4 : Nat) < (4611686018427387904 : Nat) ∧ [[UInt8.ofNat (nat_lit 4), UInt8.ofNat (nat_lit 0), UInt8.ofNat (nat_lit 0), UInt8.ofNat (nat_lit 0)], [(shr64 r.toUInt64 (0 : Nat)).toUInt8, (shr64 r.toUInt64 (8 : Nat)).toUInt8, (shr64 r.toUInt64 (16 : Nat)).toUInt8, (shr64 r.toUInt64 (24 : Nat)).toUInt8], [(shr64 c (0 : Nat)).toUInt8, (shr64 c (8 : Nat)).toUInt8, (shr64 c (16 : Nat)).toUInt8, (shr64 c (24 : Nat)).toUInt8, (shr64 c (32 : Nat)).toUInt8, (shr64 c (40 : Nat)).toUInt8, (shr64 c (48 : Nat)).toUInt8, (shr64 c (56 : Nat)).toUInt8], b].flatten.length ≤ (4294967296 : Nat) ∧ (0 : Nat) + [[UInt8.ofNat (nat_lit 4), UInt8.ofNat (nat_lit 0), UInt8.ofNat (nat_lit 0), UInt8.ofNat (nat_lit 0)], [(shr64 r.toUInt64 (0 : Nat)).toUInt8, (shr64 r.toUInt64 (8 : Nat)).toUInt8, (shr64 r.toUInt64 (16 : Nat)).toUInt8, (shr64 r.toUInt64 (24 : Nat)).toUInt8], [(shr64 c (0 : Nat)).toUInt8, (shr64 c (8 : Nat)).toUInt8, (shr64 c (16 : Nat)).toUInt8, (shr64 c (24 : Nat)).toUInt8, (shr64 c (32 : Nat)).toUInt8, (shr64 c (40 : Nat)).toUInt8, (shr64 c (48 : Nat)).toUInt8, (shr64 c (56 : Nat)).toUInt8], b].flatten.length ≤ [[UInt8.ofNat (nat_lit 4), UInt8.ofNat (nat_lit 0), UInt8.ofNat (nat_lit 0), UInt8.ofNat (nat_lit 0)], [(shr64 r.toUInt64 (0 : Nat)).toUInt8, (shr64 r.toUInt64 (8 : Nat)).toUInt8, (shr64 r.toUInt64 (16 : Nat)).toUInt8, (shr64 r.toUInt64 (24 : Nat)).toUInt8], [(shr64 c (0 : Nat)).toUInt8, (shr64 c (8 : Nat)).toUInt8, (shr64 c (16 : Nat)).toUInt8, (shr64 c (24 : Nat)).toUInt8, (shr64 c (32 : Nat)).toUInt8, (shr64 c (40 : Nat)).toUInt8, (shr64 c (48 : Nat)).toUInt8, (shr64 c (56 : Nat)).toUInt8], b].flatten.length ∧ [[UInt8.ofNat (nat_lit 4), UInt8.ofNat (nat_lit 0), UInt8.ofNat (nat_lit 0), UInt8.ofNat (nat_lit 0)], [(shr64 r.toUInt64 (0 : Nat)).toUInt8, (shr64 r.toUInt64 (8 : Nat)).toUInt8, (shr64 r.toUInt64 (16 : Nat)).toUInt8, (shr64 r.toUInt64 (24 : Nat)).toUInt8], [(shr64 c (0 : Nat)).toUInt8, (shr64 c (8 : Nat)).toUInt8, (shr64 c (16 : Nat)).toUInt8, (shr64 c (24 : Nat)).toUInt8, (shr64 c (32 : Nat)).toUInt8, (shr64 c (40 : Nat)).toUInt8, (shr64 c (48 : Nat)).toUInt8, (shr64 c (56 : Nat)).toUInt8], b].flatten.length = (tranR r c b).length ∧ List.take [[UInt8.ofNat (nat_lit 4), UInt8.ofNat (nat_lit 0), UInt8.ofNat (nat_lit 0), UInt8.ofNat (nat_lit 0)], [(shr64 r.toUInt64 (0 : Nat)).toUInt8, (shr64 r.toUInt64 (8 : Nat)).toUInt8, (shr64 r.toUInt64 (16 : Nat)).toUInt8, (shr64 r.toUInt64 (24 : Nat)).toUInt8], [(shr64 c (0 : Nat)).toUInt8, (shr64 c (8 : Nat)).toUInt8, (shr64 c (16 : Nat)).toUInt8, (shr64 c (24 : Nat)).toUInt8, (shr64 c (32 : Nat)).toUInt8, (shr64 c (40 : Nat)).toUInt8, (shr64 c (48 : Nat)).toUInt8, (shr64 c (56 : Nat)).toUInt8], b].flatten.length (dropL (dropL [[UInt8.ofNat (nat_lit 4), UInt8.ofNat (nat_lit 0), UInt8.ofNat (nat_lit 0), UInt8.ofNat (nat_lit 0)], [(shr64 r.toUInt64 (0 : Nat)).toUInt8, (shr64 r.toUInt64 (8 : Nat)).toUInt8, (shr64 r.toUInt64 (16 : Nat)).toUInt8, (shr64 r.toUInt64 (24 : Nat)).toUInt8], [(shr64 c (0 : Nat)).toUInt8, (shr64 c (8 : Nat)).toUInt8, (shr64 c (16 : Nat)).toUInt8, (shr64 c (24 : Nat)).toUInt8, (shr64 c (32 : Nat)).toUInt8, (shr64 c (40 : Nat)).toUInt8, (shr64 c (48 : Nat)).toUInt8, (shr64 c (56 : Nat)).toUInt8], b].flatten (0 : Nat)) (0 : Nat)) = tranR r c b ∧ Int.ofNat (0 : Nat) = tranE b ∧ True))) := by kernel_rfl
end Go.Proofs.Ytimjfjlaoekfkaa

/- A step towards SessionOpensSaid: no conditions. -/
namespace Go.Proofs.Ytimjfjlaoekfkaa
open Go Go.Eng Go.Cod Go.Msg
theorem fl_take {l r : List UInt8} (h : l = r) : List.take l.length l = r := by rw [List.take_length]; exact h
abbrev b4 (n : UInt32) : List UInt8 := [(shr64 n.toUInt64 0).toUInt8, (shr64 n.toUInt64 8).toUInt8, (shr64 n.toUInt64 16).toUInt8, (shr64 n.toUInt64 24).toUInt8]
abbrev b8 (c : UInt64) : List UInt8 := [(shr64 c 0).toUInt8, (shr64 c 8).toUInt8, (shr64 c 16).toUInt8, (shr64 c 24).toUInt8, (shr64 c 32).toUInt8, (shr64 c 40).toUInt8, (shr64 c 48).toUInt8, (shr64 c 56).toUInt8]
set_option maxRecDepth 100000 in
theorem conU32 : Con Try.prog 49 gU32 := con_of_vcl fun args ps res h hp hlen => by
  unfold gU32 at h
  split at h <;> cases h
  rename_i n
  refine ⟨EM0, 100, rfl, eok (gs := [(47, gLittleN)]) ⟨conLittleRN4, trivial⟩, ?_⟩
  rw [vcU32]
  exact ⟨rfl, trivial⟩
theorem tranR_16 {r : UInt32} {c : UInt64} {b : List UInt8} (h : b.length < 16) : tranR r c b = [] ∧ tranE b = 2 := by simp [tranR, tranE, h]
theorem tranR_big {r : UInt32} {c : UInt64} {b : List UInt8} (h1 : ¬ b.length < 16) (h : 2084 < b.length) : tranR r c b = [] ∧ tranE b = 3 := by simp [tranR, tranE, h, h1]
theorem tranR_ok {r : UInt32} {c : UInt64} {b : List UInt8} (h1 : ¬ b.length < 16) (h : ¬ 2084 < b.length) : tranR r c b = tranL r c b ∧ tranE b = 0 := by simp [tranR, tranE, h, h1]
theorem tranL_len (r : UInt32) (c : UInt64) (b : List UInt8) : (tranL r c b).length = 16 + b.length := by
  simp only [tranL, List.length_append, littleL_len, List.length_cons, List.length_nil]; omega
set_option maxRecDepth 100000 in
theorem conTran : Con Try.prog 21 gTran := con_of_vcl fun args ps res h hp hlen => by
  unfold gTran at h
  split at h <;> cases h
  rename_i r c m b
  obtain ⟨rfl, hp2⟩ := all_cons.1 hp
  refine ⟨EM, 100, rfl, eok (gs := [(36, gLittleN)]) ⟨conLittleN4, trivial⟩, ?_⟩
  rw [vcTran]
  simp only [io, dropL_zero]
  refine ⟨fun h1 => ?_, fun h1 => ⟨fun h2 => ?_, fun h2 => ?_⟩⟩
  · have h1 : b.length < 16 := by have := of_decide_eq_true h1; omega
    rw [(tranR_16 h1).1, (tranR_16 (r := r) (c := c) h1).2]; exact ⟨rfl, rfl, rfl, trivial⟩
  · have h1 : ¬ b.length < 16 := by have := of_decide_eq_false h1; omega
    have h2 : 2084 < b.length := by have := of_decide_eq_true h2; omega
    rw [(tranR_big h1 h2).1, (tranR_big (r := r) (c := c) h1 h2).2]; exact ⟨rfl, rfl, rfl, trivial⟩
  · have h1 : ¬ b.length < 16 := by have := of_decide_eq_false h1; omega
    have h2 : ¬ 2084 < b.length := by have := of_decide_eq_false h2; omega
    rw [(tranR_ok h1 h2).1, (tranR_ok (r := r) (c := c) h1 h2).2, tranL_len]
    refine ⟨by omega, by omega, by omega, by omega, rfl, ?_, rfl, trivial⟩
    have hl := tranL_len r c b
    exact (List.take_of_length_le (by show (tranL r c b).length ≤ _; omega)).trans rfl
set_option maxRecDepth 100000 in
theorem eMr : EnvOk EMr := eok (gs := [(47, gLittleN), (49, gU32), (48, gJoin)]) ⟨conLittleRN4, conU32, conJoinR, trivial⟩
theorem joined {l r : List UInt8} {n : Nat} (h : l = r) (hn : r.length = n) (hb : n ≤ 4294967296) : l.length ≤ 4294967296 ∧ 0 + l.length ≤ l.length ∧ l.length = n ∧ List.take l.length (dropL (dropL l 0) 0) = r ∧ True := by
  subst h
  exact ⟨by omega, by omega, hn, by rw [dropL_zero, dropL_zero, List.take_length], trivial⟩
theorem init_len {s : UInt32} {e st t m1 m2 : List UInt8} (h1 : e.length = 32) (h2 : st.length = 48) (h3 : t.length = 28) (h4 : m1.length = 16) (h5 : m2.length = 16) : (initL s e st t m1 m2).length = 148 := by
  simp only [initL, List.length_append, littleL_len, List.length_cons, List.length_nil]; omega
theorem resp_len {s r : UInt32} {e em m1 m2 : List UInt8} (h1 : e.length = 32) (h2 : em.length = 16) (h4 : m1.length = 16) (h5 : m2.length = 16) : (respL s r e em m1 m2).length = 92 := by
  simp only [respL, List.length_append, littleL_len, List.length_cons, List.length_nil]; omega
theorem cook_len {r : UInt32} {n c : List UInt8} (h1 : n.length = 24) (h2 : c.length = 32) : (cookL r n c).length = 64 := by
  simp only [cookL, List.length_append, littleL_len, List.length_cons, List.length_nil]; omega
set_option maxRecDepth 100000 in
theorem conTranR : Con Try.prog 27 gTran := con_of_vcl fun args ps res h hp hlen => by
  unfold gTran at h
  split at h <;> cases h
  rename_i r c m b
  obtain ⟨rfl, hp2⟩ := all_cons.1 hp
  refine ⟨EMr, 100, rfl, eMr, ?_⟩
  rw [vcTranR]
  simp only [io]
  refine ⟨fun h1 => ?_, fun h1 => ⟨fun h2 => ?_, fun h2 => ?_⟩⟩
  · have h1 : b.length < 16 := by have := of_decide_eq_true h1; omega
    rw [(tranR_16 h1).1, (tranR_16 (r := r) (c := c) h1).2]; exact ⟨rfl, rfl, rfl, trivial⟩
  · have h1 : ¬ b.length < 16 := by have := of_decide_eq_false h1; omega
    have h2 : 2084 < b.length := by have := of_decide_eq_true h2; omega
    rw [(tranR_big h1 h2).1, (tranR_big (r := r) (c := c) h1 h2).2]; exact ⟨rfl, rfl, rfl, trivial⟩
  · have h1 : ¬ b.length < 16 := by have := of_decide_eq_false h1; omega
    have h2 : ¬ 2084 < b.length := by have := of_decide_eq_false h2; omega
    have fl : [[UInt8.ofNat 4, UInt8.ofNat 0, UInt8.ofNat 0, UInt8.ofNat 0], b4 r, b8 c, b].flatten = tranL r c b := by
      simp only [List.flatten_cons, List.flatten_nil, List.append_nil]; rfl
    rw [(tranR_ok h1 h2).1, (tranR_ok (r := r) (c := c) h1 h2).2]
    obtain ⟨j1, j2, j3, j4, j5⟩ := joined fl (tranL_len r c b) (by omega)
    exact ⟨rfl, by decide, j1, j2, j3.trans (tranL_len r c b).symm, j4, rfl, trivial⟩
end Go.Proofs.Ytimjfjlaoekfkaa
