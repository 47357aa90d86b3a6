/- Steps towards SessionExchangesSaid. -/
import Derived.Test.YtimjfjlaoekfkaaJXorVc
import Derived.Test.YtimjfjlaoekfkaaJMdcVc
import Derived.Test.YtimjfjlaoekfkaaJCodNum
import Derived.Test.YtimjfjlaoekfkaaBase
/- A step towards SessionExchangesSaid: no conditions. -/
namespace Go.Proofs.Ytimjfjlaoekfkaa
open Go Go.Eng Go.Cod Go.Cha
theorem u32lits : UInt32.ofNat 1634760805 = 1634760805 ∧ UInt32.ofNat 857760878 = 857760878 ∧ UInt32.ofNat 2036477234 = 2036477234 ∧ UInt32.ofNat 1797285236 = 1797285236 := ⟨rfl, rfl, rfl, rfl⟩
theorem take4_lt {α : Type} (l : List α) : (l.take 4).length < 4611686018427387904 := by rw [List.length_take]; omega
set_option maxRecDepth 100000 in
theorem conBlock : Con Try.prog 50 gBlock := con_of_vcl fun args ps res h hp hlen => by
  unfold gBlock at h
  split at h <;> cases h
  rename_i k c n
  obtain ⟨⟨hk, _⟩, _, ⟨hn, _⟩, _⟩ := hlen
  refine ⟨EB, 300, rfl, eok (gs := [(30, gReadL), (36, gLittleN), (59, gCore)]) ⟨conReadL, conLittleN4, conCore, trivial⟩, ?_⟩
  refine Eq.mpr (vcBlock k n c) ?_
  simp only [forall_eq, true_and, and_true, take4_lt, dropL_eq]
  repeat first | refine ⟨by decide, ?_⟩ | refine ⟨rfl, ?_⟩
  kernel_rfl
theorem stateR (k n : List UInt8) (c : UInt32) (hn : n.length = 12) :
    stateL k [[(shr64 c.toUInt64 0).toUInt8, (shr64 c.toUInt64 8).toUInt8, (shr64 c.toUInt64 16).toUInt8, (shr64 c.toUInt64 24).toUInt8], n].flatten = (blkIn k c n).l := by
  have e : [[(shr64 c.toUInt64 0).toUInt8, (shr64 c.toUInt64 8).toUInt8, (shr64 c.toUInt64 16).toUInt8, (shr64 c.toUInt64 24).toUInt8], n].flatten = littleL c.toUInt64 4 ++ n := by
    rw [List.flatten_cons, List.flatten_cons, List.flatten_nil, List.append_nil]; rfl
  rw [e]
  have h0 : rd (littleL c.toUInt64 4 ++ n) 0 = c := by
    unfold rd
    rw [List.drop_zero, List.take_append_of_le_length (by rw [littleL_len]; omega), List.take_of_length_le (by rw [littleL_len]; omega)]
    exact readL_little4 c
  have hd : ∀ i, rd (littleL c.toUInt64 4 ++ n) (4 + i) = rd n i := fun i => by
    unfold rd
    rw [List.drop_append, littleL_len, List.drop_of_length_le (by rw [littleL_len]; omega), List.nil_append, Nat.add_sub_cancel_left]
  have h4 := hd 0
  have h8 := hd 4
  have h12 := hd 8
  show [_, _, _, _, _, _, _, _, _, _, _, _, rd _ 0, rd _ (4 + 0), rd _ (4 + 4), rd _ (4 + 8)] = _
  rw [h0, h4, h8, h12]
  rfl
set_option maxRecDepth 100000 in
theorem conState : Con Try.prog 63 gState := con_of_vcl fun args ps res h hp hlen => by
  unfold gState at h
  split at h <;> cases h
  rename_i k m r
  obtain ⟨rfl, hp2⟩ := all_cons.1 hp
  have hr := (all_cons.1 hp2).1
  refine ⟨ESt, 300, rfl, eok (gs := [(55, gReadL)]) ⟨conReadLr, trivial⟩, ?_⟩
  refine Eq.mpr (vcState k r) ?_
  simp only [forall_eq, true_and, and_true, take4_lt, dropL_eq]
  repeat first | refine ⟨by omega, ?_⟩
  kernel_rfl
set_option maxRecDepth 100000 in
theorem conBlockR : Con Try.prog 56 gBlock := con_of_vcl fun args ps res h hp hlen => by
  unfold gBlock at h
  split at h <;> cases h
  rename_i k c n
  obtain ⟨⟨hk, _⟩, _, ⟨hn, _⟩, _⟩ := hlen
  have hn : n.length = 12 := hn
  refine ⟨EBr, 300, rfl, eok (gs := [(63, gState), (47, gLittleN), (64, gCore), (48, gJoin)]) ⟨conState, conLittleRN4, conCoreR, conJoinR, trivial⟩, ?_⟩
  refine Eq.mpr (vcBlockR k n c) ?_
  have fl : [[(shr64 c.toUInt64 0).toUInt8, (shr64 c.toUInt64 8).toUInt8, (shr64 c.toUInt64 16).toUInt8, (shr64 c.toUInt64 24).toUInt8], n].flatten.length = 16 := by simp [hn]
  have ft := List.take_of_length_le (Nat.le_of_eq fl)
  simp only [forall_eq, true_and, and_true, take4_lt, dropL_eq, List.drop_zero, ft, stateR k n c hn, fl]
  repeat first | refine ⟨by decide, ?_⟩ | refine ⟨rfl, ?_⟩
  kernel_rfl
end Go.Proofs.Ytimjfjlaoekfkaa

/- A step towards SessionExchangesSaid: no conditions. -/
namespace Go.Proofs.Ytimjfjlaoekfkaa
open Go Go.Eng Go.Cod Go.Cha
theorem tmod_nat (x m : Nat) : ((x : Int).tmod (m : Int)) = ((x % m : Nat) : Int) := rfl
theorem tdiv_nat (x m : Nat) : ((x : Int).tdiv (m : Int)) = ((x / m : Nat) : Int) := rfl
theorem to32_nat (x : Nat) : to32 (x : Int) = UInt32.ofNat x := by
  unfold to32
  rw [BitVec.ofInt_natCast]; rfl
theorem nat_toNat (x : Nat) : ((x : Int)).toNat = x := rfl
theorem dec_nat (x y : Nat) : decide ((x : Int) = (y : Int)) = decide (x = y) := by
  rw [decide_eq_decide]; omega
theorem declt_nat (x y : Nat) : decide ((x : Int) < (y : Int)) = decide (x < y) := by
  rw [decide_eq_decide]; omega
theorem ofNat_add1 (x : Nat) : UInt32.ofNat x + UInt32.ofNat 1 = UInt32.ofNat (x + 1) := (UInt32.ofNat_add ..).symm
theorem padAt_succ (k n : List UInt8) (c : UInt32) (x : Nat) (h : x % 64 ≠ 0) : padAt k n c x = padAt k n c (x + 1) := by
  cases x with
  | zero => simp at h
  | succ x =>
    show block k (c + UInt32.ofNat (x / 64)) n = block k (c + UInt32.ofNat ((x + 1) / 64)) n
    rw [show x / 64 = (x + 1) / 64 by omega]
set_option maxRecDepth 100000 in
theorem conXor : Con Try.prog 34 gXor := con_of_vcs fun args ps res h hp => by
  unfold gXor at h
  split at h <;> cases h
  rename_i k c n m d
  obtain ⟨rfl, hp2⟩ := all_cons.1 hp
  have hd := (all_cons.1 hp2).1
  refine ⟨EX, 300, rfl, eok (gs := [(50, gBlock)]) ⟨conBlock, trivial⟩, ?_⟩
  refine Eq.mpr (vcXor k n d c) ?_
  simp only [io, true_and, and_true, dropL_zero, Nat.zero_add, Nat.le_refl, tmod_nat, dec_nat, declt_nat, nat_toNat]
  refine ⟨⟨0, by omega, ?_, rfl, rfl, rfl, rfl, rfl⟩, fun x hx => ⟨fun h1 => ?_, fun h1 => ?_⟩⟩
  · show c = c + UInt32.ofNat 0
    exact (UInt32.add_zero c).symm
  · have h1 := of_decide_eq_true h1
    refine ⟨⟨by omega, by omega⟩, by omega, by decide, fun h2 => ?_, fun h2 => ?_⟩
    · have h2 := of_decide_eq_true h2
      refine ⟨by decide, ⟨by omega, by omega⟩, by omega, by omega, inI_of (by omega) (by omega), x + 1, by omega, by omega, ?_, rfl, rfl, ?_, rfl, ?_⟩
      · rw [UInt32.add_assoc, ofNat_add1, show (x + 63) / 64 + 1 = (x + 1 + 63) / 64 by omega]
      · show block k (c + UInt32.ofNat ((x + 63) / 64)) n = block k (c + UInt32.ofNat (x / 64)) n
        rw [show (x + 63) / 64 = x / 64 by omega]
      · rw [show (x + 63) / 64 = x / 64 by omega]; rfl
    · have h2 := of_decide_eq_false h2
      have e := padAt_succ k n c x h2
      refine ⟨by decide, ⟨by omega, by omega⟩, by omega, by omega, inI_of (by omega) (by omega), x + 1, by omega, by omega, ?_, rfl, rfl, e, rfl, ?_⟩
      · rw [show (x + 63) / 64 = (x + 1 + 63) / 64 by omega]
      · rw [e]; rfl
  · have h1 := of_decide_eq_false h1
    have e : x = d.length := by omega
    rw [e]
    exact ⟨rfl, by rw [List.take_of_length_le (by rw [xorTo_len]; exact Nat.le_refl _)]; rfl⟩
set_option maxRecDepth 100000 in
theorem conXorR : Con Try.prog 45 gXor := con_of_vcs fun args ps res h hp => by
  unfold gXor at h
  split at h <;> cases h
  rename_i k c n m d
  obtain ⟨rfl, hp2⟩ := all_cons.1 hp
  have hd := (all_cons.1 hp2).1
  refine ⟨EXr, 300, rfl, eok (gs := [(56, gBlock)]) ⟨conBlockR, trivial⟩, ?_⟩
  refine Eq.mpr (vcXorR k n d c) ?_
  simp only [io, true_and, and_true, dropL_zero, Nat.zero_add, Nat.le_refl, tmod_nat, tdiv_nat, to32_nat, dec_nat, declt_nat, nat_toNat]
  refine ⟨⟨0, by omega, rfl, rfl, rfl, rfl, rfl⟩, fun x hx => ⟨fun h1 => ?_, fun h1 => ?_⟩⟩
  · have h1 := of_decide_eq_true h1
    refine ⟨⟨by omega, by omega⟩, by omega, by decide, fun h2 => ?_, fun h2 => ?_⟩
    · have h2 := of_decide_eq_true h2
      exact ⟨⟨by decide, inI_of (by omega) (by omega)⟩, by decide, ⟨by omega, by omega⟩, by omega, by omega, inI_of (by omega) (by omega), x + 1, by omega, by omega, rfl, rfl, rfl, rfl, rfl⟩
    · have h2 := of_decide_eq_false h2
      have e := padAt_succ k n c x h2
      exact ⟨by decide, ⟨by omega, by omega⟩, by omega, by omega, inI_of (by omega) (by omega), x + 1, by omega, by omega, rfl, rfl, e, rfl, by rw [e]; rfl⟩
  · have h1 := of_decide_eq_false h1
    have e : x = d.length := by omega
    rw [e]
    exact ⟨rfl, by rw [List.take_of_length_le (by rw [xorTo_len]; exact Nat.le_refl _)]; rfl⟩
end Go.Proofs.Ytimjfjlaoekfkaa

/- A step towards SessionExchangesSaid: no conditions. -/
namespace Go.Proofs.Ytimjfjlaoekfkaa
open Go Go.Eng Go.Cod Go.Pol
abbrev extB : List (Nat × SpecF) := [(69, gAdd64), (72, gSub64)]
noncomputable def PE0 : Env := mkE Try.prog [] [] 2
noncomputable def PE1 : Env := mkE Try.prog [(76, gMul64)] [] 2 true extB
noncomputable def PE2 : Env := mkE Try.prog [(70, gProd), (71, gPlus), (60, gAddN)] [] 2 true extB
set_option maxRecDepth 100000 in
theorem vcMul64 (x y : UInt64) : (vcFn PE0 100 76 [.s (.u64 x), .s (.u64 y)] (.tup [.s (.u64 (u (x.toNat * y.toNat / D64))), .s (.u64 (u (x.toNat * y.toNat)))])) =
  (shr64 x (32 : Nat) * shr64 y (32 : Nat) + shr64 (shr64 x (32 : Nat) * (y &&& UInt64.ofNat (nat_lit 4294967295)) + shr64 ((x &&& UInt64.ofNat (nat_lit 4294967295)) * (y &&& UInt64.ofNat (nat_lit 4294967295))) (32 : Nat)) (32 : Nat) + shr64 ((shr64 x (32 : Nat) * (y &&& UInt64.ofNat (nat_lit 4294967295)) + shr64 ((x &&& UInt64.ofNat (nat_lit 4294967295)) * (y &&& UInt64.ofNat (nat_lit 4294967295))) (32 : Nat) &&& UInt64.ofNat (nat_lit 4294967295)) + (x &&& UInt64.ofNat (nat_lit 4294967295)) * shr64 y (32 : Nat)) (32 : Nat) = u (x.toNat * y.toNat / D64) ∧ x * y = u (x.toNat * y.toNat) ∧ True) := by kernel_rfl
set_option maxRecDepth 100000 in
theorem vcProd (x y : UInt64) : (vcFn PE1 100 70 [.s (.u64 x), .s (.u64 y)] (.w (.agg [.one (.u64 (u (x.toNat * y.toNat / D64))), .one (.u64 (u (x.toNat * y.toNat)))]))) =
  (∀ (y_1 : UInt64), y_1 = u (x.toNat * y.toNat / D64) → ∀ (y_2 : UInt64), y_2 = u (x.toNat * y.toNat) → ∀ (y_3 : UInt64), y_3 = y_1 → ∀ (y_4 : UInt64), y_4 = y_2 → ∀ (y_5 : UInt64), y_5 = y_3 → ∀ (y_6 : UInt64), y_6 = y_4 → y_5 = u (x.toNat * y.toNat / D64) ∧ y_6 = u (x.toNat * y.toNat) ∧ True) := by kernel_rfl
set_option maxRecDepth 100000 in
theorem vcPlus (a b c d : UInt64) : (vcFn PE1 100 71 [.agg [.one (.u64 a), .one (.u64 b)], .agg [.one (.u64 c), .one (.u64 d)]] (.w (.agg [.one (.u64 (u ((b.toNat + D64 * a.toNat + (d.toNat + D64 * c.toNat)) / D64))), .one (.u64 (u (b.toNat + D64 * a.toNat + (d.toNat + D64 * c.toNat))))]))) =
  ((0 : Nat) ≤ (1 : Nat) ∧ ∀ (y : UInt64), y = u (b.toNat + d.toNat + (0 : Nat)) → ∀ (y_1 : UInt64), y_1 = u ((b.toNat + d.toNat + (0 : Nat)) / D64) → ∀ (y_2 : UInt64), y_2 = y → ∀ (y : UInt64), y = y_1 → y.toNat ≤ (1 : Nat) ∧ ∀ (y_3 : UInt64), y_3 = u (a.toNat + c.toNat + y.toNat) → ∀ (y_4 : UInt64), y_4 = u ((a.toNat + c.toNat + y.toNat) / D64) → ∀ (y : UInt64), y = y_3 → ∀ (y_5 : UInt64), y_5 = y_4 → ∀ (y_6 : UInt64), y_6 = y → ∀ (y : UInt64), y = y_2 → y_6 = u ((b.toNat + D64 * a.toNat + (d.toNat + D64 * c.toNat)) / D64) ∧ y = u (b.toNat + D64 * a.toNat + (d.toNat + D64 * c.toNat)) ∧ True) := by kernel_rfl
set_option maxRecDepth 100000 in
theorem vcAddN (l : List UInt64) (c d : UInt64) : (vcFn PE1 100 60 [.agg [.vec (.n 3) (.u64 l)], .agg [.one (.u64 c), .one (.u64 d)]] (.w (.agg [.vec (.n 3) (.u64 (w3 (val3 l + (d.toNat + D64 * c.toNat))))]))) =
  (∀ (y : UInt64), y = UInt64.ofNat (nat_lit 0) → (0 : Nat) ≤ (1 : Nat) ∧ ∀ (y : UInt64), y = u ((l.getD (0 : Nat) (0 : UInt64)).toNat + d.toNat + (0 : Nat)) → ∀ (y_1 : UInt64), y_1 = u (((l.getD (0 : Nat) (0 : UInt64)).toNat + d.toNat + (0 : Nat)) / D64) → ∀ (y_2 : List UInt64), y_2 = l.set (0 : Nat) y → ∀ (y : UInt64), y = y_1 → y.toNat ≤ (1 : Nat) ∧ ∀ (y_3 : UInt64), y_3 = u ((y_2.getD (1 : Nat) (0 : UInt64)).toNat + c.toNat + y.toNat) → ∀ (y_4 : UInt64), y_4 = u (((y_2.getD (1 : Nat) (0 : UInt64)).toNat + c.toNat + y.toNat) / D64) → ∀ (y : List UInt64), y = y_2.set (1 : Nat) y_3 → ∀ (y_5 : UInt64), y_5 = y_4 → ∀ (y_6 : List UInt64), y_6 = y.set (2 : Nat) (y.getD (2 : Nat) (0 : UInt64) + y_5) → ∀ (y : List UInt64), y = y_6 → y = w3 (val3 l + (d.toNat + D64 * c.toNat)) ∧ True) := by kernel_rfl
set_option maxRecDepth 100000 in
theorem vcTimes (l : List UInt64) (r s : UInt64) : (vcFn PE2 100 61 [.agg [.vec (.n 3) (.u64 l)], .s (.u64 r), .s (.u64 s)] (.w (.agg [.vec (.n 3) (.u64 (w3 (red1 (val3 l * (r.toNat + D64 * s.toNat)))))]))) =
  (∀ (y : UInt64), y = u ((l.getD (0 : Nat) (0 : UInt64)).toNat * r.toNat / D64) → ∀ (y_1 : UInt64), y_1 = u ((l.getD (0 : Nat) (0 : UInt64)).toNat * r.toNat) → ∀ (y_2 : UInt64), y_2 = y → ∀ (y : UInt64), y = y_1 → ∀ (y_3 : UInt64), y_3 = u ((l.getD (1 : Nat) (0 : UInt64)).toNat * r.toNat / D64) → ∀ (y_4 : UInt64), y_4 = u ((l.getD (1 : Nat) (0 : UInt64)).toNat * r.toNat) → ∀ (y_5 : UInt64), y_5 = u ((l.getD (0 : Nat) (0 : UInt64)).toNat * s.toNat / D64) → ∀ (y_6 : UInt64), y_6 = u ((l.getD (0 : Nat) (0 : UInt64)).toNat * s.toNat) → ∀ (y_7 : UInt64), y_7 = u ((y_4.toNat + D64 * y_3.toNat + (y_6.toNat + D64 * y_5.toNat)) / D64) → ∀ (y_8 : UInt64), y_8 = u (y_4.toNat + D64 * y_3.toNat + (y_6.toNat + D64 * y_5.toNat)) → ∀ (y_9 : UInt64), y_9 = y_7 → ∀ (y_10 : UInt64), y_10 = y_8 → ∀ (y_11 : UInt64), y_11 = u ((l.getD (2 : Nat) (0 : UInt64)).toNat * r.toNat / D64) → ∀ (y_12 : UInt64), y_12 = u ((l.getD (2 : Nat) (0 : UInt64)).toNat * r.toNat) → ∀ (y_13 : UInt64), y_13 = u ((l.getD (1 : Nat) (0 : UInt64)).toNat * s.toNat / D64) → ∀ (y_14 : UInt64), y_14 = u ((l.getD (1 : Nat) (0 : UInt64)).toNat * s.toNat) → ∀ (y_15 : UInt64), y_15 = u ((y_12.toNat + D64 * y_11.toNat + (y_14.toNat + D64 * y_13.toNat)) / D64) → ∀ (y_16 : UInt64), y_16 = u (y_12.toNat + D64 * y_11.toNat + (y_14.toNat + D64 * y_13.toNat)) → ∀ (y_17 : UInt64), y_17 = y_15 → ∀ (y_18 : UInt64), y_18 = y_16 → ∀ (y_19 : UInt64), y_19 = u ((l.getD (2 : Nat) (0 : UInt64)).toNat * s.toNat / D64) → ∀ (y_20 : UInt64), y_20 = u ((l.getD (2 : Nat) (0 : UInt64)).toNat * s.toNat) → ∀ (y_21 : UInt64), y_21 = y_19 → ∀ (y_22 : UInt64), y_22 = y_20 → ∀ (y_23 : UInt64), y_23 = y → (0 : Nat) ≤ (1 : Nat) ∧ ∀ (y : UInt64), y = u (y_10.toNat + y_2.toNat + (0 : Nat)) → ∀ (y_24 : UInt64), y_24 = u ((y_10.toNat + y_2.toNat + (0 : Nat)) / D64) → ∀ (y_25 : UInt64), y_25 = y → ∀ (y : UInt64), y = y_24 → y.toNat ≤ (1 : Nat) ∧ ∀ (y_26 : UInt64), y_26 = u (y_18.toNat + y_9.toNat + y.toNat) → ∀ (y_27 : UInt64), y_27 = u ((y_18.toNat + y_9.toNat + y.toNat) / D64) → ∀ (y : UInt64), y = y_26 → ∀ (y_28 : UInt64), y_28 = y_27 → y_28.toNat ≤ (1 : Nat) ∧ ∀ (y_29 : UInt64), y_29 = u (y_22.toNat + y_17.toNat + y_28.toNat) → ∀ (y_30 : UInt64), y_30 = u ((y_22.toNat + y_17.toNat + y_28.toNat) / D64) → ∀ (y_31 : UInt64), y_31 = y_29 → ∀ (y_32 : UInt64), y_32 = y_30 → ∀ (y_33 : List UInt64), y_33 = w3 (val3 [y_23, y_25, y &&& UInt64.ofNat (nat_lit 3)] + ((y &&& ~~~UInt64.ofNat (nat_lit 3)).toNat + D64 * y_31.toNat)) → ∀ (y_34 : List UInt64), y_34 = y_33 → ∀ (y_35 : List UInt64), y_35 = w3 (val3 y_34 + ((shl64 y_31 (62 : Nat) ||| shr64 y (2 : Nat)).toNat + D64 * (shr64 y_31 (2 : Nat)).toNat)) → ∀ (y : List UInt64), y = y_35 → y = w3 (red1 (val3 l * (r.toNat + D64 * s.toNat))) ∧ True) := by kernel_rfl
set_option maxRecDepth 100000 in
theorem vcReduced (l : List UInt64) : (vcFn PE1 100 62 [.agg [.vec (.n 3) (.u64 l)]] (.w (.agg [.vec (.n 3) (.u64 (w3 (if val3 l < P130 then val3 l else val3 l - P130)))]))) =
  ((0 : Nat) ≤ (1 : Nat) ∧ ∀ (y : UInt64), y = u ((l.getD (0 : Nat) (0 : UInt64)).toNat + D64 - (18446744073709551611 : Nat) - (0 : Nat)) → ∀ (y_1 : UInt64), y_1 = u (if (l.getD (0 : Nat) (0 : UInt64)).toNat < (18446744073709551611 : Nat) then (1 : Nat) else (0 : Nat)) → ∀ (y_2 : UInt64), y_2 = y → ∀ (y : UInt64), y = y_1 → y.toNat ≤ (1 : Nat) ∧ ∀ (y_3 : UInt64), y_3 = u ((l.getD (1 : Nat) (0 : UInt64)).toNat + D64 - (18446744073709551615 : Nat) - y.toNat) → ∀ (y_4 : UInt64), y_4 = u (if (l.getD (1 : Nat) (0 : UInt64)).toNat < (18446744073709551615 : Nat) + y.toNat then (1 : Nat) else (0 : Nat)) → ∀ (y : UInt64), y = y_3 → ∀ (y_5 : UInt64), y_5 = y_4 → y_5.toNat ≤ (1 : Nat) ∧ ∀ (y_6 : UInt64), y_6 = u ((l.getD (2 : Nat) (0 : UInt64)).toNat + D64 - (3 : Nat) - y_5.toNat) → ∀ (y_7 : UInt64), y_7 = u (if (l.getD (2 : Nat) (0 : UInt64)).toNat < (3 : Nat) + y_5.toNat then (1 : Nat) else (0 : Nat)) → ∀ (y_8 : UInt64), y_8 = y_6 → ∀ (y_9 : UInt64), y_9 = y_7 → ((y_9 == UInt64.ofNat (nat_lit 1)) = true → ∀ (y : List UInt64), y = l → y = w3 (if val3 l < P130 then val3 l else val3 l - P130) ∧ True) ∧ ((y_9 == UInt64.ofNat (nat_lit 1)) = false → ∀ (y_10 : List UInt64), y_10 = [y_2, y, y_8] → y_10 = w3 (if val3 l < P130 then val3 l else val3 l - P130) ∧ True)) := by kernel_rfl
end Go.Proofs.Ytimjfjlaoekfkaa

/- A step towards SessionExchangesSaid: no conditions. -/
namespace Go.Proofs.Ytimjfjlaoekfkaa
open Go Go.Eng Go.Cod Go.Pol
noncomputable def PEs : Env := mkE Try.prog [(30, gReadL), (36, gLittleN), (35, gJoin), (60, gAddN), (61, gTimes), (62, gReduced)] [(0, JPoly)] 2 true extB
set_option maxRecDepth 100000 in
theorem vcPoly (k d : List UInt8) : (vcFn PEs 200 51 [.agg [.vec (.n 32) (.u8 k)], .s (.xs 1 (.s d.length) (.u8 d))] (.w (.agg [.vec (.n 16) (.u8 (polyL k d))]))) =
  ((8 : Nat) ≤ (32 : Nat) ∧ (List.take (8 : Nat) k).length = (List.take (8 : Nat) k).length ∧ (List.take (8 : Nat) k).length < (4611686018427387904 : Nat) ∧ ∀ (y : UInt64), y = readL (List.take (8 : Nat) k) → ∀ (y_1 : UInt64), y_1 = y &&& UInt64.ofNat (nat_lit 1152921487695413247) → (16 : Nat) ≤ (32 : Nat) ∧ (List.take (8 : Nat) (dropL k (8 : Nat))).length = (List.take (8 : Nat) (dropL k (8 : Nat))).length ∧ (List.take (8 : Nat) (dropL k (8 : Nat))).length < (4611686018427387904 : Nat) ∧ ∀ (y : UInt64), y = readL (List.take (8 : Nat) (dropL k (8 : Nat))) → ∀ (y_2 : UInt64), y_2 = y &&& UInt64.ofNat (nat_lit 1152921487695413244) → (∃ (x : Nat), x ≤ nbP d ∧ d.length = (List.drop ((16 : Nat) * x) d).length ∧ d = List.drop ((16 : Nat) * x) d ∧ y_1 = y_1 ∧ y_2 = y_2 ∧ k = k ∧ List.replicate (16 : Nat) (0 : UInt8) = List.replicate (16 : Nat) (0 : UInt8) ∧ List.replicate (3 : Nat) (0 : UInt64) = w3 (hN (y_1.toNat + D64 * y_2.toNat) d x) ∧ True) ∧ ∀ (x : Nat), x ≤ nbP d → ∀ (y : Int), y = (↑(List.drop ((16 : Nat) * x) d).length : Int) → (decide (Int.ofNat (0 : Nat) < y) = true → ∀ (y : Int), y = (↑(List.drop ((16 : Nat) * x) d).length : Int) → ∀ (y_3 : Int), y_3 = min y (Int.ofNat (16 : Nat)) → ∀ (y : Int), y = y_3 → ((0 : Int) ≤ y ∧ y ≤ (↑(List.drop ((16 : Nat) * x) d).length : Int)) ∧ (0 : Nat) + (List.take (24 : Nat) (List.take y.toNat (List.drop ((16 : Nat) * x) d))).length ≤ (24 : Nat) ∧ ∀ (y_4 : List UInt8), y_4 = over (List.replicate (24 : Nat) (0 : UInt8)) (0 : Nat) (List.take (24 : Nat) (List.take y.toNat (List.drop ((16 : Nat) * x) d))) → ((0 : Int) ≤ y ∧ y < (↑(24 : Nat) : Int)) ∧ y.toNat < (24 : Nat) ∧ ∀ (y_5 : List UInt8), y_5 = y_4.set y.toNat (UInt8.ofNat (nat_lit 1)) → ((0 : Int) ≤ y ∧ y ≤ (↑(List.drop ((16 : Nat) * x) d).length : Int)) ∧ (16 : Nat) ≤ (24 : Nat) ∧ (List.take (8 : Nat) (dropL y_5 (8 : Nat))).length = (List.take (8 : Nat) (dropL y_5 (8 : Nat))).length ∧ (List.take (8 : Nat) (dropL y_5 (8 : Nat))).length < (4611686018427387904 : Nat) ∧ ∀ (y_6 : UInt64), y_6 = readL (List.take (8 : Nat) (dropL y_5 (8 : Nat))) → (8 : Nat) ≤ (24 : Nat) ∧ (List.take (8 : Nat) y_5).length = (List.take (8 : Nat) y_5).length ∧ (List.take (8 : Nat) y_5).length < (4611686018427387904 : Nat) ∧ ∀ (y_7 : UInt64), y_7 = readL (List.take (8 : Nat) y_5) → ∀ (y_8 : List UInt64), y_8 = w3 (val3 (w3 (hN (y_1.toNat + D64 * y_2.toNat) d x)) + (y_7.toNat + D64 * y_6.toNat)) → ∀ (y_9 : List UInt64), y_9 = y_8 → (24 : Nat) ≤ (24 : Nat) ∧ (List.take (8 : Nat) (dropL y_5 (16 : Nat))).length = (List.take (8 : Nat) (dropL y_5 (16 : Nat))).length ∧ (List.take (8 : Nat) (dropL y_5 (16 : Nat))).length < (4611686018427387904 : Nat) ∧ ∀ (y_10 : UInt64), y_10 = readL (List.take (8 : Nat) (dropL y_5 (16 : Nat))) → ∀ (y_11 : List UInt64), y_11 = y_9.set (2 : Nat) (y_9.getD (2 : Nat) (0 : UInt64) + y_10) → val3 y_11 < (2722258935367507707706996859454145691648 : Nat) ∧ y_1.toNat < (1152921504606846976 : Nat) ∧ y_2.toNat < (1152921504606846976 : Nat) ∧ ∀ (y_12 : List UInt64), y_12 = w3 (red1 (val3 y_11 * (y_1.toNat + D64 * y_2.toNat))) → ∀ (y_13 : List UInt64), y_13 = y_12 → ∃ (y_14 : Nat), y_14 ≤ nbP d ∧ nbP d - y_14 < nbP d - x ∧ (List.drop ((16 : Nat) * x) d).length - y.toNat = (List.drop ((16 : Nat) * y_14) d).length ∧ List.drop y.toNat (List.drop ((16 : Nat) * x) d) = List.drop ((16 : Nat) * y_14) d ∧ y_1 = y_1 ∧ y_2 = y_2 ∧ k = k ∧ List.replicate (16 : Nat) (0 : UInt8) = List.replicate (16 : Nat) (0 : UInt8) ∧ y_13 = w3 (hN (y_1.toNat + D64 * y_2.toNat) d y_14) ∧ True) ∧ (decide (Int.ofNat (0 : Nat) < y) = false → ∀ (y : List UInt64), y = w3 (if val3 (w3 (hN (y_1.toNat + D64 * y_2.toNat) d x)) < P130 then val3 (w3 (hN (y_1.toNat + D64 * y_2.toNat) d x)) else val3 (w3 (hN (y_1.toNat + D64 * y_2.toNat) d x)) - P130) → (32 : Nat) ≤ (32 : Nat) ∧ (List.take (8 : Nat) (dropL k (24 : Nat))).length = (List.take (8 : Nat) (dropL k (24 : Nat))).length ∧ (List.take (8 : Nat) (dropL k (24 : Nat))).length < (4611686018427387904 : Nat) ∧ ∀ (y_3 : UInt64), y_3 = readL (List.take (8 : Nat) (dropL k (24 : Nat))) → (24 : Nat) ≤ (32 : Nat) ∧ (List.take (8 : Nat) (dropL k (16 : Nat))).length = (List.take (8 : Nat) (dropL k (16 : Nat))).length ∧ (List.take (8 : Nat) (dropL k (16 : Nat))).length < (4611686018427387904 : Nat) ∧ ∀ (y_4 : UInt64), y_4 = readL (List.take (8 : Nat) (dropL k (16 : Nat))) → ∀ (y_5 : List UInt64), y_5 = w3 (val3 y + (y_4.toNat + D64 * y_3.toNat)) → ∀ (y : List UInt64), y = y_5 → ∀ (y_6 : List UInt8), y_6 = [(shr64 (y.getD (0 : Nat) (0 : UInt64)) (0 : Nat)).toUInt8, (shr64 (y.getD (0 : Nat) (0 : UInt64)) (8 : Nat)).toUInt8, (shr64 (y.getD (0 : Nat) (0 : UInt64)) (16 : Nat)).toUInt8, (shr64 (y.getD (0 : Nat) (0 : UInt64)) (24 : Nat)).toUInt8, (shr64 (y.getD (0 : Nat) (0 : UInt64)) (32 : Nat)).toUInt8, (shr64 (y.getD (0 : Nat) (0 : UInt64)) (40 : Nat)).toUInt8, (shr64 (y.getD (0 : Nat) (0 : UInt64)) (48 : Nat)).toUInt8, (shr64 (y.getD (0 : Nat) (0 : UInt64)) (56 : Nat)).toUInt8] → ∀ (y_7 : List UInt8), y_7 = [(shr64 (y.getD (1 : Nat) (0 : UInt64)) (0 : Nat)).toUInt8, (shr64 (y.getD (1 : Nat) (0 : UInt64)) (8 : Nat)).toUInt8, (shr64 (y.getD (1 : Nat) (0 : UInt64)) (16 : Nat)).toUInt8, (shr64 (y.getD (1 : Nat) (0 : UInt64)) (24 : Nat)).toUInt8, (shr64 (y.getD (1 : Nat) (0 : UInt64)) (32 : Nat)).toUInt8, (shr64 (y.getD (1 : Nat) (0 : UInt64)) (40 : Nat)).toUInt8, (shr64 (y.getD (1 : Nat) (0 : UInt64)) (48 : Nat)).toUInt8, (shr64 (y.getD (1 : Nat) (0 : UInt64)) (56 : Nat)).toUInt8] → [y_6, y_7].length = (2 : Nat) ∧ (2 : Nat) < (4611686018427387904 : Nat) ∧ [y_6, y_7].flatten.length ≤ (4294967296 : Nat) ∧ ∀ (y : List UInt8), y = [y_6, y_7].flatten → (16 : Nat) ≤ [y_6, y_7].flatten.length ∧ (16 : Nat) ≤ [y_6, y_7].flatten.length ∧ ∀ (y_8 : List UInt8), y_8 = List.take (16 : Nat) y → y_8 = polyL k d ∧ True)) := by kernel_rfl
end Go.Proofs.Ytimjfjlaoekfkaa
