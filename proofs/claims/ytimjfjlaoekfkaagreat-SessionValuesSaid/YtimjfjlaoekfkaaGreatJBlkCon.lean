/- Steps towards SessionValuesSaid. -/
import Derived.Test.YtimjfjlaoekfkaaGreatJDbcVc
import Derived.Test.YtimjfjlaoekfkaaGreatJChaVc
import Derived.Test.YtimjfjlaoekfkaaGreatJDbbSpec
import Derived.Test.YtimjfjlaoekfkaaGreatBase
/- A step towards SessionValuesSaid: no conditions. -/

namespace Go.Proofs.YtimjfjlaoekfkaaGreat
open Go Go.Eng Go.Cod Go.Cha
theorem take4_lt {α : Type} (l : List α) : (l.take 4).length < 4611686018427387904 := by rw [List.length_take]; omega
set_option maxRecDepth 100000 in
theorem conBlock : Con Tryz.prog 76 gBlock := con_of_vcl fun args ps res h hp hlen => by
  unfold gBlock at h
  split at h <;> cases h
  rename_i k c n
  obtain ⟨⟨hk, _⟩, _, ⟨hn, _⟩, _⟩ := hlen
  refine ⟨EB, 300, rfl, eok (gs := [(87, gReadL), (67, gLittleN), (88, gCore)]) ⟨conReadL, conLittleN4, conCore, trivial⟩, ?_⟩
  refine Eq.mpr (vcBlock k n c) ?_
  simp only [forall_eq, true_and, and_true, take4_lt, dropL_eq]
  repeat first | refine ⟨by decide, ?_⟩ | refine ⟨rfl, ?_⟩
  kernel_rfl
end Go.Proofs.YtimjfjlaoekfkaaGreat

/- A step towards SessionValuesSaid: no conditions. -/

namespace Go.Proofs.YtimjfjlaoekfkaaGreat
open Go Go.Eng Go.Cod Go.Cha
theorem tmod_nat (x m : Nat) : ((x : Int).tmod (m : Int)) = ((x % m : Nat) : Int) := rfl
theorem nat_toNat (x : Nat) : ((x : Int)).toNat = x := rfl
theorem dec_nat (x y : Nat) : decide ((x : Int) = (y : Int)) = decide (x = y) := by
  rw [decide_eq_decide]; omega
theorem declt_nat (x y : Nat) : decide ((x : Int) < (y : Int)) = decide (x < y) := by
  rw [decide_eq_decide]; omega
theorem ofNat_add1 (x : Nat) : UInt32.ofNat x + UInt32.ofNat 1 = UInt32.ofNat (x + 1) := (UInt32.ofNat_add ..).symm
theorem padAt_succ (k n : List UInt8) (c : UInt32) (x : Nat) (h : x % 64 ≠ 0) : padAt k n c x = padAt k n c (x + 1) := by
  cases x with
  | zero => simp at h
  | succ x =>
    show block k (c + UInt32.ofNat (x / 64)) n = block k (c + UInt32.ofNat ((x + 1) / 64)) n
    rw [show x / 64 = (x + 1) / 64 by omega]
set_option maxRecDepth 100000 in
theorem conXor : Con Tryz.prog 64 gXor := con_of_vcs fun args ps res h hp => by
  unfold gXor at h
  split at h <;> cases h
  rename_i k c n m d
  obtain ⟨rfl, hp2⟩ := all_cons.1 hp
  have hd := (all_cons.1 hp2).1
  refine ⟨EX, 300, rfl, eok (gs := [(76, gBlock)]) ⟨conBlock, trivial⟩, ?_⟩
  refine Eq.mpr (vcXor k n d c) ?_
  simp only [io, true_and, and_true, dropL_zero, Nat.zero_add, Nat.le_refl, tmod_nat, dec_nat, declt_nat, nat_toNat]
  refine ⟨⟨0, by omega, ?_, rfl, rfl, rfl, rfl, rfl⟩, fun x hx => ⟨fun h1 => ?_, fun h1 => ?_⟩⟩
  · show c = c + UInt32.ofNat 0
    exact (UInt32.add_zero c).symm
  · have h1 := of_decide_eq_true h1
    refine ⟨⟨by omega, by omega⟩, by omega, by decide, fun h2 => ?_, fun h2 => ?_⟩
    · have h2 := of_decide_eq_true h2
      refine ⟨by decide, ⟨by omega, by omega⟩, by omega, by omega, inI_of (by omega) (by omega), x + 1, by omega, by omega, ?_, rfl, rfl, ?_, rfl, ?_⟩
      · rw [UInt32.add_assoc, ofNat_add1, show (x + 63) / 64 + 1 = (x + 1 + 63) / 64 by omega]
      · show block k (c + UInt32.ofNat ((x + 63) / 64)) n = block k (c + UInt32.ofNat (x / 64)) n
        rw [show (x + 63) / 64 = x / 64 by omega]
      · rw [show (x + 63) / 64 = x / 64 by omega]; rfl
    · have h2 := of_decide_eq_false h2
      have e := padAt_succ k n c x h2
      refine ⟨by decide, ⟨by omega, by omega⟩, by omega, by omega, inI_of (by omega) (by omega), x + 1, by omega, by omega, ?_, rfl, rfl, e, rfl, ?_⟩
      · rw [show (x + 63) / 64 = (x + 1 + 63) / 64 by omega]
      · rw [e]; rfl
  · have h1 := of_decide_eq_false h1
    have e : x = d.length := by omega
    rw [e]
    exact ⟨rfl, by rw [List.take_of_length_le (by rw [xorTo_len]; exact Nat.le_refl _)]; rfl⟩
end Go.Proofs.YtimjfjlaoekfkaaGreat

/- A step towards SessionValuesSaid: no conditions. -/

namespace Go.Proofs.YtimjfjlaoekfkaaGreat
open Go Go.Eng Go.Cod Go.Pol
abbrev extB : List (Nat × SpecF) := [(97, gAdd64), (100, gSub64)]
noncomputable def PE0 : Env := mkE Tryz.prog [] [] 2
noncomputable def PE1 : Env := mkE Tryz.prog [(106, gMul64)] [] 2 true extB
noncomputable def PE2 : Env := mkE Tryz.prog [(98, gProd), (99, gPlus), (89, gAddN)] [] 2 true extB
set_option maxRecDepth 100000 in
theorem vcMul64 (x y : UInt64) : (vcFn PE0 100 106 [.s (.u64 x), .s (.u64 y)] (.tup [.s (.u64 (u (x.toNat * y.toNat / D64))), .s (.u64 (u (x.toNat * y.toNat)))])) =
  (shr64 x 32 * shr64 y 32 + shr64 (shr64 x 32 * (y &&& UInt64.ofNat (nat_lit 4294967295)) + shr64 ((x &&& UInt64.ofNat (nat_lit 4294967295)) * (y &&& UInt64.ofNat (nat_lit 4294967295))) 32) 32 + shr64 ((shr64 x 32 * (y &&& UInt64.ofNat (nat_lit 4294967295)) + shr64 ((x &&& UInt64.ofNat (nat_lit 4294967295)) * (y &&& UInt64.ofNat (nat_lit 4294967295))) 32 &&& UInt64.ofNat (nat_lit 4294967295)) + (x &&& UInt64.ofNat (nat_lit 4294967295)) * shr64 y 32) 32 = u (x.toNat * y.toNat / D64) ∧ x * y = u (x.toNat * y.toNat) ∧ True) := by kernel_rfl
set_option maxRecDepth 100000 in
theorem vcProd (x y : UInt64) : (vcFn PE1 100 98 [.s (.u64 x), .s (.u64 y)] (.w (.agg [.one (.u64 (u (x.toNat * y.toNat / D64))), .one (.u64 (u (x.toNat * y.toNat)))]))) =
  (∀ y_1, y_1 = u (x.toNat * y.toNat / D64) → ∀ y_2, y_2 = u (x.toNat * y.toNat) → ∀ y_3, y_3 = y_1 → ∀ y_4, y_4 = y_2 → ∀ y_5, y_5 = y_3 → ∀ y_6, y_6 = y_4 → y_5 = u (x.toNat * y.toNat / D64) ∧ y_6 = u (x.toNat * y.toNat) ∧ True) := by kernel_rfl
set_option maxRecDepth 100000 in
theorem vcPlus (a b c d : UInt64) : (vcFn PE1 100 99 [.agg [.one (.u64 a), .one (.u64 b)], .agg [.one (.u64 c), .one (.u64 d)]] (.w (.agg [.one (.u64 (u ((b.toNat + D64 * a.toNat + (d.toNat + D64 * c.toNat)) / D64))), .one (.u64 (u (b.toNat + D64 * a.toNat + (d.toNat + D64 * c.toNat))))]))) =
  (0 ≤ 1 ∧ ∀ y, y = u (b.toNat + d.toNat + 0) → ∀ y_1, y_1 = u ((b.toNat + d.toNat + 0) / D64) → ∀ y_2, y_2 = y → ∀ y, y = y_1 → y.toNat ≤ 1 ∧ ∀ y_3, y_3 = u (a.toNat + c.toNat + y.toNat) → ∀ y_4, y_4 = u ((a.toNat + c.toNat + y.toNat) / D64) → ∀ y, y = y_3 → ∀ y_5, y_5 = y_4 → ∀ y_6, y_6 = y → ∀ y, y = y_2 → y_6 = u ((b.toNat + D64 * a.toNat + (d.toNat + D64 * c.toNat)) / D64) ∧ y = u (b.toNat + D64 * a.toNat + (d.toNat + D64 * c.toNat)) ∧ True) := by kernel_rfl
set_option maxRecDepth 100000 in
theorem vcAddN (l : List UInt64) (c d : UInt64) : (vcFn PE1 100 89 [.agg [.vec (.n 3) (.u64 l)], .agg [.one (.u64 c), .one (.u64 d)]] (.w (.agg [.vec (.n 3) (.u64 (w3 (val3 l + (d.toNat + D64 * c.toNat))))]))) =
  (∀ y, y = UInt64.ofNat (nat_lit 0) → 0 ≤ 1 ∧ ∀ y, y = u ((l.getD 0 (0 : UInt64)).toNat + d.toNat + 0) → ∀ y_1, y_1 = u (((l.getD 0 (0 : UInt64)).toNat + d.toNat + 0) / D64) → ∀ y_2, y_2 = l.set 0 y → ∀ y, y = y_1 → y.toNat ≤ 1 ∧ ∀ y_3, y_3 = u ((y_2.getD 1 (0 : UInt64)).toNat + c.toNat + y.toNat) → ∀ y_4, y_4 = u (((y_2.getD 1 (0 : UInt64)).toNat + c.toNat + y.toNat) / D64) → ∀ y, y = y_2.set 1 y_3 → ∀ y_5, y_5 = y_4 → ∀ y_6, y_6 = y.set 2 (y.getD 2 (0 : UInt64) + y_5) → ∀ y, y = y_6 → y = w3 (val3 l + (d.toNat + D64 * c.toNat)) ∧ True) := by kernel_rfl
set_option maxRecDepth 100000 in
theorem vcTimes (l : List UInt64) (r s : UInt64) : (vcFn PE2 100 90 [.agg [.vec (.n 3) (.u64 l)], .s (.u64 r), .s (.u64 s)] (.w (.agg [.vec (.n 3) (.u64 (w3 (red1 (val3 l * (r.toNat + D64 * s.toNat)))))]))) =
  (∀ y, y = u ((l.getD 0 (0 : UInt64)).toNat * r.toNat / D64) → ∀ y_1, y_1 = u ((l.getD 0 (0 : UInt64)).toNat * r.toNat) → ∀ y_2, y_2 = y → ∀ y, y = y_1 → ∀ y_3, y_3 = u ((l.getD 1 (0 : UInt64)).toNat * r.toNat / D64) → ∀ y_4, y_4 = u ((l.getD 1 (0 : UInt64)).toNat * r.toNat) → ∀ y_5, y_5 = u ((l.getD 0 (0 : UInt64)).toNat * s.toNat / D64) → ∀ y_6, y_6 = u ((l.getD 0 (0 : UInt64)).toNat * s.toNat) → ∀ y_7, y_7 = u ((y_4.toNat + D64 * y_3.toNat + (y_6.toNat + D64 * y_5.toNat)) / D64) → ∀ y_8, y_8 = u (y_4.toNat + D64 * y_3.toNat + (y_6.toNat + D64 * y_5.toNat)) → ∀ y_9, y_9 = y_7 → ∀ y_10, y_10 = y_8 → ∀ y_11, y_11 = u ((l.getD 2 (0 : UInt64)).toNat * r.toNat / D64) → ∀ y_12, y_12 = u ((l.getD 2 (0 : UInt64)).toNat * r.toNat) → ∀ y_13, y_13 = u ((l.getD 1 (0 : UInt64)).toNat * s.toNat / D64) → ∀ y_14, y_14 = u ((l.getD 1 (0 : UInt64)).toNat * s.toNat) → ∀ y_15, y_15 = u ((y_12.toNat + D64 * y_11.toNat + (y_14.toNat + D64 * y_13.toNat)) / D64) → ∀ y_16, y_16 = u (y_12.toNat + D64 * y_11.toNat + (y_14.toNat + D64 * y_13.toNat)) → ∀ y_17, y_17 = y_15 → ∀ y_18, y_18 = y_16 → ∀ y_19, y_19 = u ((l.getD 2 (0 : UInt64)).toNat * s.toNat / D64) → ∀ y_20, y_20 = u ((l.getD 2 (0 : UInt64)).toNat * s.toNat) → ∀ y_21, y_21 = y_19 → ∀ y_22, y_22 = y_20 → ∀ y_23, y_23 = y → 0 ≤ 1 ∧ ∀ y, y = u (y_10.toNat + y_2.toNat + 0) → ∀ y_24, y_24 = u ((y_10.toNat + y_2.toNat + 0) / D64) → ∀ y_25, y_25 = y → ∀ y, y = y_24 → y.toNat ≤ 1 ∧ ∀ y_26, y_26 = u (y_18.toNat + y_9.toNat + y.toNat) → ∀ y_27, y_27 = u ((y_18.toNat + y_9.toNat + y.toNat) / D64) → ∀ y, y = y_26 → ∀ y_28, y_28 = y_27 → y_28.toNat ≤ 1 ∧ ∀ y_29, y_29 = u (y_22.toNat + y_17.toNat + y_28.toNat) → ∀ y_30, y_30 = u ((y_22.toNat + y_17.toNat + y_28.toNat) / D64) → ∀ y_31, y_31 = y_29 → ∀ y_32, y_32 = y_30 → ∀ y_33, y_33 = w3 (val3 [y_23, y_25, y &&& UInt64.ofNat (nat_lit 3)] + ((y &&& ~~~UInt64.ofNat (nat_lit 3)).toNat + D64 * y_31.toNat)) → ∀ y_34, y_34 = y_33 → ∀ y_35, y_35 = w3 (val3 y_34 + ((shl64 y_31 62 ||| shr64 y 2).toNat + D64 * (shr64 y_31 2).toNat)) → ∀ y, y = y_35 → y = w3 (red1 (val3 l * (r.toNat + D64 * s.toNat))) ∧ True) := by kernel_rfl
set_option maxRecDepth 100000 in
theorem vcReduced (l : List UInt64) : (vcFn PE1 100 91 [.agg [.vec (.n 3) (.u64 l)]] (.w (.agg [.vec (.n 3) (.u64 (w3 (if val3 l < P130 then val3 l else val3 l - P130)))]))) =
  (0 ≤ 1 ∧ ∀ y, y = u ((l.getD 0 (0 : UInt64)).toNat + D64 - 18446744073709551611 - 0) → ∀ y_1, y_1 = u (if (l.getD 0 (0 : UInt64)).toNat < 18446744073709551611 then 1 else 0) → ∀ y_2, y_2 = y → ∀ y, y = y_1 → y.toNat ≤ 1 ∧ ∀ y_3, y_3 = u ((l.getD 1 (0 : UInt64)).toNat + D64 - 18446744073709551615 - y.toNat) → ∀ y_4, y_4 = u (if (l.getD 1 (0 : UInt64)).toNat < 18446744073709551615 + y.toNat then 1 else 0) → ∀ y, y = y_3 → ∀ y_5, y_5 = y_4 → y_5.toNat ≤ 1 ∧ ∀ y_6, y_6 = u ((l.getD 2 (0 : UInt64)).toNat + D64 - 3 - y_5.toNat) → ∀ y_7, y_7 = u (if (l.getD 2 (0 : UInt64)).toNat < 3 + y_5.toNat then 1 else 0) → ∀ y_8, y_8 = y_6 → ∀ y_9, y_9 = y_7 → ((y_9 == UInt64.ofNat (nat_lit 1)) = true → ∀ y, y = l → y = w3 (if val3 l < P130 then val3 l else val3 l - P130) ∧ True) ∧ ((y_9 == UInt64.ofNat (nat_lit 1)) = false → ∀ y_10, y_10 = [y_2, y, y_8] → y_10 = w3 (if val3 l < P130 then val3 l else val3 l - P130) ∧ True)) := by kernel_rfl
end Go.Proofs.YtimjfjlaoekfkaaGreat

/- A step towards SessionValuesSaid: no conditions. -/

namespace Go.Proofs.YtimjfjlaoekfkaaGreat
open Go Go.Eng Go.Cod Go.Pol
noncomputable def PEs : Env := mkE Tryz.prog [(87, gReadL), (67, gLittleN), (66, gJoin), (89, gAddN), (90, gTimes), (91, gReduced)] [(0, JPoly)] 2 true extB
set_option maxRecDepth 100000 in
theorem vcPoly (k d : List UInt8) : (vcFn PEs 200 77 [.agg [.vec (.n 32) (.u8 k)], .s (.xs 1 (.s d.length) (.u8 d))] (.w (.agg [.vec (.n 16) (.u8 (polyL k d))]))) =
  (8 ≤ 32 ∧ (List.take 8 k).length = (List.take 8 k).length ∧ (List.take 8 k).length < 4611686018427387904 ∧ ∀ y, y = readL (List.take 8 k) → ∀ y_1, y_1 = y &&& UInt64.ofNat (nat_lit 1152921487695413247) → 16 ≤ 32 ∧ (List.take 8 (dropL k 8)).length = (List.take 8 (dropL k 8)).length ∧ (List.take 8 (dropL k 8)).length < 4611686018427387904 ∧ ∀ y, y = readL (List.take 8 (dropL k 8)) → ∀ y_2, y_2 = y &&& UInt64.ofNat (nat_lit 1152921487695413244) → (∃ (x : Nat), x ≤ nbP d ∧ d.length = (List.drop (16 * x) d).length ∧ d = List.drop (16 * x) d ∧ y_1 = y_1 ∧ y_2 = y_2 ∧ k = k ∧ List.replicate 16 (0 : UInt8) = List.replicate 16 (0 : UInt8) ∧ List.replicate 3 (0 : UInt64) = w3 (hN (y_1.toNat + D64 * y_2.toNat) d x) ∧ True) ∧ ∀ (x : Nat), x ≤ nbP d → ∀ y, y = (↑(List.drop (16 * x) d).length : Int) → (decide (Int.ofNat 0 < y) = true → ∀ y, y = (↑(List.drop (16 * x) d).length : Int) → ∀ y_3, y_3 = min y (Int.ofNat 16) → ∀ y, y = y_3 → ((0 : Int) ≤ y ∧ y ≤ (↑(List.drop (16 * x) d).length : Int)) ∧ 0 + (List.take 24 (List.take y.toNat (List.drop (16 * x) d))).length ≤ 24 ∧ ∀ y_4, y_4 = over (List.replicate 24 (0 : UInt8)) 0 (List.take 24 (List.take y.toNat (List.drop (16 * x) d))) → ((0 : Int) ≤ y ∧ y < (↑(24 : Nat) : Int)) ∧ y.toNat < 24 ∧ ∀ y_5, y_5 = y_4.set y.toNat (UInt8.ofNat (nat_lit 1)) → ((0 : Int) ≤ y ∧ y ≤ (↑(List.drop (16 * x) d).length : Int)) ∧ 16 ≤ 24 ∧ (List.take 8 (dropL y_5 8)).length = (List.take 8 (dropL y_5 8)).length ∧ (List.take 8 (dropL y_5 8)).length < 4611686018427387904 ∧ ∀ y_6, y_6 = readL (List.take 8 (dropL y_5 8)) → 8 ≤ 24 ∧ (List.take 8 y_5).length = (List.take 8 y_5).length ∧ (List.take 8 y_5).length < 4611686018427387904 ∧ ∀ y_7, y_7 = readL (List.take 8 y_5) → ∀ y_8, y_8 = w3 (val3 (w3 (hN (y_1.toNat + D64 * y_2.toNat) d x)) + (y_7.toNat + D64 * y_6.toNat)) → ∀ y_9, y_9 = y_8 → 24 ≤ 24 ∧ (List.take 8 (dropL y_5 16)).length = (List.take 8 (dropL y_5 16)).length ∧ (List.take 8 (dropL y_5 16)).length < 4611686018427387904 ∧ ∀ y_10, y_10 = readL (List.take 8 (dropL y_5 16)) → ∀ y_11, y_11 = y_9.set 2 (y_9.getD 2 (0 : UInt64) + y_10) → val3 y_11 < 2722258935367507707706996859454145691648 ∧ y_1.toNat < 1152921504606846976 ∧ y_2.toNat < 1152921504606846976 ∧ ∀ y_12, y_12 = w3 (red1 (val3 y_11 * (y_1.toNat + D64 * y_2.toNat))) → ∀ y_13, y_13 = y_12 → ∃ (y_14 : Nat), y_14 ≤ nbP d ∧ nbP d - y_14 < nbP d - x ∧ (List.drop (16 * x) d).length - y.toNat = (List.drop (16 * y_14) d).length ∧ List.drop y.toNat (List.drop (16 * x) d) = List.drop (16 * y_14) d ∧ y_1 = y_1 ∧ y_2 = y_2 ∧ k = k ∧ List.replicate 16 (0 : UInt8) = List.replicate 16 (0 : UInt8) ∧ y_13 = w3 (hN (y_1.toNat + D64 * y_2.toNat) d y_14) ∧ True) ∧ (decide (Int.ofNat 0 < y) = false → ∀ y, y = w3 (if val3 (w3 (hN (y_1.toNat + D64 * y_2.toNat) d x)) < P130 then val3 (w3 (hN (y_1.toNat + D64 * y_2.toNat) d x)) else val3 (w3 (hN (y_1.toNat + D64 * y_2.toNat) d x)) - P130) → 32 ≤ 32 ∧ (List.take 8 (dropL k 24)).length = (List.take 8 (dropL k 24)).length ∧ (List.take 8 (dropL k 24)).length < 4611686018427387904 ∧ ∀ y_3, y_3 = readL (List.take 8 (dropL k 24)) → 24 ≤ 32 ∧ (List.take 8 (dropL k 16)).length = (List.take 8 (dropL k 16)).length ∧ (List.take 8 (dropL k 16)).length < 4611686018427387904 ∧ ∀ y_4, y_4 = readL (List.take 8 (dropL k 16)) → ∀ y_5, y_5 = w3 (val3 y + (y_4.toNat + D64 * y_3.toNat)) → ∀ y, y = y_5 → ∀ y_6, y_6 = [(shr64 (y.getD 0 (0 : UInt64)) 0).toUInt8, (shr64 (y.getD 0 (0 : UInt64)) 8).toUInt8, (shr64 (y.getD 0 (0 : UInt64)) 16).toUInt8, (shr64 (y.getD 0 (0 : UInt64)) 24).toUInt8, (shr64 (y.getD 0 (0 : UInt64)) 32).toUInt8, (shr64 (y.getD 0 (0 : UInt64)) 40).toUInt8, (shr64 (y.getD 0 (0 : UInt64)) 48).toUInt8, (shr64 (y.getD 0 (0 : UInt64)) 56).toUInt8] → ∀ y_7, y_7 = [(shr64 (y.getD 1 (0 : UInt64)) 0).toUInt8, (shr64 (y.getD 1 (0 : UInt64)) 8).toUInt8, (shr64 (y.getD 1 (0 : UInt64)) 16).toUInt8, (shr64 (y.getD 1 (0 : UInt64)) 24).toUInt8, (shr64 (y.getD 1 (0 : UInt64)) 32).toUInt8, (shr64 (y.getD 1 (0 : UInt64)) 40).toUInt8, (shr64 (y.getD 1 (0 : UInt64)) 48).toUInt8, (shr64 (y.getD 1 (0 : UInt64)) 56).toUInt8] → [y_6, y_7].length = 2 ∧ 2 < 4611686018427387904 ∧ [y_6, y_7].flatten.length ≤ 4294967296 ∧ ∀ y, y = [y_6, y_7].flatten → 16 ≤ [y_6, y_7].flatten.length ∧ 16 ≤ [y_6, y_7].flatten.length ∧ ∀ y_8, y_8 = List.take 16 y → y_8 = polyL k d ∧ True)) := by kernel_rfl
end Go.Proofs.YtimjfjlaoekfkaaGreat
