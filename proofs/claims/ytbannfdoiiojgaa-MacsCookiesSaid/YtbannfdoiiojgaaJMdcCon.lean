/- Steps towards MacsCookiesSaid. -/
import Derived.Test.YtbannfdoiiojgaaJBlrCon
import Derived.Test.YtbannfdoiiojgaaJCodVc
import Derived.Test.YtbannfdoiiojgaaJPsmSpec
import Derived.Test.YtbannfdoiiojgaaBase
import Derived.Test.YtbannfdoiiojgaaJMdcSpec
/- A step towards MacsCookiesSaid: no conditions. -/
namespace Go.Proofs.Ytbannfdoiiojgaa
open Go Go.Eng Go.Cod Go.Msg
theorem k8 {x : UInt8} {n : Nat} (hn : n < 256) : ((x.toNat : Int) = (n : Int)) = (x = UInt8.ofNat n) := by
  apply propext
  constructor
  · intro h
    have h : x.toNat = n := by omega
    rw [← UInt8.toNat_inj, UInt8.toNat_ofNat_of_lt' hn]; exact h
  · intro h
    rw [h, UInt8.toNat_ofNat_of_lt' hn]
theorem kind_zero {b : List UInt8} (h : ¬(b.length < 4 ∨ b.getD 1 0 ≠ 0 ∨ b.getD 2 0 ≠ 0 ∨ b.getD 3 0 ≠ 0) → ¬((b.getD 0 0 = 1 ∧ b.length = 148) ∨ (b.getD 0 0 = 2 ∧ b.length = 92) ∨ (b.getD 0 0 = 3 ∧ b.length = 64) ∨ (b.getD 0 0 = 4 ∧ 32 ≤ b.length ∧ b.length ≤ 2100))) : ((0 : Nat) : Int) = kindL b := by
  unfold kindL
  split
  · rfl
  · rename_i h1
    rw [if_neg (h h1)]; rfl
theorem kind_some {b : List UInt8} (h : ¬(b.length < 4 ∨ b.getD 1 0 ≠ 0 ∨ b.getD 2 0 ≠ 0 ∨ b.getD 3 0 ≠ 0)) (h2 : ((b.getD 0 0 = 1 ∧ b.length = 148) ∨ (b.getD 0 0 = 2 ∧ b.length = 92) ∨ (b.getD 0 0 = 3 ∧ b.length = 64) ∨ (b.getD 0 0 = 4 ∧ 32 ≤ b.length ∧ b.length ≤ 2100))) : ((b.getD 0 0).toNat : Int) = kindL b := by
  unfold kindL
  rw [if_neg h, if_pos h2]
/-- what a kind tells of the length -/
theorem kind_len {b : List UInt8} : (kindL b = 1 → b.length = 148) ∧ (kindL b = 2 → b.length = 92) ∧ (kindL b = 3 → b.length = 64) ∧ (kindL b = 4 → 32 ≤ b.length ∧ b.length ≤ 2100) := by
  unfold kindL
  split
  · refine ⟨fun h => ?_, fun h => ?_, fun h => ?_, fun h => ?_⟩ <;> cases h
  · split
    · rename_i h2
      generalize b.getD 0 0 = x at *
      generalize b.length = n at *
      rcases h2 with ⟨rfl, h⟩ | ⟨rfl, h⟩ | ⟨rfl, h⟩ | ⟨rfl, h⟩
      · exact ⟨fun _ => h, fun h => absurd h (by decide), fun h => absurd h (by decide), fun h => absurd h (by decide)⟩
      · exact ⟨fun h => absurd h (by decide), fun _ => h, fun h => absurd h (by decide), fun h => absurd h (by decide)⟩
      · exact ⟨fun h => absurd h (by decide), fun h => absurd h (by decide), fun _ => h, fun h => absurd h (by decide)⟩
      · exact ⟨fun h => absurd h (by decide), fun h => absurd h (by decide), fun h => absurd h (by decide), fun _ => h⟩
    · refine ⟨fun h => ?_, fun h => ?_, fun h => ?_, fun h => ?_⟩ <;> cases h
theorem ofN0 : UInt8.ofNat 0 = (0 : UInt8) := rfl
theorem ofN1 : UInt8.ofNat 1 = (1 : UInt8) := rfl
theorem ofN2 : UInt8.ofNat 2 = (2 : UInt8) := rfl
theorem ofN3 : UInt8.ofNat 3 = (3 : UInt8) := rfl
theorem ofN4 : UInt8.ofNat 4 = (4 : UInt8) := rfl
set_option maxRecDepth 100000 in
set_option maxHeartbeats 4000000 in
theorem conKind : Con Try.prog 60 gKind := con_of_vcl fun args ps res h hp hlen => by
  unfold gKind at h
  split at h <;> cases h
  rename_i m b
  obtain ⟨rfl, hp2⟩ := all_cons.1 hp
  have hl := (all_cons.1 hp2).1
  refine ⟨MEk, 100, rfl, eok (gs := []) trivial, ?_⟩
  rw [vcKind b]
  have z := @kind_zero b
  have s := @kind_some b
  simp only [true_and, and_true, io, decide_eq_true_eq, decide_eq_false_iff_not, k8 (show 1 < 256 by decide), k8 (show 2 < 256 by decide), k8 (show 3 < 256 by decide), k8 (show 4 < 256 by decide), ofN0, ofN1, ofN2, ofN3, ofN4, bne_iff_ne, bne_eq_false_iff_eq, ne_eq]
  generalize kindL b = K at *
  generalize b.getD 0 0 = x0 at *
  generalize b.getD 1 0 = x1 at *
  generalize b.getD 2 0 = x2 at *
  generalize b.getD 3 0 = x3 at *
  generalize b.length = n at *
  repeat' first | (apply And.intro) | intro
  all_goals first | omega | grind
set_option maxRecDepth 100000 in
set_option maxHeartbeats 4000000 in
theorem conKindR : Con Try.prog 67 gKind := con_of_vcl fun args ps res h hp hlen => by
  unfold gKind at h
  split at h <;> cases h
  rename_i m b
  obtain ⟨rfl, hp2⟩ := all_cons.1 hp
  have hl := (all_cons.1 hp2).1
  refine ⟨MEk, 100, rfl, eok (gs := []) trivial, ?_⟩
  rw [vcKindR b]
  have z := @kind_zero b
  have s := @kind_some b
  simp only [true_and, and_true, io, decide_eq_true_eq, decide_eq_false_iff_not, ofN0, ofN1, ofN2, ofN3, ofN4, bne_iff_ne, bne_eq_false_iff_eq, beq_iff_eq, beq_eq_false_iff_ne, ne_eq]
  generalize kindL b = K at *
  generalize b.getD 0 0 = x0 at *
  generalize b.getD 1 0 = x1 at *
  generalize b.getD 2 0 = x2 at *
  generalize b.getD 3 0 = x3 at *
  generalize b.length = n at *
  repeat' first | (apply And.intro) | intro
  all_goals first | omega | grind
theorem dropL_eq {α : Type} (l : List α) (i : Nat) : dropL l i = l.drop i := by cases i <;> rfl
theorem fld_no {k : Int} {b : List UInt8} (h : kindL b ≠ k) : fld32 k b = (fun _ => 0) ∧ fld64 k b = (fun _ => 0) ∧ fld k b = (fun _ n => List.replicate n 0) ∧ fldR k b = (fun _ => []) ∧ decE k b = 4 :=
  ⟨funext fun _ => if_neg h, funext fun _ => if_neg h, funext fun _ => funext fun _ => if_neg h, funext fun _ => if_neg h, if_neg h⟩
theorem fld_yes {k : Int} {b : List UInt8} (h : kindL b = k) : (∀ o, fld32 k b o = (readL ((b.drop o).take 4)).toUInt32) ∧ (∀ o, fld64 k b o = readL ((b.drop o).take 8)) ∧ (∀ o n, fld k b o n = (b.drop o).take n) ∧ (∀ o, fldR k b o = b.drop o) ∧ decE k b = 0 :=
  ⟨fun _ => if_pos h, fun _ => if_pos h, fun _ _ => if_pos h, fun _ => if_pos h, if_pos h⟩
theorem over_all {z : List UInt8} {l : List UInt8} (h : z.length = l.length) : over z 0 l = l := by
  unfold over
  rw [List.take_zero, List.nil_append, List.drop_of_length_le (by omega), List.append_nil]
set_option maxRecDepth 100000 in
theorem conN32 : Con Try.prog 83 gN32 := con_of_vcl fun args ps res h hp hlen => by
  unfold gN32 at h
  split at h <;> cases h
  rename_i m b
  obtain ⟨rfl, hp2⟩ := all_cons.1 hp
  have hl := (all_cons.1 hp2).1
  refine ⟨MEn, 100, rfl, eok (gs := [(97, gReadL)]) ⟨conReadLr, trivial⟩, ?_⟩
  rw [vcN32 b]
  exact ⟨hl, rfl, by rw [List.length_take]; omega, rfl, trivial⟩
set_option maxRecDepth 100000 in
set_option maxHeartbeats 4000000 in
theorem conDInit : Con Try.prog 29 (gDec dInit) := con_of_vcl fun args ps res h hp hlen => by
  unfold gDec at h
  split at h <;> cases h
  rename_i m b
  obtain ⟨rfl, hp2⟩ := all_cons.1 hp
  have hl := (all_cons.1 hp2).1
  refine ⟨MEd, 100, rfl, eok (gs := [(85, gReadL), (60, gKind)]) ⟨conReadL, conKind, trivial⟩, ?_⟩
  show vcFn _ _ _ _ (dInit b)
  rw [vcDInit b]
  have kn : ((1 : Nat) : Int) = 1 := rfl
  simp only [forall_eq, true_and, and_true, io, decide_eq_true_eq, decide_eq_false_iff_not, dropL_eq, Nat.zero_add, Nat.sub_zero, List.drop_drop, List.take_take, List.length_take, List.length_drop, List.drop_zero, List.nil_append, ne_eq, Decidable.not_not, kn]
  refine ⟨hl, fun hne => ?_, fun he => ?_⟩
  · obtain ⟨e1, e2, e3, e4, e5⟩ := fld_no hne
    simp only [e1, e2, e3, e4, e5]
    simp
  · obtain ⟨e1, e2, e3, e4, e5⟩ := fld_yes he
    have hk := kind_len (b := b)
    have hn := hk.1 he
    simp only [e1, e2, e3, e4, e5]
    repeat rw [over_all (by rw [List.length_take, List.length_drop, List.length_replicate]; omega)]
    and_intros
    all_goals first | omega | rfl | (rw [List.take_of_length_le (by rw [List.length_drop]; omega)]) | (simp; done) | (simp; omega)
set_option maxRecDepth 100000 in
set_option maxHeartbeats 4000000 in
theorem conDResp : Con Try.prog 30 (gDec dResp) := con_of_vcl fun args ps res h hp hlen => by
  unfold gDec at h
  split at h <;> cases h
  rename_i m b
  obtain ⟨rfl, hp2⟩ := all_cons.1 hp
  have hl := (all_cons.1 hp2).1
  refine ⟨MEd, 100, rfl, eok (gs := [(85, gReadL), (60, gKind)]) ⟨conReadL, conKind, trivial⟩, ?_⟩
  show vcFn _ _ _ _ (dResp b)
  rw [vcDResp b]
  have kn : ((2 : Nat) : Int) = 2 := rfl
  simp only [forall_eq, true_and, and_true, io, decide_eq_true_eq, decide_eq_false_iff_not, dropL_eq, Nat.zero_add, Nat.sub_zero, List.drop_drop, List.take_take, List.length_take, List.length_drop, List.drop_zero, List.nil_append, ne_eq, Decidable.not_not, kn]
  refine ⟨hl, fun hne => ?_, fun he => ?_⟩
  · obtain ⟨e1, e2, e3, e4, e5⟩ := fld_no hne
    simp only [e1, e2, e3, e4, e5]
    simp
  · obtain ⟨e1, e2, e3, e4, e5⟩ := fld_yes he
    have hk := kind_len (b := b)
    have hn := hk.2.1 he
    simp only [e1, e2, e3, e4, e5]
    repeat rw [over_all (by rw [List.length_take, List.length_drop, List.length_replicate]; omega)]
    and_intros
    all_goals first | omega | rfl | (rw [List.take_of_length_le (by rw [List.length_drop]; omega)]) | (simp; done) | (simp; omega)
set_option maxRecDepth 100000 in
set_option maxHeartbeats 4000000 in
theorem conDCook : Con Try.prog 56 (gDec dCook) := con_of_vcl fun args ps res h hp hlen => by
  unfold gDec at h
  split at h <;> cases h
  rename_i m b
  obtain ⟨rfl, hp2⟩ := all_cons.1 hp
  have hl := (all_cons.1 hp2).1
  refine ⟨MEd, 100, rfl, eok (gs := [(85, gReadL), (60, gKind)]) ⟨conReadL, conKind, trivial⟩, ?_⟩
  show vcFn _ _ _ _ (dCook b)
  rw [vcDCook b]
  have kn : ((3 : Nat) : Int) = 3 := rfl
  simp only [forall_eq, true_and, and_true, io, decide_eq_true_eq, decide_eq_false_iff_not, dropL_eq, Nat.zero_add, Nat.sub_zero, List.drop_drop, List.take_take, List.length_take, List.length_drop, List.drop_zero, List.nil_append, ne_eq, Decidable.not_not, kn]
  refine ⟨hl, fun hne => ?_, fun he => ?_⟩
  · obtain ⟨e1, e2, e3, e4, e5⟩ := fld_no hne
    simp only [e1, e2, e3, e4, e5]
    simp
  · obtain ⟨e1, e2, e3, e4, e5⟩ := fld_yes he
    have hk := kind_len (b := b)
    have hn := hk.2.2.1 he
    simp only [e1, e2, e3, e4, e5]
    repeat rw [over_all (by rw [List.length_take, List.length_drop, List.length_replicate]; omega)]
    and_intros
    all_goals first | omega | rfl | (rw [List.take_of_length_le (by rw [List.length_drop]; omega)]) | (simp; done) | (simp; omega)
set_option maxRecDepth 100000 in
set_option maxHeartbeats 4000000 in
theorem conDCookR : Con Try.prog 58 (gDec dCook) := con_of_vcl fun args ps res h hp hlen => by
  unfold gDec at h
  split at h <;> cases h
  rename_i m b
  obtain ⟨rfl, hp2⟩ := all_cons.1 hp
  have hl := (all_cons.1 hp2).1
  refine ⟨MEr, 100, rfl, eok (gs := [(97, gReadL), (83, gN32), (67, gKind)]) ⟨conReadLr, conN32, conKindR, trivial⟩, ?_⟩
  show vcFn _ _ _ _ (dCook b)
  rw [vcDCookR b]
  have kn : ((3 : Nat) : Int) = 3 := rfl
  simp only [forall_eq, true_and, and_true, io, decide_eq_true_eq, decide_eq_false_iff_not, dropL_eq, Nat.zero_add, Nat.sub_zero, List.drop_drop, List.take_take, List.length_take, List.length_drop, List.drop_zero, List.nil_append, ne_eq, Decidable.not_not, kn]
  refine ⟨hl, fun hne => ?_, fun he => ?_⟩
  · obtain ⟨e1, e2, e3, e4, e5⟩ := fld_no hne
    simp only [e1, e2, e3, e4, e5]
    simp
  · obtain ⟨e1, e2, e3, e4, e5⟩ := fld_yes he
    have hk := kind_len (b := b)
    have hn := hk.2.2.1 he
    simp only [e1, e2, e3, e4, e5]
    repeat rw [over_all (by rw [List.length_take, List.length_drop, List.length_replicate]; omega)]
    and_intros
    all_goals first | omega | rfl | (rw [List.take_of_length_le (by rw [List.length_drop]; omega)]) | (simp; done) | (simp; omega)
end Go.Proofs.Ytbannfdoiiojgaa

/- A step towards MacsCookiesSaid: no conditions. -/
namespace Go.Proofs.Ytbannfdoiiojgaa
open Go Go.Eng Go.Cod Go.Cha Go.Pol Go.Aed Go.Xc
noncomputable def XCd : Env := mkE Try.prog [(85, gReadL), (73, gLittleN), (106, gCore)] [] 18 true
noncomputable def XCi : Env := mkE Try.prog [(94, gDerive), (42, gJoin)] [] 10 true
noncomputable def XCs : Env := mkE Try.prog [(80, gInside), (81, gSeal), (82, gOpen)] [] 10 true
set_option maxRecDepth 100000 in
theorem vcDerive (k i : List UInt8) : (vcFn XCd 300 94 [.agg [.vec (.n 32) (.u8 k)], .agg [.vec (.n 16) (.u8 i)]] (.w (.agg [.vec (.n 32) (.u8 (deriveL k i))]))) =
  (∀ (y : List UInt32), y = [UInt32.ofNat (nat_lit 1634760805), UInt32.ofNat (nat_lit 857760878), UInt32.ofNat (nat_lit 2036477234), UInt32.ofNat (nat_lit 1797285236), (0 : UInt32), (0 : UInt32), (0 : UInt32), (0 : UInt32), (0 : UInt32), (0 : UInt32), (0 : UInt32), (0 : UInt32), (0 : UInt32), (0 : UInt32), (0 : UInt32), (0 : UInt32)] → (4 : Nat) ≤ (32 : Nat) ∧ (List.take (4 : Nat) k).length = (List.take (4 : Nat) k).length ∧ (List.take (4 : Nat) k).length < (4611686018427387904 : Nat) ∧ ∀ (y_1 : UInt64), y_1 = readL (List.take (4 : Nat) k) → ∀ (y_2 : List UInt32), y_2 = y.set (4 : Nat) y_1.toUInt32 → (8 : Nat) ≤ (32 : Nat) ∧ (List.take (4 : Nat) (dropL k (4 : Nat))).length = (List.take (4 : Nat) (dropL k (4 : Nat))).length ∧ (List.take (4 : Nat) (dropL k (4 : Nat))).length < (4611686018427387904 : Nat) ∧ ∀ (y : UInt64), y = readL (List.take (4 : Nat) (dropL k (4 : Nat))) → ∀ (y_3 : List UInt32), y_3 = y_2.set (5 : Nat) y.toUInt32 → (12 : Nat) ≤ (32 : Nat) ∧ (List.take (4 : Nat) (dropL k (8 : Nat))).length = (List.take (4 : Nat) (dropL k (8 : Nat))).length ∧ (List.take (4 : Nat) (dropL k (8 : Nat))).length < (4611686018427387904 : Nat) ∧ ∀ (y : UInt64), y = readL (List.take (4 : Nat) (dropL k (8 : Nat))) → ∀ (y_4 : List UInt32), y_4 = y_3.set (6 : Nat) y.toUInt32 → (16 : Nat) ≤ (32 : Nat) ∧ (List.take (4 : Nat) (dropL k (12 : Nat))).length = (List.take (4 : Nat) (dropL k (12 : Nat))).length ∧ (List.take (4 : Nat) (dropL k (12 : Nat))).length < (4611686018427387904 : Nat) ∧ ∀ (y : UInt64), y = readL (List.take (4 : Nat) (dropL k (12 : Nat))) → ∀ (y_5 : List UInt32), y_5 = y_4.set (7 : Nat) y.toUInt32 → (20 : Nat) ≤ (32 : Nat) ∧ (List.take (4 : Nat) (dropL k (16 : Nat))).length = (List.take (4 : Nat) (dropL k (16 : Nat))).length ∧ (List.take (4 : Nat) (dropL k (16 : Nat))).length < (4611686018427387904 : Nat) ∧ ∀ (y : UInt64), y = readL (List.take (4 : Nat) (dropL k (16 : Nat))) → ∀ (y_6 : List UInt32), y_6 = y_5.set (8 : Nat) y.toUInt32 → (24 : Nat) ≤ (32 : Nat) ∧ (List.take (4 : Nat) (dropL k (20 : Nat))).length = (List.take (4 : Nat) (dropL k (20 : Nat))).length ∧ (List.take (4 : Nat) (dropL k (20 : Nat))).length < (4611686018427387904 : Nat) ∧ ∀ (y : UInt64), y = readL (List.take (4 : Nat) (dropL k (20 : Nat))) → ∀ (y_7 : List UInt32), y_7 = y_6.set (9 : Nat) y.toUInt32 → (28 : Nat) ≤ (32 : Nat) ∧ (List.take (4 : Nat) (dropL k (24 : Nat))).length = (List.take (4 : Nat) (dropL k (24 : Nat))).length ∧ (List.take (4 : Nat) (dropL k (24 : Nat))).length < (4611686018427387904 : Nat) ∧ ∀ (y : UInt64), y = readL (List.take (4 : Nat) (dropL k (24 : Nat))) → ∀ (y_8 : List UInt32), y_8 = y_7.set (10 : Nat) y.toUInt32 → (32 : Nat) ≤ (32 : Nat) ∧ (List.take (4 : Nat) (dropL k (28 : Nat))).length = (List.take (4 : Nat) (dropL k (28 : Nat))).length ∧ (List.take (4 : Nat) (dropL k (28 : Nat))).length < (4611686018427387904 : Nat) ∧ ∀ (y : UInt64), y = readL (List.take (4 : Nat) (dropL k (28 : Nat))) → ∀ (y_9 : List UInt32), y_9 = y_8.set (11 : Nat) y.toUInt32 → (4 : Nat) ≤ (16 : Nat) ∧ (List.take (4 : Nat) i).length = (List.take (4 : Nat) i).length ∧ (List.take (4 : Nat) i).length < (4611686018427387904 : Nat) ∧ ∀ (y : UInt64), y = readL (List.take (4 : Nat) i) → ∀ (y_10 : List UInt32), y_10 = y_9.set (12 : Nat) y.toUInt32 → (8 : Nat) ≤ (16 : Nat) ∧ (List.take (4 : Nat) (dropL i (4 : Nat))).length = (List.take (4 : Nat) (dropL i (4 : Nat))).length ∧ (List.take (4 : Nat) (dropL i (4 : Nat))).length < (4611686018427387904 : Nat) ∧ ∀ (y : UInt64), y = readL (List.take (4 : Nat) (dropL i (4 : Nat))) → ∀ (y_11 : List UInt32), y_11 = y_10.set (13 : Nat) y.toUInt32 → (12 : Nat) ≤ (16 : Nat) ∧ (List.take (4 : Nat) (dropL i (8 : Nat))).length = (List.take (4 : Nat) (dropL i (8 : Nat))).length ∧ (List.take (4 : Nat) (dropL i (8 : Nat))).length < (4611686018427387904 : Nat) ∧ ∀ (y : UInt64), y = readL (List.take (4 : Nat) (dropL i (8 : Nat))) → ∀ (y_12 : List UInt32), y_12 = y_11.set (14 : Nat) y.toUInt32 → (16 : Nat) ≤ (16 : Nat) ∧ (List.take (4 : Nat) (dropL i (12 : Nat))).length = (List.take (4 : Nat) (dropL i (12 : Nat))).length ∧ (List.take (4 : Nat) (dropL i (12 : Nat))).length < (4611686018427387904 : Nat) ∧ ∀ (y : UInt64), y = readL (List.take (4 : Nat) (dropL i (12 : Nat))) → ∀ (y_13 : List UInt32), y_13 = y_12.set (15 : Nat) y.toUInt32 → y_13.length = (16 : Nat) ∧ ∀ (y : List UInt32), y = coreL y_13 → ∀ (y_14 : List UInt32), y_14 = y → ∀ (y : List UInt8), y = [(shr64 (y_14.getD (0 : Nat) (0 : UInt32)).toUInt64 (0 : Nat)).toUInt8, (shr64 (y_14.getD (0 : Nat) (0 : UInt32)).toUInt64 (8 : Nat)).toUInt8, (shr64 (y_14.getD (0 : Nat) (0 : UInt32)).toUInt64 (16 : Nat)).toUInt8, (shr64 (y_14.getD (0 : Nat) (0 : UInt32)).toUInt64 (24 : Nat)).toUInt8] → (4 : Nat) ≤ (32 : Nat) ∧ ∀ (y_15 : List UInt8), y_15 = over (List.replicate (32 : Nat) (0 : UInt8)) (0 : Nat) y → ∀ (y : List UInt8), y = [(shr64 (y_14.getD (12 : Nat) (0 : UInt32)).toUInt64 (0 : Nat)).toUInt8, (shr64 (y_14.getD (12 : Nat) (0 : UInt32)).toUInt64 (8 : Nat)).toUInt8, (shr64 (y_14.getD (12 : Nat) (0 : UInt32)).toUInt64 (16 : Nat)).toUInt8, (shr64 (y_14.getD (12 : Nat) (0 : UInt32)).toUInt64 (24 : Nat)).toUInt8] → (20 : Nat) ≤ (32 : Nat) ∧ ∀ (y_16 : List UInt8), y_16 = over y_15 (16 : Nat) y → ∀ (y : List UInt8), y = [(shr64 (y_14.getD (1 : Nat) (0 : UInt32)).toUInt64 (0 : Nat)).toUInt8, (shr64 (y_14.getD (1 : Nat) (0 : UInt32)).toUInt64 (8 : Nat)).toUInt8, (shr64 (y_14.getD (1 : Nat) (0 : UInt32)).toUInt64 (16 : Nat)).toUInt8, (shr64 (y_14.getD (1 : Nat) (0 : UInt32)).toUInt64 (24 : Nat)).toUInt8] → (8 : Nat) ≤ (32 : Nat) ∧ ∀ (y_17 : List UInt8), y_17 = over y_16 (4 : Nat) y → ∀ (y : List UInt8), y = [(shr64 (y_14.getD (13 : Nat) (0 : UInt32)).toUInt64 (0 : Nat)).toUInt8, (shr64 (y_14.getD (13 : Nat) (0 : UInt32)).toUInt64 (8 : Nat)).toUInt8, (shr64 (y_14.getD (13 : Nat) (0 : UInt32)).toUInt64 (16 : Nat)).toUInt8, (shr64 (y_14.getD (13 : Nat) (0 : UInt32)).toUInt64 (24 : Nat)).toUInt8] → (24 : Nat) ≤ (32 : Nat) ∧ ∀ (y_18 : List UInt8), y_18 = over y_17 (20 : Nat) y → ∀ (y : List UInt8), y = [(shr64 (y_14.getD (2 : Nat) (0 : UInt32)).toUInt64 (0 : Nat)).toUInt8, (shr64 (y_14.getD (2 : Nat) (0 : UInt32)).toUInt64 (8 : Nat)).toUInt8, (shr64 (y_14.getD (2 : Nat) (0 : UInt32)).toUInt64 (16 : Nat)).toUInt8, (shr64 (y_14.getD (2 : Nat) (0 : UInt32)).toUInt64 (24 : Nat)).toUInt8] → (12 : Nat) ≤ (32 : Nat) ∧ ∀ (y_19 : List UInt8), y_19 = over y_18 (8 : Nat) y → ∀ (y : List UInt8), y = [(shr64 (y_14.getD (14 : Nat) (0 : UInt32)).toUInt64 (0 : Nat)).toUInt8, (shr64 (y_14.getD (14 : Nat) (0 : UInt32)).toUInt64 (8 : Nat)).toUInt8, (shr64 (y_14.getD (14 : Nat) (0 : UInt32)).toUInt64 (16 : Nat)).toUInt8, (shr64 (y_14.getD (14 : Nat) (0 : UInt32)).toUInt64 (24 : Nat)).toUInt8] → (28 : Nat) ≤ (32 : Nat) ∧ ∀ (y_20 : List UInt8), y_20 = over y_19 (24 : Nat) y → ∀ (y : List UInt8), y = [(shr64 (y_14.getD (3 : Nat) (0 : UInt32)).toUInt64 (0 : Nat)).toUInt8, (shr64 (y_14.getD (3 : Nat) (0 : UInt32)).toUInt64 (8 : Nat)).toUInt8, (shr64 (y_14.getD (3 : Nat) (0 : UInt32)).toUInt64 (16 : Nat)).toUInt8, (shr64 (y_14.getD (3 : Nat) (0 : UInt32)).toUInt64 (24 : Nat)).toUInt8] → (16 : Nat) ≤ (32 : Nat) ∧ ∀ (y_21 : List UInt8), y_21 = over y_20 (12 : Nat) y → ∀ (y : List UInt8), y = [(shr64 (y_14.getD (15 : Nat) (0 : UInt32)).toUInt64 (0 : Nat)).toUInt8, (shr64 (y_14.getD (15 : Nat) (0 : UInt32)).toUInt64 (8 : Nat)).toUInt8, (shr64 (y_14.getD (15 : Nat) (0 : UInt32)).toUInt64 (16 : Nat)).toUInt8, (shr64 (y_14.getD (15 : Nat) (0 : UInt32)).toUInt64 (24 : Nat)).toUInt8] → (32 : Nat) ≤ (32 : Nat) ∧ ∀ (y_22 : List UInt8), y_22 = over y_21 (28 : Nat) y → ∀ (y : List UInt8), y = y_22 → y = deriveL k i ∧ True) := by kernel_rfl
set_option maxRecDepth 100000 in
theorem vcInside (k n : List UInt8) : (vcFn XCi 300 80 [.agg [.vec (.n 32) (.u8 k)], .agg [.vec (.n 24) (.u8 n)]] (.tup [.agg [.vec (.n 32) (.u8 (keyL k n))], .agg [.vec (.n 12) (.u8 (nonceL n))]])) =
  ((16 : Nat) ≤ (24 : Nat) ∧ ∀ (y : List UInt8), y = deriveL k (List.take (16 : Nat) n) → (24 : Nat) ≤ (24 : Nat) ∧ [List.replicate (4 : Nat) (0 : UInt8), List.take (8 : Nat) (dropL n (16 : Nat))].length = (2 : Nat) ∧ (2 : Nat) < (4611686018427387904 : Nat) ∧ [List.replicate (4 : Nat) (0 : UInt8), List.take (8 : Nat) (dropL n (16 : Nat))].flatten.length ≤ (4294967296 : Nat) ∧ ∀ (y_1 : List UInt8), y_1 = [List.replicate (4 : Nat) (0 : UInt8), List.take (8 : Nat) (dropL n (16 : Nat))].flatten → (12 : Nat) ≤ [List.replicate (4 : Nat) (0 : UInt8), List.take (8 : Nat) (dropL n (16 : Nat))].flatten.length ∧ (12 : Nat) ≤ [List.replicate (4 : Nat) (0 : UInt8), List.take (8 : Nat) (dropL n (16 : Nat))].flatten.length ∧ ∀ (y_2 : List UInt8), y_2 = y → ∀ (y : List UInt8), y = List.take (12 : Nat) y_1 → y_2 = keyL k n ∧ y = nonceL n ∧ True) := by kernel_rfl
set_option maxRecDepth 100000 in
theorem vcXSeal (k n p m : List UInt8) : (vcFn XCs 200 55 [.agg [.vec (.n 32) (.u8 k)], .agg [.vec (.n 24) (.u8 n)], .s (.xs 1 (.s p.length) (.u8 p)), .s (.xs 1 (.s m.length) (.u8 m))] (.s (.xs 1 (.s (sealL (keyL k n) (nonceL n) p m).length) (.u8 (sealL (keyL k n) (nonceL n) p m))))) =
  (∀ (y : List UInt8), y = keyL k n → ∀ (y_1 : List UInt8), y_1 = nonceL n → ∀ (y_2 : List UInt8), y_2 = y → ∀ (y : List UInt8), y = y_1 → p.length = p.length ∧ m.length = m.length ∧ p.length ≤ (1073741824 : Nat) ∧ m.length ≤ (1073741824 : Nat) ∧ ∀ (y_3 : List UInt8), y_3 = sealL y_2 y p m → (0 : Nat) + (sealL y_2 y p m).length ≤ (sealL y_2 y p m).length ∧ (sealL y_2 y p m).length = (sealL (keyL k n) (nonceL n) p m).length ∧ List.take (sealL y_2 y p m).length (dropL (dropL y_3 (0 : Nat)) (0 : Nat)) = sealL (keyL k n) (nonceL n) p m ∧ True) := by kernel_rfl
set_option maxRecDepth 100000 in
theorem vcXOpen (k n s m : List UInt8) : (vcFn XCs 200 57 [.agg [.vec (.n 32) (.u8 k)], .agg [.vec (.n 24) (.u8 n)], .s (.xs 1 (.s s.length) (.u8 s)), .s (.xs 1 (.s m.length) (.u8 m))] (.tup [.s (.xs 1 (.s (openL (keyL k n) (nonceL n) s m).length) (.u8 (openL (keyL k n) (nonceL n) s m))), .s (.i64 (openE (keyL k n) (nonceL n) s m))])) =
  (∀ (y : List UInt8), y = keyL k n → ∀ (y_1 : List UInt8), y_1 = nonceL n → ∀ (y_2 : List UInt8), y_2 = y → ∀ (y : List UInt8), y = y_1 → s.length = s.length ∧ m.length = m.length ∧ s.length ≤ (1073741824 : Nat) ∧ m.length ≤ (1073741824 : Nat) ∧ ∀ (y_3 : Int), y_3 = openE y_2 y s m → ∀ (y_4 : List UInt8), y_4 = openL y_2 y s m → ∀ (y_5 : Int), y_5 = y_3 → (0 : Nat) + (openL y_2 y s m).length ≤ (openL y_2 y s m).length ∧ (openL y_2 y s m).length = (openL (keyL k n) (nonceL n) s m).length ∧ List.take (openL y_2 y s m).length (dropL (dropL y_4 (0 : Nat)) (0 : Nat)) = openL (keyL k n) (nonceL n) s m ∧ y_5 = openE (keyL k n) (nonceL n) s m ∧ True) := by kernel_rfl
end Go.Proofs.Ytbannfdoiiojgaa

/- A step towards MacsCookiesSaid: no conditions. -/
namespace Go.Proofs.Ytbannfdoiiojgaa
open Go Go.Eng Go.Cod Go.Cha Go.Pol Go.Aed
noncomputable def AEe : Env := mkE Try.prog [] [(0, JEqual)] 2
noncomputable def AE0 : Env := mkE Try.prog [] [] 2
noncomputable def AEr : Env := mkE Try.prog [] [(0, JFilledR)] 2
noncomputable def AEt : Env := mkE Try.prog [(107, gBlock), (109, gFilled), (73, gLittleN), (42, gJoin), (108, gPoly)] [] 10 true
noncomputable def AEs : Env := mkE Try.prog [(95, gXor), (96, gTag), (42, gJoin)] [] 10 true
noncomputable def AEo : Env := mkE Try.prog [(95, gXor), (96, gTag), (35, gEqual)] [] 10 true
noncomputable def AEc : Env := mkE Try.prog [(73, gLittleN), (42, gJoin)] [] 10 true
set_option maxRecDepth 100000 in
theorem vcEqual (a b : List UInt8) : (vcFn AEe 100 35 [.s (.xs 1 (.s a.length) (.u8 a)), .s (.xs 1 (.s b.length) (.u8 b))] (.s (.b (a == b)))) =
  ((decide ((↑a.length : Int) ≠ (↑b.length : Int)) = true → false = (a == b) ∧ True) ∧ (decide ((↑a.length : Int) ≠ (↑b.length : Int)) = false → (∃ (x : Nat), x ≤ a.length ∧ a.length = a.length ∧ a = a ∧ b.length = b.length ∧ b = b ∧ UInt8.ofNat (nat_lit 0) = dif a b x ∧ (↑a.length : Int) = (↑a.length : Int) ∧ Int.ofNat (0 : Nat) = (↑x : Int) ∧ True) ∧ ∀ (x : Nat), x ≤ a.length → (decide ((↑x : Int) < (↑a.length : Int)) = true → ((0 : Int) ≤ (↑x : Int) ∧ (↑x : Int) < (↑a.length : Int)) ∧ (↑x : Int).toNat < a.length ∧ ((0 : Int) ≤ (↑x : Int) ∧ (↑x : Int) < (↑b.length : Int)) ∧ (↑x : Int).toNat < b.length ∧ InI ((↑x : Int) + Int.ofNat (1 : Nat)) ∧ ∃ (y : Nat), y ≤ a.length ∧ a.length - y < a.length - x ∧ a.length = a.length ∧ a = a ∧ b.length = b.length ∧ b = b ∧ dif a b x ||| a.getD (↑x : Int).toNat (0 : UInt8) ^^^ b.getD (↑x : Int).toNat (0 : UInt8) = dif a b y ∧ (↑a.length : Int) = (↑a.length : Int) ∧ (↑x : Int) + Int.ofNat (1 : Nat) = (↑y : Int) ∧ True) ∧ (decide ((↑x : Int) < (↑a.length : Int)) = false → (dif a b x == UInt8.ofNat (nat_lit 0)) = (a == b) ∧ True))) := by kernel_rfl
set_option maxRecDepth 100000 in
theorem vcFilled (b : List UInt8) : (vcFn AE0 100 109 [.s (.xs 1 (.s b.length) (.u8 b))] (.s (.xs 1 (.s (zp b.length)) (.u8 (zerosL b.length))))) =
  (Int.ofNat (16 : Nat) ≠ (0 : Int) ∧ InI (Int.ofNat (16 : Nat) - (↑b.length : Int).tmod (Int.ofNat (16 : Nat))) ∧ Int.ofNat (16 : Nat) ≠ (0 : Int) ∧ ((0 : Int) ≤ (Int.ofNat (16 : Nat) - (↑b.length : Int).tmod (Int.ofNat (16 : Nat))).tmod (Int.ofNat (16 : Nat)) ∧ (Int.ofNat (16 : Nat) - (↑b.length : Int).tmod (Int.ofNat (16 : Nat))).tmod (Int.ofNat (16 : Nat)) ≤ (4294967296 : Int)) ∧ ((0 : Int) ≤ (Int.ofNat (16 : Nat) - (↑b.length : Int).tmod (Int.ofNat (16 : Nat))).tmod (Int.ofNat (16 : Nat)) ∧ (Int.ofNat (16 : Nat) - (↑b.length : Int).tmod (Int.ofNat (16 : Nat))).tmod (Int.ofNat (16 : Nat)) ≤ (4294967296 : Int)) ∧ ((Int.ofNat (16 : Nat) - (↑b.length : Int).tmod (Int.ofNat (16 : Nat))).tmod (Int.ofNat (16 : Nat))).toNat = ((Int.ofNat (16 : Nat) - (↑b.length : Int).tmod (Int.ofNat (16 : Nat))).tmod (Int.ofNat (16 : Nat))).toNat ∧ (0 : Nat) + ((Int.ofNat (16 : Nat) - (↑b.length : Int).tmod (Int.ofNat (16 : Nat))).tmod (Int.ofNat (16 : Nat))).toNat ≤ ((Int.ofNat (16 : Nat) - (↑b.length : Int).tmod (Int.ofNat (16 : Nat))).tmod (Int.ofNat (16 : Nat))).toNat ∧ ((Int.ofNat (16 : Nat) - (↑b.length : Int).tmod (Int.ofNat (16 : Nat))).tmod (Int.ofNat (16 : Nat))).toNat = zp b.length ∧ List.take ((Int.ofNat (16 : Nat) - (↑b.length : Int).tmod (Int.ofNat (16 : Nat))).tmod (Int.ofNat (16 : Nat))).toNat (dropL (dropL (List.replicate ((Int.ofNat (16 : Nat) - (↑b.length : Int).tmod (Int.ofNat (16 : Nat))).tmod (Int.ofNat (16 : Nat))).toNat (0 : UInt8)) (0 : Nat)) (0 : Nat)) = zerosL b.length ∧ True) := by kernel_rfl
set_option maxRecDepth 100000 in
theorem vcTag (k n c m : List UInt8) : (vcFn AEt 200 96 [.agg [.vec (.n 32) (.u8 k)], .agg [.vec (.n 12) (.u8 n)], .s (.xs 1 (.s c.length) (.u8 c)), .s (.xs 1 (.s m.length) (.u8 m))] (.w (.agg [.vec (.n 16) (.u8 (tagL k n c m))]))) =
  (∀ (y : List UInt8), y = block k (UInt32.ofNat (nat_lit 0)) n → ∀ (y_1 : List UInt8), y_1 = y → (32 : Nat) ≤ (64 : Nat) ∧ m.length = m.length ∧ m.length ≤ (4294967296 : Nat) ∧ ∀ (y : List UInt8), y = zerosL m.length → c.length = c.length ∧ c.length ≤ (4294967296 : Nat) ∧ ∀ (y_2 : List UInt8), y_2 = zerosL c.length → ∀ (y_3 : Int), y_3 = (↑m.length : Int) → ∀ (y_4 : List UInt8), y_4 = [(shr64 (to64 y_3) (0 : Nat)).toUInt8, (shr64 (to64 y_3) (8 : Nat)).toUInt8, (shr64 (to64 y_3) (16 : Nat)).toUInt8, (shr64 (to64 y_3) (24 : Nat)).toUInt8, (shr64 (to64 y_3) (32 : Nat)).toUInt8, (shr64 (to64 y_3) (40 : Nat)).toUInt8, (shr64 (to64 y_3) (48 : Nat)).toUInt8, (shr64 (to64 y_3) (56 : Nat)).toUInt8] → ∀ (y_5 : Int), y_5 = (↑c.length : Int) → ∀ (y_6 : List UInt8), y_6 = [(shr64 (to64 y_5) (0 : Nat)).toUInt8, (shr64 (to64 y_5) (8 : Nat)).toUInt8, (shr64 (to64 y_5) (16 : Nat)).toUInt8, (shr64 (to64 y_5) (24 : Nat)).toUInt8, (shr64 (to64 y_5) (32 : Nat)).toUInt8, (shr64 (to64 y_5) (40 : Nat)).toUInt8, (shr64 (to64 y_5) (48 : Nat)).toUInt8, (shr64 (to64 y_5) (56 : Nat)).toUInt8] → (0 : Nat) + zp m.length ≤ zp m.length ∧ (0 : Nat) + zp c.length ≤ zp c.length ∧ [m, List.take (zp m.length) (dropL (dropL y (0 : Nat)) (0 : Nat)), c, List.take (zp c.length) (dropL (dropL y_2 (0 : Nat)) (0 : Nat)), y_4, y_6].length = (6 : Nat) ∧ (6 : Nat) < (4611686018427387904 : Nat) ∧ [m, List.take (zp m.length) (dropL (dropL y (0 : Nat)) (0 : Nat)), c, List.take (zp c.length) (dropL (dropL y_2 (0 : Nat)) (0 : Nat)), y_4, y_6].flatten.length ≤ (4294967296 : Nat) ∧ ∀ (y_7 : List UInt8), y_7 = [m, List.take (zp m.length) (dropL (dropL y (0 : Nat)) (0 : Nat)), c, List.take (zp c.length) (dropL (dropL y_2 (0 : Nat)) (0 : Nat)), y_4, y_6].flatten → (0 : Nat) + [m, List.take (zp m.length) (dropL (dropL y (0 : Nat)) (0 : Nat)), c, List.take (zp c.length) (dropL (dropL y_2 (0 : Nat)) (0 : Nat)), y_4, y_6].flatten.length ≤ [m, List.take (zp m.length) (dropL (dropL y (0 : Nat)) (0 : Nat)), c, List.take (zp c.length) (dropL (dropL y_2 (0 : Nat)) (0 : Nat)), y_4, y_6].flatten.length ∧ (List.take [m, List.take (zp m.length) (dropL (dropL y (0 : Nat)) (0 : Nat)), c, List.take (zp c.length) (dropL (dropL y_2 (0 : Nat)) (0 : Nat)), y_4, y_6].flatten.length (dropL (dropL y_7 (0 : Nat)) (0 : Nat))).length = (List.take [m, List.take (zp m.length) (dropL (dropL y (0 : Nat)) (0 : Nat)), c, List.take (zp c.length) (dropL (dropL y_2 (0 : Nat)) (0 : Nat)), y_4, y_6].flatten.length (dropL (dropL y_7 (0 : Nat)) (0 : Nat))).length ∧ (List.take [m, List.take (zp m.length) (dropL (dropL y (0 : Nat)) (0 : Nat)), c, List.take (zp c.length) (dropL (dropL y_2 (0 : Nat)) (0 : Nat)), y_4, y_6].flatten.length (dropL (dropL y_7 (0 : Nat)) (0 : Nat))).length ≤ (4294967296 : Nat) ∧ ∀ (y_8 : List UInt8), y_8 = polyL (List.take (32 : Nat) y_1) (List.take [m, List.take (zp m.length) (dropL (dropL y (0 : Nat)) (0 : Nat)), c, List.take (zp c.length) (dropL (dropL y_2 (0 : Nat)) (0 : Nat)), y_4, y_6].flatten.length (dropL (dropL y_7 (0 : Nat)) (0 : Nat))) → ∀ (y : List UInt8), y = y_8 → y = tagL k n c m ∧ True) := by kernel_rfl
set_option maxRecDepth 100000 in
theorem vcSeal (k n p m : List UInt8) : (vcFn AEs 200 81 [.agg [.vec (.n 32) (.u8 k)], .agg [.vec (.n 12) (.u8 n)], .s (.xs 1 (.s p.length) (.u8 p)), .s (.xs 1 (.s m.length) (.u8 m))] (.s (.xs 1 (.s (sealL k n p m).length) (.u8 (sealL k n p m))))) =
  (p.length = p.length ∧ p.length ≤ (4294967296 : Nat) ∧ ∀ (y : List UInt8), y = xorL k n (UInt32.ofNat (nat_lit 1)) p → (0 : Nat) + p.length ≤ p.length ∧ (List.take p.length (dropL (dropL y (0 : Nat)) (0 : Nat))).length = (List.take p.length (dropL (dropL y (0 : Nat)) (0 : Nat))).length ∧ m.length = m.length ∧ (List.take p.length (dropL (dropL y (0 : Nat)) (0 : Nat))).length ≤ (1073741824 : Nat) ∧ m.length ≤ (1073741824 : Nat) ∧ ∀ (y_1 : List UInt8), y_1 = tagL k n (List.take p.length (dropL (dropL y (0 : Nat)) (0 : Nat))) m → ∀ (y_2 : List UInt8), y_2 = y_1 → (0 : Nat) + p.length ≤ p.length ∧ [List.take p.length (dropL (dropL y (0 : Nat)) (0 : Nat)), y_2].length = (2 : Nat) ∧ (2 : Nat) < (4611686018427387904 : Nat) ∧ [List.take p.length (dropL (dropL y (0 : Nat)) (0 : Nat)), y_2].flatten.length ≤ (4294967296 : Nat) ∧ ∀ (y_3 : List UInt8), y_3 = [List.take p.length (dropL (dropL y (0 : Nat)) (0 : Nat)), y_2].flatten → (0 : Nat) + [List.take p.length (dropL (dropL y (0 : Nat)) (0 : Nat)), y_2].flatten.length ≤ [List.take p.length (dropL (dropL y (0 : Nat)) (0 : Nat)), y_2].flatten.length ∧ [List.take p.length (dropL (dropL y (0 : Nat)) (0 : Nat)), y_2].flatten.length = (sealL k n p m).length ∧ List.take [List.take p.length (dropL (dropL y (0 : Nat)) (0 : Nat)), y_2].flatten.length (dropL (dropL y_3 (0 : Nat)) (0 : Nat)) = sealL k n p m ∧ True) := by kernel_rfl
set_option maxRecDepth 100000 in
theorem vcOpen (k n s m : List UInt8) : (vcFn AEo 200 82 [.agg [.vec (.n 32) (.u8 k)], .agg [.vec (.n 12) (.u8 n)], .s (.xs 1 (.s s.length) (.u8 s)), .s (.xs 1 (.s m.length) (.u8 m))] (.tup [.s (.xs 1 (.s (openL k n s m).length) (.u8 (openL k n s m))), .s (.i64 (openE k n s m))])) =
  (∀ (y : Int), y = (↑s.length : Int) → (decide (y < Int.ofNat (16 : Nat)) = true → (openL k n s m).length = (0 : Nat) ∧ (openL k n s m).length = (0 : Nat) ∧ Int.ofNat (2 : Nat) = openE k n s m ∧ True) ∧ (decide (y < Int.ofNat (16 : Nat)) = false → ∀ (y : Int), y = (↑s.length : Int) → InI (y - Int.ofNat (16 : Nat)) ∧ ∀ (y_1 : Int), y_1 = y - Int.ofNat (16 : Nat) → ((0 : Int) ≤ y_1 ∧ y_1 ≤ (↑s.length : Int)) ∧ (List.take y_1.toNat s).length = (List.take y_1.toNat s).length ∧ m.length = m.length ∧ (List.take y_1.toNat s).length ≤ (1073741824 : Nat) ∧ m.length ≤ (1073741824 : Nat) ∧ ∀ (y : List UInt8), y = tagL k n (List.take y_1.toNat s) m → ∀ (y_2 : List UInt8), y_2 = y → ((0 : Int) ≤ y_1 ∧ y_1 ≤ (↑s.length : Int)) ∧ y_2.length = y_2.length ∧ (List.drop y_1.toNat s).length = (List.drop y_1.toNat s).length ∧ y_2.length < (4611686018427387904 : Nat) ∧ (List.drop y_1.toNat s).length < (4611686018427387904 : Nat) ∧ ((!y_2 == List.drop y_1.toNat s) = true → (openL k n s m).length = (0 : Nat) ∧ (openL k n s m).length = (0 : Nat) ∧ Int.ofNat (6 : Nat) = openE k n s m ∧ True) ∧ ((!y_2 == List.drop y_1.toNat s) = false → ((0 : Int) ≤ y_1 ∧ y_1 ≤ (↑s.length : Int)) ∧ (List.take y_1.toNat s).length = (List.take y_1.toNat s).length ∧ (List.take y_1.toNat s).length ≤ (4294967296 : Nat) ∧ ∀ (y : List UInt8), y = xorL k n (UInt32.ofNat (nat_lit 1)) (List.take y_1.toNat s) → (0 : Nat) + (List.take y_1.toNat s).length ≤ (List.take y_1.toNat s).length ∧ (List.take y_1.toNat s).length = (openL k n s m).length ∧ List.take (List.take y_1.toNat s).length (dropL (dropL y (0 : Nat)) (0 : Nat)) = openL k n s m ∧ Int.ofNat (0 : Nat) = openE k n s m ∧ True))) := by kernel_rfl
end Go.Proofs.Ytbannfdoiiojgaa

/- A step towards MacsCookiesSaid: no conditions. -/
namespace Go.Proofs.Ytbannfdoiiojgaa
open Go Go.Eng Go.Cod Go.Cha
noncomputable def EX : Env := mkE Try.prog [(107, gBlock)] [(0, JXor)] 2
noncomputable def EXr : Env := mkE Try.prog [(103, gBlock)] [(0, JXorR)] 2
set_option maxRecDepth 100000 in
theorem vcXor (k n d : List UInt8) (c : UInt32) : (vcFn EX 300 95 [.agg [.vec (.n 32) (.u8 k)], .s (.u32 c), .agg [.vec (.n 12) (.u8 n)], .s (.xs 1 (.s d.length) (.u8 d))] (.s (.xs 1 (.s d.length) (.u8 (xorL k n c d))))) =
  ((∃ (x : Nat), x ≤ d.length ∧ k = k ∧ c = c + UInt32.ofNat ((x + (63 : Nat)) / (64 : Nat)) ∧ n = n ∧ d.length = d.length ∧ d = d ∧ x = (0 : Nat) ∧ d.length = d.length ∧ d = d ∧ (↑d.length : Int) = (↑d.length : Int) ∧ Int.ofNat (0 : Nat) = (↑x : Int) ∧ k = k ∧ n = n ∧ List.replicate (64 : Nat) (0 : UInt8) = padAt k n c x ∧ x = (0 : Nat) ∧ (xorTo k n c d x).length = (0 : Nat) ∧ True) ∧ ∀ (x : Nat), x ≤ d.length → (decide ((↑x : Int) < (↑d.length : Int)) = true → ((0 : Int) ≤ (↑x : Int) ∧ (↑x : Int) < (↑d.length : Int)) ∧ (↑x : Int).toNat < d.length ∧ Int.ofNat (64 : Nat) ≠ (0 : Int) ∧ (decide ((↑x : Int).tmod (Int.ofNat (64 : Nat)) = Int.ofNat (0 : Nat)) = true → Int.ofNat (64 : Nat) ≠ (0 : Int) ∧ ((0 : Int) ≤ (↑x : Int).tmod (Int.ofNat (64 : Nat)) ∧ (↑x : Int).tmod (Int.ofNat (64 : Nat)) < (↑(64 : Nat) : Int)) ∧ ((↑x : Int).tmod (Int.ofNat (64 : Nat))).toNat < (64 : Nat) ∧ x = x ∧ x + (1 : Nat) ≤ (4294967296 : Nat) ∧ InI ((↑x : Int) + Int.ofNat (1 : Nat)) ∧ ∃ (y : Nat), y ≤ d.length ∧ d.length - y < d.length - x ∧ k = k ∧ c + UInt32.ofNat ((x + (63 : Nat)) / (64 : Nat)) + UInt32.ofNat (nat_lit 1) = c + UInt32.ofNat ((y + (63 : Nat)) / (64 : Nat)) ∧ n = n ∧ d.length = d.length ∧ d = d ∧ x + (1 : Nat) = y ∧ d.length = d.length ∧ d = d ∧ (↑d.length : Int) = (↑d.length : Int) ∧ (↑x : Int) + Int.ofNat (1 : Nat) = (↑y : Int) ∧ k = k ∧ n = n ∧ block k (c + UInt32.ofNat ((x + (63 : Nat)) / (64 : Nat))) n = padAt k n c y ∧ x + (1 : Nat) = y ∧ xorTo k n c d x ++ [d.getD (↑x : Int).toNat (0 : UInt8) ^^^ (block k (c + UInt32.ofNat ((x + (63 : Nat)) / (64 : Nat))) n).getD ((↑x : Int).tmod (Int.ofNat (64 : Nat))).toNat (0 : UInt8)] = xorTo k n c d y ∧ True) ∧ (decide ((↑x : Int).tmod (Int.ofNat (64 : Nat)) = Int.ofNat (0 : Nat)) = false → Int.ofNat (64 : Nat) ≠ (0 : Int) ∧ ((0 : Int) ≤ (↑x : Int).tmod (Int.ofNat (64 : Nat)) ∧ (↑x : Int).tmod (Int.ofNat (64 : Nat)) < (↑(64 : Nat) : Int)) ∧ ((↑x : Int).tmod (Int.ofNat (64 : Nat))).toNat < (64 : Nat) ∧ x = x ∧ x + (1 : Nat) ≤ (4294967296 : Nat) ∧ InI ((↑x : Int) + Int.ofNat (1 : Nat)) ∧ ∃ (y : Nat), y ≤ d.length ∧ d.length - y < d.length - x ∧ k = k ∧ c + UInt32.ofNat ((x + (63 : Nat)) / (64 : Nat)) = c + UInt32.ofNat ((y + (63 : Nat)) / (64 : Nat)) ∧ n = n ∧ d.length = d.length ∧ d = d ∧ x + (1 : Nat) = y ∧ d.length = d.length ∧ d = d ∧ (↑d.length : Int) = (↑d.length : Int) ∧ (↑x : Int) + Int.ofNat (1 : Nat) = (↑y : Int) ∧ k = k ∧ n = n ∧ padAt k n c x = padAt k n c y ∧ x + (1 : Nat) = y ∧ xorTo k n c d x ++ [d.getD (↑x : Int).toNat (0 : UInt8) ^^^ (padAt k n c x).getD ((↑x : Int).tmod (Int.ofNat (64 : Nat))).toNat (0 : UInt8)] = xorTo k n c d y ∧ True)) ∧ (decide ((↑x : Int) < (↑d.length : Int)) = false → (0 : Nat) + x ≤ x ∧ x = d.length ∧ List.take x (dropL (dropL (xorTo k n c d x) (0 : Nat)) (0 : Nat)) = xorL k n c d ∧ True)) := by kernel_rfl
set_option maxRecDepth 100000 in
theorem vcXorR (k n d : List UInt8) (c : UInt32) : (vcFn EXr 300 92 [.agg [.vec (.n 32) (.u8 k)], .s (.u32 c), .agg [.vec (.n 12) (.u8 n)], .s (.xs 1 (.s d.length) (.u8 d))] (.s (.xs 1 (.s d.length) (.u8 (xorL k n c d))))) =
  ((∃ (x : Nat), x ≤ d.length ∧ k = k ∧ c = c ∧ n = n ∧ d.length = d.length ∧ d = d ∧ x = (0 : Nat) ∧ d.length = d.length ∧ d = d ∧ (↑d.length : Int) = (↑d.length : Int) ∧ Int.ofNat (0 : Nat) = (↑x : Int) ∧ k = k ∧ n = n ∧ List.replicate (64 : Nat) (0 : UInt8) = padAt k n c x ∧ x = (0 : Nat) ∧ (xorTo k n c d x).length = (0 : Nat) ∧ True) ∧ ∀ (x : Nat), x ≤ d.length → (decide ((↑x : Int) < (↑d.length : Int)) = true → ((0 : Int) ≤ (↑x : Int) ∧ (↑x : Int) < (↑d.length : Int)) ∧ (↑x : Int).toNat < d.length ∧ Int.ofNat (64 : Nat) ≠ (0 : Int) ∧ (decide ((↑x : Int).tmod (Int.ofNat (64 : Nat)) = Int.ofNat (0 : Nat)) = true → (Int.ofNat (64 : Nat) ≠ (0 : Int) ∧ InI ((↑x : Int).tdiv (Int.ofNat (64 : Nat)))) ∧ Int.ofNat (64 : Nat) ≠ (0 : Int) ∧ ((0 : Int) ≤ (↑x : Int).tmod (Int.ofNat (64 : Nat)) ∧ (↑x : Int).tmod (Int.ofNat (64 : Nat)) < (↑(64 : Nat) : Int)) ∧ ((↑x : Int).tmod (Int.ofNat (64 : Nat))).toNat < (64 : Nat) ∧ x = x ∧ x + (1 : Nat) ≤ (4294967296 : Nat) ∧ InI ((↑x : Int) + Int.ofNat (1 : Nat)) ∧ ∃ (y : Nat), y ≤ d.length ∧ d.length - y < d.length - x ∧ k = k ∧ c = c ∧ n = n ∧ d.length = d.length ∧ d = d ∧ x + (1 : Nat) = y ∧ d.length = d.length ∧ d = d ∧ (↑d.length : Int) = (↑d.length : Int) ∧ (↑x : Int) + Int.ofNat (1 : Nat) = (↑y : Int) ∧ k = k ∧ n = n ∧ block k (c + to32 ((↑x : Int).tdiv (Int.ofNat (64 : Nat)))) n = padAt k n c y ∧ x + (1 : Nat) = y ∧ xorTo k n c d x ++ [d.getD (↑x : Int).toNat (0 : UInt8) ^^^ (block k (c + to32 ((↑x : Int).tdiv (Int.ofNat (64 : Nat)))) n).getD ((↑x : Int).tmod (Int.ofNat (64 : Nat))).toNat (0 : UInt8)] = xorTo k n c d y ∧ True) ∧ (decide ((↑x : Int).tmod (Int.ofNat (64 : Nat)) = Int.ofNat (0 : Nat)) = false → Int.ofNat (64 : Nat) ≠ (0 : Int) ∧ ((0 : Int) ≤ (↑x : Int).tmod (Int.ofNat (64 : Nat)) ∧ (↑x : Int).tmod (Int.ofNat (64 : Nat)) < (↑(64 : Nat) : Int)) ∧ ((↑x : Int).tmod (Int.ofNat (64 : Nat))).toNat < (64 : Nat) ∧ x = x ∧ x + (1 : Nat) ≤ (4294967296 : Nat) ∧ InI ((↑x : Int) + Int.ofNat (1 : Nat)) ∧ ∃ (y : Nat), y ≤ d.length ∧ d.length - y < d.length - x ∧ k = k ∧ c = c ∧ n = n ∧ d.length = d.length ∧ d = d ∧ x + (1 : Nat) = y ∧ d.length = d.length ∧ d = d ∧ (↑d.length : Int) = (↑d.length : Int) ∧ (↑x : Int) + Int.ofNat (1 : Nat) = (↑y : Int) ∧ k = k ∧ n = n ∧ padAt k n c x = padAt k n c y ∧ x + (1 : Nat) = y ∧ xorTo k n c d x ++ [d.getD (↑x : Int).toNat (0 : UInt8) ^^^ (padAt k n c x).getD ((↑x : Int).tmod (Int.ofNat (64 : Nat))).toNat (0 : UInt8)] = xorTo k n c d y ∧ True)) ∧ (decide ((↑x : Int) < (↑d.length : Int)) = false → (0 : Nat) + x ≤ x ∧ x = d.length ∧ List.take x (dropL (dropL (xorTo k n c d x) (0 : Nat)) (0 : Nat)) = xorL k n c d ∧ True)) := by kernel_rfl
end Go.Proofs.Ytbannfdoiiojgaa
