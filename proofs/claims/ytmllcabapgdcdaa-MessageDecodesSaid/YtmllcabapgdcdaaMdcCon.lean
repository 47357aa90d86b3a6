/- A step towards MessageDecodesSaid: no conditions. -/
import Derived.Test.YtmllcabapgdcdaaMdcVc
import Derived.Test.YtmllcabapgdcdaaCodCon
namespace Go.Proofs.Ytmllcabapgdcdaa
open Go Go.Eng Go.Cod Go.Msg
theorem k8 {x : UInt8} {n : Nat} (hn : n < 256) : ((x.toNat : Int) = (n : Int)) = (x = UInt8.ofNat n) := by
  apply propext
  constructor
  · intro h
    have h : x.toNat = n := by omega
    rw [← UInt8.toNat_inj, UInt8.toNat_ofNat_of_lt' hn]; exact h
  · intro h
    rw [h, UInt8.toNat_ofNat_of_lt' hn]
theorem kind_zero {b : List UInt8} (h : ¬(b.length < 4 ∨ b.getD 1 0 ≠ 0 ∨ b.getD 2 0 ≠ 0 ∨ b.getD 3 0 ≠ 0) → ¬((b.getD 0 0 = 1 ∧ b.length = 148) ∨ (b.getD 0 0 = 2 ∧ b.length = 92) ∨ (b.getD 0 0 = 3 ∧ b.length = 64) ∨ (b.getD 0 0 = 4 ∧ 32 ≤ b.length ∧ b.length ≤ 2100))) : ((0 : Nat) : Int) = kindL b := by
  unfold kindL
  split
  · rfl
  · rename_i h1
    rw [if_neg (h h1)]; rfl
theorem kind_some {b : List UInt8} (h : ¬(b.length < 4 ∨ b.getD 1 0 ≠ 0 ∨ b.getD 2 0 ≠ 0 ∨ b.getD 3 0 ≠ 0)) (h2 : ((b.getD 0 0 = 1 ∧ b.length = 148) ∨ (b.getD 0 0 = 2 ∧ b.length = 92) ∨ (b.getD 0 0 = 3 ∧ b.length = 64) ∨ (b.getD 0 0 = 4 ∧ 32 ≤ b.length ∧ b.length ≤ 2100))) : ((b.getD 0 0).toNat : Int) = kindL b := by
  unfold kindL
  rw [if_neg h, if_pos h2]
/-- what a kind tells of the length -/
theorem kind_len {b : List UInt8} : (kindL b = 1 → b.length = 148) ∧ (kindL b = 2 → b.length = 92) ∧ (kindL b = 3 → b.length = 64) ∧ (kindL b = 4 → 32 ≤ b.length ∧ b.length ≤ 2100) := by
  unfold kindL
  split
  · refine ⟨fun h => ?_, fun h => ?_, fun h => ?_, fun h => ?_⟩ <;> cases h
  · split
    · rename_i h2
      generalize b.getD 0 0 = x at *
      generalize b.length = n at *
      rcases h2 with ⟨rfl, h⟩ | ⟨rfl, h⟩ | ⟨rfl, h⟩ | ⟨rfl, h⟩
      · exact ⟨fun _ => h, fun h => absurd h (by decide), fun h => absurd h (by decide), fun h => absurd h (by decide)⟩
      · exact ⟨fun h => absurd h (by decide), fun _ => h, fun h => absurd h (by decide), fun h => absurd h (by decide)⟩
      · exact ⟨fun h => absurd h (by decide), fun h => absurd h (by decide), fun _ => h, fun h => absurd h (by decide)⟩
      · exact ⟨fun h => absurd h (by decide), fun h => absurd h (by decide), fun h => absurd h (by decide), fun _ => h⟩
    · refine ⟨fun h => ?_, fun h => ?_, fun h => ?_, fun h => ?_⟩ <;> cases h
theorem ofN0 : UInt8.ofNat 0 = (0 : UInt8) := rfl
theorem ofN1 : UInt8.ofNat 1 = (1 : UInt8) := rfl
theorem ofN2 : UInt8.ofNat 2 = (2 : UInt8) := rfl
theorem ofN3 : UInt8.ofNat 3 = (3 : UInt8) := rfl
theorem ofN4 : UInt8.ofNat 4 = (4 : UInt8) := rfl
set_option maxRecDepth 100000 in
set_option maxHeartbeats 4000000 in
theorem conKind : Con Try.prog 22 gKind := con_of_vcl fun args ps res h hp hlen => by
  unfold gKind at h
  split at h <;> cases h
  rename_i m b
  obtain ⟨rfl, hp2⟩ := all_cons.1 hp
  have hl := (all_cons.1 hp2).1
  refine ⟨MEk, 100, rfl, eok (gs := []) trivial, ?_⟩
  rw [vcKind b]
  have z := @kind_zero b
  have s := @kind_some b
  simp only [true_and, and_true, io, decide_eq_true_eq, decide_eq_false_iff_not, k8 (show 1 < 256 by decide), k8 (show 2 < 256 by decide), k8 (show 3 < 256 by decide), k8 (show 4 < 256 by decide), ofN0, ofN1, ofN2, ofN3, ofN4, bne_iff_ne, bne_eq_false_iff_eq, ne_eq]
  generalize kindL b = K at *
  generalize b.getD 0 0 = x0 at *
  generalize b.getD 1 0 = x1 at *
  generalize b.getD 2 0 = x2 at *
  generalize b.getD 3 0 = x3 at *
  generalize b.length = n at *
  repeat' first | (apply And.intro) | intro
  all_goals first | omega | grind
set_option maxRecDepth 100000 in
set_option maxHeartbeats 4000000 in
theorem conKindR : Con Try.prog 33 gKind := con_of_vcl fun args ps res h hp hlen => by
  unfold gKind at h
  split at h <;> cases h
  rename_i m b
  obtain ⟨rfl, hp2⟩ := all_cons.1 hp
  have hl := (all_cons.1 hp2).1
  refine ⟨MEk, 100, rfl, eok (gs := []) trivial, ?_⟩
  rw [vcKindR b]
  have z := @kind_zero b
  have s := @kind_some b
  simp only [true_and, and_true, io, decide_eq_true_eq, decide_eq_false_iff_not, ofN0, ofN1, ofN2, ofN3, ofN4, bne_iff_ne, bne_eq_false_iff_eq, beq_iff_eq, beq_eq_false_iff_ne, ne_eq]
  generalize kindL b = K at *
  generalize b.getD 0 0 = x0 at *
  generalize b.getD 1 0 = x1 at *
  generalize b.getD 2 0 = x2 at *
  generalize b.getD 3 0 = x3 at *
  generalize b.length = n at *
  repeat' first | (apply And.intro) | intro
  all_goals first | omega | grind
theorem dropL_eq {α : Type} (l : List α) (i : Nat) : dropL l i = l.drop i := by cases i <;> rfl
theorem fld_no {k : Int} {b : List UInt8} (h : kindL b ≠ k) : fld32 k b = (fun _ => 0) ∧ fld64 k b = (fun _ => 0) ∧ fld k b = (fun _ n => List.replicate n 0) ∧ fldR k b = (fun _ => []) ∧ decE k b = 4 :=
  ⟨funext fun _ => if_neg h, funext fun _ => if_neg h, funext fun _ => funext fun _ => if_neg h, funext fun _ => if_neg h, if_neg h⟩
theorem fld_yes {k : Int} {b : List UInt8} (h : kindL b = k) : (∀ o, fld32 k b o = (readL ((b.drop o).take 4)).toUInt32) ∧ (∀ o, fld64 k b o = readL ((b.drop o).take 8)) ∧ (∀ o n, fld k b o n = (b.drop o).take n) ∧ (∀ o, fldR k b o = b.drop o) ∧ decE k b = 0 :=
  ⟨fun _ => if_pos h, fun _ => if_pos h, fun _ _ => if_pos h, fun _ => if_pos h, if_pos h⟩
theorem over_all {z : List UInt8} {l : List UInt8} (h : z.length = l.length) : over z 0 l = l := by
  unfold over
  rw [List.take_zero, List.nil_append, List.drop_of_length_le (by omega), List.append_nil]
set_option maxRecDepth 100000 in
theorem conN32 : Con Try.prog 40 gN32 := con_of_vcl fun args ps res h hp hlen => by
  unfold gN32 at h
  split at h <;> cases h
  rename_i m b
  obtain ⟨rfl, hp2⟩ := all_cons.1 hp
  have hl := (all_cons.1 hp2).1
  refine ⟨MEn, 100, rfl, eok (gs := [(41, gReadL)]) ⟨conReadLr, trivial⟩, ?_⟩
  rw [vcN32 b]
  exact ⟨hl, rfl, by rw [List.length_take]; omega, rfl, trivial⟩
set_option maxRecDepth 100000 in
set_option maxHeartbeats 4000000 in
theorem conDInit : Con Try.prog 17 (gDec dInit) := con_of_vcl fun args ps res h hp hlen => by
  unfold gDec at h
  split at h <;> cases h
  rename_i m b
  obtain ⟨rfl, hp2⟩ := all_cons.1 hp
  have hl := (all_cons.1 hp2).1
  refine ⟨MEd, 100, rfl, eok (gs := [(38, gReadL), (22, gKind)]) ⟨conReadL, conKind, trivial⟩, ?_⟩
  show vcFn _ _ _ _ (dInit b)
  rw [vcDInit b]
  have kn : ((1 : Nat) : Int) = 1 := rfl
  simp only [forall_eq, true_and, and_true, io, decide_eq_true_eq, decide_eq_false_iff_not, dropL_eq, Nat.zero_add, Nat.sub_zero, List.drop_drop, List.take_take, List.length_take, List.length_drop, List.drop_zero, List.nil_append, ne_eq, Decidable.not_not, kn]
  refine ⟨hl, fun hne => ?_, fun he => ?_⟩
  · obtain ⟨e1, e2, e3, e4, e5⟩ := fld_no hne
    simp only [e1, e2, e3, e4, e5]
    simp
  · obtain ⟨e1, e2, e3, e4, e5⟩ := fld_yes he
    have hk := kind_len (b := b)
    have hn := hk.1 he
    simp only [e1, e2, e3, e4, e5]
    repeat rw [over_all (by rw [List.length_take, List.length_drop, List.length_replicate]; omega)]
    and_intros
    all_goals first | omega | rfl | (rw [List.take_of_length_le (by rw [List.length_drop]; omega)]) | (simp; done) | (simp; omega)
set_option maxRecDepth 100000 in
set_option maxHeartbeats 4000000 in
theorem conDResp : Con Try.prog 18 (gDec dResp) := con_of_vcl fun args ps res h hp hlen => by
  unfold gDec at h
  split at h <;> cases h
  rename_i m b
  obtain ⟨rfl, hp2⟩ := all_cons.1 hp
  have hl := (all_cons.1 hp2).1
  refine ⟨MEd, 100, rfl, eok (gs := [(38, gReadL), (22, gKind)]) ⟨conReadL, conKind, trivial⟩, ?_⟩
  show vcFn _ _ _ _ (dResp b)
  rw [vcDResp b]
  have kn : ((2 : Nat) : Int) = 2 := rfl
  simp only [forall_eq, true_and, and_true, io, decide_eq_true_eq, decide_eq_false_iff_not, dropL_eq, Nat.zero_add, Nat.sub_zero, List.drop_drop, List.take_take, List.length_take, List.length_drop, List.drop_zero, List.nil_append, ne_eq, Decidable.not_not, kn]
  refine ⟨hl, fun hne => ?_, fun he => ?_⟩
  · obtain ⟨e1, e2, e3, e4, e5⟩ := fld_no hne
    simp only [e1, e2, e3, e4, e5]
    simp
  · obtain ⟨e1, e2, e3, e4, e5⟩ := fld_yes he
    have hk := kind_len (b := b)
    have hn := hk.2.1 he
    simp only [e1, e2, e3, e4, e5]
    repeat rw [over_all (by rw [List.length_take, List.length_drop, List.length_replicate]; omega)]
    and_intros
    all_goals first | omega | rfl | (rw [List.take_of_length_le (by rw [List.length_drop]; omega)]) | (simp; done) | (simp; omega)
set_option maxRecDepth 100000 in
set_option maxHeartbeats 4000000 in
theorem conDCook : Con Try.prog 19 (gDec dCook) := con_of_vcl fun args ps res h hp hlen => by
  unfold gDec at h
  split at h <;> cases h
  rename_i m b
  obtain ⟨rfl, hp2⟩ := all_cons.1 hp
  have hl := (all_cons.1 hp2).1
  refine ⟨MEd, 100, rfl, eok (gs := [(38, gReadL), (22, gKind)]) ⟨conReadL, conKind, trivial⟩, ?_⟩
  show vcFn _ _ _ _ (dCook b)
  rw [vcDCook b]
  have kn : ((3 : Nat) : Int) = 3 := rfl
  simp only [forall_eq, true_and, and_true, io, decide_eq_true_eq, decide_eq_false_iff_not, dropL_eq, Nat.zero_add, Nat.sub_zero, List.drop_drop, List.take_take, List.length_take, List.length_drop, List.drop_zero, List.nil_append, ne_eq, Decidable.not_not, kn]
  refine ⟨hl, fun hne => ?_, fun he => ?_⟩
  · obtain ⟨e1, e2, e3, e4, e5⟩ := fld_no hne
    simp only [e1, e2, e3, e4, e5]
    simp
  · obtain ⟨e1, e2, e3, e4, e5⟩ := fld_yes he
    have hk := kind_len (b := b)
    have hn := hk.2.2.1 he
    simp only [e1, e2, e3, e4, e5]
    repeat rw [over_all (by rw [List.length_take, List.length_drop, List.length_replicate]; omega)]
    and_intros
    all_goals first | omega | rfl | (rw [List.take_of_length_le (by rw [List.length_drop]; omega)]) | (simp; done) | (simp; omega)
set_option maxRecDepth 100000 in
set_option maxHeartbeats 4000000 in
theorem conDTran : Con Try.prog 20 (gDec dTran) := con_of_vcl fun args ps res h hp hlen => by
  unfold gDec at h
  split at h <;> cases h
  rename_i m b
  obtain ⟨rfl, hp2⟩ := all_cons.1 hp
  have hl := (all_cons.1 hp2).1
  refine ⟨MEd, 100, rfl, eok (gs := [(38, gReadL), (22, gKind)]) ⟨conReadL, conKind, trivial⟩, ?_⟩
  show vcFn _ _ _ _ (dTran b)
  rw [vcDTran b]
  have kn : ((4 : Nat) : Int) = 4 := rfl
  simp only [forall_eq, true_and, and_true, io, decide_eq_true_eq, decide_eq_false_iff_not, dropL_eq, Nat.zero_add, Nat.sub_zero, List.drop_drop, List.take_take, List.length_take, List.length_drop, List.drop_zero, List.nil_append, ne_eq, Decidable.not_not, kn]
  refine ⟨hl, fun hne => ?_, fun he => ?_⟩
  · obtain ⟨e1, e2, e3, e4, e5⟩ := fld_no hne
    simp only [e1, e2, e3, e4, e5]
    simp
  · obtain ⟨e1, e2, e3, e4, e5⟩ := fld_yes he
    have hk := kind_len (b := b)
    have hn := hk.2.2.2 he
    simp only [e1, e2, e3, e4, e5]
    repeat rw [over_all (by rw [List.length_take, List.length_drop, List.length_replicate]; omega)]
    and_intros
    all_goals first | omega | rfl | (rw [List.take_of_length_le (by rw [List.length_drop]; omega)]) | (simp; done) | (simp; omega)
set_option maxRecDepth 100000 in
set_option maxHeartbeats 4000000 in
theorem conDInitR : Con Try.prog 29 (gDec dInit) := con_of_vcl fun args ps res h hp hlen => by
  unfold gDec at h
  split at h <;> cases h
  rename_i m b
  obtain ⟨rfl, hp2⟩ := all_cons.1 hp
  have hl := (all_cons.1 hp2).1
  refine ⟨MEr, 100, rfl, eok (gs := [(41, gReadL), (40, gN32), (33, gKind)]) ⟨conReadLr, conN32, conKindR, trivial⟩, ?_⟩
  show vcFn _ _ _ _ (dInit b)
  rw [vcDInitR b]
  have kn : ((1 : Nat) : Int) = 1 := rfl
  simp only [forall_eq, true_and, and_true, io, decide_eq_true_eq, decide_eq_false_iff_not, dropL_eq, Nat.zero_add, Nat.sub_zero, List.drop_drop, List.take_take, List.length_take, List.length_drop, List.drop_zero, List.nil_append, ne_eq, Decidable.not_not, kn]
  refine ⟨hl, fun hne => ?_, fun he => ?_⟩
  · obtain ⟨e1, e2, e3, e4, e5⟩ := fld_no hne
    simp only [e1, e2, e3, e4, e5]
    simp
  · obtain ⟨e1, e2, e3, e4, e5⟩ := fld_yes he
    have hk := kind_len (b := b)
    have hn := hk.1 he
    simp only [e1, e2, e3, e4, e5]
    repeat rw [over_all (by rw [List.length_take, List.length_drop, List.length_replicate]; omega)]
    and_intros
    all_goals first | omega | rfl | (rw [List.take_of_length_le (by rw [List.length_drop]; omega)]) | (simp; done) | (simp; omega)
set_option maxRecDepth 100000 in
set_option maxHeartbeats 4000000 in
theorem conDRespR : Con Try.prog 30 (gDec dResp) := con_of_vcl fun args ps res h hp hlen => by
  unfold gDec at h
  split at h <;> cases h
  rename_i m b
  obtain ⟨rfl, hp2⟩ := all_cons.1 hp
  have hl := (all_cons.1 hp2).1
  refine ⟨MEr, 100, rfl, eok (gs := [(41, gReadL), (40, gN32), (33, gKind)]) ⟨conReadLr, conN32, conKindR, trivial⟩, ?_⟩
  show vcFn _ _ _ _ (dResp b)
  rw [vcDRespR b]
  have kn : ((2 : Nat) : Int) = 2 := rfl
  simp only [forall_eq, true_and, and_true, io, decide_eq_true_eq, decide_eq_false_iff_not, dropL_eq, Nat.zero_add, Nat.sub_zero, List.drop_drop, List.take_take, List.length_take, List.length_drop, List.drop_zero, List.nil_append, ne_eq, Decidable.not_not, kn]
  refine ⟨hl, fun hne => ?_, fun he => ?_⟩
  · obtain ⟨e1, e2, e3, e4, e5⟩ := fld_no hne
    simp only [e1, e2, e3, e4, e5]
    simp
  · obtain ⟨e1, e2, e3, e4, e5⟩ := fld_yes he
    have hk := kind_len (b := b)
    have hn := hk.2.1 he
    simp only [e1, e2, e3, e4, e5]
    repeat rw [over_all (by rw [List.length_take, List.length_drop, List.length_replicate]; omega)]
    and_intros
    all_goals first | omega | rfl | (rw [List.take_of_length_le (by rw [List.length_drop]; omega)]) | (simp; done) | (simp; omega)
set_option maxRecDepth 100000 in
set_option maxHeartbeats 4000000 in
theorem conDCookR : Con Try.prog 31 (gDec dCook) := con_of_vcl fun args ps res h hp hlen => by
  unfold gDec at h
  split at h <;> cases h
  rename_i m b
  obtain ⟨rfl, hp2⟩ := all_cons.1 hp
  have hl := (all_cons.1 hp2).1
  refine ⟨MEr, 100, rfl, eok (gs := [(41, gReadL), (40, gN32), (33, gKind)]) ⟨conReadLr, conN32, conKindR, trivial⟩, ?_⟩
  show vcFn _ _ _ _ (dCook b)
  rw [vcDCookR b]
  have kn : ((3 : Nat) : Int) = 3 := rfl
  simp only [forall_eq, true_and, and_true, io, decide_eq_true_eq, decide_eq_false_iff_not, dropL_eq, Nat.zero_add, Nat.sub_zero, List.drop_drop, List.take_take, List.length_take, List.length_drop, List.drop_zero, List.nil_append, ne_eq, Decidable.not_not, kn]
  refine ⟨hl, fun hne => ?_, fun he => ?_⟩
  · obtain ⟨e1, e2, e3, e4, e5⟩ := fld_no hne
    simp only [e1, e2, e3, e4, e5]
    simp
  · obtain ⟨e1, e2, e3, e4, e5⟩ := fld_yes he
    have hk := kind_len (b := b)
    have hn := hk.2.2.1 he
    simp only [e1, e2, e3, e4, e5]
    repeat rw [over_all (by rw [List.length_take, List.length_drop, List.length_replicate]; omega)]
    and_intros
    all_goals first | omega | rfl | (rw [List.take_of_length_le (by rw [List.length_drop]; omega)]) | (simp; done) | (simp; omega)
set_option maxRecDepth 100000 in
set_option maxHeartbeats 4000000 in
theorem conDTranR : Con Try.prog 32 (gDec dTran) := con_of_vcl fun args ps res h hp hlen => by
  unfold gDec at h
  split at h <;> cases h
  rename_i m b
  obtain ⟨rfl, hp2⟩ := all_cons.1 hp
  have hl := (all_cons.1 hp2).1
  refine ⟨MEr, 100, rfl, eok (gs := [(41, gReadL), (40, gN32), (33, gKind)]) ⟨conReadLr, conN32, conKindR, trivial⟩, ?_⟩
  show vcFn _ _ _ _ (dTran b)
  rw [vcDTranR b]
  have kn : ((4 : Nat) : Int) = 4 := rfl
  simp only [forall_eq, true_and, and_true, io, decide_eq_true_eq, decide_eq_false_iff_not, dropL_eq, Nat.zero_add, Nat.sub_zero, List.drop_drop, List.take_take, List.length_take, List.length_drop, List.drop_zero, List.nil_append, ne_eq, Decidable.not_not, kn]
  refine ⟨hl, fun hne => ?_, fun he => ?_⟩
  · obtain ⟨e1, e2, e3, e4, e5⟩ := fld_no hne
    simp only [e1, e2, e3, e4, e5]
    simp
  · obtain ⟨e1, e2, e3, e4, e5⟩ := fld_yes he
    have hk := kind_len (b := b)
    have hn := hk.2.2.2 he
    simp only [e1, e2, e3, e4, e5]
    repeat rw [over_all (by rw [List.length_take, List.length_drop, List.length_replicate]; omega)]
    and_intros
    all_goals first | omega | rfl | (rw [List.take_of_length_le (by rw [List.length_drop]; omega)]) | (simp; done) | (simp; omega)
end Go.Proofs.Ytmllcabapgdcdaa
