/- A step towards AeadSealsSaid: no conditions. -/
import Derived.Test.YtcfkgodidnhbdaaCodVc
namespace Go.Proofs.Ytcfkgodidnhbdaa
open Go Go.Eng Go.Cod
theorem dropL_zero {α : Type} (l : List α) : dropL l 0 = l := rfl
theorem inI_of {x : Int} (h1 : -9223372036854775808 ≤ x) (h2 : x < 9223372036854775808) : InI x := ⟨h1, h2⟩
set_option maxRecDepth 100000 in
theorem conLittle : Con Try.prog 15 gLittle := con_of_vcs fun args ps res h hp => by
  unfold gLittle at h
  split at h <;> cases h
  rename_i n s
  have hs := (all_cons.1 hp).1
  refine ⟨ELi, 100, rfl, eok (gs := []) trivial, ?_⟩
  refine Eq.mpr (vcLittle n s) ?_
  simp only [io, true_and, and_true, dropL_zero, Nat.zero_add, Nat.le_refl]
  refine ⟨fun h1 => absurd (of_decide_eq_true h1) (by omega), fun _ => ⟨fun h1 => absurd (of_decide_eq_true h1) (by omega), fun _ => ⟨⟨0, by omega, rfl, rfl, rfl, rfl⟩, fun x hx => ⟨fun h1 => ?_, fun h1 => ?_⟩⟩⟩⟩
  · have h1 := of_decide_eq_true h1
    refine ⟨inI_of (by omega) (by omega), by omega, by omega, inI_of (by omega) (by omega), x + 1, by omega, by omega, rfl, rfl, rfl, ?_⟩
    have e2 : (((8 : Nat) : Int) * (x : Int)).toNat = 8 * x := by omega
    rw [e2]; rfl
  · have h1 := of_decide_eq_false h1
    have e : x = s.toNat := by omega
    subst e
    exact ⟨rfl, by rw [List.take_of_length_le (by rw [littleL_len]; exact Nat.le_refl _)]⟩
theorem conLittleN4 : Con Try.prog 15 gLittleN := littleN_of conLittle
set_option maxRecDepth 100000 in
theorem conLittleR : Con Try.prog 16 gLittle := con_of_vcs fun args ps res h hp => by
  unfold gLittle at h
  split at h <;> cases h
  rename_i n s
  have hs := (all_cons.1 hp).1
  refine ⟨ELr, 100, rfl, eok (gs := []) trivial, ?_⟩
  refine Eq.mpr (vcLittleR n s) ?_
  simp only [io, true_and, and_true, dropL_zero, Nat.zero_add, Nat.le_refl]
  refine ⟨fun h1 => absurd (of_decide_eq_true h1) (by omega), fun _ => ⟨fun h1 => absurd (of_decide_eq_true h1) (by omega), fun _ => ⟨⟨0, by omega, rfl, rfl, rfl, rfl⟩, fun x hx => ⟨fun h1 => ?_, fun h1 => ?_⟩⟩⟩⟩
  · have h1 := of_decide_eq_true h1
    refine ⟨inI_of (by omega) (by omega), by omega, by omega, inI_of (by omega) (by omega), x + 1, by omega, by omega, rfl, rfl, rfl, ?_⟩
    have e2 : (((8 : Nat) : Int) * (x : Int)).toNat = 8 * x := by omega
    rw [e2]; rfl
  · have h1 := of_decide_eq_false h1
    have e : x = s.toNat := by omega
    subst e
    exact ⟨rfl, by rw [List.take_of_length_le (by rw [littleL_len]; exact Nat.le_refl _)]⟩
theorem conLittleRN4 : Con Try.prog 16 gLittleN := littleN_of conLittleR
set_option maxRecDepth 100000 in
theorem conReadL : Con Try.prog 34 gReadL := con_of_vcs fun args ps res h hp => by
  unfold gReadL at h
  split at h <;> cases h
  rename_i n l
  obtain ⟨rfl, hp2⟩ := all_cons.1 hp
  have hl := (all_cons.1 hp2).1
  refine ⟨ERL, 100, rfl, eok (gs := []) trivial, ?_⟩
  refine Eq.mpr (vcReadL l) ?_
  simp only [io, true_and, and_true]
  have hm : min l.length 8 ≤ 8 := Nat.min_le_right ..
  have hm2 : min l.length 8 ≤ l.length := Nat.min_le_left ..
  have hi : (min (l.length : Int) ((8 : Nat) : Int)) = ((min l.length 8 : Nat) : Int) := by omega
  simp only [hi]
  refine ⟨⟨0, by omega, rfl, rfl⟩, fun x hx => ⟨fun h1 => ?_, fun h1 => ?_⟩⟩
  · have h1 := of_decide_eq_true h1
    have hx' : x < l.length := by omega
    refine ⟨⟨by omega, by omega⟩, by omega, inI_of (by omega) (by omega), by omega, inI_of (by omega) (by omega), x + 1, by omega, by omega, ?_, rfl⟩
    rw [readL_step l x hx']
    have e1 : (x : Int).toNat = x := rfl
    have e2 : (((8 : Nat) : Int) * (x : Int)).toNat = 8 * x := by omega
    rw [e1, e2]
  · have h1 := of_decide_eq_false h1
    have e : x = min l.length 8 := by omega
    rw [e]
    exact readL_min l
set_option maxRecDepth 100000 in
theorem conReadLr : Con Try.prog 39 gReadL := con_of_vcs fun args ps res h hp => by
  unfold gReadL at h
  split at h <;> cases h
  rename_i n l
  obtain ⟨rfl, hp2⟩ := all_cons.1 hp
  have hl := (all_cons.1 hp2).1
  refine ⟨ERr, 100, rfl, eok (gs := []) trivial, ?_⟩
  refine Eq.mpr (vcReadLr l) ?_
  simp only [io, true_and, and_true]
  refine ⟨inI_of (by omega) (by omega), ⟨l.length, Nat.le_refl _, ?_, rfl⟩, fun x hx => ⟨fun h1 => ?_, fun h1 => ?_⟩⟩
  · rw [List.drop_length]; rfl
  · have h1 := of_decide_eq_true h1
    have e1 : ((x : Int) - 1).toNat = x - 1 := by omega
    rw [e1]
    refine ⟨⟨by omega, by omega⟩, by omega, inI_of (by omega) (by omega), x - 1, by omega, by omega, ?_, by omega⟩
    rw [readL_drop l (x - 1) (by omega), show x - 1 + 1 = x by omega]
  · have h1 := of_decide_eq_false h1
    have e : x = 0 := by omega
    rw [e]; rfl
set_option maxRecDepth 100000 in
theorem conJoin : Con Try.prog 14 gJoin := con_of_vcs fun args ps res h hp => by
  unfold gJoin at h
  split at h <;> cases h
  rename_i n ls
  obtain ⟨rfl, hp2⟩ := all_cons.1 hp
  have h2 := all_cons.1 hp2
  have hl := h2.1
  have hb := (all_cons.1 h2.2).1
  refine ⟨EJo, 100, rfl, eok (gs := []) trivial, ?_⟩
  refine Eq.mpr (vcJoin ls) ?_
  simp only [io, true_and, and_true, dropL_zero, List.take_length, Nat.zero_add, Nat.le_refl]
  refine ⟨⟨0, by omega, rfl, rfl, rfl, rfl⟩, fun x hx => ⟨fun h1 => ?_, fun h1 => ?_⟩⟩
  · have h1 := of_decide_eq_true h1
    have hx' : x < ls.length := by omega
    have e1 : (x : Int).toNat = x := rfl
    rw [e1]
    have e2 : (ls.take (x + 1)).flatten = (ls.take x).flatten ++ ls.getD x [] := by
      rw [List.take_add_one, List.getElem?_eq_getElem hx', Option.toList_some, List.flatten_append, List.getD_eq_getElem?_getD, List.getElem?_eq_getElem hx']
      simp
    have e3 : (ls.take x).flatten.length + (ls.getD x []).length ≤ ls.flatten.length := by
      rw [← List.length_append, ← e2]
      have : ls.flatten = (ls.take (x + 1)).flatten ++ (ls.drop (x + 1)).flatten := by rw [← List.flatten_append, List.take_append_drop]
      rw [this, List.length_append]; omega
    refine ⟨⟨by omega, by omega⟩, by omega, by omega, inI_of (by omega) (by omega), x + 1, by omega, by omega, ?_, rfl, ?_, ?_⟩
    · rw [e2, List.length_append]
    · rw [e2, List.length_append]
    · rw [e2]
  · have h1 := of_decide_eq_false h1
    have e : x = ls.length := by omega
    rw [e, List.take_length]
    exact ⟨rfl, rfl⟩
set_option maxRecDepth 100000 in
theorem conJoinR : Con Try.prog 24 gJoin := con_of_vcs fun args ps res h hp => by
  unfold gJoin at h
  split at h <;> cases h
  rename_i n ls
  obtain ⟨rfl, hp2⟩ := all_cons.1 hp
  have h2 := all_cons.1 hp2
  have hl := h2.1
  have hb := (all_cons.1 h2.2).1
  refine ⟨EJo, 100, rfl, eok (gs := []) trivial, ?_⟩
  refine Eq.mpr (vcJoinR ls) ?_
  simp only [io, true_and, and_true, dropL_zero, List.take_length, Nat.zero_add, Nat.le_refl]
  refine ⟨⟨0, by omega, rfl, rfl, rfl, rfl⟩, fun x hx => ⟨fun h1 => ?_, fun h1 => ?_⟩⟩
  · have h1 := of_decide_eq_true h1
    have hx' : x < ls.length := by omega
    have e1 : (x : Int).toNat = x := rfl
    rw [e1]
    have e2 : (ls.take (x + 1)).flatten = (ls.take x).flatten ++ ls.getD x [] := by
      rw [List.take_add_one, List.getElem?_eq_getElem hx', Option.toList_some, List.flatten_append, List.getD_eq_getElem?_getD, List.getElem?_eq_getElem hx']
      simp
    have e3 : (ls.take x).flatten.length + (ls.getD x []).length ≤ ls.flatten.length := by
      rw [← List.length_append, ← e2]
      have : ls.flatten = (ls.take (x + 1)).flatten ++ (ls.drop (x + 1)).flatten := by rw [← List.flatten_append, List.take_append_drop]
      rw [this, List.length_append]; omega
    refine ⟨⟨by omega, by omega⟩, by omega, by omega, inI_of (by omega) (by omega), x + 1, by omega, by omega, ?_, rfl, ?_, ?_⟩
    · rw [e2, List.length_append]
    · rw [e2, List.length_append]
    · rw [e2]
  · have h1 := of_decide_eq_false h1
    have e : x = ls.length := by omega
    rw [e, List.take_length]
    exact ⟨rfl, rfl⟩
end Go.Proofs.Ytcfkgodidnhbdaa
