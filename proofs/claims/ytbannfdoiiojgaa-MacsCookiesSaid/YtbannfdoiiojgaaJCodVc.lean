/- Steps towards MacsCookiesSaid. -/
import Derived.Test.YtbannfdoiiojgaaJChaSpec
import Derived.Test.YtbannfdoiiojgaaBase
import Derived.Test.YtbannfdoiiojgaaBlaVc
/- A step towards MacsCookiesSaid: no conditions. -/
namespace Go.Proofs.Ytbannfdoiiojgaa
open Go Go.Eng Go.Cod
noncomputable def ERL : Env := mkE Try.prog [] [(0, JReadL)] 2
noncomputable def ERr : Env := mkE Try.prog [] [(0, JReadLr)] 2
noncomputable def EJo : Env := mkE Try.prog [] [(0, JJoin)] 2
noncomputable def ELi : Env := mkE Try.prog [] [(0, JLittle 14 [0, 1, 4, 13])] 2
noncomputable def ELr : Env := mkE Try.prog [] [(0, JLittle 6 [0, 1, 4])] 2
set_option maxRecDepth 100000 in
theorem vcLittle (n : UInt64) (s : Int) : (vcFn ELi 100 73 [.s (.u64 n), .s (.i64 s)] (.s (.xs 1 (.s s.toNat) (.u8 (littleL n s.toNat))))) =
  ((decide (s < Int.ofNat (1 : Nat)) = true → s.toNat = (0 : Nat) ∧ (littleL n s.toNat).length = (0 : Nat) ∧ True) ∧ (decide (s < Int.ofNat (1 : Nat)) = false → (decide (Int.ofNat (8 : Nat) < s) = true → s.toNat = (0 : Nat) ∧ (littleL n s.toNat).length = (0 : Nat) ∧ True) ∧ (decide (Int.ofNat (8 : Nat) < s) = false → (∃ (x : Nat), (↑x : Int) ≤ s ∧ n = n ∧ s = s ∧ x = (0 : Nat) ∧ s = s ∧ Int.ofNat (0 : Nat) = (↑x : Int) ∧ x = (0 : Nat) ∧ (littleL n x).length = (0 : Nat) ∧ True) ∧ ∀ (x : Nat), (↑x : Int) ≤ s → (decide ((↑x : Int) < s) = true → InI (Int.ofNat (8 : Nat) * (↑x : Int)) ∧ (0 : Int) ≤ Int.ofNat (8 : Nat) * (↑x : Int) ∧ x = x ∧ x + (1 : Nat) ≤ (4294967296 : Nat) ∧ InI ((↑x : Int) + Int.ofNat (1 : Nat)) ∧ ∃ (y : Nat), (↑y : Int) ≤ s ∧ s.toNat - y < s.toNat - x ∧ n = n ∧ s = s ∧ x + (1 : Nat) = y ∧ s = s ∧ (↑x : Int) + Int.ofNat (1 : Nat) = (↑y : Int) ∧ x + (1 : Nat) = y ∧ littleL n x ++ [(shr64 n (Int.ofNat (8 : Nat) * (↑x : Int)).toNat).toUInt8] = littleL n y ∧ True) ∧ (decide ((↑x : Int) < s) = false → (0 : Nat) + x ≤ x ∧ x = s.toNat ∧ List.take x (dropL (dropL (littleL n x) (0 : Nat)) (0 : Nat)) = littleL n s.toNat ∧ True)))) := by kernel_rfl
set_option maxRecDepth 100000 in
theorem vcLittleR (n : UInt64) (s : Int) : (vcFn ELr 100 77 [.s (.u64 n), .s (.i64 s)] (.s (.xs 1 (.s s.toNat) (.u8 (littleL n s.toNat))))) =
  ((decide (s < Int.ofNat (1 : Nat)) = true → s.toNat = (0 : Nat) ∧ (littleL n s.toNat).length = (0 : Nat) ∧ True) ∧ (decide (s < Int.ofNat (1 : Nat)) = false → (decide (Int.ofNat (8 : Nat) < s) = true → s.toNat = (0 : Nat) ∧ (littleL n s.toNat).length = (0 : Nat) ∧ True) ∧ (decide (Int.ofNat (8 : Nat) < s) = false → (∃ (x : Nat), (↑x : Int) ≤ s ∧ n = n ∧ s = s ∧ x = (0 : Nat) ∧ Int.ofNat (0 : Nat) = (↑x : Int) ∧ x = (0 : Nat) ∧ (littleL n x).length = (0 : Nat) ∧ True) ∧ ∀ (x : Nat), (↑x : Int) ≤ s → (decide ((↑x : Int) < s) = true → InI (Int.ofNat (8 : Nat) * (↑x : Int)) ∧ (0 : Int) ≤ Int.ofNat (8 : Nat) * (↑x : Int) ∧ x = x ∧ x + (1 : Nat) ≤ (4294967296 : Nat) ∧ InI ((↑x : Int) + Int.ofNat (1 : Nat)) ∧ ∃ (y : Nat), (↑y : Int) ≤ s ∧ s.toNat - y < s.toNat - x ∧ n = n ∧ s = s ∧ x + (1 : Nat) = y ∧ (↑x : Int) + Int.ofNat (1 : Nat) = (↑y : Int) ∧ x + (1 : Nat) = y ∧ littleL n x ++ [(shr64 n (Int.ofNat (8 : Nat) * (↑x : Int)).toNat).toUInt8] = littleL n y ∧ True) ∧ (decide ((↑x : Int) < s) = false → (0 : Nat) + x ≤ x ∧ x = s.toNat ∧ List.take x (dropL (dropL (littleL n x) (0 : Nat)) (0 : Nat)) = littleL n s.toNat ∧ True)))) := by kernel_rfl
set_option maxRecDepth 100000 in
theorem vcReadL (l : List UInt8) : (vcFn ERL 100 85 [.s (.xs 1 (.s l.length) (.u8 l))] (.s (.u64 (readL l)))) =
  ((∃ (x : Nat), x ≤ min l.length (8 : Nat) ∧ l.length = l.length ∧ l = l ∧ UInt64.ofNat (nat_lit 0) = UInt64.ofNat (nat_lit 0) ∧ UInt64.ofNat (nat_lit 0) = readL (List.take x l) ∧ min (↑l.length : Int) (Int.ofNat (8 : Nat)) = min (↑l.length : Int) (Int.ofNat (8 : Nat)) ∧ Int.ofNat (0 : Nat) = (↑x : Int) ∧ True) ∧ ∀ (x : Nat), x ≤ min l.length (8 : Nat) → (decide ((↑x : Int) < min (↑l.length : Int) (Int.ofNat (8 : Nat))) = true → ((0 : Int) ≤ (↑x : Int) ∧ (↑x : Int) < (↑l.length : Int)) ∧ (↑x : Int).toNat < l.length ∧ InI (Int.ofNat (8 : Nat) * (↑x : Int)) ∧ (0 : Int) ≤ Int.ofNat (8 : Nat) * (↑x : Int) ∧ InI ((↑x : Int) + Int.ofNat (1 : Nat)) ∧ ∃ (y : Nat), y ≤ min l.length (8 : Nat) ∧ (8 : Nat) - y < (8 : Nat) - x ∧ l.length = l.length ∧ l = l ∧ UInt64.ofNat (nat_lit 0) = UInt64.ofNat (nat_lit 0) ∧ readL (List.take x l) ||| shl64 (l.getD (↑x : Int).toNat (0 : UInt8)).toUInt64 (Int.ofNat (8 : Nat) * (↑x : Int)).toNat = readL (List.take y l) ∧ min (↑l.length : Int) (Int.ofNat (8 : Nat)) = min (↑l.length : Int) (Int.ofNat (8 : Nat)) ∧ (↑x : Int) + Int.ofNat (1 : Nat) = (↑y : Int) ∧ True) ∧ (decide ((↑x : Int) < min (↑l.length : Int) (Int.ofNat (8 : Nat))) = false → readL (List.take x l) = readL l ∧ True)) := by kernel_rfl
set_option maxRecDepth 100000 in
theorem vcReadLr (l : List UInt8) : (vcFn ERr 100 97 [.s (.xs 1 (.s l.length) (.u8 l))] (.s (.u64 (readL l)))) =
  (InI ((↑l.length : Int) - Int.ofNat (1 : Nat)) ∧ (∃ (x : Nat), x ≤ l.length ∧ l.length = l.length ∧ l = l ∧ UInt64.ofNat (nat_lit 0) = UInt64.ofNat (nat_lit 0) ∧ UInt64.ofNat (nat_lit 0) = readL (List.drop x l) ∧ (↑l.length : Int) - Int.ofNat (1 : Nat) = (↑x : Int) - (1 : Int) ∧ True) ∧ ∀ (x : Nat), x ≤ l.length → (decide (Int.ofNat (0 : Nat) ≤ (↑x : Int) - (1 : Int)) = true → ((0 : Int) ≤ (↑x : Int) - (1 : Int) ∧ (↑x : Int) - (1 : Int) < (↑l.length : Int)) ∧ ((↑x : Int) - (1 : Int)).toNat < l.length ∧ InI ((↑x : Int) - (1 : Int) - Int.ofNat (1 : Nat)) ∧ ∃ (y : Nat), y ≤ l.length ∧ y < x ∧ l.length = l.length ∧ l = l ∧ UInt64.ofNat (nat_lit 0) = UInt64.ofNat (nat_lit 0) ∧ shl64 (readL (List.drop x l)) (8 : Nat) ||| (l.getD ((↑x : Int) - (1 : Int)).toNat (0 : UInt8)).toUInt64 = readL (List.drop y l) ∧ (↑x : Int) - (1 : Int) - Int.ofNat (1 : Nat) = (↑y : Int) - (1 : Int) ∧ True) ∧ (decide (Int.ofNat (0 : Nat) ≤ (↑x : Int) - (1 : Int)) = false → readL (List.drop x l) = readL l ∧ True)) := by kernel_rfl
set_option maxRecDepth 100000 in
theorem vcJoin (ls : List (List UInt8)) : (vcFn EJo 100 42 [.s (.xs 1 (.s ls.length) (.sl ls))] (.s (.xs 1 (.s ls.flatten.length) (.u8 ls.flatten)))) =
  ((∃ (x : Nat), x ≤ ls.length ∧ ls.length = ls.length ∧ ls = ls ∧ (List.take x ls).flatten.length = (0 : Nat) ∧ ls.length = ls.length ∧ ls = ls ∧ (↑ls.length : Int) = (↑ls.length : Int) ∧ Int.ofNat (0 : Nat) = (↑x : Int) ∧ (List.take x ls).flatten.length = (0 : Nat) ∧ (List.take x ls).flatten.length = (0 : Nat) ∧ True) ∧ ∀ (x : Nat), x ≤ ls.length → (decide ((↑x : Int) < (↑ls.length : Int)) = true → ((0 : Int) ≤ (↑x : Int) ∧ (↑x : Int) < (↑ls.length : Int)) ∧ (↑x : Int).toNat < ls.length ∧ (List.take x ls).flatten.length = (List.take x ls).flatten.length ∧ (List.take x ls).flatten.length + (ls.getD (↑x : Int).toNat []).length ≤ (4294967296 : Nat) ∧ InI ((↑x : Int) + Int.ofNat (1 : Nat)) ∧ ∃ (y : Nat), y ≤ ls.length ∧ ls.length - y < ls.length - x ∧ ls.length = ls.length ∧ ls = ls ∧ (List.take x ls).flatten.length + (ls.getD (↑x : Int).toNat []).length = (List.take y ls).flatten.length ∧ ls.length = ls.length ∧ ls = ls ∧ (↑ls.length : Int) = (↑ls.length : Int) ∧ (↑x : Int) + Int.ofNat (1 : Nat) = (↑y : Int) ∧ (List.take x ls).flatten.length + (ls.getD (↑x : Int).toNat []).length = (List.take y ls).flatten.length ∧ (List.take x ls).flatten ++ ls.getD (↑x : Int).toNat [] = (List.take y ls).flatten ∧ True) ∧ (decide ((↑x : Int) < (↑ls.length : Int)) = false → (0 : Nat) + (List.take x ls).flatten.length ≤ (List.take x ls).flatten.length ∧ (List.take x ls).flatten.length = ls.flatten.length ∧ List.take (List.take x ls).flatten.length (dropL (dropL (List.take x ls).flatten (0 : Nat)) (0 : Nat)) = ls.flatten ∧ True)) := by kernel_rfl
set_option maxRecDepth 100000 in
theorem vcJoinR (ls : List (List UInt8)) : (vcFn EJo 100 65 [.s (.xs 1 (.s ls.length) (.sl ls))] (.s (.xs 1 (.s ls.flatten.length) (.u8 ls.flatten)))) =
  ((∃ (x : Nat), x ≤ ls.length ∧ ls.length = ls.length ∧ ls = ls ∧ (List.take x ls).flatten.length = (0 : Nat) ∧ ls.length = ls.length ∧ ls = ls ∧ (↑ls.length : Int) = (↑ls.length : Int) ∧ Int.ofNat (0 : Nat) = (↑x : Int) ∧ (List.take x ls).flatten.length = (0 : Nat) ∧ (List.take x ls).flatten.length = (0 : Nat) ∧ True) ∧ ∀ (x : Nat), x ≤ ls.length → (decide ((↑x : Int) < (↑ls.length : Int)) = true → ((0 : Int) ≤ (↑x : Int) ∧ (↑x : Int) < (↑ls.length : Int)) ∧ (↑x : Int).toNat < ls.length ∧ (List.take x ls).flatten.length = (List.take x ls).flatten.length ∧ (List.take x ls).flatten.length + (ls.getD (↑x : Int).toNat []).length ≤ (4294967296 : Nat) ∧ InI ((↑x : Int) + Int.ofNat (1 : Nat)) ∧ ∃ (y : Nat), y ≤ ls.length ∧ ls.length - y < ls.length - x ∧ ls.length = ls.length ∧ ls = ls ∧ (List.take x ls).flatten.length + (ls.getD (↑x : Int).toNat []).length = (List.take y ls).flatten.length ∧ ls.length = ls.length ∧ ls = ls ∧ (↑ls.length : Int) = (↑ls.length : Int) ∧ (↑x : Int) + Int.ofNat (1 : Nat) = (↑y : Int) ∧ (List.take x ls).flatten.length + (ls.getD (↑x : Int).toNat []).length = (List.take y ls).flatten.length ∧ (List.take x ls).flatten ++ ls.getD (↑x : Int).toNat [] = (List.take y ls).flatten ∧ True) ∧ (decide ((↑x : Int) < (↑ls.length : Int)) = false → (0 : Nat) + (List.take x ls).flatten.length ≤ (List.take x ls).flatten.length ∧ (List.take x ls).flatten.length = ls.flatten.length ∧ List.take (List.take x ls).flatten.length (dropL (dropL (List.take x ls).flatten (0 : Nat)) (0 : Nat)) = ls.flatten ∧ True)) := by kernel_rfl
end Go.Proofs.Ytbannfdoiiojgaa

/- A step towards MacsCookiesSaid: no conditions. -/
namespace Go.Proofs.Ytbannfdoiiojgaa
open Go Go.Eng Go.Cod
theorem dropL_zero {α : Type} (l : List α) : dropL l 0 = l := rfl
theorem inI_of {x : Int} (h1 : -9223372036854775808 ≤ x) (h2 : x < 9223372036854775808) : InI x := ⟨h1, h2⟩
set_option maxRecDepth 100000 in
theorem conLittle : Con Try.prog 73 gLittle := con_of_vcs fun args ps res h hp => by
  unfold gLittle at h
  split at h <;> cases h
  rename_i n s
  have hs := (all_cons.1 hp).1
  refine ⟨ELi, 100, rfl, eok (gs := []) trivial, ?_⟩
  refine Eq.mpr (vcLittle n s) ?_
  simp only [io, true_and, and_true, dropL_zero, Nat.zero_add, Nat.le_refl]
  refine ⟨fun h1 => absurd (of_decide_eq_true h1) (by omega), fun _ => ⟨fun h1 => absurd (of_decide_eq_true h1) (by omega), fun _ => ⟨⟨0, by omega, rfl, rfl, rfl, rfl⟩, fun x hx => ⟨fun h1 => ?_, fun h1 => ?_⟩⟩⟩⟩
  · have h1 := of_decide_eq_true h1
    refine ⟨inI_of (by omega) (by omega), by omega, by omega, inI_of (by omega) (by omega), x + 1, by omega, by omega, rfl, rfl, rfl, ?_⟩
    have e2 : (((8 : Nat) : Int) * (x : Int)).toNat = 8 * x := by omega
    rw [e2]; rfl
  · have h1 := of_decide_eq_false h1
    have e : x = s.toNat := by omega
    subst e
    exact ⟨rfl, by rw [List.take_of_length_le (by rw [littleL_len]; exact Nat.le_refl _)]⟩
theorem conLittleN4 : Con Try.prog 73 gLittleN := littleN_of conLittle
set_option maxRecDepth 100000 in
theorem conLittleR : Con Try.prog 77 gLittle := con_of_vcs fun args ps res h hp => by
  unfold gLittle at h
  split at h <;> cases h
  rename_i n s
  have hs := (all_cons.1 hp).1
  refine ⟨ELr, 100, rfl, eok (gs := []) trivial, ?_⟩
  refine Eq.mpr (vcLittleR n s) ?_
  simp only [io, true_and, and_true, dropL_zero, Nat.zero_add, Nat.le_refl]
  refine ⟨fun h1 => absurd (of_decide_eq_true h1) (by omega), fun _ => ⟨fun h1 => absurd (of_decide_eq_true h1) (by omega), fun _ => ⟨⟨0, by omega, rfl, rfl, rfl, rfl⟩, fun x hx => ⟨fun h1 => ?_, fun h1 => ?_⟩⟩⟩⟩
  · have h1 := of_decide_eq_true h1
    refine ⟨inI_of (by omega) (by omega), by omega, by omega, inI_of (by omega) (by omega), x + 1, by omega, by omega, rfl, rfl, rfl, ?_⟩
    have e2 : (((8 : Nat) : Int) * (x : Int)).toNat = 8 * x := by omega
    rw [e2]; rfl
  · have h1 := of_decide_eq_false h1
    have e : x = s.toNat := by omega
    subst e
    exact ⟨rfl, by rw [List.take_of_length_le (by rw [littleL_len]; exact Nat.le_refl _)]⟩
theorem conLittleRN4 : Con Try.prog 77 gLittleN := littleN_of conLittleR
set_option maxRecDepth 100000 in
theorem conReadL : Con Try.prog 85 gReadL := con_of_vcs fun args ps res h hp => by
  unfold gReadL at h
  split at h <;> cases h
  rename_i n l
  obtain ⟨rfl, hp2⟩ := all_cons.1 hp
  have hl := (all_cons.1 hp2).1
  refine ⟨ERL, 100, rfl, eok (gs := []) trivial, ?_⟩
  refine Eq.mpr (vcReadL l) ?_
  simp only [io, true_and, and_true]
  have hm : min l.length 8 ≤ 8 := Nat.min_le_right ..
  have hm2 : min l.length 8 ≤ l.length := Nat.min_le_left ..
  have hi : (min (l.length : Int) ((8 : Nat) : Int)) = ((min l.length 8 : Nat) : Int) := by omega
  simp only [hi]
  refine ⟨⟨0, by omega, rfl, rfl⟩, fun x hx => ⟨fun h1 => ?_, fun h1 => ?_⟩⟩
  · have h1 := of_decide_eq_true h1
    have hx' : x < l.length := by omega
    refine ⟨⟨by omega, by omega⟩, by omega, inI_of (by omega) (by omega), by omega, inI_of (by omega) (by omega), x + 1, by omega, by omega, ?_, rfl⟩
    rw [readL_step l x hx']
    have e1 : (x : Int).toNat = x := rfl
    have e2 : (((8 : Nat) : Int) * (x : Int)).toNat = 8 * x := by omega
    rw [e1, e2]
  · have h1 := of_decide_eq_false h1
    have e : x = min l.length 8 := by omega
    rw [e]
    exact readL_min l
set_option maxRecDepth 100000 in
theorem conReadLr : Con Try.prog 97 gReadL := con_of_vcs fun args ps res h hp => by
  unfold gReadL at h
  split at h <;> cases h
  rename_i n l
  obtain ⟨rfl, hp2⟩ := all_cons.1 hp
  have hl := (all_cons.1 hp2).1
  refine ⟨ERr, 100, rfl, eok (gs := []) trivial, ?_⟩
  refine Eq.mpr (vcReadLr l) ?_
  simp only [io, true_and, and_true]
  refine ⟨inI_of (by omega) (by omega), ⟨l.length, Nat.le_refl _, ?_, rfl⟩, fun x hx => ⟨fun h1 => ?_, fun h1 => ?_⟩⟩
  · rw [List.drop_length]; rfl
  · have h1 := of_decide_eq_true h1
    have e1 : ((x : Int) - 1).toNat = x - 1 := by omega
    rw [e1]
    refine ⟨⟨by omega, by omega⟩, by omega, inI_of (by omega) (by omega), x - 1, by omega, by omega, ?_, by omega⟩
    rw [readL_drop l (x - 1) (by omega), show x - 1 + 1 = x by omega]
  · have h1 := of_decide_eq_false h1
    have e : x = 0 := by omega
    rw [e]; rfl
set_option maxRecDepth 100000 in
theorem conJoin : Con Try.prog 42 gJoin := con_of_vcs fun args ps res h hp => by
  unfold gJoin at h
  split at h <;> cases h
  rename_i n ls
  obtain ⟨rfl, hp2⟩ := all_cons.1 hp
  have h2 := all_cons.1 hp2
  have hl := h2.1
  have hb := (all_cons.1 h2.2).1
  refine ⟨EJo, 100, rfl, eok (gs := []) trivial, ?_⟩
  refine Eq.mpr (vcJoin ls) ?_
  simp only [io, true_and, and_true, dropL_zero, List.take_length, Nat.zero_add, Nat.le_refl]
  refine ⟨⟨0, by omega, rfl, rfl, rfl, rfl⟩, fun x hx => ⟨fun h1 => ?_, fun h1 => ?_⟩⟩
  · have h1 := of_decide_eq_true h1
    have hx' : x < ls.length := by omega
    have e1 : (x : Int).toNat = x := rfl
    rw [e1]
    have e2 : (ls.take (x + 1)).flatten = (ls.take x).flatten ++ ls.getD x [] := by
      rw [List.take_add_one, List.getElem?_eq_getElem hx', Option.toList_some, List.flatten_append, List.getD_eq_getElem?_getD, List.getElem?_eq_getElem hx']
      simp
    have e3 : (ls.take x).flatten.length + (ls.getD x []).length ≤ ls.flatten.length := by
      rw [← List.length_append, ← e2]
      have : ls.flatten = (ls.take (x + 1)).flatten ++ (ls.drop (x + 1)).flatten := by rw [← List.flatten_append, List.take_append_drop]
      rw [this, List.length_append]; omega
    refine ⟨⟨by omega, by omega⟩, by omega, by omega, inI_of (by omega) (by omega), x + 1, by omega, by omega, ?_, rfl, ?_, ?_⟩
    · rw [e2, List.length_append]
    · rw [e2, List.length_append]
    · rw [e2]
  · have h1 := of_decide_eq_false h1
    have e : x = ls.length := by omega
    rw [e, List.take_length]
    exact ⟨rfl, rfl⟩
set_option maxRecDepth 100000 in
theorem conJoinR : Con Try.prog 65 gJoin := con_of_vcs fun args ps res h hp => by
  unfold gJoin at h
  split at h <;> cases h
  rename_i n ls
  obtain ⟨rfl, hp2⟩ := all_cons.1 hp
  have h2 := all_cons.1 hp2
  have hl := h2.1
  have hb := (all_cons.1 h2.2).1
  refine ⟨EJo, 100, rfl, eok (gs := []) trivial, ?_⟩
  refine Eq.mpr (vcJoinR ls) ?_
  simp only [io, true_and, and_true, dropL_zero, List.take_length, Nat.zero_add, Nat.le_refl]
  refine ⟨⟨0, by omega, rfl, rfl, rfl, rfl⟩, fun x hx => ⟨fun h1 => ?_, fun h1 => ?_⟩⟩
  · have h1 := of_decide_eq_true h1
    have hx' : x < ls.length := by omega
    have e1 : (x : Int).toNat = x := rfl
    rw [e1]
    have e2 : (ls.take (x + 1)).flatten = (ls.take x).flatten ++ ls.getD x [] := by
      rw [List.take_add_one, List.getElem?_eq_getElem hx', Option.toList_some, List.flatten_append, List.getD_eq_getElem?_getD, List.getElem?_eq_getElem hx']
      simp
    have e3 : (ls.take x).flatten.length + (ls.getD x []).length ≤ ls.flatten.length := by
      rw [← List.length_append, ← e2]
      have : ls.flatten = (ls.take (x + 1)).flatten ++ (ls.drop (x + 1)).flatten := by rw [← List.flatten_append, List.take_append_drop]
      rw [this, List.length_append]; omega
    refine ⟨⟨by omega, by omega⟩, by omega, by omega, inI_of (by omega) (by omega), x + 1, by omega, by omega, ?_, rfl, ?_, ?_⟩
    · rw [e2, List.length_append]
    · rw [e2, List.length_append]
    · rw [e2]
  · have h1 := of_decide_eq_false h1
    have e : x = ls.length := by omega
    rw [e, List.take_length]
    exact ⟨rfl, rfl⟩
end Go.Proofs.Ytbannfdoiiojgaa

/- A step towards MacsCookiesSaid: no conditions. -/
namespace Go.Proofs.Ytbannfdoiiojgaa
open Go Go.Eng Go.Cod Go.Cha Go.Bla
theorem rolK (n : Int) : (to64 n &&& 31).toNat ≤ 31 := by
  rw [UInt64.toNat_and]
  exact Nat.and_le_right
set_option maxRecDepth 100000 in
theorem conRotl : Con Try.prog 100 gRotl := con_of_vcs fun args ps res h hp => by
  unfold gRotl at h
  split at h <;> cases h
  rename_i x n
  refine ⟨BE0, 100, rfl, eok (gs := []) trivial, ?_⟩
  rw [vcRotl]
  have e : UInt64.ofNat 31 = 31 := rfl
  have e32 : UInt64.ofNat 32 = 32 := rfl
  have hk := rolK n
  rw [e, e32]
  refine ⟨?_, trivial⟩
  unfold rol
  have : (32 - (to64 n &&& 31)).toNat = 32 - (to64 n &&& 31).toNat := by
    rw [UInt64.toNat_sub_of_le]
    · rfl
    · rw [UInt64.le_iff_toNat_le]
      have : (32 : UInt64).toNat = 32 := rfl
      omega
  rw [this]
set_option maxRecDepth 100000 in
theorem conRight : Con Try.prog 110 gRight := con_of_vcs fun args ps res h hp => by
  unfold gRight at h
  split at h <;> cases h
  rename_i x n
  have hn := (all_cons.1 hp).1
  refine ⟨BE0, 100, rfl, eok (gs := []) trivial, ?_⟩
  rw [vcRight]
  simp only [io]
  refine ⟨by omega, inI_of (by omega) (by omega), by omega, ?_, trivial⟩
  unfold rol
  have e1 : (((32 : Nat) : Int) - n).toNat = 32 - n.toNat := by omega
  have e2 : 32 - (32 - n.toNat) = n.toNat := by omega
  rw [e1, e2, UInt32.or_comm]
theorem sig_eq : [Int.ofNat 0, Int.ofNat 1] = [0, 1] := rfl
set_option maxRecDepth 100000 in
theorem conOrder : Con Try.prog 98 gOrder := con_of_vcs fun args ps res h hp => by
  unfold gOrder at h
  split at h <;> cases h
  rename_i r
  have hr := (all_cons.1 hp).1
  refine ⟨BE0, 100, rfl, eok (gs := []) trivial, ?_⟩
  rw [vcOrder]
  simp only [io]
  have h1 : r.toNat < 10 := by omega
  exact ⟨⟨hr.1, by omega⟩, by omega, by kernel_rfl, trivial⟩
set_option maxRecDepth 100000 in
theorem conMixAt : Con Try.prog 99 gMixAt := con_of_vcs fun args ps res h hp => by
  unfold gMixAt at h
  split at h <;> cases h
  rename_i v a b c d x y
  have h1 := all_cons.1 hp
  have h2 := all_cons.1 h1.2
  have h3 := all_cons.1 h2.2
  have h4 := all_cons.1 h3.2
  have ha := h1.1; have hb := h2.1; have hc := h3.1; have hd := h4.1
  clear h1 h2 h3 h4 hp
  refine ⟨BEmx, 100, rfl, eok (gs := [(110, gRight)]) ⟨conRight, trivial⟩, ?_⟩
  rw [vcMixAt]
  have i16 : ((16 : Nat) : Int) = 16 := rfl
  have ha' : a.toNat < 16 := by omega
  have hb' : b.toNat < 16 := by omega
  have hc' : c.toNat < 16 := by omega
  have hd' : d.toNat < 16 := by omega
  simp only [io, i16, ha, hb, hc, hd, ha', hb', hc', hd', true_and, and_true, forall_eq]
  refine ⟨⟨by omega, by omega⟩, ⟨by omega, by omega⟩, ⟨by omega, by omega⟩, ⟨by omega, by omega⟩, ?_⟩
  kernel_rfl
end Go.Proofs.Ytbannfdoiiojgaa
