/- Steps towards NoiseAgreesSaid. -/
import Derived.Test.YtbgnjipdecekoaaJChaSpec
import Derived.Test.YtbgnjipdecekoaaBase
import Derived.Test.YtbgnjipdecekoaaJXorVc
import Derived.Test.YtbgnjipdecekoaaJCodNum
/- A step towards NoiseAgreesSaid: no conditions. -/
namespace Go.Proofs.Ytbgnjipdecekoaa
open Go Go.Eng Go.Cod
noncomputable def ERL : Env := mkE Try.prog [] [(0, JReadL)] 2
noncomputable def ERr : Env := mkE Try.prog [] [(0, JReadLr)] 2
noncomputable def EJo : Env := mkE Try.prog [] [(0, JJoin)] 2
noncomputable def ELi : Env := mkE Try.prog [] [(0, JLittle 14 [0, 1, 4, 13])] 2
noncomputable def ELr : Env := mkE Try.prog [] [(0, JLittle 6 [0, 1, 4])] 2
set_option maxRecDepth 100000 in
theorem vcLittle (n : UInt64) (s : Int) : (vcFn ELi 100 43 [.s (.u64 n), .s (.i64 s)] (.s (.xs 1 (.s s.toNat) (.u8 (littleL n s.toNat))))) =
  ((decide (s < Int.ofNat (1 : Nat)) = true → s.toNat = (0 : Nat) ∧ (littleL n s.toNat).length = (0 : Nat) ∧ True) ∧ (decide (s < Int.ofNat (1 : Nat)) = false → (decide (Int.ofNat (8 : Nat) < s) = true → s.toNat = (0 : Nat) ∧ (littleL n s.toNat).length = (0 : Nat) ∧ True) ∧ (decide (Int.ofNat (8 : Nat) < s) = false → (∃ (x : Nat), (↑x : Int) ≤ s ∧ n = n ∧ s = s ∧ x = (0 : Nat) ∧ s = s ∧ Int.ofNat (0 : Nat) = (↑x : Int) ∧ x = (0 : Nat) ∧ (littleL n x).length = (0 : Nat) ∧ True) ∧ ∀ (x : Nat), (↑x : Int) ≤ s → (decide ((↑x : Int) < s) = true → InI (Int.ofNat (8 : Nat) * (↑x : Int)) ∧ (0 : Int) ≤ Int.ofNat (8 : Nat) * (↑x : Int) ∧ x = x ∧ x + (1 : Nat) ≤ (4294967296 : Nat) ∧ InI ((↑x : Int) + Int.ofNat (1 : Nat)) ∧ ∃ (y : Nat), (↑y : Int) ≤ s ∧ s.toNat - y < s.toNat - x ∧ n = n ∧ s = s ∧ x + (1 : Nat) = y ∧ s = s ∧ (↑x : Int) + Int.ofNat (1 : Nat) = (↑y : Int) ∧ x + (1 : Nat) = y ∧ littleL n x ++ [(shr64 n (Int.ofNat (8 : Nat) * (↑x : Int)).toNat).toUInt8] = littleL n y ∧ True) ∧ (decide ((↑x : Int) < s) = false → (0 : Nat) + x ≤ x ∧ x = s.toNat ∧ List.take x (dropL (dropL (littleL n x) (0 : Nat)) (0 : Nat)) = littleL n s.toNat ∧ True)))) := by kernel_rfl
set_option maxRecDepth 100000 in
theorem vcLittleR (n : UInt64) (s : Int) : (vcFn ELr 100 51 [.s (.u64 n), .s (.i64 s)] (.s (.xs 1 (.s s.toNat) (.u8 (littleL n s.toNat))))) =
  ((decide (s < Int.ofNat (1 : Nat)) = true → s.toNat = (0 : Nat) ∧ (littleL n s.toNat).length = (0 : Nat) ∧ True) ∧ (decide (s < Int.ofNat (1 : Nat)) = false → (decide (Int.ofNat (8 : Nat) < s) = true → s.toNat = (0 : Nat) ∧ (littleL n s.toNat).length = (0 : Nat) ∧ True) ∧ (decide (Int.ofNat (8 : Nat) < s) = false → (∃ (x : Nat), (↑x : Int) ≤ s ∧ n = n ∧ s = s ∧ x = (0 : Nat) ∧ Int.ofNat (0 : Nat) = (↑x : Int) ∧ x = (0 : Nat) ∧ (littleL n x).length = (0 : Nat) ∧ True) ∧ ∀ (x : Nat), (↑x : Int) ≤ s → (decide ((↑x : Int) < s) = true → InI (Int.ofNat (8 : Nat) * (↑x : Int)) ∧ (0 : Int) ≤ Int.ofNat (8 : Nat) * (↑x : Int) ∧ x = x ∧ x + (1 : Nat) ≤ (4294967296 : Nat) ∧ InI ((↑x : Int) + Int.ofNat (1 : Nat)) ∧ ∃ (y : Nat), (↑y : Int) ≤ s ∧ s.toNat - y < s.toNat - x ∧ n = n ∧ s = s ∧ x + (1 : Nat) = y ∧ (↑x : Int) + Int.ofNat (1 : Nat) = (↑y : Int) ∧ x + (1 : Nat) = y ∧ littleL n x ++ [(shr64 n (Int.ofNat (8 : Nat) * (↑x : Int)).toNat).toUInt8] = littleL n y ∧ True) ∧ (decide ((↑x : Int) < s) = false → (0 : Nat) + x ≤ x ∧ x = s.toNat ∧ List.take x (dropL (dropL (littleL n x) (0 : Nat)) (0 : Nat)) = littleL n s.toNat ∧ True)))) := by kernel_rfl
set_option maxRecDepth 100000 in
theorem vcReadL (l : List UInt8) : (vcFn ERL 100 58 [.s (.xs 1 (.s l.length) (.u8 l))] (.s (.u64 (readL l)))) =
  ((∃ (x : Nat), x ≤ min l.length (8 : Nat) ∧ l.length = l.length ∧ l = l ∧ UInt64.ofNat (nat_lit 0) = UInt64.ofNat (nat_lit 0) ∧ UInt64.ofNat (nat_lit 0) = readL (List.take x l) ∧ min (↑l.length : Int) (Int.ofNat (8 : Nat)) = min (↑l.length : Int) (Int.ofNat (8 : Nat)) ∧ Int.ofNat (0 : Nat) = (↑x : Int) ∧ True) ∧ ∀ (x : Nat), x ≤ min l.length (8 : Nat) → (decide ((↑x : Int) < min (↑l.length : Int) (Int.ofNat (8 : Nat))) = true → ((0 : Int) ≤ (↑x : Int) ∧ (↑x : Int) < (↑l.length : Int)) ∧ (↑x : Int).toNat < l.length ∧ InI (Int.ofNat (8 : Nat) * (↑x : Int)) ∧ (0 : Int) ≤ Int.ofNat (8 : Nat) * (↑x : Int) ∧ InI ((↑x : Int) + Int.ofNat (1 : Nat)) ∧ ∃ (y : Nat), y ≤ min l.length (8 : Nat) ∧ (8 : Nat) - y < (8 : Nat) - x ∧ l.length = l.length ∧ l = l ∧ UInt64.ofNat (nat_lit 0) = UInt64.ofNat (nat_lit 0) ∧ readL (List.take x l) ||| shl64 (l.getD (↑x : Int).toNat (0 : UInt8)).toUInt64 (Int.ofNat (8 : Nat) * (↑x : Int)).toNat = readL (List.take y l) ∧ min (↑l.length : Int) (Int.ofNat (8 : Nat)) = min (↑l.length : Int) (Int.ofNat (8 : Nat)) ∧ (↑x : Int) + Int.ofNat (1 : Nat) = (↑y : Int) ∧ True) ∧ (decide ((↑x : Int) < min (↑l.length : Int) (Int.ofNat (8 : Nat))) = false → readL (List.take x l) = readL l ∧ True)) := by kernel_rfl
set_option maxRecDepth 100000 in
theorem vcReadLr (l : List UInt8) : (vcFn ERr 100 61 [.s (.xs 1 (.s l.length) (.u8 l))] (.s (.u64 (readL l)))) =
  (InI ((↑l.length : Int) - Int.ofNat (1 : Nat)) ∧ (∃ (x : Nat), x ≤ l.length ∧ l.length = l.length ∧ l = l ∧ UInt64.ofNat (nat_lit 0) = UInt64.ofNat (nat_lit 0) ∧ UInt64.ofNat (nat_lit 0) = readL (List.drop x l) ∧ (↑l.length : Int) - Int.ofNat (1 : Nat) = (↑x : Int) - (1 : Int) ∧ True) ∧ ∀ (x : Nat), x ≤ l.length → (decide (Int.ofNat (0 : Nat) ≤ (↑x : Int) - (1 : Int)) = true → ((0 : Int) ≤ (↑x : Int) - (1 : Int) ∧ (↑x : Int) - (1 : Int) < (↑l.length : Int)) ∧ ((↑x : Int) - (1 : Int)).toNat < l.length ∧ InI ((↑x : Int) - (1 : Int) - Int.ofNat (1 : Nat)) ∧ ∃ (y : Nat), y ≤ l.length ∧ y < x ∧ l.length = l.length ∧ l = l ∧ UInt64.ofNat (nat_lit 0) = UInt64.ofNat (nat_lit 0) ∧ shl64 (readL (List.drop x l)) (8 : Nat) ||| (l.getD ((↑x : Int) - (1 : Int)).toNat (0 : UInt8)).toUInt64 = readL (List.drop y l) ∧ (↑x : Int) - (1 : Int) - Int.ofNat (1 : Nat) = (↑y : Int) - (1 : Int) ∧ True) ∧ (decide (Int.ofNat (0 : Nat) ≤ (↑x : Int) - (1 : Int)) = false → readL (List.drop x l) = readL l ∧ True)) := by kernel_rfl
set_option maxRecDepth 100000 in
theorem vcJoin (ls : List (List UInt8)) : (vcFn EJo 100 38 [.s (.xs 1 (.s ls.length) (.sl ls))] (.s (.xs 1 (.s ls.flatten.length) (.u8 ls.flatten)))) =
  ((∃ (x : Nat), x ≤ ls.length ∧ ls.length = ls.length ∧ ls = ls ∧ (List.take x ls).flatten.length = (0 : Nat) ∧ ls.length = ls.length ∧ ls = ls ∧ (↑ls.length : Int) = (↑ls.length : Int) ∧ Int.ofNat (0 : Nat) = (↑x : Int) ∧ (List.take x ls).flatten.length = (0 : Nat) ∧ (List.take x ls).flatten.length = (0 : Nat) ∧ True) ∧ ∀ (x : Nat), x ≤ ls.length → (decide ((↑x : Int) < (↑ls.length : Int)) = true → ((0 : Int) ≤ (↑x : Int) ∧ (↑x : Int) < (↑ls.length : Int)) ∧ (↑x : Int).toNat < ls.length ∧ (List.take x ls).flatten.length = (List.take x ls).flatten.length ∧ (List.take x ls).flatten.length + (ls.getD (↑x : Int).toNat []).length ≤ (4294967296 : Nat) ∧ InI ((↑x : Int) + Int.ofNat (1 : Nat)) ∧ ∃ (y : Nat), y ≤ ls.length ∧ ls.length - y < ls.length - x ∧ ls.length = ls.length ∧ ls = ls ∧ (List.take x ls).flatten.length + (ls.getD (↑x : Int).toNat []).length = (List.take y ls).flatten.length ∧ ls.length = ls.length ∧ ls = ls ∧ (↑ls.length : Int) = (↑ls.length : Int) ∧ (↑x : Int) + Int.ofNat (1 : Nat) = (↑y : Int) ∧ (List.take x ls).flatten.length + (ls.getD (↑x : Int).toNat []).length = (List.take y ls).flatten.length ∧ (List.take x ls).flatten ++ ls.getD (↑x : Int).toNat [] = (List.take y ls).flatten ∧ True) ∧ (decide ((↑x : Int) < (↑ls.length : Int)) = false → (0 : Nat) + (List.take x ls).flatten.length ≤ (List.take x ls).flatten.length ∧ (List.take x ls).flatten.length = ls.flatten.length ∧ List.take (List.take x ls).flatten.length (dropL (dropL (List.take x ls).flatten (0 : Nat)) (0 : Nat)) = ls.flatten ∧ True)) := by kernel_rfl
set_option maxRecDepth 100000 in
theorem vcJoinR (ls : List (List UInt8)) : (vcFn EJo 100 40 [.s (.xs 1 (.s ls.length) (.sl ls))] (.s (.xs 1 (.s ls.flatten.length) (.u8 ls.flatten)))) =
  ((∃ (x : Nat), x ≤ ls.length ∧ ls.length = ls.length ∧ ls = ls ∧ (List.take x ls).flatten.length = (0 : Nat) ∧ ls.length = ls.length ∧ ls = ls ∧ (↑ls.length : Int) = (↑ls.length : Int) ∧ Int.ofNat (0 : Nat) = (↑x : Int) ∧ (List.take x ls).flatten.length = (0 : Nat) ∧ (List.take x ls).flatten.length = (0 : Nat) ∧ True) ∧ ∀ (x : Nat), x ≤ ls.length → (decide ((↑x : Int) < (↑ls.length : Int)) = true → ((0 : Int) ≤ (↑x : Int) ∧ (↑x : Int) < (↑ls.length : Int)) ∧ (↑x : Int).toNat < ls.length ∧ (List.take x ls).flatten.length = (List.take x ls).flatten.length ∧ (List.take x ls).flatten.length + (ls.getD (↑x : Int).toNat []).length ≤ (4294967296 : Nat) ∧ InI ((↑x : Int) + Int.ofNat (1 : Nat)) ∧ ∃ (y : Nat), y ≤ ls.length ∧ ls.length - y < ls.length - x ∧ ls.length = ls.length ∧ ls = ls ∧ (List.take x ls).flatten.length + (ls.getD (↑x : Int).toNat []).length = (List.take y ls).flatten.length ∧ ls.length = ls.length ∧ ls = ls ∧ (↑ls.length : Int) = (↑ls.length : Int) ∧ (↑x : Int) + Int.ofNat (1 : Nat) = (↑y : Int) ∧ (List.take x ls).flatten.length + (ls.getD (↑x : Int).toNat []).length = (List.take y ls).flatten.length ∧ (List.take x ls).flatten ++ ls.getD (↑x : Int).toNat [] = (List.take y ls).flatten ∧ True) ∧ (decide ((↑x : Int) < (↑ls.length : Int)) = false → (0 : Nat) + (List.take x ls).flatten.length ≤ (List.take x ls).flatten.length ∧ (List.take x ls).flatten.length = ls.flatten.length ∧ List.take (List.take x ls).flatten.length (dropL (dropL (List.take x ls).flatten (0 : Nat)) (0 : Nat)) = ls.flatten ∧ True)) := by kernel_rfl
end Go.Proofs.Ytbgnjipdecekoaa

/- A step towards NoiseAgreesSaid: no conditions. -/
namespace Go.Proofs.Ytbgnjipdecekoaa
open Go Go.Eng Go.Cod
theorem dropL_zero {α : Type} (l : List α) : dropL l 0 = l := rfl
theorem inI_of {x : Int} (h1 : -9223372036854775808 ≤ x) (h2 : x < 9223372036854775808) : InI x := ⟨h1, h2⟩
set_option maxRecDepth 100000 in
theorem conLittle : Con Try.prog 43 gLittle := con_of_vcs fun args ps res h hp => by
  unfold gLittle at h
  split at h <;> cases h
  rename_i n s
  have hs := (all_cons.1 hp).1
  refine ⟨ELi, 100, rfl, eok (gs := []) trivial, ?_⟩
  refine Eq.mpr (vcLittle n s) ?_
  simp only [io, true_and, and_true, dropL_zero, Nat.zero_add, Nat.le_refl]
  refine ⟨fun h1 => absurd (of_decide_eq_true h1) (by omega), fun _ => ⟨fun h1 => absurd (of_decide_eq_true h1) (by omega), fun _ => ⟨⟨0, by omega, rfl, rfl, rfl, rfl⟩, fun x hx => ⟨fun h1 => ?_, fun h1 => ?_⟩⟩⟩⟩
  · have h1 := of_decide_eq_true h1
    refine ⟨inI_of (by omega) (by omega), by omega, by omega, inI_of (by omega) (by omega), x + 1, by omega, by omega, rfl, rfl, rfl, ?_⟩
    have e2 : (((8 : Nat) : Int) * (x : Int)).toNat = 8 * x := by omega
    rw [e2]; rfl
  · have h1 := of_decide_eq_false h1
    have e : x = s.toNat := by omega
    subst e
    exact ⟨rfl, by rw [List.take_of_length_le (by rw [littleL_len]; exact Nat.le_refl _)]⟩
theorem conLittleN4 : Con Try.prog 43 gLittleN := littleN_of conLittle
set_option maxRecDepth 100000 in
theorem conLittleR : Con Try.prog 51 gLittle := con_of_vcs fun args ps res h hp => by
  unfold gLittle at h
  split at h <;> cases h
  rename_i n s
  have hs := (all_cons.1 hp).1
  refine ⟨ELr, 100, rfl, eok (gs := []) trivial, ?_⟩
  refine Eq.mpr (vcLittleR n s) ?_
  simp only [io, true_and, and_true, dropL_zero, Nat.zero_add, Nat.le_refl]
  refine ⟨fun h1 => absurd (of_decide_eq_true h1) (by omega), fun _ => ⟨fun h1 => absurd (of_decide_eq_true h1) (by omega), fun _ => ⟨⟨0, by omega, rfl, rfl, rfl, rfl⟩, fun x hx => ⟨fun h1 => ?_, fun h1 => ?_⟩⟩⟩⟩
  · have h1 := of_decide_eq_true h1
    refine ⟨inI_of (by omega) (by omega), by omega, by omega, inI_of (by omega) (by omega), x + 1, by omega, by omega, rfl, rfl, rfl, ?_⟩
    have e2 : (((8 : Nat) : Int) * (x : Int)).toNat = 8 * x := by omega
    rw [e2]; rfl
  · have h1 := of_decide_eq_false h1
    have e : x = s.toNat := by omega
    subst e
    exact ⟨rfl, by rw [List.take_of_length_le (by rw [littleL_len]; exact Nat.le_refl _)]⟩
theorem conLittleRN4 : Con Try.prog 51 gLittleN := littleN_of conLittleR
set_option maxRecDepth 100000 in
theorem conReadL : Con Try.prog 58 gReadL := con_of_vcs fun args ps res h hp => by
  unfold gReadL at h
  split at h <;> cases h
  rename_i n l
  obtain ⟨rfl, hp2⟩ := all_cons.1 hp
  have hl := (all_cons.1 hp2).1
  refine ⟨ERL, 100, rfl, eok (gs := []) trivial, ?_⟩
  refine Eq.mpr (vcReadL l) ?_
  simp only [io, true_and, and_true]
  have hm : min l.length 8 ≤ 8 := Nat.min_le_right ..
  have hm2 : min l.length 8 ≤ l.length := Nat.min_le_left ..
  have hi : (min (l.length : Int) ((8 : Nat) : Int)) = ((min l.length 8 : Nat) : Int) := by omega
  simp only [hi]
  refine ⟨⟨0, by omega, rfl, rfl⟩, fun x hx => ⟨fun h1 => ?_, fun h1 => ?_⟩⟩
  · have h1 := of_decide_eq_true h1
    have hx' : x < l.length := by omega
    refine ⟨⟨by omega, by omega⟩, by omega, inI_of (by omega) (by omega), by omega, inI_of (by omega) (by omega), x + 1, by omega, by omega, ?_, rfl⟩
    rw [readL_step l x hx']
    have e1 : (x : Int).toNat = x := rfl
    have e2 : (((8 : Nat) : Int) * (x : Int)).toNat = 8 * x := by omega
    rw [e1, e2]
  · have h1 := of_decide_eq_false h1
    have e : x = min l.length 8 := by omega
    rw [e]
    exact readL_min l
set_option maxRecDepth 100000 in
theorem conReadLr : Con Try.prog 61 gReadL := con_of_vcs fun args ps res h hp => by
  unfold gReadL at h
  split at h <;> cases h
  rename_i n l
  obtain ⟨rfl, hp2⟩ := all_cons.1 hp
  have hl := (all_cons.1 hp2).1
  refine ⟨ERr, 100, rfl, eok (gs := []) trivial, ?_⟩
  refine Eq.mpr (vcReadLr l) ?_
  simp only [io, true_and, and_true]
  refine ⟨inI_of (by omega) (by omega), ⟨l.length, Nat.le_refl _, ?_, rfl⟩, fun x hx => ⟨fun h1 => ?_, fun h1 => ?_⟩⟩
  · rw [List.drop_length]; rfl
  · have h1 := of_decide_eq_true h1
    have e1 : ((x : Int) - 1).toNat = x - 1 := by omega
    rw [e1]
    refine ⟨⟨by omega, by omega⟩, by omega, inI_of (by omega) (by omega), x - 1, by omega, by omega, ?_, by omega⟩
    rw [readL_drop l (x - 1) (by omega), show x - 1 + 1 = x by omega]
  · have h1 := of_decide_eq_false h1
    have e : x = 0 := by omega
    rw [e]; rfl
set_option maxRecDepth 100000 in
theorem conJoin : Con Try.prog 38 gJoin := con_of_vcs fun args ps res h hp => by
  unfold gJoin at h
  split at h <;> cases h
  rename_i n ls
  obtain ⟨rfl, hp2⟩ := all_cons.1 hp
  have h2 := all_cons.1 hp2
  have hl := h2.1
  have hb := (all_cons.1 h2.2).1
  refine ⟨EJo, 100, rfl, eok (gs := []) trivial, ?_⟩
  refine Eq.mpr (vcJoin ls) ?_
  simp only [io, true_and, and_true, dropL_zero, List.take_length, Nat.zero_add, Nat.le_refl]
  refine ⟨⟨0, by omega, rfl, rfl, rfl, rfl⟩, fun x hx => ⟨fun h1 => ?_, fun h1 => ?_⟩⟩
  · have h1 := of_decide_eq_true h1
    have hx' : x < ls.length := by omega
    have e1 : (x : Int).toNat = x := rfl
    rw [e1]
    have e2 : (ls.take (x + 1)).flatten = (ls.take x).flatten ++ ls.getD x [] := by
      rw [List.take_add_one, List.getElem?_eq_getElem hx', Option.toList_some, List.flatten_append, List.getD_eq_getElem?_getD, List.getElem?_eq_getElem hx']
      simp
    have e3 : (ls.take x).flatten.length + (ls.getD x []).length ≤ ls.flatten.length := by
      rw [← List.length_append, ← e2]
      have : ls.flatten = (ls.take (x + 1)).flatten ++ (ls.drop (x + 1)).flatten := by rw [← List.flatten_append, List.take_append_drop]
      rw [this, List.length_append]; omega
    refine ⟨⟨by omega, by omega⟩, by omega, by omega, inI_of (by omega) (by omega), x + 1, by omega, by omega, ?_, rfl, ?_, ?_⟩
    · rw [e2, List.length_append]
    · rw [e2, List.length_append]
    · rw [e2]
  · have h1 := of_decide_eq_false h1
    have e : x = ls.length := by omega
    rw [e, List.take_length]
    exact ⟨rfl, rfl⟩
set_option maxRecDepth 100000 in
theorem conJoinR : Con Try.prog 40 gJoin := con_of_vcs fun args ps res h hp => by
  unfold gJoin at h
  split at h <;> cases h
  rename_i n ls
  obtain ⟨rfl, hp2⟩ := all_cons.1 hp
  have h2 := all_cons.1 hp2
  have hl := h2.1
  have hb := (all_cons.1 h2.2).1
  refine ⟨EJo, 100, rfl, eok (gs := []) trivial, ?_⟩
  refine Eq.mpr (vcJoinR ls) ?_
  simp only [io, true_and, and_true, dropL_zero, List.take_length, Nat.zero_add, Nat.le_refl]
  refine ⟨⟨0, by omega, rfl, rfl, rfl, rfl⟩, fun x hx => ⟨fun h1 => ?_, fun h1 => ?_⟩⟩
  · have h1 := of_decide_eq_true h1
    have hx' : x < ls.length := by omega
    have e1 : (x : Int).toNat = x := rfl
    rw [e1]
    have e2 : (ls.take (x + 1)).flatten = (ls.take x).flatten ++ ls.getD x [] := by
      rw [List.take_add_one, List.getElem?_eq_getElem hx', Option.toList_some, List.flatten_append, List.getD_eq_getElem?_getD, List.getElem?_eq_getElem hx']
      simp
    have e3 : (ls.take x).flatten.length + (ls.getD x []).length ≤ ls.flatten.length := by
      rw [← List.length_append, ← e2]
      have : ls.flatten = (ls.take (x + 1)).flatten ++ (ls.drop (x + 1)).flatten := by rw [← List.flatten_append, List.take_append_drop]
      rw [this, List.length_append]; omega
    refine ⟨⟨by omega, by omega⟩, by omega, by omega, inI_of (by omega) (by omega), x + 1, by omega, by omega, ?_, rfl, ?_, ?_⟩
    · rw [e2, List.length_append]
    · rw [e2, List.length_append]
    · rw [e2]
  · have h1 := of_decide_eq_false h1
    have e : x = ls.length := by omega
    rw [e, List.take_length]
    exact ⟨rfl, rfl⟩
end Go.Proofs.Ytbgnjipdecekoaa

/- A step towards NoiseAgreesSaid: no conditions. -/
namespace Go.Proofs.Ytbgnjipdecekoaa
open Go Go.Eng Go.Cod Go.Cha
theorem u32lits : UInt32.ofNat 1634760805 = 1634760805 ∧ UInt32.ofNat 857760878 = 857760878 ∧ UInt32.ofNat 2036477234 = 2036477234 ∧ UInt32.ofNat 1797285236 = 1797285236 := ⟨rfl, rfl, rfl, rfl⟩
theorem take4_lt {α : Type} (l : List α) : (l.take 4).length < 4611686018427387904 := by rw [List.length_take]; omega
set_option maxRecDepth 100000 in
theorem conBlock : Con Try.prog 52 gBlock := con_of_vcl fun args ps res h hp hlen => by
  unfold gBlock at h
  split at h <;> cases h
  rename_i k c n
  obtain ⟨⟨hk, _⟩, _, ⟨hn, _⟩, _⟩ := hlen
  refine ⟨EB, 300, rfl, eok (gs := [(58, gReadL), (43, gLittleN), (64, gCore)]) ⟨conReadL, conLittleN4, conCore, trivial⟩, ?_⟩
  refine Eq.mpr (vcBlock k n c) ?_
  simp only [forall_eq, true_and, and_true, take4_lt, dropL_eq]
  repeat first | refine ⟨by decide, ?_⟩ | refine ⟨rfl, ?_⟩
  kernel_rfl
theorem stateR (k n : List UInt8) (c : UInt32) (hn : n.length = 12) :
    stateL k [[(shr64 c.toUInt64 0).toUInt8, (shr64 c.toUInt64 8).toUInt8, (shr64 c.toUInt64 16).toUInt8, (shr64 c.toUInt64 24).toUInt8], n].flatten = (blkIn k c n).l := by
  have e : [[(shr64 c.toUInt64 0).toUInt8, (shr64 c.toUInt64 8).toUInt8, (shr64 c.toUInt64 16).toUInt8, (shr64 c.toUInt64 24).toUInt8], n].flatten = littleL c.toUInt64 4 ++ n := by
    rw [List.flatten_cons, List.flatten_cons, List.flatten_nil, List.append_nil]; rfl
  rw [e]
  have h0 : rd (littleL c.toUInt64 4 ++ n) 0 = c := by
    unfold rd
    rw [List.drop_zero, List.take_append_of_le_length (by rw [littleL_len]; omega), List.take_of_length_le (by rw [littleL_len]; omega)]
    exact readL_little4 c
  have hd : ∀ i, rd (littleL c.toUInt64 4 ++ n) (4 + i) = rd n i := fun i => by
    unfold rd
    rw [List.drop_append, littleL_len, List.drop_of_length_le (by rw [littleL_len]; omega), List.nil_append, Nat.add_sub_cancel_left]
  have h4 := hd 0
  have h8 := hd 4
  have h12 := hd 8
  show [_, _, _, _, _, _, _, _, _, _, _, _, rd _ 0, rd _ (4 + 0), rd _ (4 + 4), rd _ (4 + 8)] = _
  rw [h0, h4, h8, h12]
  rfl
set_option maxRecDepth 100000 in
theorem conState : Con Try.prog 68 gState := con_of_vcl fun args ps res h hp hlen => by
  unfold gState at h
  split at h <;> cases h
  rename_i k m r
  obtain ⟨rfl, hp2⟩ := all_cons.1 hp
  have hr := (all_cons.1 hp2).1
  refine ⟨ESt, 300, rfl, eok (gs := [(61, gReadL)]) ⟨conReadLr, trivial⟩, ?_⟩
  refine Eq.mpr (vcState k r) ?_
  simp only [forall_eq, true_and, and_true, take4_lt, dropL_eq]
  repeat first | refine ⟨by omega, ?_⟩
  kernel_rfl
set_option maxRecDepth 100000 in
theorem conBlockR : Con Try.prog 55 gBlock := con_of_vcl fun args ps res h hp hlen => by
  unfold gBlock at h
  split at h <;> cases h
  rename_i k c n
  obtain ⟨⟨hk, _⟩, _, ⟨hn, _⟩, _⟩ := hlen
  have hn : n.length = 12 := hn
  refine ⟨EBr, 300, rfl, eok (gs := [(68, gState), (51, gLittleN), (69, gCore), (40, gJoin)]) ⟨conState, conLittleRN4, conCoreR, conJoinR, trivial⟩, ?_⟩
  refine Eq.mpr (vcBlockR k n c) ?_
  have fl : [[(shr64 c.toUInt64 0).toUInt8, (shr64 c.toUInt64 8).toUInt8, (shr64 c.toUInt64 16).toUInt8, (shr64 c.toUInt64 24).toUInt8], n].flatten.length = 16 := by simp [hn]
  have ft := List.take_of_length_le (Nat.le_of_eq fl)
  simp only [forall_eq, true_and, and_true, take4_lt, dropL_eq, List.drop_zero, ft, stateR k n c hn, fl]
  repeat first | refine ⟨by decide, ?_⟩ | refine ⟨rfl, ?_⟩
  kernel_rfl
end Go.Proofs.Ytbgnjipdecekoaa

/- A step towards NoiseAgreesSaid: no conditions. -/
namespace Go.Proofs.Ytbgnjipdecekoaa
open Go Go.Eng Go.Cod Go.Cha
theorem tmod_nat (x m : Nat) : ((x : Int).tmod (m : Int)) = ((x % m : Nat) : Int) := rfl
theorem tdiv_nat (x m : Nat) : ((x : Int).tdiv (m : Int)) = ((x / m : Nat) : Int) := rfl
theorem to32_nat (x : Nat) : to32 (x : Int) = UInt32.ofNat x := by
  unfold to32
  rw [BitVec.ofInt_natCast]; rfl
theorem nat_toNat (x : Nat) : ((x : Int)).toNat = x := rfl
theorem dec_nat (x y : Nat) : decide ((x : Int) = (y : Int)) = decide (x = y) := by
  rw [decide_eq_decide]; omega
theorem declt_nat (x y : Nat) : decide ((x : Int) < (y : Int)) = decide (x < y) := by
  rw [decide_eq_decide]; omega
theorem ofNat_add1 (x : Nat) : UInt32.ofNat x + UInt32.ofNat 1 = UInt32.ofNat (x + 1) := (UInt32.ofNat_add ..).symm
theorem padAt_succ (k n : List UInt8) (c : UInt32) (x : Nat) (h : x % 64 ≠ 0) : padAt k n c x = padAt k n c (x + 1) := by
  cases x with
  | zero => simp at h
  | succ x =>
    show block k (c + UInt32.ofNat (x / 64)) n = block k (c + UInt32.ofNat ((x + 1) / 64)) n
    rw [show x / 64 = (x + 1) / 64 by omega]
set_option maxRecDepth 100000 in
theorem conXor : Con Try.prog 41 gXor := con_of_vcs fun args ps res h hp => by
  unfold gXor at h
  split at h <;> cases h
  rename_i k c n m d
  obtain ⟨rfl, hp2⟩ := all_cons.1 hp
  have hd := (all_cons.1 hp2).1
  refine ⟨EX, 300, rfl, eok (gs := [(52, gBlock)]) ⟨conBlock, trivial⟩, ?_⟩
  refine Eq.mpr (vcXor k n d c) ?_
  simp only [io, true_and, and_true, dropL_zero, Nat.zero_add, Nat.le_refl, tmod_nat, dec_nat, declt_nat, nat_toNat]
  refine ⟨⟨0, by omega, ?_, rfl, rfl, rfl, rfl, rfl⟩, fun x hx => ⟨fun h1 => ?_, fun h1 => ?_⟩⟩
  · show c = c + UInt32.ofNat 0
    exact (UInt32.add_zero c).symm
  · have h1 := of_decide_eq_true h1
    refine ⟨⟨by omega, by omega⟩, by omega, by decide, fun h2 => ?_, fun h2 => ?_⟩
    · have h2 := of_decide_eq_true h2
      refine ⟨by decide, ⟨by omega, by omega⟩, by omega, by omega, inI_of (by omega) (by omega), x + 1, by omega, by omega, ?_, rfl, rfl, ?_, rfl, ?_⟩
      · rw [UInt32.add_assoc, ofNat_add1, show (x + 63) / 64 + 1 = (x + 1 + 63) / 64 by omega]
      · show block k (c + UInt32.ofNat ((x + 63) / 64)) n = block k (c + UInt32.ofNat (x / 64)) n
        rw [show (x + 63) / 64 = x / 64 by omega]
      · rw [show (x + 63) / 64 = x / 64 by omega]; rfl
    · have h2 := of_decide_eq_false h2
      have e := padAt_succ k n c x h2
      refine ⟨by decide, ⟨by omega, by omega⟩, by omega, by omega, inI_of (by omega) (by omega), x + 1, by omega, by omega, ?_, rfl, rfl, e, rfl, ?_⟩
      · rw [show (x + 63) / 64 = (x + 1 + 63) / 64 by omega]
      · rw [e]; rfl
  · have h1 := of_decide_eq_false h1
    have e : x = d.length := by omega
    rw [e]
    exact ⟨rfl, by rw [List.take_of_length_le (by rw [xorTo_len]; exact Nat.le_refl _)]; rfl⟩
set_option maxRecDepth 100000 in
theorem conXorR : Con Try.prog 44 gXor := con_of_vcs fun args ps res h hp => by
  unfold gXor at h
  split at h <;> cases h
  rename_i k c n m d
  obtain ⟨rfl, hp2⟩ := all_cons.1 hp
  have hd := (all_cons.1 hp2).1
  refine ⟨EXr, 300, rfl, eok (gs := [(55, gBlock)]) ⟨conBlockR, trivial⟩, ?_⟩
  refine Eq.mpr (vcXorR k n d c) ?_
  simp only [io, true_and, and_true, dropL_zero, Nat.zero_add, Nat.le_refl, tmod_nat, tdiv_nat, to32_nat, dec_nat, declt_nat, nat_toNat]
  refine ⟨⟨0, by omega, rfl, rfl, rfl, rfl, rfl⟩, fun x hx => ⟨fun h1 => ?_, fun h1 => ?_⟩⟩
  · have h1 := of_decide_eq_true h1
    refine ⟨⟨by omega, by omega⟩, by omega, by decide, fun h2 => ?_, fun h2 => ?_⟩
    · have h2 := of_decide_eq_true h2
      exact ⟨⟨by decide, inI_of (by omega) (by omega)⟩, by decide, ⟨by omega, by omega⟩, by omega, by omega, inI_of (by omega) (by omega), x + 1, by omega, by omega, rfl, rfl, rfl, rfl, rfl⟩
    · have h2 := of_decide_eq_false h2
      have e := padAt_succ k n c x h2
      exact ⟨by decide, ⟨by omega, by omega⟩, by omega, by omega, inI_of (by omega) (by omega), x + 1, by omega, by omega, rfl, rfl, e, rfl, by rw [e]; rfl⟩
  · have h1 := of_decide_eq_false h1
    have e : x = d.length := by omega
    rw [e]
    exact ⟨rfl, by rw [List.take_of_length_le (by rw [xorTo_len]; exact Nat.le_refl _)]; rfl⟩
end Go.Proofs.Ytbgnjipdecekoaa
