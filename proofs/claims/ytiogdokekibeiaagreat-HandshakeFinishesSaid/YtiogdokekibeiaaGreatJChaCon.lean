/- Steps towards HandshakeFinishesSaid. -/
import Derived.Test.YtiogdokekibeiaaGreatJAedVc
import Derived.Test.YtiogdokekibeiaaGreatJChaSpec
import Derived.Test.YtiogdokekibeiaaGreatBase
import Derived.Test.YtiogdokekibeiaaGreatJCodNum
/- A step towards HandshakeFinishesSaid: no conditions. -/
namespace Go.Proofs.YtiogdokekibeiaaGreat
set_option maxRecDepth 100000
open Go Go.Eng Go.Cha
theorem conQuarter : Con Tryz.prog 124 gQuarter := con_of_vcs fun args ps res h hp => by
  unfold gQuarter at h
  split at h <;> cases h
  rename_i a b c d
  refine ⟨EQ, 100, rfl, eok (gs := []) trivial, ?_⟩
  refine Eq.mpr (vcQuarter a b c d) ?_
  exact ⟨rfl, rfl, rfl, rfl, trivial⟩
theorem conLeft : Con Tryz.prog 128 gLeft := con_of_vcs fun args ps res h hp => by
  unfold gLeft at h
  split at h <;> cases h
  rename_i x k
  have hk := (all_cons.1 hp).1
  refine ⟨EQ, 100, rfl, eok (gs := []) trivial, ?_⟩
  refine Eq.mpr (vcLeft x k) ?_
  simp only [io]
  refine ⟨hk.1, ⟨by omega, by omega⟩, by omega, ?_, trivial⟩
  have e : (((32 : Nat) : Int) - k).toNat = 32 - k.toNat := by omega
  rw [e]; rfl
theorem conQuarterAt : Con Tryz.prog 122 gQuarterAt := con_of_vcs fun args ps res h hp => by
  unfold gQuarterAt at h
  split at h <;> cases h
  rename_i w a b c d
  have h1 := all_cons.1 hp
  have h2 := all_cons.1 h1.2
  have h3 := all_cons.1 h2.2
  have h4 := all_cons.1 h3.2
  have ha := h1.1; have hb := h2.1; have hc := h3.1; have hd := h4.1
  clear h1 h2 h3 h4 hp
  refine ⟨EQa, 100, rfl, eok (gs := [(128, gLeft)]) ⟨conLeft, trivial⟩, ?_⟩
  refine Eq.mpr (vcQuarterAt w a b c d) ?_
  have i16 : ((16 : Nat) : Int) = 16 := rfl
  have ha' : a.toNat < 16 := by omega
  have hb' : b.toNat < 16 := by omega
  have hc' : c.toNat < 16 := by omega
  have hd' : d.toNat < 16 := by omega
  simp only [io, i16, ha, hb, hc, hd, ha', hb', hc', hd', true_and, and_true, forall_eq]
  exact ⟨⟨by omega, by omega⟩, ⟨by omega, by omega⟩, ⟨by omega, by omega⟩, ⟨by omega, by omega⟩, rfl⟩
theorem iter_succ {α : Type} (f : α → α) : ∀ (n : Nat) (x : α), iter f (n + 1) x = iter f n (f x)
  | 0, _ => rfl
  | n + 1, x => by
    show f (iter f (n + 1) x) = f (iter f n (f x))
    rw [iter_succ f n x]
theorem core_step {w : W16} {n : Nat} {x : W16} (hn : n < 10) (h : coreL w.l = (iter dbl (10 - n) x).l) : coreL w.l = (iter dbl (10 - (n + 1)) (dbl x)).l := by
  rw [h, show 10 - n = (10 - (n + 1)) + 1 by omega, iter_succ]
theorem conCore : Con Tryz.prog 117 gCore := con_of_vcs fun args ps res h hp => by
  unfold gCore at h
  split at h <;> cases h
  rename_i w
  obtain ⟨w, rfl⟩ := len16 (all_cons.1 hp).1
  refine ⟨EC, 200, rfl, eok (gs := [(124, gQuarter)]) ⟨conQuarter, trivial⟩, ?_⟩
  refine Eq.mpr (vcCore w) ?_
  refine ⟨⟨(0, w), ⟨by omega, rfl⟩, rfl, rfl, rfl, rfl, rfl, trivial⟩, fun x hx => ⟨fun h1 => ?_, fun h1 => ?_⟩⟩
  · simp only [io] at h1 ⊢
    have h1 := of_decide_eq_true h1
    have hlt : x.1 < 10 := by omega
    refine ⟨⟨by omega, by omega⟩, (x.1 + 1, dbl x.2), ⟨hlt, core_step hlt hx.2⟩, by show 10 - (x.1 + 1) < _; omega, ?_⟩
    and_intros <;> first | trivial | rfl
  · simp only [io] at h1
    have h1 := of_decide_eq_false h1
    have e : x.1 = 10 := by omega
    have h2 := hx.2
    rw [e] at h2
    exact ⟨h2.symm, trivial⟩
theorem conCoreR : Con Tryz.prog 112 gCore := con_of_vcs fun args ps res h hp => by
  unfold gCore at h
  split at h <;> cases h
  rename_i w
  obtain ⟨w, rfl⟩ := len16 (all_cons.1 hp).1
  refine ⟨ECr, 200, rfl, eok (gs := [(122, gQuarterAt)]) ⟨conQuarterAt, trivial⟩, ?_⟩
  refine Eq.mpr (vcCoreR w) ?_
  refine ⟨⟨(0, w), ⟨by omega, rfl⟩, rfl, rfl, rfl, rfl, trivial⟩, fun x hx => ⟨fun h1 => ?_, fun h1 => ?_⟩⟩
  · simp only [io, Int.toNat_natCast] at h1 ⊢
    have h1 := of_decide_eq_true h1
    have hlt : x.1 < 10 := by omega
    repeat refine ⟨⟨by omega, by omega⟩, ?_⟩
    refine ⟨(x.1 + 1, dbl x.2), ⟨hlt, core_step hlt hx.2⟩, by show 10 - (x.1 + 1) < _; omega, ?_⟩
    simp only [qr8]
    and_intros <;> first | trivial | rfl
  · simp only [io] at h1
    have h1 := of_decide_eq_false h1
    have e : x.1 = 10 := by omega
    have h2 := hx.2
    rw [e] at h2
    exact ⟨h2.symm, trivial⟩
end Go.Proofs.YtiogdokekibeiaaGreat

/- A step towards HandshakeFinishesSaid: no conditions. -/
namespace Go.Proofs.YtiogdokekibeiaaGreat
set_option maxRecDepth 100000
open Go Go.Eng Go.Cod
noncomputable def ERL : Env := mkE Tryz.prog [] [(0, JReadL)] 2
noncomputable def ERr : Env := mkE Tryz.prog [] [(0, JReadLr)] 2
noncomputable def EJo : Env := mkE Tryz.prog [] [(0, JJoin)] 2
noncomputable def ELi : Env := mkE Tryz.prog [] [(0, JLittle 14 [0, 1, 4, 13])] 2
noncomputable def ELr : Env := mkE Tryz.prog [] [(0, JLittle 6 [0, 1, 4])] 2
theorem vcLittle (n : UInt64) (s : Int) : (vcFn ELi 100 88 [.s (.u64 n), .s (.i64 s)] (.s (.xs 1 (.s s.toNat) (.u8 (littleL n s.toNat))))) =
  ((decide (s < Int.ofNat (1 : Nat)) = true → s.toNat = (0 : Nat) ∧ (littleL n s.toNat).length = (0 : Nat) ∧ True) ∧ (decide (s < Int.ofNat (1 : Nat)) = false → (decide (Int.ofNat (8 : Nat) < s) = true → s.toNat = (0 : Nat) ∧ (littleL n s.toNat).length = (0 : Nat) ∧ True) ∧ (decide (Int.ofNat (8 : Nat) < s) = false → (∃ (x : Nat), (↑x : Int) ≤ s ∧ n = n ∧ s = s ∧ x = (0 : Nat) ∧ s = s ∧ Int.ofNat (0 : Nat) = (↑x : Int) ∧ x = (0 : Nat) ∧ (littleL n x).length = (0 : Nat) ∧ True) ∧ ∀ (x : Nat), (↑x : Int) ≤ s → (decide ((↑x : Int) < s) = true → InI (Int.ofNat (8 : Nat) * (↑x : Int)) ∧ (0 : Int) ≤ Int.ofNat (8 : Nat) * (↑x : Int) ∧ x = x ∧ x + (1 : Nat) ≤ (4294967296 : Nat) ∧ InI ((↑x : Int) + Int.ofNat (1 : Nat)) ∧ ∃ (y : Nat), (↑y : Int) ≤ s ∧ s.toNat - y < s.toNat - x ∧ n = n ∧ s = s ∧ x + (1 : Nat) = y ∧ s = s ∧ (↑x : Int) + Int.ofNat (1 : Nat) = (↑y : Int) ∧ x + (1 : Nat) = y ∧ littleL n x ++ [(shr64 n (Int.ofNat (8 : Nat) * (↑x : Int)).toNat).toUInt8] = littleL n y ∧ True) ∧ (decide ((↑x : Int) < s) = false → (0 : Nat) + x ≤ x ∧ x = s.toNat ∧ List.take x (dropL (dropL (littleL n x) (0 : Nat)) (0 : Nat)) = littleL n s.toNat ∧ True)))) := by kernel_rfl
theorem vcLittleR (n : UInt64) (s : Int) : (vcFn ELr 100 96 [.s (.u64 n), .s (.i64 s)] (.s (.xs 1 (.s s.toNat) (.u8 (littleL n s.toNat))))) =
  ((decide (s < Int.ofNat (1 : Nat)) = true → s.toNat = (0 : Nat) ∧ (littleL n s.toNat).length = (0 : Nat) ∧ True) ∧ (decide (s < Int.ofNat (1 : Nat)) = false → (decide (Int.ofNat (8 : Nat) < s) = true → s.toNat = (0 : Nat) ∧ (littleL n s.toNat).length = (0 : Nat) ∧ True) ∧ (decide (Int.ofNat (8 : Nat) < s) = false → (∃ (x : Nat), (↑x : Int) ≤ s ∧ n = n ∧ s = s ∧ x = (0 : Nat) ∧ Int.ofNat (0 : Nat) = (↑x : Int) ∧ x = (0 : Nat) ∧ (littleL n x).length = (0 : Nat) ∧ True) ∧ ∀ (x : Nat), (↑x : Int) ≤ s → (decide ((↑x : Int) < s) = true → InI (Int.ofNat (8 : Nat) * (↑x : Int)) ∧ (0 : Int) ≤ Int.ofNat (8 : Nat) * (↑x : Int) ∧ x = x ∧ x + (1 : Nat) ≤ (4294967296 : Nat) ∧ InI ((↑x : Int) + Int.ofNat (1 : Nat)) ∧ ∃ (y : Nat), (↑y : Int) ≤ s ∧ s.toNat - y < s.toNat - x ∧ n = n ∧ s = s ∧ x + (1 : Nat) = y ∧ (↑x : Int) + Int.ofNat (1 : Nat) = (↑y : Int) ∧ x + (1 : Nat) = y ∧ littleL n x ++ [(shr64 n (Int.ofNat (8 : Nat) * (↑x : Int)).toNat).toUInt8] = littleL n y ∧ True) ∧ (decide ((↑x : Int) < s) = false → (0 : Nat) + x ≤ x ∧ x = s.toNat ∧ List.take x (dropL (dropL (littleL n x) (0 : Nat)) (0 : Nat)) = littleL n s.toNat ∧ True)))) := by kernel_rfl
theorem vcReadL (l : List UInt8) : (vcFn ERL 100 89 [.s (.xs 1 (.s l.length) (.u8 l))] (.s (.u64 (readL l)))) =
  ((∃ (x : Nat), x ≤ min l.length (8 : Nat) ∧ l.length = l.length ∧ l = l ∧ UInt64.ofNat (nat_lit 0) = UInt64.ofNat (nat_lit 0) ∧ UInt64.ofNat (nat_lit 0) = readL (List.take x l) ∧ min (↑l.length : Int) (Int.ofNat (8 : Nat)) = min (↑l.length : Int) (Int.ofNat (8 : Nat)) ∧ Int.ofNat (0 : Nat) = (↑x : Int) ∧ True) ∧ ∀ (x : Nat), x ≤ min l.length (8 : Nat) → (decide ((↑x : Int) < min (↑l.length : Int) (Int.ofNat (8 : Nat))) = true → ((0 : Int) ≤ (↑x : Int) ∧ (↑x : Int) < (↑l.length : Int)) ∧ (↑x : Int).toNat < l.length ∧ InI (Int.ofNat (8 : Nat) * (↑x : Int)) ∧ (0 : Int) ≤ Int.ofNat (8 : Nat) * (↑x : Int) ∧ InI ((↑x : Int) + Int.ofNat (1 : Nat)) ∧ ∃ (y : Nat), y ≤ min l.length (8 : Nat) ∧ (8 : Nat) - y < (8 : Nat) - x ∧ l.length = l.length ∧ l = l ∧ UInt64.ofNat (nat_lit 0) = UInt64.ofNat (nat_lit 0) ∧ readL (List.take x l) ||| shl64 (l.getD (↑x : Int).toNat (0 : UInt8)).toUInt64 (Int.ofNat (8 : Nat) * (↑x : Int)).toNat = readL (List.take y l) ∧ min (↑l.length : Int) (Int.ofNat (8 : Nat)) = min (↑l.length : Int) (Int.ofNat (8 : Nat)) ∧ (↑x : Int) + Int.ofNat (1 : Nat) = (↑y : Int) ∧ True) ∧ (decide ((↑x : Int) < min (↑l.length : Int) (Int.ofNat (8 : Nat))) = false → readL (List.take x l) = readL l ∧ True)) := by kernel_rfl
theorem vcReadLr (l : List UInt8) : (vcFn ERr 100 108 [.s (.xs 1 (.s l.length) (.u8 l))] (.s (.u64 (readL l)))) =
  (InI ((↑l.length : Int) - Int.ofNat (1 : Nat)) ∧ (∃ (x : Nat), x ≤ l.length ∧ l.length = l.length ∧ l = l ∧ UInt64.ofNat (nat_lit 0) = UInt64.ofNat (nat_lit 0) ∧ UInt64.ofNat (nat_lit 0) = readL (List.drop x l) ∧ (↑l.length : Int) - Int.ofNat (1 : Nat) = (↑x : Int) - (1 : Int) ∧ True) ∧ ∀ (x : Nat), x ≤ l.length → (decide (Int.ofNat (0 : Nat) ≤ (↑x : Int) - (1 : Int)) = true → ((0 : Int) ≤ (↑x : Int) - (1 : Int) ∧ (↑x : Int) - (1 : Int) < (↑l.length : Int)) ∧ ((↑x : Int) - (1 : Int)).toNat < l.length ∧ InI ((↑x : Int) - (1 : Int) - Int.ofNat (1 : Nat)) ∧ ∃ (y : Nat), y ≤ l.length ∧ y < x ∧ l.length = l.length ∧ l = l ∧ UInt64.ofNat (nat_lit 0) = UInt64.ofNat (nat_lit 0) ∧ shl64 (readL (List.drop x l)) (8 : Nat) ||| (l.getD ((↑x : Int) - (1 : Int)).toNat (0 : UInt8)).toUInt64 = readL (List.drop y l) ∧ (↑x : Int) - (1 : Int) - Int.ofNat (1 : Nat) = (↑y : Int) - (1 : Int) ∧ True) ∧ (decide (Int.ofNat (0 : Nat) ≤ (↑x : Int) - (1 : Int)) = false → readL (List.drop x l) = readL l ∧ True)) := by kernel_rfl
theorem vcJoin (ls : List (List UInt8)) : (vcFn EJo 100 63 [.s (.xs 1 (.s ls.length) (.sl ls))] (.s (.xs 1 (.s ls.flatten.length) (.u8 ls.flatten)))) =
  ((∃ (x : Nat), x ≤ ls.length ∧ ls.length = ls.length ∧ ls = ls ∧ (List.take x ls).flatten.length = (0 : Nat) ∧ ls.length = ls.length ∧ ls = ls ∧ (↑ls.length : Int) = (↑ls.length : Int) ∧ Int.ofNat (0 : Nat) = (↑x : Int) ∧ (List.take x ls).flatten.length = (0 : Nat) ∧ (List.take x ls).flatten.length = (0 : Nat) ∧ True) ∧ ∀ (x : Nat), x ≤ ls.length → (decide ((↑x : Int) < (↑ls.length : Int)) = true → ((0 : Int) ≤ (↑x : Int) ∧ (↑x : Int) < (↑ls.length : Int)) ∧ (↑x : Int).toNat < ls.length ∧ (List.take x ls).flatten.length = (List.take x ls).flatten.length ∧ (List.take x ls).flatten.length + (ls.getD (↑x : Int).toNat []).length ≤ (4294967296 : Nat) ∧ InI ((↑x : Int) + Int.ofNat (1 : Nat)) ∧ ∃ (y : Nat), y ≤ ls.length ∧ ls.length - y < ls.length - x ∧ ls.length = ls.length ∧ ls = ls ∧ (List.take x ls).flatten.length + (ls.getD (↑x : Int).toNat []).length = (List.take y ls).flatten.length ∧ ls.length = ls.length ∧ ls = ls ∧ (↑ls.length : Int) = (↑ls.length : Int) ∧ (↑x : Int) + Int.ofNat (1 : Nat) = (↑y : Int) ∧ (List.take x ls).flatten.length + (ls.getD (↑x : Int).toNat []).length = (List.take y ls).flatten.length ∧ (List.take x ls).flatten ++ ls.getD (↑x : Int).toNat [] = (List.take y ls).flatten ∧ True) ∧ (decide ((↑x : Int) < (↑ls.length : Int)) = false → (0 : Nat) + (List.take x ls).flatten.length ≤ (List.take x ls).flatten.length ∧ (List.take x ls).flatten.length = ls.flatten.length ∧ List.take (List.take x ls).flatten.length (dropL (dropL (List.take x ls).flatten (0 : Nat)) (0 : Nat)) = ls.flatten ∧ True)) := by kernel_rfl
theorem vcJoinR (ls : List (List UInt8)) : (vcFn EJo 100 76 [.s (.xs 1 (.s ls.length) (.sl ls))] (.s (.xs 1 (.s ls.flatten.length) (.u8 ls.flatten)))) =
  ((∃ (x : Nat), x ≤ ls.length ∧ ls.length = ls.length ∧ ls = ls ∧ (List.take x ls).flatten.length = (0 : Nat) ∧ ls.length = ls.length ∧ ls = ls ∧ (↑ls.length : Int) = (↑ls.length : Int) ∧ Int.ofNat (0 : Nat) = (↑x : Int) ∧ (List.take x ls).flatten.length = (0 : Nat) ∧ (List.take x ls).flatten.length = (0 : Nat) ∧ True) ∧ ∀ (x : Nat), x ≤ ls.length → (decide ((↑x : Int) < (↑ls.length : Int)) = true → ((0 : Int) ≤ (↑x : Int) ∧ (↑x : Int) < (↑ls.length : Int)) ∧ (↑x : Int).toNat < ls.length ∧ (List.take x ls).flatten.length = (List.take x ls).flatten.length ∧ (List.take x ls).flatten.length + (ls.getD (↑x : Int).toNat []).length ≤ (4294967296 : Nat) ∧ InI ((↑x : Int) + Int.ofNat (1 : Nat)) ∧ ∃ (y : Nat), y ≤ ls.length ∧ ls.length - y < ls.length - x ∧ ls.length = ls.length ∧ ls = ls ∧ (List.take x ls).flatten.length + (ls.getD (↑x : Int).toNat []).length = (List.take y ls).flatten.length ∧ ls.length = ls.length ∧ ls = ls ∧ (↑ls.length : Int) = (↑ls.length : Int) ∧ (↑x : Int) + Int.ofNat (1 : Nat) = (↑y : Int) ∧ (List.take x ls).flatten.length + (ls.getD (↑x : Int).toNat []).length = (List.take y ls).flatten.length ∧ (List.take x ls).flatten ++ ls.getD (↑x : Int).toNat [] = (List.take y ls).flatten ∧ True) ∧ (decide ((↑x : Int) < (↑ls.length : Int)) = false → (0 : Nat) + (List.take x ls).flatten.length ≤ (List.take x ls).flatten.length ∧ (List.take x ls).flatten.length = ls.flatten.length ∧ List.take (List.take x ls).flatten.length (dropL (dropL (List.take x ls).flatten (0 : Nat)) (0 : Nat)) = ls.flatten ∧ True)) := by kernel_rfl
end Go.Proofs.YtiogdokekibeiaaGreat

/- A step towards HandshakeFinishesSaid: no conditions. -/
namespace Go.Proofs.YtiogdokekibeiaaGreat
set_option maxRecDepth 100000
open Go Go.Eng Go.Cod
theorem dropL_zero {α : Type} (l : List α) : dropL l 0 = l := rfl
theorem inI_of {x : Int} (h1 : -9223372036854775808 ≤ x) (h2 : x < 9223372036854775808) : InI x := ⟨h1, h2⟩
theorem conLittle : Con Tryz.prog 88 gLittle := con_of_vcs fun args ps res h hp => by
  unfold gLittle at h
  split at h <;> cases h
  rename_i n s
  have hs := (all_cons.1 hp).1
  refine ⟨ELi, 100, rfl, eok (gs := []) trivial, ?_⟩
  refine Eq.mpr (vcLittle n s) ?_
  simp only [io, true_and, and_true, dropL_zero, Nat.zero_add, Nat.le_refl]
  refine ⟨fun h1 => absurd (of_decide_eq_true h1) (by omega), fun _ => ⟨fun h1 => absurd (of_decide_eq_true h1) (by omega), fun _ => ⟨⟨0, by omega, rfl, rfl, rfl, rfl⟩, fun x hx => ⟨fun h1 => ?_, fun h1 => ?_⟩⟩⟩⟩
  · have h1 := of_decide_eq_true h1
    refine ⟨inI_of (by omega) (by omega), by omega, by omega, inI_of (by omega) (by omega), x + 1, by omega, by omega, rfl, rfl, rfl, ?_⟩
    have e2 : (((8 : Nat) : Int) * (x : Int)).toNat = 8 * x := by omega
    rw [e2]; rfl
  · have h1 := of_decide_eq_false h1
    have e : x = s.toNat := by omega
    subst e
    exact ⟨rfl, by rw [List.take_of_length_le (by rw [littleL_len]; exact Nat.le_refl _)]⟩
theorem conLittleN4 : Con Tryz.prog 88 gLittleN := littleN_of conLittle
theorem conLittleR : Con Tryz.prog 96 gLittle := con_of_vcs fun args ps res h hp => by
  unfold gLittle at h
  split at h <;> cases h
  rename_i n s
  have hs := (all_cons.1 hp).1
  refine ⟨ELr, 100, rfl, eok (gs := []) trivial, ?_⟩
  refine Eq.mpr (vcLittleR n s) ?_
  simp only [io, true_and, and_true, dropL_zero, Nat.zero_add, Nat.le_refl]
  refine ⟨fun h1 => absurd (of_decide_eq_true h1) (by omega), fun _ => ⟨fun h1 => absurd (of_decide_eq_true h1) (by omega), fun _ => ⟨⟨0, by omega, rfl, rfl, rfl, rfl⟩, fun x hx => ⟨fun h1 => ?_, fun h1 => ?_⟩⟩⟩⟩
  · have h1 := of_decide_eq_true h1
    refine ⟨inI_of (by omega) (by omega), by omega, by omega, inI_of (by omega) (by omega), x + 1, by omega, by omega, rfl, rfl, rfl, ?_⟩
    have e2 : (((8 : Nat) : Int) * (x : Int)).toNat = 8 * x := by omega
    rw [e2]; rfl
  · have h1 := of_decide_eq_false h1
    have e : x = s.toNat := by omega
    subst e
    exact ⟨rfl, by rw [List.take_of_length_le (by rw [littleL_len]; exact Nat.le_refl _)]⟩
theorem conLittleRN4 : Con Tryz.prog 96 gLittleN := littleN_of conLittleR
theorem conReadL : Con Tryz.prog 89 gReadL := con_of_vcs fun args ps res h hp => by
  unfold gReadL at h
  split at h <;> cases h
  rename_i n l
  obtain ⟨rfl, hp2⟩ := all_cons.1 hp
  have hl := (all_cons.1 hp2).1
  refine ⟨ERL, 100, rfl, eok (gs := []) trivial, ?_⟩
  refine Eq.mpr (vcReadL l) ?_
  simp only [io, true_and, and_true]
  have hm : min l.length 8 ≤ 8 := Nat.min_le_right ..
  have hm2 : min l.length 8 ≤ l.length := Nat.min_le_left ..
  have hi : (min (l.length : Int) ((8 : Nat) : Int)) = ((min l.length 8 : Nat) : Int) := by omega
  simp only [hi]
  refine ⟨⟨0, by omega, rfl, rfl⟩, fun x hx => ⟨fun h1 => ?_, fun h1 => ?_⟩⟩
  · have h1 := of_decide_eq_true h1
    have hx' : x < l.length := by omega
    refine ⟨⟨by omega, by omega⟩, by omega, inI_of (by omega) (by omega), by omega, inI_of (by omega) (by omega), x + 1, by omega, by omega, ?_, rfl⟩
    rw [readL_step l x hx']
    have e1 : (x : Int).toNat = x := rfl
    have e2 : (((8 : Nat) : Int) * (x : Int)).toNat = 8 * x := by omega
    rw [e1, e2]
  · have h1 := of_decide_eq_false h1
    have e : x = min l.length 8 := by omega
    rw [e]
    exact readL_min l
theorem conReadLr : Con Tryz.prog 108 gReadL := con_of_vcs fun args ps res h hp => by
  unfold gReadL at h
  split at h <;> cases h
  rename_i n l
  obtain ⟨rfl, hp2⟩ := all_cons.1 hp
  have hl := (all_cons.1 hp2).1
  refine ⟨ERr, 100, rfl, eok (gs := []) trivial, ?_⟩
  refine Eq.mpr (vcReadLr l) ?_
  simp only [io, true_and, and_true]
  refine ⟨inI_of (by omega) (by omega), ⟨l.length, Nat.le_refl _, ?_, rfl⟩, fun x hx => ⟨fun h1 => ?_, fun h1 => ?_⟩⟩
  · rw [List.drop_length]; rfl
  · have h1 := of_decide_eq_true h1
    have e1 : ((x : Int) - 1).toNat = x - 1 := by omega
    rw [e1]
    refine ⟨⟨by omega, by omega⟩, by omega, inI_of (by omega) (by omega), x - 1, by omega, by omega, ?_, by omega⟩
    rw [readL_drop l (x - 1) (by omega), show x - 1 + 1 = x by omega]
  · have h1 := of_decide_eq_false h1
    have e : x = 0 := by omega
    rw [e]; rfl
theorem conJoin : Con Tryz.prog 63 gJoin := con_of_vcs fun args ps res h hp => by
  unfold gJoin at h
  split at h <;> cases h
  rename_i n ls
  obtain ⟨rfl, hp2⟩ := all_cons.1 hp
  have h2 := all_cons.1 hp2
  have hl := h2.1
  have hb := (all_cons.1 h2.2).1
  refine ⟨EJo, 100, rfl, eok (gs := []) trivial, ?_⟩
  refine Eq.mpr (vcJoin ls) ?_
  simp only [io, true_and, and_true, dropL_zero, List.take_length, Nat.zero_add, Nat.le_refl]
  refine ⟨⟨0, by omega, rfl, rfl, rfl, rfl⟩, fun x hx => ⟨fun h1 => ?_, fun h1 => ?_⟩⟩
  · have h1 := of_decide_eq_true h1
    have hx' : x < ls.length := by omega
    have e1 : (x : Int).toNat = x := rfl
    rw [e1]
    have e2 : (ls.take (x + 1)).flatten = (ls.take x).flatten ++ ls.getD x [] := by
      rw [List.take_add_one, List.getElem?_eq_getElem hx', Option.toList_some, List.flatten_append, List.getD_eq_getElem?_getD, List.getElem?_eq_getElem hx']
      simp
    have e3 : (ls.take x).flatten.length + (ls.getD x []).length ≤ ls.flatten.length := by
      rw [← List.length_append, ← e2]
      have : ls.flatten = (ls.take (x + 1)).flatten ++ (ls.drop (x + 1)).flatten := by rw [← List.flatten_append, List.take_append_drop]
      rw [this, List.length_append]; omega
    refine ⟨⟨by omega, by omega⟩, by omega, by omega, inI_of (by omega) (by omega), x + 1, by omega, by omega, ?_, rfl, ?_, ?_⟩
    · rw [e2, List.length_append]
    · rw [e2, List.length_append]
    · rw [e2]
  · have h1 := of_decide_eq_false h1
    have e : x = ls.length := by omega
    rw [e, List.take_length]
    exact ⟨rfl, rfl⟩
theorem conJoinR : Con Tryz.prog 76 gJoin := con_of_vcs fun args ps res h hp => by
  unfold gJoin at h
  split at h <;> cases h
  rename_i n ls
  obtain ⟨rfl, hp2⟩ := all_cons.1 hp
  have h2 := all_cons.1 hp2
  have hl := h2.1
  have hb := (all_cons.1 h2.2).1
  refine ⟨EJo, 100, rfl, eok (gs := []) trivial, ?_⟩
  refine Eq.mpr (vcJoinR ls) ?_
  simp only [io, true_and, and_true, dropL_zero, List.take_length, Nat.zero_add, Nat.le_refl]
  refine ⟨⟨0, by omega, rfl, rfl, rfl, rfl⟩, fun x hx => ⟨fun h1 => ?_, fun h1 => ?_⟩⟩
  · have h1 := of_decide_eq_true h1
    have hx' : x < ls.length := by omega
    have e1 : (x : Int).toNat = x := rfl
    rw [e1]
    have e2 : (ls.take (x + 1)).flatten = (ls.take x).flatten ++ ls.getD x [] := by
      rw [List.take_add_one, List.getElem?_eq_getElem hx', Option.toList_some, List.flatten_append, List.getD_eq_getElem?_getD, List.getElem?_eq_getElem hx']
      simp
    have e3 : (ls.take x).flatten.length + (ls.getD x []).length ≤ ls.flatten.length := by
      rw [← List.length_append, ← e2]
      have : ls.flatten = (ls.take (x + 1)).flatten ++ (ls.drop (x + 1)).flatten := by rw [← List.flatten_append, List.take_append_drop]
      rw [this, List.length_append]; omega
    refine ⟨⟨by omega, by omega⟩, by omega, by omega, inI_of (by omega) (by omega), x + 1, by omega, by omega, ?_, rfl, ?_, ?_⟩
    · rw [e2, List.length_append]
    · rw [e2, List.length_append]
    · rw [e2]
  · have h1 := of_decide_eq_false h1
    have e : x = ls.length := by omega
    rw [e, List.take_length]
    exact ⟨rfl, rfl⟩
end Go.Proofs.YtiogdokekibeiaaGreat

/- A step towards HandshakeFinishesSaid: no conditions. -/
namespace Go.Proofs.YtiogdokekibeiaaGreat
set_option maxRecDepth 100000
open Go Go.Eng Go.Cod Go.Cha
theorem u32lits : UInt32.ofNat 1634760805 = 1634760805 ∧ UInt32.ofNat 857760878 = 857760878 ∧ UInt32.ofNat 2036477234 = 2036477234 ∧ UInt32.ofNat 1797285236 = 1797285236 := ⟨rfl, rfl, rfl, rfl⟩
theorem take4_lt {α : Type} (l : List α) : (l.take 4).length < 4611686018427387904 := by rw [List.length_take]; omega
theorem conBlock : Con Tryz.prog 105 gBlock := con_of_vcl fun args ps res h hp hlen => by
  unfold gBlock at h
  split at h <;> cases h
  rename_i k c n
  obtain ⟨⟨hk, _⟩, _, ⟨hn, _⟩, _⟩ := hlen
  refine ⟨EB, 300, rfl, eok (gs := [(89, gReadL), (88, gLittleN), (117, gCore)]) ⟨conReadL, conLittleN4, conCore, trivial⟩, ?_⟩
  refine Eq.mpr (vcBlock k n c) ?_
  simp only [forall_eq, true_and, and_true, take4_lt, dropL_eq]
  repeat first | refine ⟨by decide, ?_⟩ | refine ⟨rfl, ?_⟩
  kernel_rfl
theorem stateR (k n : List UInt8) (c : UInt32) (hn : n.length = 12) :
    stateL k [[(shr64 c.toUInt64 0).toUInt8, (shr64 c.toUInt64 8).toUInt8, (shr64 c.toUInt64 16).toUInt8, (shr64 c.toUInt64 24).toUInt8], n].flatten = (blkIn k c n).l := by
  have e : [[(shr64 c.toUInt64 0).toUInt8, (shr64 c.toUInt64 8).toUInt8, (shr64 c.toUInt64 16).toUInt8, (shr64 c.toUInt64 24).toUInt8], n].flatten = littleL c.toUInt64 4 ++ n := by
    rw [List.flatten_cons, List.flatten_cons, List.flatten_nil, List.append_nil]; rfl
  rw [e]
  have h0 : rd (littleL c.toUInt64 4 ++ n) 0 = c := by
    unfold rd
    rw [List.drop_zero, List.take_append_of_le_length (by rw [littleL_len]; omega), List.take_of_length_le (by rw [littleL_len]; omega)]
    exact readL_little4 c
  have hd : ∀ i, rd (littleL c.toUInt64 4 ++ n) (4 + i) = rd n i := fun i => by
    unfold rd
    rw [List.drop_append, littleL_len, List.drop_of_length_le (by rw [littleL_len]; omega), List.nil_append, Nat.add_sub_cancel_left]
  have h4 := hd 0
  have h8 := hd 4
  have h12 := hd 8
  show [_, _, _, _, _, _, _, _, _, _, _, _, rd _ 0, rd _ (4 + 0), rd _ (4 + 4), rd _ (4 + 8)] = _
  rw [h0, h4, h8, h12]
  rfl
theorem conState : Con Tryz.prog 111 gState := con_of_vcl fun args ps res h hp hlen => by
  unfold gState at h
  split at h <;> cases h
  rename_i k m r
  obtain ⟨rfl, hp2⟩ := all_cons.1 hp
  have hr := (all_cons.1 hp2).1
  refine ⟨ESt, 300, rfl, eok (gs := [(108, gReadL)]) ⟨conReadLr, trivial⟩, ?_⟩
  refine Eq.mpr (vcState k r) ?_
  simp only [forall_eq, true_and, and_true, take4_lt, dropL_eq]
  repeat first | refine ⟨by omega, ?_⟩
  kernel_rfl
theorem conBlockR : Con Tryz.prog 97 gBlock := con_of_vcl fun args ps res h hp hlen => by
  unfold gBlock at h
  split at h <;> cases h
  rename_i k c n
  obtain ⟨⟨hk, _⟩, _, ⟨hn, _⟩, _⟩ := hlen
  have hn : n.length = 12 := hn
  refine ⟨EBr, 300, rfl, eok (gs := [(111, gState), (96, gLittleN), (112, gCore), (76, gJoin)]) ⟨conState, conLittleRN4, conCoreR, conJoinR, trivial⟩, ?_⟩
  refine Eq.mpr (vcBlockR k n c) ?_
  have fl : [[(shr64 c.toUInt64 0).toUInt8, (shr64 c.toUInt64 8).toUInt8, (shr64 c.toUInt64 16).toUInt8, (shr64 c.toUInt64 24).toUInt8], n].flatten.length = 16 := by simp [hn]
  have ft := List.take_of_length_le (Nat.le_of_eq fl)
  simp only [forall_eq, true_and, and_true, take4_lt, dropL_eq, List.drop_zero, ft, stateR k n c hn, fl]
  repeat first | refine ⟨by decide, ?_⟩ | refine ⟨rfl, ?_⟩
  kernel_rfl
end Go.Proofs.YtiogdokekibeiaaGreat
