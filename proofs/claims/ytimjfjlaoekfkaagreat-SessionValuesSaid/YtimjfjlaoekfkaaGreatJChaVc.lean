/- Steps towards SessionValuesSaid. -/
import Derived.Test.YtimjfjlaoekfkaaGreatJChaSpec
import Derived.Test.YtimjfjlaoekfkaaGreatBase
import Derived.Test.YtimjfjlaoekfkaaGreatJCodSpec
/- A step towards SessionValuesSaid: no conditions. -/

namespace Go.Proofs.YtimjfjlaoekfkaaGreat
open Go Go.Eng Go.Cha
noncomputable def EQ : Env := mkE Tryz.prog [] [] 2
noncomputable def EC : Env := mkE Tryz.prog [(96, gQuarter)] [(0, JCore 10 2 [0, 1, 2, 3])] 6
set_option maxRecDepth 100000 in
theorem vcQuarter (a b c d : UInt32) : (vcFn EQ 100 96 [.s (.u32 a), .s (.u32 b), .s (.u32 c), .s (.u32 d)] (.tup [.s (.u32 (qr a b c d).a), .s (.u32 (qr a b c d).b), .s (.u32 (qr a b c d).c), .s (.u32 (qr a b c d).d)])) =
  (a + b + (shl32 (b ^^^ c + (shl32 (d ^^^ a + b) 16 ||| shr32 (d ^^^ a + b) 16)) 12 ||| shr32 (b ^^^ c + (shl32 (d ^^^ a + b) 16 ||| shr32 (d ^^^ a + b) 16)) 20) = (qr a b c d).a ∧ shl32 ((shl32 (b ^^^ c + (shl32 (d ^^^ a + b) 16 ||| shr32 (d ^^^ a + b) 16)) 12 ||| shr32 (b ^^^ c + (shl32 (d ^^^ a + b) 16 ||| shr32 (d ^^^ a + b) 16)) 20) ^^^ c + (shl32 (d ^^^ a + b) 16 ||| shr32 (d ^^^ a + b) 16) + (shl32 ((shl32 (d ^^^ a + b) 16 ||| shr32 (d ^^^ a + b) 16) ^^^ a + b + (shl32 (b ^^^ c + (shl32 (d ^^^ a + b) 16 ||| shr32 (d ^^^ a + b) 16)) 12 ||| shr32 (b ^^^ c + (shl32 (d ^^^ a + b) 16 ||| shr32 (d ^^^ a + b) 16)) 20)) 8 ||| shr32 ((shl32 (d ^^^ a + b) 16 ||| shr32 (d ^^^ a + b) 16) ^^^ a + b + (shl32 (b ^^^ c + (shl32 (d ^^^ a + b) 16 ||| shr32 (d ^^^ a + b) 16)) 12 ||| shr32 (b ^^^ c + (shl32 (d ^^^ a + b) 16 ||| shr32 (d ^^^ a + b) 16)) 20)) 24)) 7 ||| shr32 ((shl32 (b ^^^ c + (shl32 (d ^^^ a + b) 16 ||| shr32 (d ^^^ a + b) 16)) 12 ||| shr32 (b ^^^ c + (shl32 (d ^^^ a + b) 16 ||| shr32 (d ^^^ a + b) 16)) 20) ^^^ c + (shl32 (d ^^^ a + b) 16 ||| shr32 (d ^^^ a + b) 16) + (shl32 ((shl32 (d ^^^ a + b) 16 ||| shr32 (d ^^^ a + b) 16) ^^^ a + b + (shl32 (b ^^^ c + (shl32 (d ^^^ a + b) 16 ||| shr32 (d ^^^ a + b) 16)) 12 ||| shr32 (b ^^^ c + (shl32 (d ^^^ a + b) 16 ||| shr32 (d ^^^ a + b) 16)) 20)) 8 ||| shr32 ((shl32 (d ^^^ a + b) 16 ||| shr32 (d ^^^ a + b) 16) ^^^ a + b + (shl32 (b ^^^ c + (shl32 (d ^^^ a + b) 16 ||| shr32 (d ^^^ a + b) 16)) 12 ||| shr32 (b ^^^ c + (shl32 (d ^^^ a + b) 16 ||| shr32 (d ^^^ a + b) 16)) 20)) 24)) 25 = (qr a b c d).b ∧ c + (shl32 (d ^^^ a + b) 16 ||| shr32 (d ^^^ a + b) 16) + (shl32 ((shl32 (d ^^^ a + b) 16 ||| shr32 (d ^^^ a + b) 16) ^^^ a + b + (shl32 (b ^^^ c + (shl32 (d ^^^ a + b) 16 ||| shr32 (d ^^^ a + b) 16)) 12 ||| shr32 (b ^^^ c + (shl32 (d ^^^ a + b) 16 ||| shr32 (d ^^^ a + b) 16)) 20)) 8 ||| shr32 ((shl32 (d ^^^ a + b) 16 ||| shr32 (d ^^^ a + b) 16) ^^^ a + b + (shl32 (b ^^^ c + (shl32 (d ^^^ a + b) 16 ||| shr32 (d ^^^ a + b) 16)) 12 ||| shr32 (b ^^^ c + (shl32 (d ^^^ a + b) 16 ||| shr32 (d ^^^ a + b) 16)) 20)) 24) = (qr a b c d).c ∧ shl32 ((shl32 (d ^^^ a + b) 16 ||| shr32 (d ^^^ a + b) 16) ^^^ a + b + (shl32 (b ^^^ c + (shl32 (d ^^^ a + b) 16 ||| shr32 (d ^^^ a + b) 16)) 12 ||| shr32 (b ^^^ c + (shl32 (d ^^^ a + b) 16 ||| shr32 (d ^^^ a + b) 16)) 20)) 8 ||| shr32 ((shl32 (d ^^^ a + b) 16 ||| shr32 (d ^^^ a + b) 16) ^^^ a + b + (shl32 (b ^^^ c + (shl32 (d ^^^ a + b) 16 ||| shr32 (d ^^^ a + b) 16)) 12 ||| shr32 (b ^^^ c + (shl32 (d ^^^ a + b) 16 ||| shr32 (d ^^^ a + b) 16)) 20)) 24 = (qr a b c d).d ∧ True) := by kernel_rfl
set_option maxRecDepth 100000 in
theorem vcCore (w : W16) : (vcFn EC 200 88 [.agg [.vec (.n 16) (.u32 w.l)]] (.w (.agg [.vec (.n 16) (.u32 (coreL w.l))]))) =
  ((∃ (x : Nat × W16), (x.1 ≤ 10 ∧ coreL w.l = (iter dbl (10 - x.1) x.2).l) ∧ w.l = w.l ∧ Int.ofNat 0 = (↑x.1 : Int) ∧ w.l = w.l ∧ List.replicate 16 (0 : UInt32) = List.replicate 16 (0 : UInt32) ∧ w.l = x.2.l ∧ True) ∧ ∀ (x : Nat × W16), x.1 ≤ 10 ∧ coreL w.l = (iter dbl (10 - x.1) x.2).l → (decide ((↑x.1 : Int) < Int.ofNat 10) = true → InI ((↑x.1 : Int) + Int.ofNat 1) ∧ ∃ (y : Nat × W16), (y.1 ≤ 10 ∧ coreL w.l = (iter dbl (10 - y.1) y.2).l) ∧ 10 - y.1 < 10 - x.1 ∧ w.l = w.l ∧ (↑x.1 : Int) + Int.ofNat 1 = (↑y.1 : Int) ∧ w.l = w.l ∧ List.replicate 16 (0 : UInt32) = List.replicate 16 (0 : UInt32) ∧ [(qr (qr x.2.x0 x.2.x4 x.2.x8 x.2.x12).a (qr x.2.x1 x.2.x5 x.2.x9 x.2.x13).b (qr x.2.x2 x.2.x6 x.2.x10 x.2.x14).c (qr x.2.x3 x.2.x7 x.2.x11 x.2.x15).d).a, (qr (qr x.2.x1 x.2.x5 x.2.x9 x.2.x13).a (qr x.2.x2 x.2.x6 x.2.x10 x.2.x14).b (qr x.2.x3 x.2.x7 x.2.x11 x.2.x15).c (qr x.2.x0 x.2.x4 x.2.x8 x.2.x12).d).a, (qr (qr x.2.x2 x.2.x6 x.2.x10 x.2.x14).a (qr x.2.x3 x.2.x7 x.2.x11 x.2.x15).b (qr x.2.x0 x.2.x4 x.2.x8 x.2.x12).c (qr x.2.x1 x.2.x5 x.2.x9 x.2.x13).d).a, (qr (qr x.2.x3 x.2.x7 x.2.x11 x.2.x15).a (qr x.2.x0 x.2.x4 x.2.x8 x.2.x12).b (qr x.2.x1 x.2.x5 x.2.x9 x.2.x13).c (qr x.2.x2 x.2.x6 x.2.x10 x.2.x14).d).a, (qr (qr x.2.x3 x.2.x7 x.2.x11 x.2.x15).a (qr x.2.x0 x.2.x4 x.2.x8 x.2.x12).b (qr x.2.x1 x.2.x5 x.2.x9 x.2.x13).c (qr x.2.x2 x.2.x6 x.2.x10 x.2.x14).d).b, (qr (qr x.2.x0 x.2.x4 x.2.x8 x.2.x12).a (qr x.2.x1 x.2.x5 x.2.x9 x.2.x13).b (qr x.2.x2 x.2.x6 x.2.x10 x.2.x14).c (qr x.2.x3 x.2.x7 x.2.x11 x.2.x15).d).b, (qr (qr x.2.x1 x.2.x5 x.2.x9 x.2.x13).a (qr x.2.x2 x.2.x6 x.2.x10 x.2.x14).b (qr x.2.x3 x.2.x7 x.2.x11 x.2.x15).c (qr x.2.x0 x.2.x4 x.2.x8 x.2.x12).d).b, (qr (qr x.2.x2 x.2.x6 x.2.x10 x.2.x14).a (qr x.2.x3 x.2.x7 x.2.x11 x.2.x15).b (qr x.2.x0 x.2.x4 x.2.x8 x.2.x12).c (qr x.2.x1 x.2.x5 x.2.x9 x.2.x13).d).b, (qr (qr x.2.x2 x.2.x6 x.2.x10 x.2.x14).a (qr x.2.x3 x.2.x7 x.2.x11 x.2.x15).b (qr x.2.x0 x.2.x4 x.2.x8 x.2.x12).c (qr x.2.x1 x.2.x5 x.2.x9 x.2.x13).d).c, (qr (qr x.2.x3 x.2.x7 x.2.x11 x.2.x15).a (qr x.2.x0 x.2.x4 x.2.x8 x.2.x12).b (qr x.2.x1 x.2.x5 x.2.x9 x.2.x13).c (qr x.2.x2 x.2.x6 x.2.x10 x.2.x14).d).c, (qr (qr x.2.x0 x.2.x4 x.2.x8 x.2.x12).a (qr x.2.x1 x.2.x5 x.2.x9 x.2.x13).b (qr x.2.x2 x.2.x6 x.2.x10 x.2.x14).c (qr x.2.x3 x.2.x7 x.2.x11 x.2.x15).d).c, (qr (qr x.2.x1 x.2.x5 x.2.x9 x.2.x13).a (qr x.2.x2 x.2.x6 x.2.x10 x.2.x14).b (qr x.2.x3 x.2.x7 x.2.x11 x.2.x15).c (qr x.2.x0 x.2.x4 x.2.x8 x.2.x12).d).c, (qr (qr x.2.x1 x.2.x5 x.2.x9 x.2.x13).a (qr x.2.x2 x.2.x6 x.2.x10 x.2.x14).b (qr x.2.x3 x.2.x7 x.2.x11 x.2.x15).c (qr x.2.x0 x.2.x4 x.2.x8 x.2.x12).d).d, (qr (qr x.2.x2 x.2.x6 x.2.x10 x.2.x14).a (qr x.2.x3 x.2.x7 x.2.x11 x.2.x15).b (qr x.2.x0 x.2.x4 x.2.x8 x.2.x12).c (qr x.2.x1 x.2.x5 x.2.x9 x.2.x13).d).d, (qr (qr x.2.x3 x.2.x7 x.2.x11 x.2.x15).a (qr x.2.x0 x.2.x4 x.2.x8 x.2.x12).b (qr x.2.x1 x.2.x5 x.2.x9 x.2.x13).c (qr x.2.x2 x.2.x6 x.2.x10 x.2.x14).d).d, (qr (qr x.2.x0 x.2.x4 x.2.x8 x.2.x12).a (qr x.2.x1 x.2.x5 x.2.x9 x.2.x13).b (qr x.2.x2 x.2.x6 x.2.x10 x.2.x14).c (qr x.2.x3 x.2.x7 x.2.x11 x.2.x15).d).d] = y.2.l ∧ True) ∧ (decide ((↑x.1 : Int) < Int.ofNat 10) = false → x.2.l = coreL w.l ∧ True)) := by kernel_rfl
end Go.Proofs.YtimjfjlaoekfkaaGreat

/- A step towards SessionValuesSaid: no conditions. -/

namespace Go.Proofs.YtimjfjlaoekfkaaGreat
open Go Go.Eng Go.Cha
set_option maxRecDepth 100000 in
theorem conQuarter : Con Tryz.prog 96 gQuarter := con_of_vcs fun args ps res h hp => by
  unfold gQuarter at h
  split at h <;> cases h
  rename_i a b c d
  refine ⟨EQ, 100, rfl, eok (gs := []) trivial, ?_⟩
  refine Eq.mpr (vcQuarter a b c d) ?_
  exact ⟨rfl, rfl, rfl, rfl, trivial⟩
theorem iter_succ {α : Type} (f : α → α) : ∀ (n : Nat) (x : α), iter f (n + 1) x = iter f n (f x)
  | 0, _ => rfl
  | n + 1, x => by
    show f (iter f (n + 1) x) = f (iter f n (f x))
    rw [iter_succ f n x]
theorem core_step {w : W16} {n : Nat} {x : W16} (hn : n < 10) (h : coreL w.l = (iter dbl (10 - n) x).l) : coreL w.l = (iter dbl (10 - (n + 1)) (dbl x)).l := by
  rw [h, show 10 - n = (10 - (n + 1)) + 1 by omega, iter_succ]
set_option maxRecDepth 100000 in
theorem conCore : Con Tryz.prog 88 gCore := con_of_vcs fun args ps res h hp => by
  unfold gCore at h
  split at h <;> cases h
  rename_i w
  obtain ⟨w, rfl⟩ := len16 (all_cons.1 hp).1
  refine ⟨EC, 200, rfl, eok (gs := [(96, gQuarter)]) ⟨conQuarter, trivial⟩, ?_⟩
  refine Eq.mpr (vcCore w) ?_
  refine ⟨⟨(0, w), ⟨by omega, rfl⟩, rfl, rfl, rfl, rfl, rfl, trivial⟩, fun x hx => ⟨fun h1 => ?_, fun h1 => ?_⟩⟩
  · simp only [io] at h1 ⊢
    have h1 := of_decide_eq_true h1
    have hlt : x.1 < 10 := by omega
    refine ⟨⟨by omega, by omega⟩, (x.1 + 1, dbl x.2), ⟨hlt, core_step hlt hx.2⟩, by show 10 - (x.1 + 1) < _; omega, ?_⟩
    and_intros <;> first | trivial | rfl
  · simp only [io] at h1
    have h1 := of_decide_eq_false h1
    have e : x.1 = 10 := by omega
    have h2 := hx.2
    rw [e] at h2
    exact ⟨h2.symm, trivial⟩
end Go.Proofs.YtimjfjlaoekfkaaGreat

/- A step towards SessionValuesSaid: no conditions. -/

namespace Go.Proofs.YtimjfjlaoekfkaaGreat
open Go Go.Eng Go.Cod
noncomputable def ERL : Env := mkE Tryz.prog [] [(0, JReadL)] 2
noncomputable def EJo : Env := mkE Tryz.prog [] [(0, JJoin)] 2
noncomputable def ELi : Env := mkE Tryz.prog [] [(0, JLittle 14 [0, 1, 4, 13])] 2
set_option maxRecDepth 100000 in
theorem vcLittle (n : UInt64) (s : Int) : (vcFn ELi 100 67 [.s (.u64 n), .s (.i64 s)] (.s (.xs 1 (.s s.toNat) (.u8 (littleL n s.toNat))))) =
  ((decide (s < Int.ofNat 1) = true → s.toNat = 0 ∧ (littleL n s.toNat).length = 0 ∧ True) ∧ (decide (s < Int.ofNat 1) = false → (decide (Int.ofNat 8 < s) = true → s.toNat = 0 ∧ (littleL n s.toNat).length = 0 ∧ True) ∧ (decide (Int.ofNat 8 < s) = false → (∃ (x : Nat), (↑x : Int) ≤ s ∧ n = n ∧ s = s ∧ x = 0 ∧ s = s ∧ Int.ofNat 0 = (↑x : Int) ∧ x = 0 ∧ (littleL n x).length = 0 ∧ True) ∧ ∀ (x : Nat), (↑x : Int) ≤ s → (decide ((↑x : Int) < s) = true → InI (Int.ofNat 8 * (↑x : Int)) ∧ (0 : Int) ≤ Int.ofNat 8 * (↑x : Int) ∧ x = x ∧ x + 1 ≤ 4294967296 ∧ InI ((↑x : Int) + Int.ofNat 1) ∧ ∃ (y : Nat), (↑y : Int) ≤ s ∧ s.toNat - y < s.toNat - x ∧ n = n ∧ s = s ∧ x + 1 = y ∧ s = s ∧ (↑x : Int) + Int.ofNat 1 = (↑y : Int) ∧ x + 1 = y ∧ littleL n x ++ [(shr64 n (Int.ofNat 8 * (↑x : Int)).toNat).toUInt8] = littleL n y ∧ True) ∧ (decide ((↑x : Int) < s) = false → 0 + x ≤ x ∧ x = s.toNat ∧ List.take x (dropL (dropL (littleL n x) 0) 0) = littleL n s.toNat ∧ True)))) := by kernel_rfl
set_option maxRecDepth 100000 in
theorem vcReadL (l : List UInt8) : (vcFn ERL 100 87 [.s (.xs 1 (.s l.length) (.u8 l))] (.s (.u64 (readL l)))) =
  ((∃ (x : Nat), x ≤ min l.length 8 ∧ l.length = l.length ∧ l = l ∧ UInt64.ofNat (nat_lit 0) = UInt64.ofNat (nat_lit 0) ∧ UInt64.ofNat (nat_lit 0) = readL (List.take x l) ∧ min (↑l.length : Int) (Int.ofNat 8) = min (↑l.length : Int) (Int.ofNat 8) ∧ Int.ofNat 0 = (↑x : Int) ∧ True) ∧ ∀ (x : Nat), x ≤ min l.length 8 → (decide ((↑x : Int) < min (↑l.length : Int) (Int.ofNat 8)) = true → ((0 : Int) ≤ (↑x : Int) ∧ (↑x : Int) < (↑l.length : Int)) ∧ (↑x : Int).toNat < l.length ∧ InI (Int.ofNat 8 * (↑x : Int)) ∧ (0 : Int) ≤ Int.ofNat 8 * (↑x : Int) ∧ InI ((↑x : Int) + Int.ofNat 1) ∧ ∃ (y : Nat), y ≤ min l.length 8 ∧ 8 - y < 8 - x ∧ l.length = l.length ∧ l = l ∧ UInt64.ofNat (nat_lit 0) = UInt64.ofNat (nat_lit 0) ∧ readL (List.take x l) ||| shl64 (l.getD (↑x : Int).toNat (0 : UInt8)).toUInt64 (Int.ofNat 8 * (↑x : Int)).toNat = readL (List.take y l) ∧ min (↑l.length : Int) (Int.ofNat 8) = min (↑l.length : Int) (Int.ofNat 8) ∧ (↑x : Int) + Int.ofNat 1 = (↑y : Int) ∧ True) ∧ (decide ((↑x : Int) < min (↑l.length : Int) (Int.ofNat 8)) = false → readL (List.take x l) = readL l ∧ True)) := by kernel_rfl
set_option maxRecDepth 100000 in
theorem vcJoin (ls : List (List UInt8)) : (vcFn EJo 100 66 [.s (.xs 1 (.s ls.length) (.sl ls))] (.s (.xs 1 (.s ls.flatten.length) (.u8 ls.flatten)))) =
  ((∃ (x : Nat), x ≤ ls.length ∧ ls.length = ls.length ∧ ls = ls ∧ (List.take x ls).flatten.length = 0 ∧ ls.length = ls.length ∧ ls = ls ∧ (↑ls.length : Int) = (↑ls.length : Int) ∧ Int.ofNat 0 = (↑x : Int) ∧ (List.take x ls).flatten.length = 0 ∧ (List.take x ls).flatten.length = 0 ∧ True) ∧ ∀ (x : Nat), x ≤ ls.length → (decide ((↑x : Int) < (↑ls.length : Int)) = true → ((0 : Int) ≤ (↑x : Int) ∧ (↑x : Int) < (↑ls.length : Int)) ∧ (↑x : Int).toNat < ls.length ∧ (List.take x ls).flatten.length = (List.take x ls).flatten.length ∧ (List.take x ls).flatten.length + (ls.getD (↑x : Int).toNat []).length ≤ 4294967296 ∧ InI ((↑x : Int) + Int.ofNat 1) ∧ ∃ (y : Nat), y ≤ ls.length ∧ ls.length - y < ls.length - x ∧ ls.length = ls.length ∧ ls = ls ∧ (List.take x ls).flatten.length + (ls.getD (↑x : Int).toNat []).length = (List.take y ls).flatten.length ∧ ls.length = ls.length ∧ ls = ls ∧ (↑ls.length : Int) = (↑ls.length : Int) ∧ (↑x : Int) + Int.ofNat 1 = (↑y : Int) ∧ (List.take x ls).flatten.length + (ls.getD (↑x : Int).toNat []).length = (List.take y ls).flatten.length ∧ (List.take x ls).flatten ++ ls.getD (↑x : Int).toNat [] = (List.take y ls).flatten ∧ True) ∧ (decide ((↑x : Int) < (↑ls.length : Int)) = false → 0 + (List.take x ls).flatten.length ≤ (List.take x ls).flatten.length ∧ (List.take x ls).flatten.length = ls.flatten.length ∧ List.take (List.take x ls).flatten.length (dropL (dropL (List.take x ls).flatten 0) 0) = ls.flatten ∧ True)) := by kernel_rfl
end Go.Proofs.YtimjfjlaoekfkaaGreat

/- A step towards SessionValuesSaid: no conditions. -/

namespace Go.Proofs.YtimjfjlaoekfkaaGreat
open Go Go.Eng Go.Cod
theorem dropL_zero {α : Type} (l : List α) : dropL l 0 = l := rfl
theorem inI_of {x : Int} (h1 : -9223372036854775808 ≤ x) (h2 : x < 9223372036854775808) : InI x := ⟨h1, h2⟩
set_option maxRecDepth 100000 in
theorem conLittle : Con Tryz.prog 67 gLittle := con_of_vcs fun args ps res h hp => by
  unfold gLittle at h
  split at h <;> cases h
  rename_i n s
  have hs := (all_cons.1 hp).1
  refine ⟨ELi, 100, rfl, eok (gs := []) trivial, ?_⟩
  refine Eq.mpr (vcLittle n s) ?_
  simp only [io, true_and, and_true, dropL_zero, Nat.zero_add, Nat.le_refl]
  refine ⟨fun h1 => absurd (of_decide_eq_true h1) (by omega), fun _ => ⟨fun h1 => absurd (of_decide_eq_true h1) (by omega), fun _ => ⟨⟨0, by omega, rfl, rfl, rfl, rfl⟩, fun x hx => ⟨fun h1 => ?_, fun h1 => ?_⟩⟩⟩⟩
  · have h1 := of_decide_eq_true h1
    refine ⟨inI_of (by omega) (by omega), by omega, by omega, inI_of (by omega) (by omega), x + 1, by omega, by omega, rfl, rfl, rfl, ?_⟩
    have e2 : (((8 : Nat) : Int) * (x : Int)).toNat = 8 * x := by omega
    rw [e2]; rfl
  · have h1 := of_decide_eq_false h1
    have e : x = s.toNat := by omega
    subst e
    exact ⟨rfl, by rw [List.take_of_length_le (by rw [littleL_len]; exact Nat.le_refl _)]⟩
theorem conLittleN4 : Con Tryz.prog 67 gLittleN := littleN_of conLittle
set_option maxRecDepth 100000 in
theorem conReadL : Con Tryz.prog 87 gReadL := con_of_vcs fun args ps res h hp => by
  unfold gReadL at h
  split at h <;> cases h
  rename_i n l
  obtain ⟨rfl, hp2⟩ := all_cons.1 hp
  have hl := (all_cons.1 hp2).1
  refine ⟨ERL, 100, rfl, eok (gs := []) trivial, ?_⟩
  refine Eq.mpr (vcReadL l) ?_
  simp only [io, true_and, and_true]
  have hm : min l.length 8 ≤ 8 := Nat.min_le_right ..
  have hm2 : min l.length 8 ≤ l.length := Nat.min_le_left ..
  have hi : (min (l.length : Int) ((8 : Nat) : Int)) = ((min l.length 8 : Nat) : Int) := by omega
  simp only [hi]
  refine ⟨⟨0, by omega, rfl, rfl⟩, fun x hx => ⟨fun h1 => ?_, fun h1 => ?_⟩⟩
  · have h1 := of_decide_eq_true h1
    have hx' : x < l.length := by omega
    refine ⟨⟨by omega, by omega⟩, by omega, inI_of (by omega) (by omega), by omega, inI_of (by omega) (by omega), x + 1, by omega, by omega, ?_, rfl⟩
    rw [readL_step l x hx']
    have e1 : (x : Int).toNat = x := rfl
    have e2 : (((8 : Nat) : Int) * (x : Int)).toNat = 8 * x := by omega
    rw [e1, e2]
  · have h1 := of_decide_eq_false h1
    have e : x = min l.length 8 := by omega
    rw [e]
    exact readL_min l
set_option maxRecDepth 100000 in
theorem conJoin : Con Tryz.prog 66 gJoin := con_of_vcs fun args ps res h hp => by
  unfold gJoin at h
  split at h <;> cases h
  rename_i n ls
  obtain ⟨rfl, hp2⟩ := all_cons.1 hp
  have h2 := all_cons.1 hp2
  have hl := h2.1
  have hb := (all_cons.1 h2.2).1
  refine ⟨EJo, 100, rfl, eok (gs := []) trivial, ?_⟩
  refine Eq.mpr (vcJoin ls) ?_
  simp only [io, true_and, and_true, dropL_zero, List.take_length, Nat.zero_add, Nat.le_refl]
  refine ⟨⟨0, by omega, rfl, rfl, rfl, rfl⟩, fun x hx => ⟨fun h1 => ?_, fun h1 => ?_⟩⟩
  · have h1 := of_decide_eq_true h1
    have hx' : x < ls.length := by omega
    have e1 : (x : Int).toNat = x := rfl
    rw [e1]
    have e2 : (ls.take (x + 1)).flatten = (ls.take x).flatten ++ ls.getD x [] := by
      rw [List.take_add_one, List.getElem?_eq_getElem hx', Option.toList_some, List.flatten_append, List.getD_eq_getElem?_getD, List.getElem?_eq_getElem hx']
      simp
    have e3 : (ls.take x).flatten.length + (ls.getD x []).length ≤ ls.flatten.length := by
      rw [← List.length_append, ← e2]
      have : ls.flatten = (ls.take (x + 1)).flatten ++ (ls.drop (x + 1)).flatten := by rw [← List.flatten_append, List.take_append_drop]
      rw [this, List.length_append]; omega
    refine ⟨⟨by omega, by omega⟩, by omega, by omega, inI_of (by omega) (by omega), x + 1, by omega, by omega, ?_, rfl, ?_, ?_⟩
    · rw [e2, List.length_append]
    · rw [e2, List.length_append]
    · rw [e2]
  · have h1 := of_decide_eq_false h1
    have e : x = ls.length := by omega
    rw [e, List.take_length]
    exact ⟨rfl, rfl⟩
end Go.Proofs.YtimjfjlaoekfkaaGreat
