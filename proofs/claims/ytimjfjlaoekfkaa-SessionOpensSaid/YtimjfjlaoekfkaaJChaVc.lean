/- Steps towards SessionOpensSaid. -/
import Derived.Test.YtimjfjlaoekfkaaJChaSpec
import Derived.Test.YtimjfjlaoekfkaaBase
/- A step towards SessionOpensSaid: no conditions. -/
namespace Go.Proofs.Ytimjfjlaoekfkaa
open Go Go.Eng Go.Cha
noncomputable def EQ : Env := mkE Try.prog [] [] 2
noncomputable def EQa : Env := mkE Try.prog [(77, gLeft)] [] 2 true
noncomputable def EC : Env := mkE Try.prog [(68, gQuarter)] [(0, JCore 10 2 [0, 1, 2, 3])] 6
noncomputable def ECr : Env := mkE Try.prog [(73, gQuarterAt)] [(0, JCore 3 0 [0, 1, 2])] 6
set_option maxRecDepth 100000 in
theorem vcQuarter (a b c d : UInt32) : (vcFn EQ 100 68 [.s (.u32 a), .s (.u32 b), .s (.u32 c), .s (.u32 d)] (.tup [.s (.u32 (qr a b c d).a), .s (.u32 (qr a b c d).b), .s (.u32 (qr a b c d).c), .s (.u32 (qr a b c d).d)])) =
  (a + b + (shl32 (b ^^^ c + (shl32 (d ^^^ a + b) (16 : Nat) ||| shr32 (d ^^^ a + b) (16 : Nat))) (12 : Nat) ||| shr32 (b ^^^ c + (shl32 (d ^^^ a + b) (16 : Nat) ||| shr32 (d ^^^ a + b) (16 : Nat))) (20 : Nat)) = (qr a b c d).a ∧ shl32 ((shl32 (b ^^^ c + (shl32 (d ^^^ a + b) (16 : Nat) ||| shr32 (d ^^^ a + b) (16 : Nat))) (12 : Nat) ||| shr32 (b ^^^ c + (shl32 (d ^^^ a + b) (16 : Nat) ||| shr32 (d ^^^ a + b) (16 : Nat))) (20 : Nat)) ^^^ c + (shl32 (d ^^^ a + b) (16 : Nat) ||| shr32 (d ^^^ a + b) (16 : Nat)) + (shl32 ((shl32 (d ^^^ a + b) (16 : Nat) ||| shr32 (d ^^^ a + b) (16 : Nat)) ^^^ a + b + (shl32 (b ^^^ c + (shl32 (d ^^^ a + b) (16 : Nat) ||| shr32 (d ^^^ a + b) (16 : Nat))) (12 : Nat) ||| shr32 (b ^^^ c + (shl32 (d ^^^ a + b) (16 : Nat) ||| shr32 (d ^^^ a + b) (16 : Nat))) (20 : Nat))) (8 : Nat) ||| shr32 ((shl32 (d ^^^ a + b) (16 : Nat) ||| shr32 (d ^^^ a + b) (16 : Nat)) ^^^ a + b + (shl32 (b ^^^ c + (shl32 (d ^^^ a + b) (16 : Nat) ||| shr32 (d ^^^ a + b) (16 : Nat))) (12 : Nat) ||| shr32 (b ^^^ c + (shl32 (d ^^^ a + b) (16 : Nat) ||| shr32 (d ^^^ a + b) (16 : Nat))) (20 : Nat))) (24 : Nat))) (7 : Nat) ||| shr32 ((shl32 (b ^^^ c + (shl32 (d ^^^ a + b) (16 : Nat) ||| shr32 (d ^^^ a + b) (16 : Nat))) (12 : Nat) ||| shr32 (b ^^^ c + (shl32 (d ^^^ a + b) (16 : Nat) ||| shr32 (d ^^^ a + b) (16 : Nat))) (20 : Nat)) ^^^ c + (shl32 (d ^^^ a + b) (16 : Nat) ||| shr32 (d ^^^ a + b) (16 : Nat)) + (shl32 ((shl32 (d ^^^ a + b) (16 : Nat) ||| shr32 (d ^^^ a + b) (16 : Nat)) ^^^ a + b + (shl32 (b ^^^ c + (shl32 (d ^^^ a + b) (16 : Nat) ||| shr32 (d ^^^ a + b) (16 : Nat))) (12 : Nat) ||| shr32 (b ^^^ c + (shl32 (d ^^^ a + b) (16 : Nat) ||| shr32 (d ^^^ a + b) (16 : Nat))) (20 : Nat))) (8 : Nat) ||| shr32 ((shl32 (d ^^^ a + b) (16 : Nat) ||| shr32 (d ^^^ a + b) (16 : Nat)) ^^^ a + b + (shl32 (b ^^^ c + (shl32 (d ^^^ a + b) (16 : Nat) ||| shr32 (d ^^^ a + b) (16 : Nat))) (12 : Nat) ||| shr32 (b ^^^ c + (shl32 (d ^^^ a + b) (16 : Nat) ||| shr32 (d ^^^ a + b) (16 : Nat))) (20 : Nat))) (24 : Nat))) (25 : Nat) = (qr a b c d).b ∧ c + (shl32 (d ^^^ a + b) (16 : Nat) ||| shr32 (d ^^^ a + b) (16 : Nat)) + (shl32 ((shl32 (d ^^^ a + b) (16 : Nat) ||| shr32 (d ^^^ a + b) (16 : Nat)) ^^^ a + b + (shl32 (b ^^^ c + (shl32 (d ^^^ a + b) (16 : Nat) ||| shr32 (d ^^^ a + b) (16 : Nat))) (12 : Nat) ||| shr32 (b ^^^ c + (shl32 (d ^^^ a + b) (16 : Nat) ||| shr32 (d ^^^ a + b) (16 : Nat))) (20 : Nat))) (8 : Nat) ||| shr32 ((shl32 (d ^^^ a + b) (16 : Nat) ||| shr32 (d ^^^ a + b) (16 : Nat)) ^^^ a + b + (shl32 (b ^^^ c + (shl32 (d ^^^ a + b) (16 : Nat) ||| shr32 (d ^^^ a + b) (16 : Nat))) (12 : Nat) ||| shr32 (b ^^^ c + (shl32 (d ^^^ a + b) (16 : Nat) ||| shr32 (d ^^^ a + b) (16 : Nat))) (20 : Nat))) (24 : Nat)) = (qr a b c d).c ∧ shl32 ((shl32 (d ^^^ a + b) (16 : Nat) ||| shr32 (d ^^^ a + b) (16 : Nat)) ^^^ a + b + (shl32 (b ^^^ c + (shl32 (d ^^^ a + b) (16 : Nat) ||| shr32 (d ^^^ a + b) (16 : Nat))) (12 : Nat) ||| shr32 (b ^^^ c + (shl32 (d ^^^ a + b) (16 : Nat) ||| shr32 (d ^^^ a + b) (16 : Nat))) (20 : Nat))) (8 : Nat) ||| shr32 ((shl32 (d ^^^ a + b) (16 : Nat) ||| shr32 (d ^^^ a + b) (16 : Nat)) ^^^ a + b + (shl32 (b ^^^ c + (shl32 (d ^^^ a + b) (16 : Nat) ||| shr32 (d ^^^ a + b) (16 : Nat))) (12 : Nat) ||| shr32 (b ^^^ c + (shl32 (d ^^^ a + b) (16 : Nat) ||| shr32 (d ^^^ a + b) (16 : Nat))) (20 : Nat))) (24 : Nat) = (qr a b c d).d ∧ True) := by kernel_rfl
set_option maxRecDepth 100000 in
theorem vcLeft (x : UInt32) (k : Int) : (vcFn EQ 100 77 [.s (.u32 x), .s (.i64 k)] (.s (.u32 (rol x k.toNat)))) =
  ((0 : Int) ≤ k ∧ InI (Int.ofNat (32 : Nat) - k) ∧ (0 : Int) ≤ Int.ofNat (32 : Nat) - k ∧ shl32 x k.toNat ||| shr32 x (Int.ofNat (32 : Nat) - k).toNat = rol x k.toNat ∧ True) := by kernel_rfl
set_option maxRecDepth 100000 in
theorem vcQuarterAt (w : List UInt32) (a b c d : Int) : (vcFn EQa 100 73 [.agg [.vec (.n 16) (.u32 w)], .s (.i64 a), .s (.i64 b), .s (.i64 c), .s (.i64 d)] (.w (.agg [.vec (.n 16) (.u32 (qrAt w a.toNat b.toNat c.toNat d.toNat))]))) =
  (((0 : Int) ≤ a ∧ a < (↑(16 : Nat) : Int)) ∧ a.toNat < (16 : Nat) ∧ ((0 : Int) ≤ b ∧ b < (↑(16 : Nat) : Int)) ∧ b.toNat < (16 : Nat) ∧ ((0 : Int) ≤ a ∧ a < (↑(16 : Nat) : Int)) ∧ a.toNat < (16 : Nat) ∧ ∀ (y : List UInt32), y = w.set a.toNat (w.getD a.toNat (0 : UInt32) + w.getD b.toNat (0 : UInt32)) → ((0 : Int) ≤ d ∧ d < (↑(16 : Nat) : Int)) ∧ d.toNat < (16 : Nat) ∧ ((0 : Int) ≤ a ∧ a < (↑(16 : Nat) : Int)) ∧ a.toNat < (16 : Nat) ∧ ((0 : Int) ≤ Int.ofNat (16 : Nat) ∧ Int.ofNat (16 : Nat) ≤ (32 : Int)) ∧ ∀ (y_1 : UInt32), y_1 = rol (y.getD d.toNat (0 : UInt32) ^^^ y.getD a.toNat (0 : UInt32)) (16 : Nat) → ((0 : Int) ≤ d ∧ d < (↑(16 : Nat) : Int)) ∧ d.toNat < (16 : Nat) ∧ ∀ (y_2 : List UInt32), y_2 = y.set d.toNat y_1 → ((0 : Int) ≤ c ∧ c < (↑(16 : Nat) : Int)) ∧ c.toNat < (16 : Nat) ∧ ((0 : Int) ≤ d ∧ d < (↑(16 : Nat) : Int)) ∧ d.toNat < (16 : Nat) ∧ ((0 : Int) ≤ c ∧ c < (↑(16 : Nat) : Int)) ∧ c.toNat < (16 : Nat) ∧ ∀ (y : List UInt32), y = y_2.set c.toNat (y_2.getD c.toNat (0 : UInt32) + y_2.getD d.toNat (0 : UInt32)) → ((0 : Int) ≤ b ∧ b < (↑(16 : Nat) : Int)) ∧ b.toNat < (16 : Nat) ∧ ((0 : Int) ≤ c ∧ c < (↑(16 : Nat) : Int)) ∧ c.toNat < (16 : Nat) ∧ ((0 : Int) ≤ Int.ofNat (12 : Nat) ∧ Int.ofNat (12 : Nat) ≤ (32 : Int)) ∧ ∀ (y_3 : UInt32), y_3 = rol (y.getD b.toNat (0 : UInt32) ^^^ y.getD c.toNat (0 : UInt32)) (12 : Nat) → ((0 : Int) ≤ b ∧ b < (↑(16 : Nat) : Int)) ∧ b.toNat < (16 : Nat) ∧ ∀ (y_4 : List UInt32), y_4 = y.set b.toNat y_3 → ((0 : Int) ≤ a ∧ a < (↑(16 : Nat) : Int)) ∧ a.toNat < (16 : Nat) ∧ ((0 : Int) ≤ b ∧ b < (↑(16 : Nat) : Int)) ∧ b.toNat < (16 : Nat) ∧ ((0 : Int) ≤ a ∧ a < (↑(16 : Nat) : Int)) ∧ a.toNat < (16 : Nat) ∧ ∀ (y : List UInt32), y = y_4.set a.toNat (y_4.getD a.toNat (0 : UInt32) + y_4.getD b.toNat (0 : UInt32)) → ((0 : Int) ≤ d ∧ d < (↑(16 : Nat) : Int)) ∧ d.toNat < (16 : Nat) ∧ ((0 : Int) ≤ a ∧ a < (↑(16 : Nat) : Int)) ∧ a.toNat < (16 : Nat) ∧ ((0 : Int) ≤ Int.ofNat (8 : Nat) ∧ Int.ofNat (8 : Nat) ≤ (32 : Int)) ∧ ∀ (y_5 : UInt32), y_5 = rol (y.getD d.toNat (0 : UInt32) ^^^ y.getD a.toNat (0 : UInt32)) (8 : Nat) → ((0 : Int) ≤ d ∧ d < (↑(16 : Nat) : Int)) ∧ d.toNat < (16 : Nat) ∧ ∀ (y_6 : List UInt32), y_6 = y.set d.toNat y_5 → ((0 : Int) ≤ c ∧ c < (↑(16 : Nat) : Int)) ∧ c.toNat < (16 : Nat) ∧ ((0 : Int) ≤ d ∧ d < (↑(16 : Nat) : Int)) ∧ d.toNat < (16 : Nat) ∧ ((0 : Int) ≤ c ∧ c < (↑(16 : Nat) : Int)) ∧ c.toNat < (16 : Nat) ∧ ∀ (y : List UInt32), y = y_6.set c.toNat (y_6.getD c.toNat (0 : UInt32) + y_6.getD d.toNat (0 : UInt32)) → ((0 : Int) ≤ b ∧ b < (↑(16 : Nat) : Int)) ∧ b.toNat < (16 : Nat) ∧ ((0 : Int) ≤ c ∧ c < (↑(16 : Nat) : Int)) ∧ c.toNat < (16 : Nat) ∧ ((0 : Int) ≤ Int.ofNat (7 : Nat) ∧ Int.ofNat (7 : Nat) ≤ (32 : Int)) ∧ ∀ (y_7 : UInt32), y_7 = rol (y.getD b.toNat (0 : UInt32) ^^^ y.getD c.toNat (0 : UInt32)) (7 : Nat) → ((0 : Int) ≤ b ∧ b < (↑(16 : Nat) : Int)) ∧ b.toNat < (16 : Nat) ∧ ∀ (y_8 : List UInt32), y_8 = y.set b.toNat y_7 → ∀ (y : List UInt32), y = y_8 → y = qrAt w a.toNat b.toNat c.toNat d.toNat ∧ True) := by kernel_rfl
set_option maxRecDepth 100000 in
theorem vcCore (w : W16) : (vcFn EC 200 59 [.agg [.vec (.n 16) (.u32 w.l)]] (.w (.agg [.vec (.n 16) (.u32 (coreL w.l))]))) =
  ((∃ (x : Nat × W16), (x.fst ≤ (10 : Nat) ∧ coreL w.l = (iter dbl ((10 : Nat) - x.fst) x.snd).l) ∧ w.l = w.l ∧ Int.ofNat (0 : Nat) = (↑x.fst : Int) ∧ w.l = w.l ∧ List.replicate (16 : Nat) (0 : UInt32) = List.replicate (16 : Nat) (0 : UInt32) ∧ w.l = x.snd.l ∧ True) ∧ ∀ (x : Nat × W16), x.fst ≤ (10 : Nat) ∧ coreL w.l = (iter dbl ((10 : Nat) - x.fst) x.snd).l → (decide ((↑x.fst : Int) < Int.ofNat (10 : Nat)) = true → InI ((↑x.fst : Int) + Int.ofNat (1 : Nat)) ∧ ∃ (y : Nat × W16), (y.fst ≤ (10 : Nat) ∧ coreL w.l = (iter dbl ((10 : Nat) - y.fst) y.snd).l) ∧ (10 : Nat) - y.fst < (10 : Nat) - x.fst ∧ w.l = w.l ∧ (↑x.fst : Int) + Int.ofNat (1 : Nat) = (↑y.fst : Int) ∧ w.l = w.l ∧ List.replicate (16 : Nat) (0 : UInt32) = List.replicate (16 : Nat) (0 : UInt32) ∧ [(qr (qr x.snd.x0 x.snd.x4 x.snd.x8 x.snd.x12).a (qr x.snd.x1 x.snd.x5 x.snd.x9 x.snd.x13).b (qr x.snd.x2 x.snd.x6 x.snd.x10 x.snd.x14).c (qr x.snd.x3 x.snd.x7 x.snd.x11 x.snd.x15).d).a, (qr (qr x.snd.x1 x.snd.x5 x.snd.x9 x.snd.x13).a (qr x.snd.x2 x.snd.x6 x.snd.x10 x.snd.x14).b (qr x.snd.x3 x.snd.x7 x.snd.x11 x.snd.x15).c (qr x.snd.x0 x.snd.x4 x.snd.x8 x.snd.x12).d).a, (qr (qr x.snd.x2 x.snd.x6 x.snd.x10 x.snd.x14).a (qr x.snd.x3 x.snd.x7 x.snd.x11 x.snd.x15).b (qr x.snd.x0 x.snd.x4 x.snd.x8 x.snd.x12).c (qr x.snd.x1 x.snd.x5 x.snd.x9 x.snd.x13).d).a, (qr (qr x.snd.x3 x.snd.x7 x.snd.x11 x.snd.x15).a (qr x.snd.x0 x.snd.x4 x.snd.x8 x.snd.x12).b (qr x.snd.x1 x.snd.x5 x.snd.x9 x.snd.x13).c (qr x.snd.x2 x.snd.x6 x.snd.x10 x.snd.x14).d).a, (qr (qr x.snd.x3 x.snd.x7 x.snd.x11 x.snd.x15).a (qr x.snd.x0 x.snd.x4 x.snd.x8 x.snd.x12).b (qr x.snd.x1 x.snd.x5 x.snd.x9 x.snd.x13).c (qr x.snd.x2 x.snd.x6 x.snd.x10 x.snd.x14).d).b, (qr (qr x.snd.x0 x.snd.x4 x.snd.x8 x.snd.x12).a (qr x.snd.x1 x.snd.x5 x.snd.x9 x.snd.x13).b (qr x.snd.x2 x.snd.x6 x.snd.x10 x.snd.x14).c (qr x.snd.x3 x.snd.x7 x.snd.x11 x.snd.x15).d).b, (qr (qr x.snd.x1 x.snd.x5 x.snd.x9 x.snd.x13).a (qr x.snd.x2 x.snd.x6 x.snd.x10 x.snd.x14).b (qr x.snd.x3 x.snd.x7 x.snd.x11 x.snd.x15).c (qr x.snd.x0 x.snd.x4 x.snd.x8 x.snd.x12).d).b, (qr (qr x.snd.x2 x.snd.x6 x.snd.x10 x.snd.x14).a (qr x.snd.x3 x.snd.x7 x.snd.x11 x.snd.x15).b (qr x.snd.x0 x.snd.x4 x.snd.x8 x.snd.x12).c (qr x.snd.x1 x.snd.x5 x.snd.x9 x.snd.x13).d).b, (qr (qr x.snd.x2 x.snd.x6 x.snd.x10 x.snd.x14).a (qr x.snd.x3 x.snd.x7 x.snd.x11 x.snd.x15).b (qr x.snd.x0 x.snd.x4 x.snd.x8 x.snd.x12).c (qr x.snd.x1 x.snd.x5 x.snd.x9 x.snd.x13).d).c, (qr (qr x.snd.x3 x.snd.x7 x.snd.x11 x.snd.x15).a (qr x.snd.x0 x.snd.x4 x.snd.x8 x.snd.x12).b (qr x.snd.x1 x.snd.x5 x.snd.x9 x.snd.x13).c (qr x.snd.x2 x.snd.x6 x.snd.x10 x.snd.x14).d).c, (qr (qr x.snd.x0 x.snd.x4 x.snd.x8 x.snd.x12).a (qr x.snd.x1 x.snd.x5 x.snd.x9 x.snd.x13).b (qr x.snd.x2 x.snd.x6 x.snd.x10 x.snd.x14).c (qr x.snd.x3 x.snd.x7 x.snd.x11 x.snd.x15).d).c, (qr (qr x.snd.x1 x.snd.x5 x.snd.x9 x.snd.x13).a (qr x.snd.x2 x.snd.x6 x.snd.x10 x.snd.x14).b (qr x.snd.x3 x.snd.x7 x.snd.x11 x.snd.x15).c (qr x.snd.x0 x.snd.x4 x.snd.x8 x.snd.x12).d).c, (qr (qr x.snd.x1 x.snd.x5 x.snd.x9 x.snd.x13).a (qr x.snd.x2 x.snd.x6 x.snd.x10 x.snd.x14).b (qr x.snd.x3 x.snd.x7 x.snd.x11 x.snd.x15).c (qr x.snd.x0 x.snd.x4 x.snd.x8 x.snd.x12).d).d, (qr (qr x.snd.x2 x.snd.x6 x.snd.x10 x.snd.x14).a (qr x.snd.x3 x.snd.x7 x.snd.x11 x.snd.x15).b (qr x.snd.x0 x.snd.x4 x.snd.x8 x.snd.x12).c (qr x.snd.x1 x.snd.x5 x.snd.x9 x.snd.x13).d).d, (qr (qr x.snd.x3 x.snd.x7 x.snd.x11 x.snd.x15).a (qr x.snd.x0 x.snd.x4 x.snd.x8 x.snd.x12).b (qr x.snd.x1 x.snd.x5 x.snd.x9 x.snd.x13).c (qr x.snd.x2 x.snd.x6 x.snd.x10 x.snd.x14).d).d, (qr (qr x.snd.x0 x.snd.x4 x.snd.x8 x.snd.x12).a (qr x.snd.x1 x.snd.x5 x.snd.x9 x.snd.x13).b (qr x.snd.x2 x.snd.x6 x.snd.x10 x.snd.x14).c (qr x.snd.x3 x.snd.x7 x.snd.x11 x.snd.x15).d).d] = y.snd.l ∧ True) ∧ (decide ((↑x.fst : Int) < Int.ofNat (10 : Nat)) = false → x.snd.l = coreL w.l ∧ True)) := by kernel_rfl
set_option maxRecDepth 100000 in
theorem vcCoreR (w : W16) : (vcFn ECr 200 64 [.agg [.vec (.n 16) (.u32 w.l)]] (.w (.agg [.vec (.n 16) (.u32 (coreL w.l))]))) =
  ((∃ (x : Nat × W16), (x.fst ≤ (10 : Nat) ∧ coreL w.l = (iter dbl ((10 : Nat) - x.fst) x.snd).l) ∧ w.l = w.l ∧ Int.ofNat (0 : Nat) = (↑x.fst : Int) ∧ w.l = x.snd.l ∧ List.replicate (16 : Nat) (0 : UInt32) = List.replicate (16 : Nat) (0 : UInt32) ∧ True) ∧ ∀ (x : Nat × W16), x.fst ≤ (10 : Nat) ∧ coreL w.l = (iter dbl ((10 : Nat) - x.fst) x.snd).l → (decide ((↑x.fst : Int) < Int.ofNat (10 : Nat)) = true → ((0 : Int) ≤ Int.ofNat (0 : Nat) ∧ Int.ofNat (0 : Nat) < (16 : Int)) ∧ ((0 : Int) ≤ Int.ofNat (4 : Nat) ∧ Int.ofNat (4 : Nat) < (16 : Int)) ∧ ((0 : Int) ≤ Int.ofNat (8 : Nat) ∧ Int.ofNat (8 : Nat) < (16 : Int)) ∧ ((0 : Int) ≤ Int.ofNat (12 : Nat) ∧ Int.ofNat (12 : Nat) < (16 : Int)) ∧ ((0 : Int) ≤ Int.ofNat (1 : Nat) ∧ Int.ofNat (1 : Nat) < (16 : Int)) ∧ ((0 : Int) ≤ Int.ofNat (5 : Nat) ∧ Int.ofNat (5 : Nat) < (16 : Int)) ∧ ((0 : Int) ≤ Int.ofNat (9 : Nat) ∧ Int.ofNat (9 : Nat) < (16 : Int)) ∧ ((0 : Int) ≤ Int.ofNat (13 : Nat) ∧ Int.ofNat (13 : Nat) < (16 : Int)) ∧ ((0 : Int) ≤ Int.ofNat (2 : Nat) ∧ Int.ofNat (2 : Nat) < (16 : Int)) ∧ ((0 : Int) ≤ Int.ofNat (6 : Nat) ∧ Int.ofNat (6 : Nat) < (16 : Int)) ∧ ((0 : Int) ≤ Int.ofNat (10 : Nat) ∧ Int.ofNat (10 : Nat) < (16 : Int)) ∧ ((0 : Int) ≤ Int.ofNat (14 : Nat) ∧ Int.ofNat (14 : Nat) < (16 : Int)) ∧ ((0 : Int) ≤ Int.ofNat (3 : Nat) ∧ Int.ofNat (3 : Nat) < (16 : Int)) ∧ ((0 : Int) ≤ Int.ofNat (7 : Nat) ∧ Int.ofNat (7 : Nat) < (16 : Int)) ∧ ((0 : Int) ≤ Int.ofNat (11 : Nat) ∧ Int.ofNat (11 : Nat) < (16 : Int)) ∧ ((0 : Int) ≤ Int.ofNat (15 : Nat) ∧ Int.ofNat (15 : Nat) < (16 : Int)) ∧ ((0 : Int) ≤ Int.ofNat (0 : Nat) ∧ Int.ofNat (0 : Nat) < (16 : Int)) ∧ ((0 : Int) ≤ Int.ofNat (5 : Nat) ∧ Int.ofNat (5 : Nat) < (16 : Int)) ∧ ((0 : Int) ≤ Int.ofNat (10 : Nat) ∧ Int.ofNat (10 : Nat) < (16 : Int)) ∧ ((0 : Int) ≤ Int.ofNat (15 : Nat) ∧ Int.ofNat (15 : Nat) < (16 : Int)) ∧ ((0 : Int) ≤ Int.ofNat (1 : Nat) ∧ Int.ofNat (1 : Nat) < (16 : Int)) ∧ ((0 : Int) ≤ Int.ofNat (6 : Nat) ∧ Int.ofNat (6 : Nat) < (16 : Int)) ∧ ((0 : Int) ≤ Int.ofNat (11 : Nat) ∧ Int.ofNat (11 : Nat) < (16 : Int)) ∧ ((0 : Int) ≤ Int.ofNat (12 : Nat) ∧ Int.ofNat (12 : Nat) < (16 : Int)) ∧ ((0 : Int) ≤ Int.ofNat (2 : Nat) ∧ Int.ofNat (2 : Nat) < (16 : Int)) ∧ ((0 : Int) ≤ Int.ofNat (7 : Nat) ∧ Int.ofNat (7 : Nat) < (16 : Int)) ∧ ((0 : Int) ≤ Int.ofNat (8 : Nat) ∧ Int.ofNat (8 : Nat) < (16 : Int)) ∧ ((0 : Int) ≤ Int.ofNat (13 : Nat) ∧ Int.ofNat (13 : Nat) < (16 : Int)) ∧ ((0 : Int) ≤ Int.ofNat (3 : Nat) ∧ Int.ofNat (3 : Nat) < (16 : Int)) ∧ ((0 : Int) ≤ Int.ofNat (4 : Nat) ∧ Int.ofNat (4 : Nat) < (16 : Int)) ∧ ((0 : Int) ≤ Int.ofNat (9 : Nat) ∧ Int.ofNat (9 : Nat) < (16 : Int)) ∧ ((0 : Int) ≤ Int.ofNat (14 : Nat) ∧ Int.ofNat (14 : Nat) < (16 : Int)) ∧ InI ((↑x.fst : Int) + Int.ofNat (1 : Nat)) ∧ ∃ (y : Nat × W16), (y.fst ≤ (10 : Nat) ∧ coreL w.l = (iter dbl ((10 : Nat) - y.fst) y.snd).l) ∧ (10 : Nat) - y.fst < (10 : Nat) - x.fst ∧ w.l = w.l ∧ (↑x.fst : Int) + Int.ofNat (1 : Nat) = (↑y.fst : Int) ∧ qrAt (qrAt (qrAt (qrAt (qrAt (qrAt (qrAt (qrAt x.snd.l (0 : Nat) (4 : Nat) (8 : Nat) (12 : Nat)) (1 : Nat) (5 : Nat) (9 : Nat) (13 : Nat)) (2 : Nat) (6 : Nat) (10 : Nat) (14 : Nat)) (3 : Nat) (7 : Nat) (11 : Nat) (15 : Nat)) (0 : Nat) (5 : Nat) (10 : Nat) (15 : Nat)) (1 : Nat) (6 : Nat) (11 : Nat) (12 : Nat)) (2 : Nat) (7 : Nat) (8 : Nat) (13 : Nat)) (3 : Nat) (4 : Nat) (9 : Nat) (14 : Nat) = y.snd.l ∧ List.replicate (16 : Nat) (0 : UInt32) = List.replicate (16 : Nat) (0 : UInt32) ∧ True) ∧ (decide ((↑x.fst : Int) < Int.ofNat (10 : Nat)) = false → x.snd.l = coreL w.l ∧ True)) := by kernel_rfl
end Go.Proofs.Ytimjfjlaoekfkaa

/- A step towards SessionOpensSaid: no conditions. -/
namespace Go.Proofs.Ytimjfjlaoekfkaa
open Go Go.Eng Go.Cha
set_option maxRecDepth 100000 in
theorem conQuarter : Con Try.prog 68 gQuarter := con_of_vcs fun args ps res h hp => by
  unfold gQuarter at h
  split at h <;> cases h
  rename_i a b c d
  refine ⟨EQ, 100, rfl, eok (gs := []) trivial, ?_⟩
  refine Eq.mpr (vcQuarter a b c d) ?_
  exact ⟨rfl, rfl, rfl, rfl, trivial⟩
set_option maxRecDepth 100000 in
theorem conLeft : Con Try.prog 77 gLeft := con_of_vcs fun args ps res h hp => by
  unfold gLeft at h
  split at h <;> cases h
  rename_i x k
  have hk := (all_cons.1 hp).1
  refine ⟨EQ, 100, rfl, eok (gs := []) trivial, ?_⟩
  refine Eq.mpr (vcLeft x k) ?_
  simp only [io]
  refine ⟨hk.1, ⟨by omega, by omega⟩, by omega, ?_, trivial⟩
  have e : (((32 : Nat) : Int) - k).toNat = 32 - k.toNat := by omega
  rw [e]; rfl
set_option maxRecDepth 100000 in
theorem conQuarterAt : Con Try.prog 73 gQuarterAt := con_of_vcs fun args ps res h hp => by
  unfold gQuarterAt at h
  split at h <;> cases h
  rename_i w a b c d
  have h1 := all_cons.1 hp
  have h2 := all_cons.1 h1.2
  have h3 := all_cons.1 h2.2
  have h4 := all_cons.1 h3.2
  have ha := h1.1; have hb := h2.1; have hc := h3.1; have hd := h4.1
  clear h1 h2 h3 h4 hp
  refine ⟨EQa, 100, rfl, eok (gs := [(77, gLeft)]) ⟨conLeft, trivial⟩, ?_⟩
  refine Eq.mpr (vcQuarterAt w a b c d) ?_
  have i16 : ((16 : Nat) : Int) = 16 := rfl
  have ha' : a.toNat < 16 := by omega
  have hb' : b.toNat < 16 := by omega
  have hc' : c.toNat < 16 := by omega
  have hd' : d.toNat < 16 := by omega
  simp only [io, i16, ha, hb, hc, hd, ha', hb', hc', hd', true_and, and_true, forall_eq]
  exact ⟨⟨by omega, by omega⟩, ⟨by omega, by omega⟩, ⟨by omega, by omega⟩, ⟨by omega, by omega⟩, rfl⟩
theorem iter_succ {α : Type} (f : α → α) : ∀ (n : Nat) (x : α), iter f (n + 1) x = iter f n (f x)
  | 0, _ => rfl
  | n + 1, x => by
    show f (iter f (n + 1) x) = f (iter f n (f x))
    rw [iter_succ f n x]
theorem core_step {w : W16} {n : Nat} {x : W16} (hn : n < 10) (h : coreL w.l = (iter dbl (10 - n) x).l) : coreL w.l = (iter dbl (10 - (n + 1)) (dbl x)).l := by
  rw [h, show 10 - n = (10 - (n + 1)) + 1 by omega, iter_succ]
set_option maxRecDepth 100000 in
theorem conCore : Con Try.prog 59 gCore := con_of_vcs fun args ps res h hp => by
  unfold gCore at h
  split at h <;> cases h
  rename_i w
  obtain ⟨w, rfl⟩ := len16 (all_cons.1 hp).1
  refine ⟨EC, 200, rfl, eok (gs := [(68, gQuarter)]) ⟨conQuarter, trivial⟩, ?_⟩
  refine Eq.mpr (vcCore w) ?_
  refine ⟨⟨(0, w), ⟨by omega, rfl⟩, rfl, rfl, rfl, rfl, rfl, trivial⟩, fun x hx => ⟨fun h1 => ?_, fun h1 => ?_⟩⟩
  · simp only [io] at h1 ⊢
    have h1 := of_decide_eq_true h1
    have hlt : x.1 < 10 := by omega
    refine ⟨⟨by omega, by omega⟩, (x.1 + 1, dbl x.2), ⟨hlt, core_step hlt hx.2⟩, by show 10 - (x.1 + 1) < _; omega, ?_⟩
    and_intros <;> first | trivial | rfl
  · simp only [io] at h1
    have h1 := of_decide_eq_false h1
    have e : x.1 = 10 := by omega
    have h2 := hx.2
    rw [e] at h2
    exact ⟨h2.symm, trivial⟩
set_option maxRecDepth 100000 in
theorem conCoreR : Con Try.prog 64 gCore := con_of_vcs fun args ps res h hp => by
  unfold gCore at h
  split at h <;> cases h
  rename_i w
  obtain ⟨w, rfl⟩ := len16 (all_cons.1 hp).1
  refine ⟨ECr, 200, rfl, eok (gs := [(73, gQuarterAt)]) ⟨conQuarterAt, trivial⟩, ?_⟩
  refine Eq.mpr (vcCoreR w) ?_
  refine ⟨⟨(0, w), ⟨by omega, rfl⟩, rfl, rfl, rfl, rfl, trivial⟩, fun x hx => ⟨fun h1 => ?_, fun h1 => ?_⟩⟩
  · simp only [io, Int.toNat_natCast] at h1 ⊢
    have h1 := of_decide_eq_true h1
    have hlt : x.1 < 10 := by omega
    repeat refine ⟨⟨by omega, by omega⟩, ?_⟩
    refine ⟨(x.1 + 1, dbl x.2), ⟨hlt, core_step hlt hx.2⟩, by show 10 - (x.1 + 1) < _; omega, ?_⟩
    simp only [qr8]
    and_intros <;> first | trivial | rfl
  · simp only [io] at h1
    have h1 := of_decide_eq_false h1
    have e : x.1 = 10 := by omega
    have h2 := hx.2
    rw [e] at h2
    exact ⟨h2.symm, trivial⟩
end Go.Proofs.Ytimjfjlaoekfkaa

/- A step towards SessionOpensSaid: no conditions. -/
namespace Go.Proofs.Ytimjfjlaoekfkaa
open Go Go.Eng Go.Cod
noncomputable def ERL : Env := mkE Try.prog [] [(0, JReadL)] 2
noncomputable def ERr : Env := mkE Try.prog [] [(0, JReadLr)] 2
noncomputable def EJo : Env := mkE Try.prog [] [(0, JJoin)] 2
noncomputable def ELi : Env := mkE Try.prog [] [(0, JLittle 14 [0, 1, 4, 13])] 2
noncomputable def ELr : Env := mkE Try.prog [] [(0, JLittle 6 [0, 1, 4])] 2
set_option maxRecDepth 100000 in
theorem vcLittle (n : UInt64) (s : Int) : (vcFn ELi 100 36 [.s (.u64 n), .s (.i64 s)] (.s (.xs 1 (.s s.toNat) (.u8 (littleL n s.toNat))))) =
  ((decide (s < Int.ofNat (1 : Nat)) = true → s.toNat = (0 : Nat) ∧ (littleL n s.toNat).length = (0 : Nat) ∧ True) ∧ (decide (s < Int.ofNat (1 : Nat)) = false → (decide (Int.ofNat (8 : Nat) < s) = true → s.toNat = (0 : Nat) ∧ (littleL n s.toNat).length = (0 : Nat) ∧ True) ∧ (decide (Int.ofNat (8 : Nat) < s) = false → (∃ (x : Nat), (↑x : Int) ≤ s ∧ n = n ∧ s = s ∧ x = (0 : Nat) ∧ s = s ∧ Int.ofNat (0 : Nat) = (↑x : Int) ∧ x = (0 : Nat) ∧ (littleL n x).length = (0 : Nat) ∧ True) ∧ ∀ (x : Nat), (↑x : Int) ≤ s → (decide ((↑x : Int) < s) = true → InI (Int.ofNat (8 : Nat) * (↑x : Int)) ∧ (0 : Int) ≤ Int.ofNat (8 : Nat) * (↑x : Int) ∧ x = x ∧ x + (1 : Nat) ≤ (4294967296 : Nat) ∧ InI ((↑x : Int) + Int.ofNat (1 : Nat)) ∧ ∃ (y : Nat), (↑y : Int) ≤ s ∧ s.toNat - y < s.toNat - x ∧ n = n ∧ s = s ∧ x + (1 : Nat) = y ∧ s = s ∧ (↑x : Int) + Int.ofNat (1 : Nat) = (↑y : Int) ∧ x + (1 : Nat) = y ∧ littleL n x ++ [(shr64 n (Int.ofNat (8 : Nat) * (↑x : Int)).toNat).toUInt8] = littleL n y ∧ True) ∧ (decide ((↑x : Int) < s) = false → (0 : Nat) + x ≤ x ∧ x = s.toNat ∧ List.take x (dropL (dropL (littleL n x) (0 : Nat)) (0 : Nat)) = littleL n s.toNat ∧ True)))) := by kernel_rfl
set_option maxRecDepth 100000 in
theorem vcLittleR (n : UInt64) (s : Int) : (vcFn ELr 100 47 [.s (.u64 n), .s (.i64 s)] (.s (.xs 1 (.s s.toNat) (.u8 (littleL n s.toNat))))) =
  ((decide (s < Int.ofNat (1 : Nat)) = true → s.toNat = (0 : Nat) ∧ (littleL n s.toNat).length = (0 : Nat) ∧ True) ∧ (decide (s < Int.ofNat (1 : Nat)) = false → (decide (Int.ofNat (8 : Nat) < s) = true → s.toNat = (0 : Nat) ∧ (littleL n s.toNat).length = (0 : Nat) ∧ True) ∧ (decide (Int.ofNat (8 : Nat) < s) = false → (∃ (x : Nat), (↑x : Int) ≤ s ∧ n = n ∧ s = s ∧ x = (0 : Nat) ∧ Int.ofNat (0 : Nat) = (↑x : Int) ∧ x = (0 : Nat) ∧ (littleL n x).length = (0 : Nat) ∧ True) ∧ ∀ (x : Nat), (↑x : Int) ≤ s → (decide ((↑x : Int) < s) = true → InI (Int.ofNat (8 : Nat) * (↑x : Int)) ∧ (0 : Int) ≤ Int.ofNat (8 : Nat) * (↑x : Int) ∧ x = x ∧ x + (1 : Nat) ≤ (4294967296 : Nat) ∧ InI ((↑x : Int) + Int.ofNat (1 : Nat)) ∧ ∃ (y : Nat), (↑y : Int) ≤ s ∧ s.toNat - y < s.toNat - x ∧ n = n ∧ s = s ∧ x + (1 : Nat) = y ∧ (↑x : Int) + Int.ofNat (1 : Nat) = (↑y : Int) ∧ x + (1 : Nat) = y ∧ littleL n x ++ [(shr64 n (Int.ofNat (8 : Nat) * (↑x : Int)).toNat).toUInt8] = littleL n y ∧ True) ∧ (decide ((↑x : Int) < s) = false → (0 : Nat) + x ≤ x ∧ x = s.toNat ∧ List.take x (dropL (dropL (littleL n x) (0 : Nat)) (0 : Nat)) = littleL n s.toNat ∧ True)))) := by kernel_rfl
set_option maxRecDepth 100000 in
theorem vcReadL (l : List UInt8) : (vcFn ERL 100 30 [.s (.xs 1 (.s l.length) (.u8 l))] (.s (.u64 (readL l)))) =
  ((∃ (x : Nat), x ≤ min l.length (8 : Nat) ∧ l.length = l.length ∧ l = l ∧ UInt64.ofNat (nat_lit 0) = UInt64.ofNat (nat_lit 0) ∧ UInt64.ofNat (nat_lit 0) = readL (List.take x l) ∧ min (↑l.length : Int) (Int.ofNat (8 : Nat)) = min (↑l.length : Int) (Int.ofNat (8 : Nat)) ∧ Int.ofNat (0 : Nat) = (↑x : Int) ∧ True) ∧ ∀ (x : Nat), x ≤ min l.length (8 : Nat) → (decide ((↑x : Int) < min (↑l.length : Int) (Int.ofNat (8 : Nat))) = true → ((0 : Int) ≤ (↑x : Int) ∧ (↑x : Int) < (↑l.length : Int)) ∧ (↑x : Int).toNat < l.length ∧ InI (Int.ofNat (8 : Nat) * (↑x : Int)) ∧ (0 : Int) ≤ Int.ofNat (8 : Nat) * (↑x : Int) ∧ InI ((↑x : Int) + Int.ofNat (1 : Nat)) ∧ ∃ (y : Nat), y ≤ min l.length (8 : Nat) ∧ (8 : Nat) - y < (8 : Nat) - x ∧ l.length = l.length ∧ l = l ∧ UInt64.ofNat (nat_lit 0) = UInt64.ofNat (nat_lit 0) ∧ readL (List.take x l) ||| shl64 (l.getD (↑x : Int).toNat (0 : UInt8)).toUInt64 (Int.ofNat (8 : Nat) * (↑x : Int)).toNat = readL (List.take y l) ∧ min (↑l.length : Int) (Int.ofNat (8 : Nat)) = min (↑l.length : Int) (Int.ofNat (8 : Nat)) ∧ (↑x : Int) + Int.ofNat (1 : Nat) = (↑y : Int) ∧ True) ∧ (decide ((↑x : Int) < min (↑l.length : Int) (Int.ofNat (8 : Nat))) = false → readL (List.take x l) = readL l ∧ True)) := by kernel_rfl
set_option maxRecDepth 100000 in
theorem vcReadLr (l : List UInt8) : (vcFn ERr 100 55 [.s (.xs 1 (.s l.length) (.u8 l))] (.s (.u64 (readL l)))) =
  (InI ((↑l.length : Int) - Int.ofNat (1 : Nat)) ∧ (∃ (x : Nat), x ≤ l.length ∧ l.length = l.length ∧ l = l ∧ UInt64.ofNat (nat_lit 0) = UInt64.ofNat (nat_lit 0) ∧ UInt64.ofNat (nat_lit 0) = readL (List.drop x l) ∧ (↑l.length : Int) - Int.ofNat (1 : Nat) = (↑x : Int) - (1 : Int) ∧ True) ∧ ∀ (x : Nat), x ≤ l.length → (decide (Int.ofNat (0 : Nat) ≤ (↑x : Int) - (1 : Int)) = true → ((0 : Int) ≤ (↑x : Int) - (1 : Int) ∧ (↑x : Int) - (1 : Int) < (↑l.length : Int)) ∧ ((↑x : Int) - (1 : Int)).toNat < l.length ∧ InI ((↑x : Int) - (1 : Int) - Int.ofNat (1 : Nat)) ∧ ∃ (y : Nat), y ≤ l.length ∧ y < x ∧ l.length = l.length ∧ l = l ∧ UInt64.ofNat (nat_lit 0) = UInt64.ofNat (nat_lit 0) ∧ shl64 (readL (List.drop x l)) (8 : Nat) ||| (l.getD ((↑x : Int) - (1 : Int)).toNat (0 : UInt8)).toUInt64 = readL (List.drop y l) ∧ (↑x : Int) - (1 : Int) - Int.ofNat (1 : Nat) = (↑y : Int) - (1 : Int) ∧ True) ∧ (decide (Int.ofNat (0 : Nat) ≤ (↑x : Int) - (1 : Int)) = false → readL (List.drop x l) = readL l ∧ True)) := by kernel_rfl
set_option maxRecDepth 100000 in
theorem vcJoin (ls : List (List UInt8)) : (vcFn EJo 100 35 [.s (.xs 1 (.s ls.length) (.sl ls))] (.s (.xs 1 (.s ls.flatten.length) (.u8 ls.flatten)))) =
  ((∃ (x : Nat), x ≤ ls.length ∧ ls.length = ls.length ∧ ls = ls ∧ (List.take x ls).flatten.length = (0 : Nat) ∧ ls.length = ls.length ∧ ls = ls ∧ (↑ls.length : Int) = (↑ls.length : Int) ∧ Int.ofNat (0 : Nat) = (↑x : Int) ∧ (List.take x ls).flatten.length = (0 : Nat) ∧ (List.take x ls).flatten.length = (0 : Nat) ∧ True) ∧ ∀ (x : Nat), x ≤ ls.length → (decide ((↑x : Int) < (↑ls.length : Int)) = true → ((0 : Int) ≤ (↑x : Int) ∧ (↑x : Int) < (↑ls.length : Int)) ∧ (↑x : Int).toNat < ls.length ∧ (List.take x ls).flatten.length = (List.take x ls).flatten.length ∧ (List.take x ls).flatten.length + (ls.getD (↑x : Int).toNat []).length ≤ (4294967296 : Nat) ∧ InI ((↑x : Int) + Int.ofNat (1 : Nat)) ∧ ∃ (y : Nat), y ≤ ls.length ∧ ls.length - y < ls.length - x ∧ ls.length = ls.length ∧ ls = ls ∧ (List.take x ls).flatten.length + (ls.getD (↑x : Int).toNat []).length = (List.take y ls).flatten.length ∧ ls.length = ls.length ∧ ls = ls ∧ (↑ls.length : Int) = (↑ls.length : Int) ∧ (↑x : Int) + Int.ofNat (1 : Nat) = (↑y : Int) ∧ (List.take x ls).flatten.length + (ls.getD (↑x : Int).toNat []).length = (List.take y ls).flatten.length ∧ (List.take x ls).flatten ++ ls.getD (↑x : Int).toNat [] = (List.take y ls).flatten ∧ True) ∧ (decide ((↑x : Int) < (↑ls.length : Int)) = false → (0 : Nat) + (List.take x ls).flatten.length ≤ (List.take x ls).flatten.length ∧ (List.take x ls).flatten.length = ls.flatten.length ∧ List.take (List.take x ls).flatten.length (dropL (dropL (List.take x ls).flatten (0 : Nat)) (0 : Nat)) = ls.flatten ∧ True)) := by kernel_rfl
set_option maxRecDepth 100000 in
theorem vcJoinR (ls : List (List UInt8)) : (vcFn EJo 100 48 [.s (.xs 1 (.s ls.length) (.sl ls))] (.s (.xs 1 (.s ls.flatten.length) (.u8 ls.flatten)))) =
  ((∃ (x : Nat), x ≤ ls.length ∧ ls.length = ls.length ∧ ls = ls ∧ (List.take x ls).flatten.length = (0 : Nat) ∧ ls.length = ls.length ∧ ls = ls ∧ (↑ls.length : Int) = (↑ls.length : Int) ∧ Int.ofNat (0 : Nat) = (↑x : Int) ∧ (List.take x ls).flatten.length = (0 : Nat) ∧ (List.take x ls).flatten.length = (0 : Nat) ∧ True) ∧ ∀ (x : Nat), x ≤ ls.length → (decide ((↑x : Int) < (↑ls.length : Int)) = true → ((0 : Int) ≤ (↑x : Int) ∧ (↑x : Int) < (↑ls.length : Int)) ∧ (↑x : Int).toNat < ls.length ∧ (List.take x ls).flatten.length = (List.take x ls).flatten.length ∧ (List.take x ls).flatten.length + (ls.getD (↑x : Int).toNat []).length ≤ (4294967296 : Nat) ∧ InI ((↑x : Int) + Int.ofNat (1 : Nat)) ∧ ∃ (y : Nat), y ≤ ls.length ∧ ls.length - y < ls.length - x ∧ ls.length = ls.length ∧ ls = ls ∧ (List.take x ls).flatten.length + (ls.getD (↑x : Int).toNat []).length = (List.take y ls).flatten.length ∧ ls.length = ls.length ∧ ls = ls ∧ (↑ls.length : Int) = (↑ls.length : Int) ∧ (↑x : Int) + Int.ofNat (1 : Nat) = (↑y : Int) ∧ (List.take x ls).flatten.length + (ls.getD (↑x : Int).toNat []).length = (List.take y ls).flatten.length ∧ (List.take x ls).flatten ++ ls.getD (↑x : Int).toNat [] = (List.take y ls).flatten ∧ True) ∧ (decide ((↑x : Int) < (↑ls.length : Int)) = false → (0 : Nat) + (List.take x ls).flatten.length ≤ (List.take x ls).flatten.length ∧ (List.take x ls).flatten.length = ls.flatten.length ∧ List.take (List.take x ls).flatten.length (dropL (dropL (List.take x ls).flatten (0 : Nat)) (0 : Nat)) = ls.flatten ∧ True)) := by kernel_rfl
end Go.Proofs.Ytimjfjlaoekfkaa

/- A step towards SessionOpensSaid: no conditions. -/
namespace Go.Proofs.Ytimjfjlaoekfkaa
open Go Go.Eng Go.Cod
theorem dropL_zero {α : Type} (l : List α) : dropL l 0 = l := rfl
theorem inI_of {x : Int} (h1 : -9223372036854775808 ≤ x) (h2 : x < 9223372036854775808) : InI x := ⟨h1, h2⟩
set_option maxRecDepth 100000 in
theorem conLittle : Con Try.prog 36 gLittle := con_of_vcs fun args ps res h hp => by
  unfold gLittle at h
  split at h <;> cases h
  rename_i n s
  have hs := (all_cons.1 hp).1
  refine ⟨ELi, 100, rfl, eok (gs := []) trivial, ?_⟩
  refine Eq.mpr (vcLittle n s) ?_
  simp only [io, true_and, and_true, dropL_zero, Nat.zero_add, Nat.le_refl]
  refine ⟨fun h1 => absurd (of_decide_eq_true h1) (by omega), fun _ => ⟨fun h1 => absurd (of_decide_eq_true h1) (by omega), fun _ => ⟨⟨0, by omega, rfl, rfl, rfl, rfl⟩, fun x hx => ⟨fun h1 => ?_, fun h1 => ?_⟩⟩⟩⟩
  · have h1 := of_decide_eq_true h1
    refine ⟨inI_of (by omega) (by omega), by omega, by omega, inI_of (by omega) (by omega), x + 1, by omega, by omega, rfl, rfl, rfl, ?_⟩
    have e2 : (((8 : Nat) : Int) * (x : Int)).toNat = 8 * x := by omega
    rw [e2]; rfl
  · have h1 := of_decide_eq_false h1
    have e : x = s.toNat := by omega
    subst e
    exact ⟨rfl, by rw [List.take_of_length_le (by rw [littleL_len]; exact Nat.le_refl _)]⟩
theorem conLittleN4 : Con Try.prog 36 gLittleN := littleN_of conLittle
set_option maxRecDepth 100000 in
theorem conLittleR : Con Try.prog 47 gLittle := con_of_vcs fun args ps res h hp => by
  unfold gLittle at h
  split at h <;> cases h
  rename_i n s
  have hs := (all_cons.1 hp).1
  refine ⟨ELr, 100, rfl, eok (gs := []) trivial, ?_⟩
  refine Eq.mpr (vcLittleR n s) ?_
  simp only [io, true_and, and_true, dropL_zero, Nat.zero_add, Nat.le_refl]
  refine ⟨fun h1 => absurd (of_decide_eq_true h1) (by omega), fun _ => ⟨fun h1 => absurd (of_decide_eq_true h1) (by omega), fun _ => ⟨⟨0, by omega, rfl, rfl, rfl, rfl⟩, fun x hx => ⟨fun h1 => ?_, fun h1 => ?_⟩⟩⟩⟩
  · have h1 := of_decide_eq_true h1
    refine ⟨inI_of (by omega) (by omega), by omega, by omega, inI_of (by omega) (by omega), x + 1, by omega, by omega, rfl, rfl, rfl, ?_⟩
    have e2 : (((8 : Nat) : Int) * (x : Int)).toNat = 8 * x := by omega
    rw [e2]; rfl
  · have h1 := of_decide_eq_false h1
    have e : x = s.toNat := by omega
    subst e
    exact ⟨rfl, by rw [List.take_of_length_le (by rw [littleL_len]; exact Nat.le_refl _)]⟩
theorem conLittleRN4 : Con Try.prog 47 gLittleN := littleN_of conLittleR
set_option maxRecDepth 100000 in
theorem conReadL : Con Try.prog 30 gReadL := con_of_vcs fun args ps res h hp => by
  unfold gReadL at h
  split at h <;> cases h
  rename_i n l
  obtain ⟨rfl, hp2⟩ := all_cons.1 hp
  have hl := (all_cons.1 hp2).1
  refine ⟨ERL, 100, rfl, eok (gs := []) trivial, ?_⟩
  refine Eq.mpr (vcReadL l) ?_
  simp only [io, true_and, and_true]
  have hm : min l.length 8 ≤ 8 := Nat.min_le_right ..
  have hm2 : min l.length 8 ≤ l.length := Nat.min_le_left ..
  have hi : (min (l.length : Int) ((8 : Nat) : Int)) = ((min l.length 8 : Nat) : Int) := by omega
  simp only [hi]
  refine ⟨⟨0, by omega, rfl, rfl⟩, fun x hx => ⟨fun h1 => ?_, fun h1 => ?_⟩⟩
  · have h1 := of_decide_eq_true h1
    have hx' : x < l.length := by omega
    refine ⟨⟨by omega, by omega⟩, by omega, inI_of (by omega) (by omega), by omega, inI_of (by omega) (by omega), x + 1, by omega, by omega, ?_, rfl⟩
    rw [readL_step l x hx']
    have e1 : (x : Int).toNat = x := rfl
    have e2 : (((8 : Nat) : Int) * (x : Int)).toNat = 8 * x := by omega
    rw [e1, e2]
  · have h1 := of_decide_eq_false h1
    have e : x = min l.length 8 := by omega
    rw [e]
    exact readL_min l
set_option maxRecDepth 100000 in
theorem conReadLr : Con Try.prog 55 gReadL := con_of_vcs fun args ps res h hp => by
  unfold gReadL at h
  split at h <;> cases h
  rename_i n l
  obtain ⟨rfl, hp2⟩ := all_cons.1 hp
  have hl := (all_cons.1 hp2).1
  refine ⟨ERr, 100, rfl, eok (gs := []) trivial, ?_⟩
  refine Eq.mpr (vcReadLr l) ?_
  simp only [io, true_and, and_true]
  refine ⟨inI_of (by omega) (by omega), ⟨l.length, Nat.le_refl _, ?_, rfl⟩, fun x hx => ⟨fun h1 => ?_, fun h1 => ?_⟩⟩
  · rw [List.drop_length]; rfl
  · have h1 := of_decide_eq_true h1
    have e1 : ((x : Int) - 1).toNat = x - 1 := by omega
    rw [e1]
    refine ⟨⟨by omega, by omega⟩, by omega, inI_of (by omega) (by omega), x - 1, by omega, by omega, ?_, by omega⟩
    rw [readL_drop l (x - 1) (by omega), show x - 1 + 1 = x by omega]
  · have h1 := of_decide_eq_false h1
    have e : x = 0 := by omega
    rw [e]; rfl
set_option maxRecDepth 100000 in
theorem conJoin : Con Try.prog 35 gJoin := con_of_vcs fun args ps res h hp => by
  unfold gJoin at h
  split at h <;> cases h
  rename_i n ls
  obtain ⟨rfl, hp2⟩ := all_cons.1 hp
  have h2 := all_cons.1 hp2
  have hl := h2.1
  have hb := (all_cons.1 h2.2).1
  refine ⟨EJo, 100, rfl, eok (gs := []) trivial, ?_⟩
  refine Eq.mpr (vcJoin ls) ?_
  simp only [io, true_and, and_true, dropL_zero, List.take_length, Nat.zero_add, Nat.le_refl]
  refine ⟨⟨0, by omega, rfl, rfl, rfl, rfl⟩, fun x hx => ⟨fun h1 => ?_, fun h1 => ?_⟩⟩
  · have h1 := of_decide_eq_true h1
    have hx' : x < ls.length := by omega
    have e1 : (x : Int).toNat = x := rfl
    rw [e1]
    have e2 : (ls.take (x + 1)).flatten = (ls.take x).flatten ++ ls.getD x [] := by
      rw [List.take_add_one, List.getElem?_eq_getElem hx', Option.toList_some, List.flatten_append, List.getD_eq_getElem?_getD, List.getElem?_eq_getElem hx']
      simp
    have e3 : (ls.take x).flatten.length + (ls.getD x []).length ≤ ls.flatten.length := by
      rw [← List.length_append, ← e2]
      have : ls.flatten = (ls.take (x + 1)).flatten ++ (ls.drop (x + 1)).flatten := by rw [← List.flatten_append, List.take_append_drop]
      rw [this, List.length_append]; omega
    refine ⟨⟨by omega, by omega⟩, by omega, by omega, inI_of (by omega) (by omega), x + 1, by omega, by omega, ?_, rfl, ?_, ?_⟩
    · rw [e2, List.length_append]
    · rw [e2, List.length_append]
    · rw [e2]
  · have h1 := of_decide_eq_false h1
    have e : x = ls.length := by omega
    rw [e, List.take_length]
    exact ⟨rfl, rfl⟩
set_option maxRecDepth 100000 in
theorem conJoinR : Con Try.prog 48 gJoin := con_of_vcs fun args ps res h hp => by
  unfold gJoin at h
  split at h <;> cases h
  rename_i n ls
  obtain ⟨rfl, hp2⟩ := all_cons.1 hp
  have h2 := all_cons.1 hp2
  have hl := h2.1
  have hb := (all_cons.1 h2.2).1
  refine ⟨EJo, 100, rfl, eok (gs := []) trivial, ?_⟩
  refine Eq.mpr (vcJoinR ls) ?_
  simp only [io, true_and, and_true, dropL_zero, List.take_length, Nat.zero_add, Nat.le_refl]
  refine ⟨⟨0, by omega, rfl, rfl, rfl, rfl⟩, fun x hx => ⟨fun h1 => ?_, fun h1 => ?_⟩⟩
  · have h1 := of_decide_eq_true h1
    have hx' : x < ls.length := by omega
    have e1 : (x : Int).toNat = x := rfl
    rw [e1]
    have e2 : (ls.take (x + 1)).flatten = (ls.take x).flatten ++ ls.getD x [] := by
      rw [List.take_add_one, List.getElem?_eq_getElem hx', Option.toList_some, List.flatten_append, List.getD_eq_getElem?_getD, List.getElem?_eq_getElem hx']
      simp
    have e3 : (ls.take x).flatten.length + (ls.getD x []).length ≤ ls.flatten.length := by
      rw [← List.length_append, ← e2]
      have : ls.flatten = (ls.take (x + 1)).flatten ++ (ls.drop (x + 1)).flatten := by rw [← List.flatten_append, List.take_append_drop]
      rw [this, List.length_append]; omega
    refine ⟨⟨by omega, by omega⟩, by omega, by omega, inI_of (by omega) (by omega), x + 1, by omega, by omega, ?_, rfl, ?_, ?_⟩
    · rw [e2, List.length_append]
    · rw [e2, List.length_append]
    · rw [e2]
  · have h1 := of_decide_eq_false h1
    have e : x = ls.length := by omega
    rw [e, List.take_length]
    exact ⟨rfl, rfl⟩
end Go.Proofs.Ytimjfjlaoekfkaa
