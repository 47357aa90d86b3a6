/- Steps towards SessionOpensSaid. -/
import Derived.Test.YtimjfjlaoekfkaaJMsgSpec
import Derived.Test.YtimjfjlaoekfkaaBase
import Derived.Test.YtimjfjlaoekfkaaJChaVc
/- A step towards SessionOpensSaid: no conditions. -/
namespace Go.Proofs.Ytimjfjlaoekfkaa
open Go Go.Eng Go.Cod Go.Msg
noncomputable def MEk : Env := mkE Try.prog [] [] 2
noncomputable def MEd : Env := mkE Try.prog [(30, gReadL), (28, gKind)] [] 10 true
noncomputable def MEn : Env := mkE Try.prog [(55, gReadL)] [] 10
noncomputable def MEr : Env := mkE Try.prog [(55, gReadL), (54, gN32), (53, gKind)] [] 10 true
set_option maxRecDepth 100000 in
theorem vcKind (b : List UInt8) : (vcFn MEk 100 28 [.s (.xs 1 (.s b.length) (.u8 b))] (.s (.i64 (kindL b)))) =
  ((decide ((↑b.length : Int) < Int.ofNat (4 : Nat)) = true → Int.ofNat (0 : Nat) = kindL b ∧ True) ∧ (decide ((↑b.length : Int) < Int.ofNat (4 : Nat)) = false → (1 : Nat) < b.length ∧ (1 : Nat) < b.length ∧ ((b.getD (1 : Nat) (0 : UInt8) != UInt8.ofNat (nat_lit 0)) = true → Int.ofNat (0 : Nat) = kindL b ∧ True) ∧ ((b.getD (1 : Nat) (0 : UInt8) != UInt8.ofNat (nat_lit 0)) = false → (2 : Nat) < b.length ∧ (2 : Nat) < b.length ∧ ((b.getD (2 : Nat) (0 : UInt8) != UInt8.ofNat (nat_lit 0)) = true → Int.ofNat (0 : Nat) = kindL b ∧ True) ∧ ((b.getD (2 : Nat) (0 : UInt8) != UInt8.ofNat (nat_lit 0)) = false → (3 : Nat) < b.length ∧ (3 : Nat) < b.length ∧ ((b.getD (3 : Nat) (0 : UInt8) != UInt8.ofNat (nat_lit 0)) = true → Int.ofNat (0 : Nat) = kindL b ∧ True) ∧ ((b.getD (3 : Nat) (0 : UInt8) != UInt8.ofNat (nat_lit 0)) = false → (0 : Nat) < b.length ∧ (0 : Nat) < b.length ∧ (decide ((↑(b.getD (0 : Nat) (0 : UInt8)).toNat : Int) = Int.ofNat (1 : Nat)) = true → (decide ((↑b.length : Int) = Int.ofNat (148 : Nat)) = true → (↑(b.getD (0 : Nat) (0 : UInt8)).toNat : Int) = kindL b ∧ True) ∧ (decide ((↑b.length : Int) = Int.ofNat (148 : Nat)) = false → (decide ((↑(b.getD (0 : Nat) (0 : UInt8)).toNat : Int) = Int.ofNat (2 : Nat)) = true → (decide ((↑b.length : Int) = Int.ofNat (92 : Nat)) = true → (↑(b.getD (0 : Nat) (0 : UInt8)).toNat : Int) = kindL b ∧ True) ∧ (decide ((↑b.length : Int) = Int.ofNat (92 : Nat)) = false → (decide ((↑(b.getD (0 : Nat) (0 : UInt8)).toNat : Int) = Int.ofNat (3 : Nat)) = true → (decide ((↑b.length : Int) = Int.ofNat (64 : Nat)) = true → (↑(b.getD (0 : Nat) (0 : UInt8)).toNat : Int) = kindL b ∧ True) ∧ (decide ((↑b.length : Int) = Int.ofNat (64 : Nat)) = false → (decide ((↑(b.getD (0 : Nat) (0 : UInt8)).toNat : Int) = Int.ofNat (4 : Nat)) = true → (decide (Int.ofNat (32 : Nat) ≤ (↑b.length : Int)) = true → (decide ((↑b.length : Int) ≤ Int.ofNat (2100 : Nat)) = true → (↑(b.getD (0 : Nat) (0 : UInt8)).toNat : Int) = kindL b ∧ True) ∧ (decide ((↑b.length : Int) ≤ Int.ofNat (2100 : Nat)) = false → Int.ofNat (0 : Nat) = kindL b ∧ True)) ∧ (decide (Int.ofNat (32 : Nat) ≤ (↑b.length : Int)) = false → Int.ofNat (0 : Nat) = kindL b ∧ True)) ∧ (decide ((↑(b.getD (0 : Nat) (0 : UInt8)).toNat : Int) = Int.ofNat (4 : Nat)) = false → Int.ofNat (0 : Nat) = kindL b ∧ True))) ∧ (decide ((↑(b.getD (0 : Nat) (0 : UInt8)).toNat : Int) = Int.ofNat (3 : Nat)) = false → (decide ((↑(b.getD (0 : Nat) (0 : UInt8)).toNat : Int) = Int.ofNat (4 : Nat)) = true → (decide (Int.ofNat (32 : Nat) ≤ (↑b.length : Int)) = true → (decide ((↑b.length : Int) ≤ Int.ofNat (2100 : Nat)) = true → (↑(b.getD (0 : Nat) (0 : UInt8)).toNat : Int) = kindL b ∧ True) ∧ (decide ((↑b.length : Int) ≤ Int.ofNat (2100 : Nat)) = false → Int.ofNat (0 : Nat) = kindL b ∧ True)) ∧ (decide (Int.ofNat (32 : Nat) ≤ (↑b.length : Int)) = false → Int.ofNat (0 : Nat) = kindL b ∧ True)) ∧ (decide ((↑(b.getD (0 : Nat) (0 : UInt8)).toNat : Int) = Int.ofNat (4 : Nat)) = false → Int.ofNat (0 : Nat) = kindL b ∧ True)))) ∧ (decide ((↑(b.getD (0 : Nat) (0 : UInt8)).toNat : Int) = Int.ofNat (2 : Nat)) = false → (decide ((↑(b.getD (0 : Nat) (0 : UInt8)).toNat : Int) = Int.ofNat (3 : Nat)) = true → (decide ((↑b.length : Int) = Int.ofNat (64 : Nat)) = true → (↑(b.getD (0 : Nat) (0 : UInt8)).toNat : Int) = kindL b ∧ True) ∧ (decide ((↑b.length : Int) = Int.ofNat (64 : Nat)) = false → (decide ((↑(b.getD (0 : Nat) (0 : UInt8)).toNat : Int) = Int.ofNat (4 : Nat)) = true → (decide (Int.ofNat (32 : Nat) ≤ (↑b.length : Int)) = true → (decide ((↑b.length : Int) ≤ Int.ofNat (2100 : Nat)) = true → (↑(b.getD (0 : Nat) (0 : UInt8)).toNat : Int) = kindL b ∧ True) ∧ (decide ((↑b.length : Int) ≤ Int.ofNat (2100 : Nat)) = false → Int.ofNat (0 : Nat) = kindL b ∧ True)) ∧ (decide (Int.ofNat (32 : Nat) ≤ (↑b.length : Int)) = false → Int.ofNat (0 : Nat) = kindL b ∧ True)) ∧ (decide ((↑(b.getD (0 : Nat) (0 : UInt8)).toNat : Int) = Int.ofNat (4 : Nat)) = false → Int.ofNat (0 : Nat) = kindL b ∧ True))) ∧ (decide ((↑(b.getD (0 : Nat) (0 : UInt8)).toNat : Int) = Int.ofNat (3 : Nat)) = false → (decide ((↑(b.getD (0 : Nat) (0 : UInt8)).toNat : Int) = Int.ofNat (4 : Nat)) = true → (decide (Int.ofNat (32 : Nat) ≤ (↑b.length : Int)) = true → (decide ((↑b.length : Int) ≤ Int.ofNat (2100 : Nat)) = true → (↑(b.getD (0 : Nat) (0 : UInt8)).toNat : Int) = kindL b ∧ True) ∧ (decide ((↑b.length : Int) ≤ Int.ofNat (2100 : Nat)) = false → Int.ofNat (0 : Nat) = kindL b ∧ True)) ∧ (decide (Int.ofNat (32 : Nat) ≤ (↑b.length : Int)) = false → Int.ofNat (0 : Nat) = kindL b ∧ True)) ∧ (decide ((↑(b.getD (0 : Nat) (0 : UInt8)).toNat : Int) = Int.ofNat (4 : Nat)) = false → Int.ofNat (0 : Nat) = kindL b ∧ True))))) ∧ (decide ((↑(b.getD (0 : Nat) (0 : UInt8)).toNat : Int) = Int.ofNat (1 : Nat)) = false → (decide ((↑(b.getD (0 : Nat) (0 : UInt8)).toNat : Int) = Int.ofNat (2 : Nat)) = true → (decide ((↑b.length : Int) = Int.ofNat (92 : Nat)) = true → (↑(b.getD (0 : Nat) (0 : UInt8)).toNat : Int) = kindL b ∧ True) ∧ (decide ((↑b.length : Int) = Int.ofNat (92 : Nat)) = false → (decide ((↑(b.getD (0 : Nat) (0 : UInt8)).toNat : Int) = Int.ofNat (3 : Nat)) = true → (decide ((↑b.length : Int) = Int.ofNat (64 : Nat)) = true → (↑(b.getD (0 : Nat) (0 : UInt8)).toNat : Int) = kindL b ∧ True) ∧ (decide ((↑b.length : Int) = Int.ofNat (64 : Nat)) = false → (decide ((↑(b.getD (0 : Nat) (0 : UInt8)).toNat : Int) = Int.ofNat (4 : Nat)) = true → (decide (Int.ofNat (32 : Nat) ≤ (↑b.length : Int)) = true → (decide ((↑b.length : Int) ≤ Int.ofNat (2100 : Nat)) = true → (↑(b.getD (0 : Nat) (0 : UInt8)).toNat : Int) = kindL b ∧ True) ∧ (decide ((↑b.length : Int) ≤ Int.ofNat (2100 : Nat)) = false → Int.ofNat (0 : Nat) = kindL b ∧ True)) ∧ (decide (Int.ofNat (32 : Nat) ≤ (↑b.length : Int)) = false → Int.ofNat (0 : Nat) = kindL b ∧ True)) ∧ (decide ((↑(b.getD (0 : Nat) (0 : UInt8)).toNat : Int) = Int.ofNat (4 : Nat)) = false → Int.ofNat (0 : Nat) = kindL b ∧ True))) ∧ (decide ((↑(b.getD (0 : Nat) (0 : UInt8)).toNat : Int) = Int.ofNat (3 : Nat)) = false → (decide ((↑(b.getD (0 : Nat) (0 : UInt8)).toNat : Int) = Int.ofNat (4 : Nat)) = true → (decide (Int.ofNat (32 : Nat) ≤ (↑b.length : Int)) = true → (decide ((↑b.length : Int) ≤ Int.ofNat (2100 : Nat)) = true → (↑(b.getD (0 : Nat) (0 : UInt8)).toNat : Int) = kindL b ∧ True) ∧ (decide ((↑b.length : Int) ≤ Int.ofNat (2100 : Nat)) = false → Int.ofNat (0 : Nat) = kindL b ∧ True)) ∧ (decide (Int.ofNat (32 : Nat) ≤ (↑b.length : Int)) = false → Int.ofNat (0 : Nat) = kindL b ∧ True)) ∧ (decide ((↑(b.getD (0 : Nat) (0 : UInt8)).toNat : Int) = Int.ofNat (4 : Nat)) = false → Int.ofNat (0 : Nat) = kindL b ∧ True)))) ∧ (decide ((↑(b.getD (0 : Nat) (0 : UInt8)).toNat : Int) = Int.ofNat (2 : Nat)) = false → (decide ((↑(b.getD (0 : Nat) (0 : UInt8)).toNat : Int) = Int.ofNat (3 : Nat)) = true → (decide ((↑b.length : Int) = Int.ofNat (64 : Nat)) = true → (↑(b.getD (0 : Nat) (0 : UInt8)).toNat : Int) = kindL b ∧ True) ∧ (decide ((↑b.length : Int) = Int.ofNat (64 : Nat)) = false → (decide ((↑(b.getD (0 : Nat) (0 : UInt8)).toNat : Int) = Int.ofNat (4 : Nat)) = true → (decide (Int.ofNat (32 : Nat) ≤ (↑b.length : Int)) = true → (decide ((↑b.length : Int) ≤ Int.ofNat (2100 : Nat)) = true → (↑(b.getD (0 : Nat) (0 : UInt8)).toNat : Int) = kindL b ∧ True) ∧ (decide ((↑b.length : Int) ≤ Int.ofNat (2100 : Nat)) = false → Int.ofNat (0 : Nat) = kindL b ∧ True)) ∧ (decide (Int.ofNat (32 : Nat) ≤ (↑b.length : Int)) = false → Int.ofNat (0 : Nat) = kindL b ∧ True)) ∧ (decide ((↑(b.getD (0 : Nat) (0 : UInt8)).toNat : Int) = Int.ofNat (4 : Nat)) = false → Int.ofNat (0 : Nat) = kindL b ∧ True))) ∧ (decide ((↑(b.getD (0 : Nat) (0 : UInt8)).toNat : Int) = Int.ofNat (3 : Nat)) = false → (decide ((↑(b.getD (0 : Nat) (0 : UInt8)).toNat : Int) = Int.ofNat (4 : Nat)) = true → (decide (Int.ofNat (32 : Nat) ≤ (↑b.length : Int)) = true → (decide ((↑b.length : Int) ≤ Int.ofNat (2100 : Nat)) = true → (↑(b.getD (0 : Nat) (0 : UInt8)).toNat : Int) = kindL b ∧ True) ∧ (decide ((↑b.length : Int) ≤ Int.ofNat (2100 : Nat)) = false → Int.ofNat (0 : Nat) = kindL b ∧ True)) ∧ (decide (Int.ofNat (32 : Nat) ≤ (↑b.length : Int)) = false → Int.ofNat (0 : Nat) = kindL b ∧ True)) ∧ (decide ((↑(b.getD (0 : Nat) (0 : UInt8)).toNat : Int) = Int.ofNat (4 : Nat)) = false → Int.ofNat (0 : Nat) = kindL b ∧ True))))))))) := by kernel_rfl
set_option maxRecDepth 100000 in
theorem vcDTran (b : List UInt8) : (vcFn MEd 100 12 [.s (.xs 1 (.s b.length) (.u8 b))] (dTran b)) =
  (b.length = b.length ∧ b.length ≤ (4294967296 : Nat) ∧ ∀ (y : Int), y = kindL b → (decide (y ≠ Int.ofNat (4 : Nat)) = true → ∀ (y : UInt32), y = (0 : UInt32) → ∀ (y_1 : UInt64), y_1 = (0 : UInt64) → y = fld32 (4 : Int) b (4 : Nat) ∧ y_1 = fld64 (4 : Int) b (8 : Nat) ∧ (fldR (4 : Int) b (16 : Nat)).length = (0 : Nat) ∧ (fldR (4 : Int) b (16 : Nat)).length = (0 : Nat) ∧ Int.ofNat (4 : Nat) = decE (4 : Int) b ∧ True) ∧ (decide (y ≠ Int.ofNat (4 : Nat)) = false → (4 : Nat) ≤ b.length ∧ ∀ (y : UInt32), y = UInt32.ofNat (nat_lit 0) → (4 : Nat) ≤ b.length - (4 : Nat) ∧ (4 : Nat) ≤ b.length - (4 : Nat) ∧ (List.take (4 : Nat) (dropL b (4 : Nat))).length = (List.take (4 : Nat) (dropL b (4 : Nat))).length ∧ (List.take (4 : Nat) (dropL b (4 : Nat))).length < (4611686018427387904 : Nat) ∧ ∀ (y : UInt64), y = readL (List.take (4 : Nat) (dropL b (4 : Nat))) → ∀ (y_1 : UInt32), y_1 = y.toUInt32 → ∀ (y : UInt32), y = y_1 → ∀ (y_2 : UInt64), y_2 = (0 : UInt64) → (8 : Nat) ≤ b.length - (4 : Nat) - (4 : Nat) ∧ (8 : Nat) ≤ b.length - (4 : Nat) - (4 : Nat) ∧ (List.take (8 : Nat) (dropL (dropL b (4 : Nat)) (4 : Nat))).length = (List.take (8 : Nat) (dropL (dropL b (4 : Nat)) (4 : Nat))).length ∧ (List.take (8 : Nat) (dropL (dropL b (4 : Nat)) (4 : Nat))).length < (4611686018427387904 : Nat) ∧ ∀ (y_3 : UInt64), y_3 = readL (List.take (8 : Nat) (dropL (dropL b (4 : Nat)) (4 : Nat))) → ∀ (y_4 : UInt32), y_4 = y → ∀ (y : UInt64), y = y_3 → b.length - (4 : Nat) - (4 : Nat) - (8 : Nat) ≤ (4294967296 : Nat) ∧ ∀ (y_5 : List UInt8), y_5 = dropL (dropL (dropL b (4 : Nat)) (4 : Nat)) (8 : Nat) → ∀ (y_6 : UInt32), y_6 = y_4 → ∀ (y_7 : UInt64), y_7 = y → ∀ (y : UInt32), y = y_6 → ∀ (y_8 : UInt64), y_8 = y_7 → y = fld32 (4 : Int) b (4 : Nat) ∧ y_8 = fld64 (4 : Int) b (8 : Nat) ∧ (0 : Nat) + (b.length - (4 : Nat) - (4 : Nat) - (8 : Nat)) ≤ b.length - (4 : Nat) - (4 : Nat) - (8 : Nat) ∧ b.length - (4 : Nat) - (4 : Nat) - (8 : Nat) = (fldR (4 : Int) b (16 : Nat)).length ∧ List.take (b.length - (4 : Nat) - (4 : Nat) - (8 : Nat)) (dropL (dropL y_5 (0 : Nat)) (0 : Nat)) = fldR (4 : Int) b (16 : Nat) ∧ Int.ofNat (0 : Nat) = decE (4 : Int) b ∧ True)) := by kernel_rfl
set_option maxRecDepth 100000 in
theorem vcKindR (b : List UInt8) : (vcFn MEk 100 53 [.s (.xs 1 (.s b.length) (.u8 b))] (.s (.i64 (kindL b)))) =
  ((decide ((↑b.length : Int) < Int.ofNat (4 : Nat)) = true → Int.ofNat (0 : Nat) = kindL b ∧ True) ∧ (decide ((↑b.length : Int) < Int.ofNat (4 : Nat)) = false → (1 : Nat) < b.length ∧ (1 : Nat) < b.length ∧ ((b.getD (1 : Nat) (0 : UInt8) != UInt8.ofNat (nat_lit 0)) = true → Int.ofNat (0 : Nat) = kindL b ∧ True) ∧ ((b.getD (1 : Nat) (0 : UInt8) != UInt8.ofNat (nat_lit 0)) = false → (2 : Nat) < b.length ∧ (2 : Nat) < b.length ∧ ((b.getD (2 : Nat) (0 : UInt8) != UInt8.ofNat (nat_lit 0)) = true → Int.ofNat (0 : Nat) = kindL b ∧ True) ∧ ((b.getD (2 : Nat) (0 : UInt8) != UInt8.ofNat (nat_lit 0)) = false → (3 : Nat) < b.length ∧ (3 : Nat) < b.length ∧ ((b.getD (3 : Nat) (0 : UInt8) != UInt8.ofNat (nat_lit 0)) = true → Int.ofNat (0 : Nat) = kindL b ∧ True) ∧ ((b.getD (3 : Nat) (0 : UInt8) != UInt8.ofNat (nat_lit 0)) = false → (0 : Nat) < b.length ∧ (0 : Nat) < b.length ∧ ((b.getD (0 : Nat) (0 : UInt8) == UInt8.ofNat (nat_lit 1)) = true → (decide ((↑b.length : Int) = Int.ofNat (148 : Nat)) = true → (0 : Nat) < b.length ∧ (0 : Nat) < b.length ∧ (↑(b.getD (0 : Nat) (0 : UInt8)).toNat : Int) = kindL b ∧ True) ∧ (decide ((↑b.length : Int) = Int.ofNat (148 : Nat)) = false → (0 : Nat) < b.length ∧ (0 : Nat) < b.length ∧ ((b.getD (0 : Nat) (0 : UInt8) == UInt8.ofNat (nat_lit 2)) = true → (decide ((↑b.length : Int) = Int.ofNat (92 : Nat)) = true → (0 : Nat) < b.length ∧ (0 : Nat) < b.length ∧ (↑(b.getD (0 : Nat) (0 : UInt8)).toNat : Int) = kindL b ∧ True) ∧ (decide ((↑b.length : Int) = Int.ofNat (92 : Nat)) = false → (0 : Nat) < b.length ∧ (0 : Nat) < b.length ∧ ((b.getD (0 : Nat) (0 : UInt8) == UInt8.ofNat (nat_lit 3)) = true → (decide ((↑b.length : Int) = Int.ofNat (64 : Nat)) = true → (0 : Nat) < b.length ∧ (0 : Nat) < b.length ∧ (↑(b.getD (0 : Nat) (0 : UInt8)).toNat : Int) = kindL b ∧ True) ∧ (decide ((↑b.length : Int) = Int.ofNat (64 : Nat)) = false → (0 : Nat) < b.length ∧ (0 : Nat) < b.length ∧ ((b.getD (0 : Nat) (0 : UInt8) == UInt8.ofNat (nat_lit 4)) = true → (decide (Int.ofNat (32 : Nat) ≤ (↑b.length : Int)) = true → (decide ((↑b.length : Int) ≤ Int.ofNat (2100 : Nat)) = true → (0 : Nat) < b.length ∧ (0 : Nat) < b.length ∧ (↑(b.getD (0 : Nat) (0 : UInt8)).toNat : Int) = kindL b ∧ True) ∧ (decide ((↑b.length : Int) ≤ Int.ofNat (2100 : Nat)) = false → Int.ofNat (0 : Nat) = kindL b ∧ True)) ∧ (decide (Int.ofNat (32 : Nat) ≤ (↑b.length : Int)) = false → Int.ofNat (0 : Nat) = kindL b ∧ True)) ∧ ((b.getD (0 : Nat) (0 : UInt8) == UInt8.ofNat (nat_lit 4)) = false → Int.ofNat (0 : Nat) = kindL b ∧ True))) ∧ ((b.getD (0 : Nat) (0 : UInt8) == UInt8.ofNat (nat_lit 3)) = false → (0 : Nat) < b.length ∧ (0 : Nat) < b.length ∧ ((b.getD (0 : Nat) (0 : UInt8) == UInt8.ofNat (nat_lit 4)) = true → (decide (Int.ofNat (32 : Nat) ≤ (↑b.length : Int)) = true → (decide ((↑b.length : Int) ≤ Int.ofNat (2100 : Nat)) = true → (0 : Nat) < b.length ∧ (0 : Nat) < b.length ∧ (↑(b.getD (0 : Nat) (0 : UInt8)).toNat : Int) = kindL b ∧ True) ∧ (decide ((↑b.length : Int) ≤ Int.ofNat (2100 : Nat)) = false → Int.ofNat (0 : Nat) = kindL b ∧ True)) ∧ (decide (Int.ofNat (32 : Nat) ≤ (↑b.length : Int)) = false → Int.ofNat (0 : Nat) = kindL b ∧ True)) ∧ ((b.getD (0 : Nat) (0 : UInt8) == UInt8.ofNat (nat_lit 4)) = false → Int.ofNat (0 : Nat) = kindL b ∧ True)))) ∧ ((b.getD (0 : Nat) (0 : UInt8) == UInt8.ofNat (nat_lit 2)) = false → (0 : Nat) < b.length ∧ (0 : Nat) < b.length ∧ ((b.getD (0 : Nat) (0 : UInt8) == UInt8.ofNat (nat_lit 3)) = true → (decide ((↑b.length : Int) = Int.ofNat (64 : Nat)) = true → (0 : Nat) < b.length ∧ (0 : Nat) < b.length ∧ (↑(b.getD (0 : Nat) (0 : UInt8)).toNat : Int) = kindL b ∧ True) ∧ (decide ((↑b.length : Int) = Int.ofNat (64 : Nat)) = false → (0 : Nat) < b.length ∧ (0 : Nat) < b.length ∧ ((b.getD (0 : Nat) (0 : UInt8) == UInt8.ofNat (nat_lit 4)) = true → (decide (Int.ofNat (32 : Nat) ≤ (↑b.length : Int)) = true → (decide ((↑b.length : Int) ≤ Int.ofNat (2100 : Nat)) = true → (0 : Nat) < b.length ∧ (0 : Nat) < b.length ∧ (↑(b.getD (0 : Nat) (0 : UInt8)).toNat : Int) = kindL b ∧ True) ∧ (decide ((↑b.length : Int) ≤ Int.ofNat (2100 : Nat)) = false → Int.ofNat (0 : Nat) = kindL b ∧ True)) ∧ (decide (Int.ofNat (32 : Nat) ≤ (↑b.length : Int)) = false → Int.ofNat (0 : Nat) = kindL b ∧ True)) ∧ ((b.getD (0 : Nat) (0 : UInt8) == UInt8.ofNat (nat_lit 4)) = false → Int.ofNat (0 : Nat) = kindL b ∧ True))) ∧ ((b.getD (0 : Nat) (0 : UInt8) == UInt8.ofNat (nat_lit 3)) = false → (0 : Nat) < b.length ∧ (0 : Nat) < b.length ∧ ((b.getD (0 : Nat) (0 : UInt8) == UInt8.ofNat (nat_lit 4)) = true → (decide (Int.ofNat (32 : Nat) ≤ (↑b.length : Int)) = true → (decide ((↑b.length : Int) ≤ Int.ofNat (2100 : Nat)) = true → (0 : Nat) < b.length ∧ (0 : Nat) < b.length ∧ (↑(b.getD (0 : Nat) (0 : UInt8)).toNat : Int) = kindL b ∧ True) ∧ (decide ((↑b.length : Int) ≤ Int.ofNat (2100 : Nat)) = false → Int.ofNat (0 : Nat) = kindL b ∧ True)) ∧ (decide (Int.ofNat (32 : Nat) ≤ (↑b.length : Int)) = false → Int.ofNat (0 : Nat) = kindL b ∧ True)) ∧ ((b.getD (0 : Nat) (0 : UInt8) == UInt8.ofNat (nat_lit 4)) = false → Int.ofNat (0 : Nat) = kindL b ∧ True))))) ∧ ((b.getD (0 : Nat) (0 : UInt8) == UInt8.ofNat (nat_lit 1)) = false → (0 : Nat) < b.length ∧ (0 : Nat) < b.length ∧ ((b.getD (0 : Nat) (0 : UInt8) == UInt8.ofNat (nat_lit 2)) = true → (decide ((↑b.length : Int) = Int.ofNat (92 : Nat)) = true → (0 : Nat) < b.length ∧ (0 : Nat) < b.length ∧ (↑(b.getD (0 : Nat) (0 : UInt8)).toNat : Int) = kindL b ∧ True) ∧ (decide ((↑b.length : Int) = Int.ofNat (92 : Nat)) = false → (0 : Nat) < b.length ∧ (0 : Nat) < b.length ∧ ((b.getD (0 : Nat) (0 : UInt8) == UInt8.ofNat (nat_lit 3)) = true → (decide ((↑b.length : Int) = Int.ofNat (64 : Nat)) = true → (0 : Nat) < b.length ∧ (0 : Nat) < b.length ∧ (↑(b.getD (0 : Nat) (0 : UInt8)).toNat : Int) = kindL b ∧ True) ∧ (decide ((↑b.length : Int) = Int.ofNat (64 : Nat)) = false → (0 : Nat) < b.length ∧ (0 : Nat) < b.length ∧ ((b.getD (0 : Nat) (0 : UInt8) == UInt8.ofNat (nat_lit 4)) = true → (decide (Int.ofNat (32 : Nat) ≤ (↑b.length : Int)) = true → (decide ((↑b.length : Int) ≤ Int.ofNat (2100 : Nat)) = true → (0 : Nat) < b.length ∧ (0 : Nat) < b.length ∧ (↑(b.getD (0 : Nat) (0 : UInt8)).toNat : Int) = kindL b ∧ True) ∧ (decide ((↑b.length : Int) ≤ Int.ofNat (2100 : Nat)) = false → Int.ofNat (0 : Nat) = kindL b ∧ True)) ∧ (decide (Int.ofNat (32 : Nat) ≤ (↑b.length : Int)) = false → Int.ofNat (0 : Nat) = kindL b ∧ True)) ∧ ((b.getD (0 : Nat) (0 : UInt8) == UInt8.ofNat (nat_lit 4)) = false → Int.ofNat (0 : Nat) = kindL b ∧ True))) ∧ ((b.getD (0 : Nat) (0 : UInt8) == UInt8.ofNat (nat_lit 3)) = false → (0 : Nat) < b.length ∧ (0 : Nat) < b.length ∧ ((b.getD (0 : Nat) (0 : UInt8) == UInt8.ofNat (nat_lit 4)) = true → (decide (Int.ofNat (32 : Nat) ≤ (↑b.length : Int)) = true → (decide ((↑b.length : Int) ≤ Int.ofNat (2100 : Nat)) = true → (0 : Nat) < b.length ∧ (0 : Nat) < b.length ∧ (↑(b.getD (0 : Nat) (0 : UInt8)).toNat : Int) = kindL b ∧ True) ∧ (decide ((↑b.length : Int) ≤ Int.ofNat (2100 : Nat)) = false → Int.ofNat (0 : Nat) = kindL b ∧ True)) ∧ (decide (Int.ofNat (32 : Nat) ≤ (↑b.length : Int)) = false → Int.ofNat (0 : Nat) = kindL b ∧ True)) ∧ ((b.getD (0 : Nat) (0 : UInt8) == UInt8.ofNat (nat_lit 4)) = false → Int.ofNat (0 : Nat) = kindL b ∧ True)))) ∧ ((b.getD (0 : Nat) (0 : UInt8) == UInt8.ofNat (nat_lit 2)) = false → (0 : Nat) < b.length ∧ (0 : Nat) < b.length ∧ ((b.getD (0 : Nat) (0 : UInt8) == UInt8.ofNat (nat_lit 3)) = true → (decide ((↑b.length : Int) = Int.ofNat (64 : Nat)) = true → (0 : Nat) < b.length ∧ (0 : Nat) < b.length ∧ (↑(b.getD (0 : Nat) (0 : UInt8)).toNat : Int) = kindL b ∧ True) ∧ (decide ((↑b.length : Int) = Int.ofNat (64 : Nat)) = false → (0 : Nat) < b.length ∧ (0 : Nat) < b.length ∧ ((b.getD (0 : Nat) (0 : UInt8) == UInt8.ofNat (nat_lit 4)) = true → (decide (Int.ofNat (32 : Nat) ≤ (↑b.length : Int)) = true → (decide ((↑b.length : Int) ≤ Int.ofNat (2100 : Nat)) = true → (0 : Nat) < b.length ∧ (0 : Nat) < b.length ∧ (↑(b.getD (0 : Nat) (0 : UInt8)).toNat : Int) = kindL b ∧ True) ∧ (decide ((↑b.length : Int) ≤ Int.ofNat (2100 : Nat)) = false → Int.ofNat (0 : Nat) = kindL b ∧ True)) ∧ (decide (Int.ofNat (32 : Nat) ≤ (↑b.length : Int)) = false → Int.ofNat (0 : Nat) = kindL b ∧ True)) ∧ ((b.getD (0 : Nat) (0 : UInt8) == UInt8.ofNat (nat_lit 4)) = false → Int.ofNat (0 : Nat) = kindL b ∧ True))) ∧ ((b.getD (0 : Nat) (0 : UInt8) == UInt8.ofNat (nat_lit 3)) = false → (0 : Nat) < b.length ∧ (0 : Nat) < b.length ∧ ((b.getD (0 : Nat) (0 : UInt8) == UInt8.ofNat (nat_lit 4)) = true → (decide (Int.ofNat (32 : Nat) ≤ (↑b.length : Int)) = true → (decide ((↑b.length : Int) ≤ Int.ofNat (2100 : Nat)) = true → (0 : Nat) < b.length ∧ (0 : Nat) < b.length ∧ (↑(b.getD (0 : Nat) (0 : UInt8)).toNat : Int) = kindL b ∧ True) ∧ (decide ((↑b.length : Int) ≤ Int.ofNat (2100 : Nat)) = false → Int.ofNat (0 : Nat) = kindL b ∧ True)) ∧ (decide (Int.ofNat (32 : Nat) ≤ (↑b.length : Int)) = false → Int.ofNat (0 : Nat) = kindL b ∧ True)) ∧ ((b.getD (0 : Nat) (0 : UInt8) == UInt8.ofNat (nat_lit 4)) = false → Int.ofNat (0 : Nat) = kindL b ∧ True))))))))) := by kernel_rfl
set_option maxRecDepth 100000 in
theorem vcN32 (b : List UInt8) : (vcFn MEn 100 54 [.s (.xs 1 (.s b.length) (.u8 b))] (.s (.u32 (readL (b.take 4)).toUInt32))) =
  ((4 : Nat) ≤ b.length ∧ (List.take (4 : Nat) b).length = (List.take (4 : Nat) b).length ∧ (List.take (4 : Nat) b).length < (4611686018427387904 : Nat) ∧ (readL (List.take (4 : Nat) b)).toUInt32 = (readL (List.take (4 : Nat) b)).toUInt32 ∧ True) := by kernel_rfl
set_option maxRecDepth 100000 in
theorem vcDTranR (b : List UInt8) : (vcFn MEr 100 40 [.s (.xs 1 (.s b.length) (.u8 b))] (dTran b)) =
  (b.length = b.length ∧ b.length ≤ (4294967296 : Nat) ∧ ∀ (y : Int), y = kindL b → (decide (y ≠ Int.ofNat (4 : Nat)) = true → ∀ (y : UInt32), y = (0 : UInt32) → ∀ (y_1 : UInt64), y_1 = (0 : UInt64) → y = fld32 (4 : Int) b (4 : Nat) ∧ y_1 = fld64 (4 : Int) b (8 : Nat) ∧ (fldR (4 : Int) b (16 : Nat)).length = (0 : Nat) ∧ (fldR (4 : Int) b (16 : Nat)).length = (0 : Nat) ∧ Int.ofNat (4 : Nat) = decE (4 : Int) b ∧ True) ∧ (decide (y ≠ Int.ofNat (4 : Nat)) = false → (4 : Nat) ≤ b.length ∧ (dropL b (4 : Nat)).length = (dropL b (4 : Nat)).length ∧ (4 : Nat) ≤ (dropL b (4 : Nat)).length ∧ ∀ (y : UInt32), y = (readL (List.take (4 : Nat) (dropL b (4 : Nat)))).toUInt32 → (16 : Nat) ≤ b.length ∧ (List.take (8 : Nat) (dropL b (8 : Nat))).length = (List.take (8 : Nat) (dropL b (8 : Nat))).length ∧ (List.take (8 : Nat) (dropL b (8 : Nat))).length < (4611686018427387904 : Nat) ∧ ∀ (y_1 : UInt64), y_1 = readL (List.take (8 : Nat) (dropL b (8 : Nat))) → (16 : Nat) ≤ b.length ∧ (0 : Nat) + (b.length - (16 : Nat)) ≤ (4294967296 : Nat) ∧ ∀ (y_2 : List UInt8), y_2 = [] ++ dropL b (16 : Nat) → ∀ (y_3 : UInt32), y_3 = y → ∀ (y : UInt64), y = y_1 → y_3 = fld32 (4 : Int) b (4 : Nat) ∧ y = fld64 (4 : Int) b (8 : Nat) ∧ (0 : Nat) + ((0 : Nat) + (b.length - (16 : Nat))) ≤ (0 : Nat) + (b.length - (16 : Nat)) ∧ (0 : Nat) + (b.length - (16 : Nat)) = (fldR (4 : Int) b (16 : Nat)).length ∧ List.take ((0 : Nat) + (b.length - (16 : Nat))) (dropL (dropL y_2 (0 : Nat)) (0 : Nat)) = fldR (4 : Int) b (16 : Nat) ∧ Int.ofNat (0 : Nat) = decE (4 : Int) b ∧ True)) := by kernel_rfl
end Go.Proofs.Ytimjfjlaoekfkaa

/- A step towards SessionOpensSaid: no conditions. -/
namespace Go.Proofs.Ytimjfjlaoekfkaa
open Go Go.Eng Go.Cod Go.Msg
theorem k8 {x : UInt8} {n : Nat} (hn : n < 256) : ((x.toNat : Int) = (n : Int)) = (x = UInt8.ofNat n) := by
  apply propext
  constructor
  · intro h
    have h : x.toNat = n := by omega
    rw [← UInt8.toNat_inj, UInt8.toNat_ofNat_of_lt' hn]; exact h
  · intro h
    rw [h, UInt8.toNat_ofNat_of_lt' hn]
theorem kind_zero {b : List UInt8} (h : ¬(b.length < 4 ∨ b.getD 1 0 ≠ 0 ∨ b.getD 2 0 ≠ 0 ∨ b.getD 3 0 ≠ 0) → ¬((b.getD 0 0 = 1 ∧ b.length = 148) ∨ (b.getD 0 0 = 2 ∧ b.length = 92) ∨ (b.getD 0 0 = 3 ∧ b.length = 64) ∨ (b.getD 0 0 = 4 ∧ 32 ≤ b.length ∧ b.length ≤ 2100))) : ((0 : Nat) : Int) = kindL b := by
  unfold kindL
  split
  · rfl
  · rename_i h1
    rw [if_neg (h h1)]; rfl
theorem kind_some {b : List UInt8} (h : ¬(b.length < 4 ∨ b.getD 1 0 ≠ 0 ∨ b.getD 2 0 ≠ 0 ∨ b.getD 3 0 ≠ 0)) (h2 : ((b.getD 0 0 = 1 ∧ b.length = 148) ∨ (b.getD 0 0 = 2 ∧ b.length = 92) ∨ (b.getD 0 0 = 3 ∧ b.length = 64) ∨ (b.getD 0 0 = 4 ∧ 32 ≤ b.length ∧ b.length ≤ 2100))) : ((b.getD 0 0).toNat : Int) = kindL b := by
  unfold kindL
  rw [if_neg h, if_pos h2]
/-- what a kind tells of the length -/
theorem kind_len {b : List UInt8} : (kindL b = 1 → b.length = 148) ∧ (kindL b = 2 → b.length = 92) ∧ (kindL b = 3 → b.length = 64) ∧ (kindL b = 4 → 32 ≤ b.length ∧ b.length ≤ 2100) := by
  unfold kindL
  split
  · refine ⟨fun h => ?_, fun h => ?_, fun h => ?_, fun h => ?_⟩ <;> cases h
  · split
    · rename_i h2
      generalize b.getD 0 0 = x at *
      generalize b.length = n at *
      rcases h2 with ⟨rfl, h⟩ | ⟨rfl, h⟩ | ⟨rfl, h⟩ | ⟨rfl, h⟩
      · exact ⟨fun _ => h, fun h => absurd h (by decide), fun h => absurd h (by decide), fun h => absurd h (by decide)⟩
      · exact ⟨fun h => absurd h (by decide), fun _ => h, fun h => absurd h (by decide), fun h => absurd h (by decide)⟩
      · exact ⟨fun h => absurd h (by decide), fun h => absurd h (by decide), fun _ => h, fun h => absurd h (by decide)⟩
      · exact ⟨fun h => absurd h (by decide), fun h => absurd h (by decide), fun h => absurd h (by decide), fun _ => h⟩
    · refine ⟨fun h => ?_, fun h => ?_, fun h => ?_, fun h => ?_⟩ <;> cases h
theorem ofN0 : UInt8.ofNat 0 = (0 : UInt8) := rfl
theorem ofN1 : UInt8.ofNat 1 = (1 : UInt8) := rfl
theorem ofN2 : UInt8.ofNat 2 = (2 : UInt8) := rfl
theorem ofN3 : UInt8.ofNat 3 = (3 : UInt8) := rfl
theorem ofN4 : UInt8.ofNat 4 = (4 : UInt8) := rfl
set_option maxRecDepth 100000 in
set_option maxHeartbeats 4000000 in
theorem conKind : Con Try.prog 28 gKind := con_of_vcl fun args ps res h hp hlen => by
  unfold gKind at h
  split at h <;> cases h
  rename_i m b
  obtain ⟨rfl, hp2⟩ := all_cons.1 hp
  have hl := (all_cons.1 hp2).1
  refine ⟨MEk, 100, rfl, eok (gs := []) trivial, ?_⟩
  rw [vcKind b]
  have z := @kind_zero b
  have s := @kind_some b
  simp only [true_and, and_true, io, decide_eq_true_eq, decide_eq_false_iff_not, k8 (show 1 < 256 by decide), k8 (show 2 < 256 by decide), k8 (show 3 < 256 by decide), k8 (show 4 < 256 by decide), ofN0, ofN1, ofN2, ofN3, ofN4, bne_iff_ne, bne_eq_false_iff_eq, ne_eq]
  generalize kindL b = K at *
  generalize b.getD 0 0 = x0 at *
  generalize b.getD 1 0 = x1 at *
  generalize b.getD 2 0 = x2 at *
  generalize b.getD 3 0 = x3 at *
  generalize b.length = n at *
  repeat' first | (apply And.intro) | intro
  all_goals first | omega | grind
set_option maxRecDepth 100000 in
set_option maxHeartbeats 4000000 in
theorem conKindR : Con Try.prog 53 gKind := con_of_vcl fun args ps res h hp hlen => by
  unfold gKind at h
  split at h <;> cases h
  rename_i m b
  obtain ⟨rfl, hp2⟩ := all_cons.1 hp
  have hl := (all_cons.1 hp2).1
  refine ⟨MEk, 100, rfl, eok (gs := []) trivial, ?_⟩
  rw [vcKindR b]
  have z := @kind_zero b
  have s := @kind_some b
  simp only [true_and, and_true, io, decide_eq_true_eq, decide_eq_false_iff_not, ofN0, ofN1, ofN2, ofN3, ofN4, bne_iff_ne, bne_eq_false_iff_eq, beq_iff_eq, beq_eq_false_iff_ne, ne_eq]
  generalize kindL b = K at *
  generalize b.getD 0 0 = x0 at *
  generalize b.getD 1 0 = x1 at *
  generalize b.getD 2 0 = x2 at *
  generalize b.getD 3 0 = x3 at *
  generalize b.length = n at *
  repeat' first | (apply And.intro) | intro
  all_goals first | omega | grind
theorem dropL_eq {α : Type} (l : List α) (i : Nat) : dropL l i = l.drop i := by cases i <;> rfl
theorem fld_no {k : Int} {b : List UInt8} (h : kindL b ≠ k) : fld32 k b = (fun _ => 0) ∧ fld64 k b = (fun _ => 0) ∧ fld k b = (fun _ n => List.replicate n 0) ∧ fldR k b = (fun _ => []) ∧ decE k b = 4 :=
  ⟨funext fun _ => if_neg h, funext fun _ => if_neg h, funext fun _ => funext fun _ => if_neg h, funext fun _ => if_neg h, if_neg h⟩
theorem fld_yes {k : Int} {b : List UInt8} (h : kindL b = k) : (∀ o, fld32 k b o = (readL ((b.drop o).take 4)).toUInt32) ∧ (∀ o, fld64 k b o = readL ((b.drop o).take 8)) ∧ (∀ o n, fld k b o n = (b.drop o).take n) ∧ (∀ o, fldR k b o = b.drop o) ∧ decE k b = 0 :=
  ⟨fun _ => if_pos h, fun _ => if_pos h, fun _ _ => if_pos h, fun _ => if_pos h, if_pos h⟩
theorem over_all {z : List UInt8} {l : List UInt8} (h : z.length = l.length) : over z 0 l = l := by
  unfold over
  rw [List.take_zero, List.nil_append, List.drop_of_length_le (by omega), List.append_nil]
set_option maxRecDepth 100000 in
theorem conN32 : Con Try.prog 54 gN32 := con_of_vcl fun args ps res h hp hlen => by
  unfold gN32 at h
  split at h <;> cases h
  rename_i m b
  obtain ⟨rfl, hp2⟩ := all_cons.1 hp
  have hl := (all_cons.1 hp2).1
  refine ⟨MEn, 100, rfl, eok (gs := [(55, gReadL)]) ⟨conReadLr, trivial⟩, ?_⟩
  rw [vcN32 b]
  exact ⟨hl, rfl, by rw [List.length_take]; omega, rfl, trivial⟩
set_option maxRecDepth 100000 in
set_option maxHeartbeats 4000000 in
theorem conDTran : Con Try.prog 12 (gDec dTran) := con_of_vcl fun args ps res h hp hlen => by
  unfold gDec at h
  split at h <;> cases h
  rename_i m b
  obtain ⟨rfl, hp2⟩ := all_cons.1 hp
  have hl := (all_cons.1 hp2).1
  refine ⟨MEd, 100, rfl, eok (gs := [(30, gReadL), (28, gKind)]) ⟨conReadL, conKind, trivial⟩, ?_⟩
  show vcFn _ _ _ _ (dTran b)
  rw [vcDTran b]
  have kn : ((4 : Nat) : Int) = 4 := rfl
  simp only [forall_eq, true_and, and_true, io, decide_eq_true_eq, decide_eq_false_iff_not, dropL_eq, Nat.zero_add, Nat.sub_zero, List.drop_drop, List.take_take, List.length_take, List.length_drop, List.drop_zero, List.nil_append, ne_eq, Decidable.not_not, kn]
  refine ⟨hl, fun hne => ?_, fun he => ?_⟩
  · obtain ⟨e1, e2, e3, e4, e5⟩ := fld_no hne
    simp only [e1, e2, e3, e4, e5]
    simp
  · obtain ⟨e1, e2, e3, e4, e5⟩ := fld_yes he
    have hk := kind_len (b := b)
    have hn := hk.2.2.2 he
    simp only [e1, e2, e3, e4, e5]
    repeat rw [over_all (by rw [List.length_take, List.length_drop, List.length_replicate]; omega)]
    and_intros
    all_goals first | omega | rfl | (rw [List.take_of_length_le (by rw [List.length_drop]; omega)]) | (simp; done) | (simp; omega)
set_option maxRecDepth 100000 in
set_option maxHeartbeats 4000000 in
theorem conDTranR : Con Try.prog 40 (gDec dTran) := con_of_vcl fun args ps res h hp hlen => by
  unfold gDec at h
  split at h <;> cases h
  rename_i m b
  obtain ⟨rfl, hp2⟩ := all_cons.1 hp
  have hl := (all_cons.1 hp2).1
  refine ⟨MEr, 100, rfl, eok (gs := [(55, gReadL), (54, gN32), (53, gKind)]) ⟨conReadLr, conN32, conKindR, trivial⟩, ?_⟩
  show vcFn _ _ _ _ (dTran b)
  rw [vcDTranR b]
  have kn : ((4 : Nat) : Int) = 4 := rfl
  simp only [forall_eq, true_and, and_true, io, decide_eq_true_eq, decide_eq_false_iff_not, dropL_eq, Nat.zero_add, Nat.sub_zero, List.drop_drop, List.take_take, List.length_take, List.length_drop, List.drop_zero, List.nil_append, ne_eq, Decidable.not_not, kn]
  refine ⟨hl, fun hne => ?_, fun he => ?_⟩
  · obtain ⟨e1, e2, e3, e4, e5⟩ := fld_no hne
    simp only [e1, e2, e3, e4, e5]
    simp
  · obtain ⟨e1, e2, e3, e4, e5⟩ := fld_yes he
    have hk := kind_len (b := b)
    have hn := hk.2.2.2 he
    simp only [e1, e2, e3, e4, e5]
    repeat rw [over_all (by rw [List.length_take, List.length_drop, List.length_replicate]; omega)]
    and_intros
    all_goals first | omega | rfl | (rw [List.take_of_length_le (by rw [List.length_drop]; omega)]) | (simp; done) | (simp; omega)
end Go.Proofs.Ytimjfjlaoekfkaa

/- A step towards SessionOpensSaid: no conditions. -/
namespace Go.Proofs.Ytimjfjlaoekfkaa
open Go Go.Eng Go.Win
noncomputable def WI0 : Env := mkE Try.prog [] [] 2
noncomputable def WIp : Env := mkE Try.prog [(38, gCheck)] [(1, JA)] 2
noncomputable def WIr : Env := mkE Try.prog [(37, gCheck)] [(0, JB)] 2
set_option maxRecDepth 100000 in
theorem vcWCheckR (u : Bool) (t c : UInt64) (ws : List UInt64) : (vcFn WI0 100 37 [.agg [.one (.b u), .one (.u64 t), .vec (.n 4) (.u64 ws)], .s (.u64 c)] (.s (.b (chk ⟨u, t, ws⟩ c)))) =
  (((!u) = true → true = chk { u := u, t := t, ws := ws : Win } c ∧ True) ∧ ((!u) = false → (decide (t < c) = true → true = chk { u := u, t := t, ws := ws : Win } c ∧ True) ∧ (decide (t < c) = false → UInt64.ofNat (nat_lit 64) ≠ (0 : UInt64) ∧ UInt64.ofNat (nat_lit 64) ≠ (0 : UInt64) ∧ (decide (t / UInt64.ofNat (nat_lit 64) - c / UInt64.ofNat (nat_lit 64) ≤ UInt64.ofNat (nat_lit 3)) = true → UInt64.ofNat (nat_lit 64) ≠ (0 : UInt64) ∧ UInt64.ofNat (nat_lit 4) ≠ (0 : UInt64) ∧ (c / UInt64.ofNat (nat_lit 64) % UInt64.ofNat (nat_lit 4)).toNat < (4 : Nat) ∧ (c / UInt64.ofNat (nat_lit 64) % UInt64.ofNat (nat_lit 4)).toNat < (4 : Nat) ∧ UInt64.ofNat (nat_lit 64) ≠ (0 : UInt64) ∧ (shr64 (ws.getD (c / UInt64.ofNat (nat_lit 64) % UInt64.ofNat (nat_lit 4)).toNat (0 : UInt64)) (c % UInt64.ofNat (nat_lit 64)).toNat &&& UInt64.ofNat (nat_lit 1) == UInt64.ofNat (nat_lit 0)) = chk { u := u, t := t, ws := ws : Win } c ∧ True) ∧ (decide (t / UInt64.ofNat (nat_lit 64) - c / UInt64.ofNat (nat_lit 64) ≤ UInt64.ofNat (nat_lit 3)) = false → false = chk { u := u, t := t, ws := ws : Win } c ∧ True)))) := by kernel_rfl
set_option maxRecDepth 100000 in
theorem vcWCheck (u : Bool) (t c : UInt64) (ws : List UInt64) : (vcFn WI0 100 38 [.agg [.one (.b u), .one (.u64 t), .vec (.n 4) (.u64 ws)], .s (.u64 c)] (.s (.b (chk ⟨u, t, ws⟩ c)))) =
  (((!u) = true → true = chk { u := u, t := t, ws := ws : Win } c ∧ True) ∧ ((!u) = false → (decide (t < c) = true → true = chk { u := u, t := t, ws := ws : Win } c ∧ True) ∧ (decide (t < c) = false → UInt64.ofNat (nat_lit 64) ≠ (0 : UInt64) ∧ UInt64.ofNat (nat_lit 64) ≠ (0 : UInt64) ∧ (decide (t / UInt64.ofNat (nat_lit 64) - c / UInt64.ofNat (nat_lit 64) < UInt64.ofNat (nat_lit 4)) = true → UInt64.ofNat (nat_lit 4) ≠ (0 : UInt64) ∧ (c / UInt64.ofNat (nat_lit 64) % UInt64.ofNat (nat_lit 4)).toNat < (4 : Nat) ∧ (c / UInt64.ofNat (nat_lit 64) % UInt64.ofNat (nat_lit 4)).toNat < (4 : Nat) ∧ UInt64.ofNat (nat_lit 64) ≠ (0 : UInt64) ∧ (shr64 (ws.getD (c / UInt64.ofNat (nat_lit 64) % UInt64.ofNat (nat_lit 4)).toNat (0 : UInt64)) (c % UInt64.ofNat (nat_lit 64)).toNat &&& UInt64.ofNat (nat_lit 1) == UInt64.ofNat (nat_lit 0)) = chk { u := u, t := t, ws := ws : Win } c ∧ True) ∧ (decide (t / UInt64.ofNat (nat_lit 64) - c / UInt64.ofNat (nat_lit 64) < UInt64.ofNat (nat_lit 4)) = false → false = chk { u := u, t := t, ws := ws : Win } c ∧ True)))) := by kernel_rfl
set_option maxRecDepth 100000 in
theorem vcWAcc (u : Bool) (t c : UInt64) (ws : List UInt64) : (vcFn WIp 100 39 [.agg [.one (.b u), .one (.u64 t), .vec (.n 4) (.u64 ws)], .s (.u64 c)] (.tup [(acc ⟨u, t, ws⟩ c).W, .s (.b (chk ⟨u, t, ws⟩ c))])) =
  (((!chk { u := u, t := t, ws := ws : Win } c) = true → u = (acc { u := u, t := t, ws := ws : Win } c).u ∧ t = (acc { u := u, t := t, ws := ws : Win } c).t ∧ ws = (acc { u := u, t := t, ws := ws : Win } c).ws ∧ false = chk { u := u, t := t, ws := ws : Win } c ∧ True) ∧ ((!chk { u := u, t := t, ws := ws : Win } c) = false → UInt64.ofNat (nat_lit 64) ≠ (0 : UInt64) ∧ ((!u) = true → UInt64.ofNat (nat_lit 4) ≠ (0 : UInt64) ∧ (c / UInt64.ofNat (nat_lit 64) % UInt64.ofNat (nat_lit 4)).toNat < (4 : Nat) ∧ (c / UInt64.ofNat (nat_lit 64) % UInt64.ofNat (nat_lit 4)).toNat < (4 : Nat) ∧ UInt64.ofNat (nat_lit 64) ≠ (0 : UInt64) ∧ (c / UInt64.ofNat (nat_lit 64) % UInt64.ofNat (nat_lit 4)).toNat < (4 : Nat) ∧ (c / UInt64.ofNat (nat_lit 64) % UInt64.ofNat (nat_lit 4)).toNat < (4 : Nat) ∧ true = (acc { u := u, t := t, ws := ws : Win } c).u ∧ c = (acc { u := u, t := t, ws := ws : Win } c).t ∧ (List.replicate (4 : Nat) (0 : UInt64)).set (c / UInt64.ofNat (nat_lit 64) % UInt64.ofNat (nat_lit 4)).toNat ((List.replicate (4 : Nat) (0 : UInt64)).getD (c / UInt64.ofNat (nat_lit 64) % UInt64.ofNat (nat_lit 4)).toNat (0 : UInt64) ||| shl64 (UInt64.ofNat (nat_lit 1)) (c % UInt64.ofNat (nat_lit 64)).toNat) = (acc { u := u, t := t, ws := ws : Win } c).ws ∧ true = chk { u := u, t := t, ws := ws : Win } c ∧ True) ∧ ((!u) = false → (decide (t < c) = true → UInt64.ofNat (nat_lit 64) ≠ (0 : UInt64) ∧ (∃ (x : Nat), x ≤ (if UInt64.ofNat (nat_lit 4) < c / UInt64.ofNat (nat_lit 64) - t / UInt64.ofNat (nat_lit 64) then UInt64.ofNat (nat_lit 4) else c / UInt64.ofNat (nat_lit 64) - t / UInt64.ofNat (nat_lit 64)).toNat ∧ c = c ∧ c / UInt64.ofNat (nat_lit 64) = c / UInt64.ofNat (nat_lit 64) ∧ t / UInt64.ofNat (nat_lit 64) = t / UInt64.ofNat (nat_lit 64) ∧ ((if UInt64.ofNat (nat_lit 4) < c / UInt64.ofNat (nat_lit 64) - t / UInt64.ofNat (nat_lit 64) then UInt64.ofNat (nat_lit 4) else c / UInt64.ofNat (nat_lit 64) - t / UInt64.ofNat (nat_lit 64)) = if UInt64.ofNat (nat_lit 4) < c / UInt64.ofNat (nat_lit 64) - t / UInt64.ofNat (nat_lit 64) then UInt64.ofNat (nat_lit 4) else c / UInt64.ofNat (nat_lit 64) - t / UInt64.ofNat (nat_lit 64)) ∧ UInt64.ofNat (nat_lit 0) = UInt64.ofNat x ∧ u = true ∧ t = t ∧ ws = clr ws (t / (64 : UInt64)) x ∧ false = false ∧ (0 : UInt64) = (0 : UInt64) ∧ List.replicate (4 : Nat) (0 : UInt64) = List.replicate (4 : Nat) (0 : UInt64) ∧ True) ∧ ∀ (x : Nat), x ≤ (if UInt64.ofNat (nat_lit 4) < c / UInt64.ofNat (nat_lit 64) - t / UInt64.ofNat (nat_lit 64) then UInt64.ofNat (nat_lit 4) else c / UInt64.ofNat (nat_lit 64) - t / UInt64.ofNat (nat_lit 64)).toNat → (decide (UInt64.ofNat x < if UInt64.ofNat (nat_lit 4) < c / UInt64.ofNat (nat_lit 64) - t / UInt64.ofNat (nat_lit 64) then UInt64.ofNat (nat_lit 4) else c / UInt64.ofNat (nat_lit 64) - t / UInt64.ofNat (nat_lit 64)) = true → UInt64.ofNat (nat_lit 4) ≠ (0 : UInt64) ∧ ((t / UInt64.ofNat (nat_lit 64) + UInt64.ofNat (nat_lit 1) + UInt64.ofNat x) % UInt64.ofNat (nat_lit 4)).toNat < (4 : Nat) ∧ ((t / UInt64.ofNat (nat_lit 64) + UInt64.ofNat (nat_lit 1) + UInt64.ofNat x) % UInt64.ofNat (nat_lit 4)).toNat < (4 : Nat) ∧ ∃ (y : Nat), y ≤ (if UInt64.ofNat (nat_lit 4) < c / UInt64.ofNat (nat_lit 64) - t / UInt64.ofNat (nat_lit 64) then UInt64.ofNat (nat_lit 4) else c / UInt64.ofNat (nat_lit 64) - t / UInt64.ofNat (nat_lit 64)).toNat ∧ (if UInt64.ofNat (nat_lit 4) < c / UInt64.ofNat (nat_lit 64) - t / UInt64.ofNat (nat_lit 64) then UInt64.ofNat (nat_lit 4) else c / UInt64.ofNat (nat_lit 64) - t / UInt64.ofNat (nat_lit 64)).toNat - y < (if UInt64.ofNat (nat_lit 4) < c / UInt64.ofNat (nat_lit 64) - t / UInt64.ofNat (nat_lit 64) then UInt64.ofNat (nat_lit 4) else c / UInt64.ofNat (nat_lit 64) - t / UInt64.ofNat (nat_lit 64)).toNat - x ∧ c = c ∧ c / UInt64.ofNat (nat_lit 64) = c / UInt64.ofNat (nat_lit 64) ∧ t / UInt64.ofNat (nat_lit 64) = t / UInt64.ofNat (nat_lit 64) ∧ ((if UInt64.ofNat (nat_lit 4) < c / UInt64.ofNat (nat_lit 64) - t / UInt64.ofNat (nat_lit 64) then UInt64.ofNat (nat_lit 4) else c / UInt64.ofNat (nat_lit 64) - t / UInt64.ofNat (nat_lit 64)) = if UInt64.ofNat (nat_lit 4) < c / UInt64.ofNat (nat_lit 64) - t / UInt64.ofNat (nat_lit 64) then UInt64.ofNat (nat_lit 4) else c / UInt64.ofNat (nat_lit 64) - t / UInt64.ofNat (nat_lit 64)) ∧ UInt64.ofNat x + UInt64.ofNat (nat_lit 1) = UInt64.ofNat y ∧ true = true ∧ t = t ∧ (clr ws (t / (64 : UInt64)) x).set ((t / UInt64.ofNat (nat_lit 64) + UInt64.ofNat (nat_lit 1) + UInt64.ofNat x) % UInt64.ofNat (nat_lit 4)).toNat (UInt64.ofNat (nat_lit 0)) = clr ws (t / (64 : UInt64)) y ∧ false = false ∧ (0 : UInt64) = (0 : UInt64) ∧ List.replicate (4 : Nat) (0 : UInt64) = List.replicate (4 : Nat) (0 : UInt64) ∧ True) ∧ (decide (UInt64.ofNat x < if UInt64.ofNat (nat_lit 4) < c / UInt64.ofNat (nat_lit 64) - t / UInt64.ofNat (nat_lit 64) then UInt64.ofNat (nat_lit 4) else c / UInt64.ofNat (nat_lit 64) - t / UInt64.ofNat (nat_lit 64)) = false → UInt64.ofNat (nat_lit 4) ≠ (0 : UInt64) ∧ (c / UInt64.ofNat (nat_lit 64) % UInt64.ofNat (nat_lit 4)).toNat < (4 : Nat) ∧ (c / UInt64.ofNat (nat_lit 64) % UInt64.ofNat (nat_lit 4)).toNat < (4 : Nat) ∧ UInt64.ofNat (nat_lit 64) ≠ (0 : UInt64) ∧ (c / UInt64.ofNat (nat_lit 64) % UInt64.ofNat (nat_lit 4)).toNat < (4 : Nat) ∧ (c / UInt64.ofNat (nat_lit 64) % UInt64.ofNat (nat_lit 4)).toNat < (4 : Nat) ∧ true = (acc { u := u, t := t, ws := ws : Win } c).u ∧ c = (acc { u := u, t := t, ws := ws : Win } c).t ∧ (clr ws (t / (64 : UInt64)) x).set (c / UInt64.ofNat (nat_lit 64) % UInt64.ofNat (nat_lit 4)).toNat ((clr ws (t / (64 : UInt64)) x).getD (c / UInt64.ofNat (nat_lit 64) % UInt64.ofNat (nat_lit 4)).toNat (0 : UInt64) ||| shl64 (UInt64.ofNat (nat_lit 1)) (c % UInt64.ofNat (nat_lit 64)).toNat) = (acc { u := u, t := t, ws := ws : Win } c).ws ∧ true = chk { u := u, t := t, ws := ws : Win } c ∧ True)) ∧ (decide (t < c) = false → UInt64.ofNat (nat_lit 4) ≠ (0 : UInt64) ∧ (c / UInt64.ofNat (nat_lit 64) % UInt64.ofNat (nat_lit 4)).toNat < (4 : Nat) ∧ (c / UInt64.ofNat (nat_lit 64) % UInt64.ofNat (nat_lit 4)).toNat < (4 : Nat) ∧ UInt64.ofNat (nat_lit 64) ≠ (0 : UInt64) ∧ (c / UInt64.ofNat (nat_lit 64) % UInt64.ofNat (nat_lit 4)).toNat < (4 : Nat) ∧ (c / UInt64.ofNat (nat_lit 64) % UInt64.ofNat (nat_lit 4)).toNat < (4 : Nat) ∧ u = (acc { u := u, t := t, ws := ws : Win } c).u ∧ t = (acc { u := u, t := t, ws := ws : Win } c).t ∧ ws.set (c / UInt64.ofNat (nat_lit 64) % UInt64.ofNat (nat_lit 4)).toNat (ws.getD (c / UInt64.ofNat (nat_lit 64) % UInt64.ofNat (nat_lit 4)).toNat (0 : UInt64) ||| shl64 (UInt64.ofNat (nat_lit 1)) (c % UInt64.ofNat (nat_lit 64)).toNat) = (acc { u := u, t := t, ws := ws : Win } c).ws ∧ true = chk { u := u, t := t, ws := ws : Win } c ∧ True)))) := by kernel_rfl
set_option maxRecDepth 100000 in
theorem vcWAccR (u : Bool) (t c : UInt64) (ws : List UInt64) : (vcFn WIr 100 15 [.agg [.one (.b u), .one (.u64 t), .vec (.n 4) (.u64 ws)], .s (.u64 c)] (.tup [(acc ⟨u, t, ws⟩ c).W, .s (.b (chk ⟨u, t, ws⟩ c))])) =
  (((!chk { u := u, t := t, ws := ws : Win } c) = true → u = (acc { u := u, t := t, ws := ws : Win } c).u ∧ t = (acc { u := u, t := t, ws := ws : Win } c).t ∧ ws = (acc { u := u, t := t, ws := ws : Win } c).ws ∧ false = chk { u := u, t := t, ws := ws : Win } c ∧ True) ∧ ((!chk { u := u, t := t, ws := ws : Win } c) = false → ((!u) = true → (decide (c < c) = true → (∃ (x : Nat), x ≤ (m4 (c / (64 : UInt64) - c / (64 : UInt64))).toNat ∧ c = c ∧ UInt64.ofNat (nat_lit 1) = (1 : UInt64) + UInt64.ofNat x ∧ true = true ∧ c = c ∧ List.replicate (4 : Nat) (0 : UInt64) = clr (List.replicate (4 : Nat) (0 : UInt64)) (c / (64 : UInt64)) x ∧ false = false ∧ (0 : UInt64) = (0 : UInt64) ∧ List.replicate (4 : Nat) (0 : UInt64) = List.replicate (4 : Nat) (0 : UInt64) ∧ True) ∧ ∀ (x : Nat), x ≤ (m4 (c / (64 : UInt64) - c / (64 : UInt64))).toNat → UInt64.ofNat (nat_lit 64) ≠ (0 : UInt64) ∧ UInt64.ofNat (nat_lit 64) ≠ (0 : UInt64) ∧ (decide ((1 : UInt64) + UInt64.ofNat x ≤ if UInt64.ofNat (nat_lit 4) < c / UInt64.ofNat (nat_lit 64) - c / UInt64.ofNat (nat_lit 64) then UInt64.ofNat (nat_lit 4) else c / UInt64.ofNat (nat_lit 64) - c / UInt64.ofNat (nat_lit 64)) = true → UInt64.ofNat (nat_lit 64) ≠ (0 : UInt64) ∧ UInt64.ofNat (nat_lit 4) ≠ (0 : UInt64) ∧ ((c / UInt64.ofNat (nat_lit 64) + ((1 : UInt64) + UInt64.ofNat x)) % UInt64.ofNat (nat_lit 4)).toNat < (4 : Nat) ∧ ((c / UInt64.ofNat (nat_lit 64) + ((1 : UInt64) + UInt64.ofNat x)) % UInt64.ofNat (nat_lit 4)).toNat < (4 : Nat) ∧ ∃ (y : Nat), y ≤ (m4 (c / (64 : UInt64) - c / (64 : UInt64))).toNat ∧ (m4 (c / (64 : UInt64) - c / (64 : UInt64))).toNat - y < (m4 (c / (64 : UInt64) - c / (64 : UInt64))).toNat - x ∧ c = c ∧ (1 : UInt64) + UInt64.ofNat x + UInt64.ofNat (nat_lit 1) = (1 : UInt64) + UInt64.ofNat y ∧ true = true ∧ c = c ∧ (clr (List.replicate (4 : Nat) (0 : UInt64)) (c / (64 : UInt64)) x).set ((c / UInt64.ofNat (nat_lit 64) + ((1 : UInt64) + UInt64.ofNat x)) % UInt64.ofNat (nat_lit 4)).toNat (UInt64.ofNat (nat_lit 0)) = clr (List.replicate (4 : Nat) (0 : UInt64)) (c / (64 : UInt64)) y ∧ false = false ∧ (0 : UInt64) = (0 : UInt64) ∧ List.replicate (4 : Nat) (0 : UInt64) = List.replicate (4 : Nat) (0 : UInt64) ∧ True) ∧ (decide ((1 : UInt64) + UInt64.ofNat x ≤ if UInt64.ofNat (nat_lit 4) < c / UInt64.ofNat (nat_lit 64) - c / UInt64.ofNat (nat_lit 64) then UInt64.ofNat (nat_lit 4) else c / UInt64.ofNat (nat_lit 64) - c / UInt64.ofNat (nat_lit 64)) = false → UInt64.ofNat (nat_lit 64) ≠ (0 : UInt64) ∧ UInt64.ofNat (nat_lit 4) ≠ (0 : UInt64) ∧ (c / UInt64.ofNat (nat_lit 64) % UInt64.ofNat (nat_lit 4)).toNat < (4 : Nat) ∧ (c / UInt64.ofNat (nat_lit 64) % UInt64.ofNat (nat_lit 4)).toNat < (4 : Nat) ∧ UInt64.ofNat (nat_lit 64) ≠ (0 : UInt64) ∧ (c / UInt64.ofNat (nat_lit 64) % UInt64.ofNat (nat_lit 4)).toNat < (4 : Nat) ∧ (c / UInt64.ofNat (nat_lit 64) % UInt64.ofNat (nat_lit 4)).toNat < (4 : Nat) ∧ true = (acc { u := u, t := t, ws := ws : Win } c).u ∧ c = (acc { u := u, t := t, ws := ws : Win } c).t ∧ (clr (List.replicate (4 : Nat) (0 : UInt64)) (c / (64 : UInt64)) x).set (c / UInt64.ofNat (nat_lit 64) % UInt64.ofNat (nat_lit 4)).toNat ((clr (List.replicate (4 : Nat) (0 : UInt64)) (c / (64 : UInt64)) x).getD (c / UInt64.ofNat (nat_lit 64) % UInt64.ofNat (nat_lit 4)).toNat (0 : UInt64) ||| shl64 (UInt64.ofNat (nat_lit 1)) (c % UInt64.ofNat (nat_lit 64)).toNat) = (acc { u := u, t := t, ws := ws : Win } c).ws ∧ true = chk { u := u, t := t, ws := ws : Win } c ∧ True)) ∧ (decide (c < c) = false → UInt64.ofNat (nat_lit 64) ≠ (0 : UInt64) ∧ UInt64.ofNat (nat_lit 4) ≠ (0 : UInt64) ∧ (c / UInt64.ofNat (nat_lit 64) % UInt64.ofNat (nat_lit 4)).toNat < (4 : Nat) ∧ (c / UInt64.ofNat (nat_lit 64) % UInt64.ofNat (nat_lit 4)).toNat < (4 : Nat) ∧ UInt64.ofNat (nat_lit 64) ≠ (0 : UInt64) ∧ (c / UInt64.ofNat (nat_lit 64) % UInt64.ofNat (nat_lit 4)).toNat < (4 : Nat) ∧ (c / UInt64.ofNat (nat_lit 64) % UInt64.ofNat (nat_lit 4)).toNat < (4 : Nat) ∧ true = (acc { u := u, t := t, ws := ws : Win } c).u ∧ c = (acc { u := u, t := t, ws := ws : Win } c).t ∧ (List.replicate (4 : Nat) (0 : UInt64)).set (c / UInt64.ofNat (nat_lit 64) % UInt64.ofNat (nat_lit 4)).toNat ((List.replicate (4 : Nat) (0 : UInt64)).getD (c / UInt64.ofNat (nat_lit 64) % UInt64.ofNat (nat_lit 4)).toNat (0 : UInt64) ||| shl64 (UInt64.ofNat (nat_lit 1)) (c % UInt64.ofNat (nat_lit 64)).toNat) = (acc { u := u, t := t, ws := ws : Win } c).ws ∧ true = chk { u := u, t := t, ws := ws : Win } c ∧ True)) ∧ ((!u) = false → (decide (t < c) = true → (∃ (x : Nat), x ≤ (m4 (c / (64 : UInt64) - t / (64 : UInt64))).toNat ∧ c = c ∧ UInt64.ofNat (nat_lit 1) = (1 : UInt64) + UInt64.ofNat x ∧ u = true ∧ t = t ∧ ws = clr ws (t / (64 : UInt64)) x ∧ false = false ∧ (0 : UInt64) = (0 : UInt64) ∧ List.replicate (4 : Nat) (0 : UInt64) = List.replicate (4 : Nat) (0 : UInt64) ∧ True) ∧ ∀ (x : Nat), x ≤ (m4 (c / (64 : UInt64) - t / (64 : UInt64))).toNat → UInt64.ofNat (nat_lit 64) ≠ (0 : UInt64) ∧ UInt64.ofNat (nat_lit 64) ≠ (0 : UInt64) ∧ (decide ((1 : UInt64) + UInt64.ofNat x ≤ if UInt64.ofNat (nat_lit 4) < c / UInt64.ofNat (nat_lit 64) - t / UInt64.ofNat (nat_lit 64) then UInt64.ofNat (nat_lit 4) else c / UInt64.ofNat (nat_lit 64) - t / UInt64.ofNat (nat_lit 64)) = true → UInt64.ofNat (nat_lit 64) ≠ (0 : UInt64) ∧ UInt64.ofNat (nat_lit 4) ≠ (0 : UInt64) ∧ ((t / UInt64.ofNat (nat_lit 64) + ((1 : UInt64) + UInt64.ofNat x)) % UInt64.ofNat (nat_lit 4)).toNat < (4 : Nat) ∧ ((t / UInt64.ofNat (nat_lit 64) + ((1 : UInt64) + UInt64.ofNat x)) % UInt64.ofNat (nat_lit 4)).toNat < (4 : Nat) ∧ ∃ (y : Nat), y ≤ (m4 (c / (64 : UInt64) - t / (64 : UInt64))).toNat ∧ (m4 (c / (64 : UInt64) - t / (64 : UInt64))).toNat - y < (m4 (c / (64 : UInt64) - t / (64 : UInt64))).toNat - x ∧ c = c ∧ (1 : UInt64) + UInt64.ofNat x + UInt64.ofNat (nat_lit 1) = (1 : UInt64) + UInt64.ofNat y ∧ true = true ∧ t = t ∧ (clr ws (t / (64 : UInt64)) x).set ((t / UInt64.ofNat (nat_lit 64) + ((1 : UInt64) + UInt64.ofNat x)) % UInt64.ofNat (nat_lit 4)).toNat (UInt64.ofNat (nat_lit 0)) = clr ws (t / (64 : UInt64)) y ∧ false = false ∧ (0 : UInt64) = (0 : UInt64) ∧ List.replicate (4 : Nat) (0 : UInt64) = List.replicate (4 : Nat) (0 : UInt64) ∧ True) ∧ (decide ((1 : UInt64) + UInt64.ofNat x ≤ if UInt64.ofNat (nat_lit 4) < c / UInt64.ofNat (nat_lit 64) - t / UInt64.ofNat (nat_lit 64) then UInt64.ofNat (nat_lit 4) else c / UInt64.ofNat (nat_lit 64) - t / UInt64.ofNat (nat_lit 64)) = false → UInt64.ofNat (nat_lit 64) ≠ (0 : UInt64) ∧ UInt64.ofNat (nat_lit 4) ≠ (0 : UInt64) ∧ (c / UInt64.ofNat (nat_lit 64) % UInt64.ofNat (nat_lit 4)).toNat < (4 : Nat) ∧ (c / UInt64.ofNat (nat_lit 64) % UInt64.ofNat (nat_lit 4)).toNat < (4 : Nat) ∧ UInt64.ofNat (nat_lit 64) ≠ (0 : UInt64) ∧ (c / UInt64.ofNat (nat_lit 64) % UInt64.ofNat (nat_lit 4)).toNat < (4 : Nat) ∧ (c / UInt64.ofNat (nat_lit 64) % UInt64.ofNat (nat_lit 4)).toNat < (4 : Nat) ∧ true = (acc { u := u, t := t, ws := ws : Win } c).u ∧ c = (acc { u := u, t := t, ws := ws : Win } c).t ∧ (clr ws (t / (64 : UInt64)) x).set (c / UInt64.ofNat (nat_lit 64) % UInt64.ofNat (nat_lit 4)).toNat ((clr ws (t / (64 : UInt64)) x).getD (c / UInt64.ofNat (nat_lit 64) % UInt64.ofNat (nat_lit 4)).toNat (0 : UInt64) ||| shl64 (UInt64.ofNat (nat_lit 1)) (c % UInt64.ofNat (nat_lit 64)).toNat) = (acc { u := u, t := t, ws := ws : Win } c).ws ∧ true = chk { u := u, t := t, ws := ws : Win } c ∧ True)) ∧ (decide (t < c) = false → UInt64.ofNat (nat_lit 64) ≠ (0 : UInt64) ∧ UInt64.ofNat (nat_lit 4) ≠ (0 : UInt64) ∧ (c / UInt64.ofNat (nat_lit 64) % UInt64.ofNat (nat_lit 4)).toNat < (4 : Nat) ∧ (c / UInt64.ofNat (nat_lit 64) % UInt64.ofNat (nat_lit 4)).toNat < (4 : Nat) ∧ UInt64.ofNat (nat_lit 64) ≠ (0 : UInt64) ∧ (c / UInt64.ofNat (nat_lit 64) % UInt64.ofNat (nat_lit 4)).toNat < (4 : Nat) ∧ (c / UInt64.ofNat (nat_lit 64) % UInt64.ofNat (nat_lit 4)).toNat < (4 : Nat) ∧ u = (acc { u := u, t := t, ws := ws : Win } c).u ∧ t = (acc { u := u, t := t, ws := ws : Win } c).t ∧ ws.set (c / UInt64.ofNat (nat_lit 64) % UInt64.ofNat (nat_lit 4)).toNat (ws.getD (c / UInt64.ofNat (nat_lit 64) % UInt64.ofNat (nat_lit 4)).toNat (0 : UInt64) ||| shl64 (UInt64.ofNat (nat_lit 1)) (c % UInt64.ofNat (nat_lit 64)).toNat) = (acc { u := u, t := t, ws := ws : Win } c).ws ∧ true = chk { u := u, t := t, ws := ws : Win } c ∧ True)))) := by kernel_rfl
end Go.Proofs.Ytimjfjlaoekfkaa

/- A step towards SessionOpensSaid: no conditions. -/
namespace Go.Proofs.Ytimjfjlaoekfkaa
open Go Go.Eng Go.Win
theorem k64 : UInt64.ofNat 64 = 64 := rfl
theorem k4 : UInt64.ofNat 4 = 4 := rfl
theorem k3 : UInt64.ofNat 3 = 3 := rfl
theorem k1 : UInt64.ofNat 1 = 1 := rfl
theorem k0 : UInt64.ofNat 0 = 0 := rfl
theorem n64 : ((64 : UInt64) = 0) = False := by simp
theorem n4 : ((4 : UInt64) = 0) = False := by simp
theorem lt4 (c : UInt64) : ((c % 4).toNat < 4) = True := by simp; omega
set_option maxRecDepth 100000 in
theorem conWCheck : Con Try.prog 38 gCheck := con_of_vc (E := WI0) (n := 100) (eok (gs := []) trivial) fun args ps res h hp => by
  unfold gCheck at h
  split at h <;> cases h
  rename_i u t ws c
  rw [vcWCheck u t c ws]
  simp only [k64, k4, k3, k1, k0, n64, n4, lt4, ne_eq, not_false_eq_true, true_and, and_true]
  refine ⟨fun h1 => ?_, fun h1 => ⟨fun h2 => ?_, fun h2 => ⟨fun h3 => ?_, fun h3 => ?_⟩⟩⟩ <;> simp only [chk, *, Bool.true_or, Bool.false_or, Bool.true_and, Bool.false_and]
set_option maxRecDepth 100000 in
theorem conWCheckR : Con Try.prog 37 gCheck := con_of_vc (E := WI0) (n := 100) (eok (gs := []) trivial) fun args ps res h hp => by
  unfold gCheck at h
  split at h <;> cases h
  rename_i u t ws c
  rw [vcWCheckR u t c ws]
  have e : ∀ x : UInt64, decide (x ≤ 3) = decide (x < 4) := fun x => by
    rw [decide_eq_decide, UInt64.le_iff_toNat_le, UInt64.lt_iff_toNat_lt]; exact Nat.lt_succ_iff.symm
  simp only [k64, k4, k3, k1, k0, n64, n4, lt4, ne_eq, not_false_eq_true, true_and, and_true, e]
  refine ⟨fun h1 => ?_, fun h1 => ⟨fun h2 => ?_, fun h2 => ⟨fun h3 => ?_, fun h3 => ?_⟩⟩⟩ <;> simp only [chk, *, Bool.true_or, Bool.false_or, Bool.true_and, Bool.false_and]
theorem m4_le (x : UInt64) : (m4 x).toNat ≤ 4 := by
  unfold m4; split
  · decide
  · rename_i h; rw [UInt64.lt_iff_toNat_lt] at h; exact Nat.not_lt.1 h
theorem m4_min (x : UInt64) : (if 4 < x then 4 else x) = m4 x := rfl
theorem wofNat_lt {x : Nat} (h : x ≤ 4) (m : UInt64) : (UInt64.ofNat x < m) ↔ x < m.toNat := by
  rw [UInt64.lt_iff_toNat_lt, UInt64.toNat_ofNat_of_lt' (by have : UInt64.size = 18446744073709551616 := rfl; omega)]
theorem ofNat_succ (x : Nat) : UInt64.ofNat x + 1 = UInt64.ofNat (x + 1) := by
  rw [← k1, ← UInt64.ofNat_add]
theorem acc_no {w : Win} {c : UInt64} (h : chk w c = false) : acc w c = w := by simp [acc, h]
theorem acc_yes {w : Win} {c : UInt64} (h : chk w c = true) : acc w c = ⟨(acc1 w c).u, (acc1 w c).t, orAt (acc1 w c).ws c⟩ := by simp [acc, h]
set_option maxRecDepth 100000 in
theorem conWAcc : Con Try.prog 39 gAcc := con_of_vcs fun args ps res h hp => by
  unfold gAcc at h
  split at h <;> cases h
  rename_i u t ws c
  refine ⟨WIp, 100, rfl, ?_, ?_⟩
  · exact eok (gs := [(38, gCheck)]) ⟨conWCheck, trivial⟩
  rw [vcWAcc u t c ws]
  simp only [k64, k4, k3, k1, k0, n64, n4, lt4, ne_eq, not_false_eq_true, true_and, and_true, m4_min]
  have hm := m4_le (c / 64 - t / 64)
  refine ⟨fun h1 => ?_, fun h1 => ⟨fun h2 => ?_, fun h2 => ⟨fun h3 => ⟨⟨0, ?_⟩, fun x hx => ⟨fun h4 => ⟨x + 1, ?_⟩, fun h4 => ?_⟩⟩, fun h3 => ?_⟩⟩⟩
  · have h1 : chk ⟨u, t, ws⟩ c = false := by simpa using h1
    rw [acc_no h1]; exact ⟨rfl, rfl, rfl, h1.symm⟩
  · have h1 : chk ⟨u, t, ws⟩ c = true := by simpa using h1
    have h2 : u = false := by simpa using h2
    subst h2
    rw [acc_yes h1]; exact ⟨rfl, rfl, rfl, h1.symm⟩
  · have h2 : u = true := by simpa using h2
    exact ⟨Nat.zero_le _, rfl, h2, rfl⟩
  · have h4 := (wofNat_lt (by omega) _).1 (of_decide_eq_true h4)
    refine ⟨by omega, by omega, ofNat_succ x, rfl⟩
  · have h1 : chk ⟨u, t, ws⟩ c = true := by simpa using h1
    have h2 : u = true := by simpa using h2
    have h3 : t < c := of_decide_eq_true h3
    have h4 := mt (wofNat_lt (by omega) _).2 (of_decide_eq_false h4)
    have e : x = (m4 (c / 64 - t / 64)).toNat := by omega
    subst h2
    rw [acc_yes h1]
    simp only [acc1, h3, if_true, e]
    exact ⟨trivial, trivial, rfl, h1.symm⟩
  · have h1 : chk ⟨u, t, ws⟩ c = true := by simpa using h1
    have h2 : u = true := by simpa using h2
    have h3 : ¬ t < c := of_decide_eq_false h3
    subst h2
    rw [acc_yes h1]
    simp only [acc1, h3, if_true, if_false]
    exact ⟨trivial, trivial, rfl, h1.symm⟩
theorem ofNat_le {x : Nat} (h : x ≤ 4) (m : UInt64) : (1 + UInt64.ofNat x ≤ m) ↔ x < m.toNat := by
  rw [UInt64.add_comm, ofNat_succ, UInt64.le_iff_toNat_le, UInt64.toNat_ofNat_of_lt' (by have : UInt64.size = 18446744073709551616 := rfl; omega)]; exact Iff.rfl
set_option maxRecDepth 100000 in
theorem conWAccR : Con Try.prog 15 gAcc := con_of_vcs fun args ps res h hp => by
  unfold gAcc at h
  split at h <;> cases h
  rename_i u t ws c
  refine ⟨WIr, 100, rfl, ?_, ?_⟩
  · exact eok (gs := [(37, gCheck)]) ⟨conWCheckR, trivial⟩
  rw [vcWAccR u t c ws]
  simp only [k64, k4, k3, k1, k0, n64, n4, lt4, ne_eq, not_false_eq_true, true_and, and_true, m4_min]
  have hm := m4_le (c / 64 - t / 64)
  have hcc : decide (c < c) = false := by simp
  rw [hcc]
  refine ⟨fun h1 => ?_, fun h1 => ⟨fun h2 => ⟨fun h => Bool.noConfusion h, fun _ => ?_⟩, fun h2 => ⟨fun h3 => ⟨⟨0, ?_⟩, fun x hx => ⟨fun h4 => ⟨x + 1, ?_⟩, fun h4 => ?_⟩⟩, fun h3 => ?_⟩⟩⟩
  · have h1 : chk ⟨u, t, ws⟩ c = false := by simpa using h1
    rw [acc_no h1]; exact ⟨rfl, rfl, rfl, h1.symm⟩
  · have h1 : chk ⟨u, t, ws⟩ c = true := by simpa using h1
    have h2 : u = false := by simpa using h2
    subst h2
    rw [acc_yes h1]; exact ⟨rfl, rfl, rfl, h1.symm⟩
  · have h2 : u = true := by simpa using h2
    exact ⟨Nat.zero_le _, rfl, h2, rfl⟩
  · have h4 := (ofNat_le (by omega) _).1 (of_decide_eq_true h4)
    refine ⟨by omega, by omega, ?_, ?_⟩
    · rw [UInt64.add_assoc, ofNat_succ]
    · rw [← UInt64.add_assoc]; rfl
  · have h1 : chk ⟨u, t, ws⟩ c = true := by simpa using h1
    have h2 : u = true := by simpa using h2
    have h3 : t < c := of_decide_eq_true h3
    have h4 := mt (ofNat_le (by omega) _).2 (of_decide_eq_false h4)
    have e : x = (m4 (c / 64 - t / 64)).toNat := by omega
    subst h2
    rw [acc_yes h1]
    simp only [acc1, h3, if_true, e]
    exact ⟨trivial, trivial, rfl, h1.symm⟩
  · have h1 : chk ⟨u, t, ws⟩ c = true := by simpa using h1
    have h2 : u = true := by simpa using h2
    have h3 : ¬ t < c := of_decide_eq_false h3
    subst h2
    rw [acc_yes h1]
    simp only [acc1, h3, if_true, if_false]
    exact ⟨trivial, trivial, rfl, h1.symm⟩
end Go.Proofs.Ytimjfjlaoekfkaa
