/- Steps towards SessionExchangesSaid. -/
import Derived.Test.YtimjfjlaoekfkaaJMsgSpec
import Derived.Test.YtimjfjlaoekfkaaBase
import Derived.Test.YtimjfjlaoekfkaaJChaSpec
/- A step towards SessionExchangesSaid: no conditions. -/
namespace Go.Proofs.Ytimjfjlaoekfkaa
open Go Go.Eng Go.Cod Go.Msg
noncomputable def MEk : Env := mkE Try.prog [] [] 2
noncomputable def MEd : Env := mkE Try.prog [(30, gReadL), (28, gKind)] [] 10 true
noncomputable def MEn : Env := mkE Try.prog [(55, gReadL)] [] 10
noncomputable def MEr : Env := mkE Try.prog [(55, gReadL), (54, gN32), (53, gKind)] [] 10 true
set_option maxRecDepth 100000 in
theorem vcKind (b : List UInt8) : (vcFn MEk 100 28 [.s (.xs 1 (.s b.length) (.u8 b))] (.s (.i64 (kindL b)))) =
  ((decide ((↑b.length : Int) < Int.ofNat (4 : Nat)) = true → Int.ofNat (0 : Nat) = kindL b ∧ True) ∧ (decide ((↑b.length : Int) < Int.ofNat (4 : Nat)) = false → (1 : Nat) < b.length ∧ (1 : Nat) < b.length ∧ ((b.getD (1 : Nat) (0 : UInt8) != UInt8.ofNat (nat_lit 0)) = true → Int.ofNat (0 : Nat) = kindL b ∧ True) ∧ ((b.getD (1 : Nat) (0 : UInt8) != UInt8.ofNat (nat_lit 0)) = false → (2 : Nat) < b.length ∧ (2 : Nat) < b.length ∧ ((b.getD (2 : Nat) (0 : UInt8) != UInt8.ofNat (nat_lit 0)) = true → Int.ofNat (0 : Nat) = kindL b ∧ True) ∧ ((b.getD (2 : Nat) (0 : UInt8) != UInt8.ofNat (nat_lit 0)) = false → (3 : Nat) < b.length ∧ (3 : Nat) < b.length ∧ ((b.getD (3 : Nat) (0 : UInt8) != UInt8.ofNat (nat_lit 0)) = true → Int.ofNat (0 : Nat) = kindL b ∧ True) ∧ ((b.getD (3 : Nat) (0 : UInt8) != UInt8.ofNat (nat_lit 0)) = false → (0 : Nat) < b.length ∧ (0 : Nat) < b.length ∧ (decide ((↑(b.getD (0 : Nat) (0 : UInt8)).toNat : Int) = Int.ofNat (1 : Nat)) = true → (decide ((↑b.length : Int) = Int.ofNat (148 : Nat)) = true → (↑(b.getD (0 : Nat) (0 : UInt8)).toNat : Int) = kindL b ∧ True) ∧ (decide ((↑b.length : Int) = Int.ofNat (148 : Nat)) = false → (decide ((↑(b.getD (0 : Nat) (0 : UInt8)).toNat : Int) = Int.ofNat (2 : Nat)) = true → (decide ((↑b.length : Int) = Int.ofNat (92 : Nat)) = true → (↑(b.getD (0 : Nat) (0 : UInt8)).toNat : Int) = kindL b ∧ True) ∧ (decide ((↑b.length : Int) = Int.ofNat (92 : Nat)) = false → (decide ((↑(b.getD (0 : Nat) (0 : UInt8)).toNat : Int) = Int.ofNat (3 : Nat)) = true → (decide ((↑b.length : Int) = Int.ofNat (64 : Nat)) = true → (↑(b.getD (0 : Nat) (0 : UInt8)).toNat : Int) = kindL b ∧ True) ∧ (decide ((↑b.length : Int) = Int.ofNat (64 : Nat)) = false → (decide ((↑(b.getD (0 : Nat) (0 : UInt8)).toNat : Int) = Int.ofNat (4 : Nat)) = true → (decide (Int.ofNat (32 : Nat) ≤ (↑b.length : Int)) = true → (decide ((↑b.length : Int) ≤ Int.ofNat (2100 : Nat)) = true → (↑(b.getD (0 : Nat) (0 : UInt8)).toNat : Int) = kindL b ∧ True) ∧ (decide ((↑b.length : Int) ≤ Int.ofNat (2100 : Nat)) = false → Int.ofNat (0 : Nat) = kindL b ∧ True)) ∧ (decide (Int.ofNat (32 : Nat) ≤ (↑b.length : Int)) = false → Int.ofNat (0 : Nat) = kindL b ∧ True)) ∧ (decide ((↑(b.getD (0 : Nat) (0 : UInt8)).toNat : Int) = Int.ofNat (4 : Nat)) = false → Int.ofNat (0 : Nat) = kindL b ∧ True))) ∧ (decide ((↑(b.getD (0 : Nat) (0 : UInt8)).toNat : Int) = Int.ofNat (3 : Nat)) = false → (decide ((↑(b.getD (0 : Nat) (0 : UInt8)).toNat : Int) = Int.ofNat (4 : Nat)) = true → (decide (Int.ofNat (32 : Nat) ≤ (↑b.length : Int)) = true → (decide ((↑b.length : Int) ≤ Int.ofNat (2100 : Nat)) = true → (↑(b.getD (0 : Nat) (0 : UInt8)).toNat : Int) = kindL b ∧ True) ∧ (decide ((↑b.length : Int) ≤ Int.ofNat (2100 : Nat)) = false → Int.ofNat (0 : Nat) = kindL b ∧ True)) ∧ (decide (Int.ofNat (32 : Nat) ≤ (↑b.length : Int)) = false → Int.ofNat (0 : Nat) = kindL b ∧ True)) ∧ (decide ((↑(b.getD (0 : Nat) (0 : UInt8)).toNat : Int) = Int.ofNat (4 : Nat)) = false → Int.ofNat (0 : Nat) = kindL b ∧ True)))) ∧ (decide ((↑(b.getD (0 : Nat) (0 : UInt8)).toNat : Int) = Int.ofNat (2 : Nat)) = false → (decide ((↑(b.getD (0 : Nat) (0 : UInt8)).toNat : Int) = Int.ofNat (3 : Nat)) = true → (decide ((↑b.length : Int) = Int.ofNat (64 : Nat)) = true → (↑(b.getD (0 : Nat) (0 : UInt8)).toNat : Int) = kindL b ∧ True) ∧ (decide ((↑b.length : Int) = Int.ofNat (64 : Nat)) = false → (decide ((↑(b.getD (0 : Nat) (0 : UInt8)).toNat : Int) = Int.ofNat (4 : Nat)) = true → (decide (Int.ofNat (32 : Nat) ≤ (↑b.length : Int)) = true → (decide ((↑b.length : Int) ≤ Int.ofNat (2100 : Nat)) = true → (↑(b.getD (0 : Nat) (0 : UInt8)).toNat : Int) = kindL b ∧ True) ∧ (decide ((↑b.length : Int) ≤ Int.ofNat (2100 : Nat)) = false → Int.ofNat (0 : Nat) = kindL b ∧ True)) ∧ (decide (Int.ofNat (32 : Nat) ≤ (↑b.length : Int)) = false → Int.ofNat (0 : Nat) = kindL b ∧ True)) ∧ (decide ((↑(b.getD (0 : Nat) (0 : UInt8)).toNat : Int) = Int.ofNat (4 : Nat)) = false → Int.ofNat (0 : Nat) = kindL b ∧ True))) ∧ (decide ((↑(b.getD (0 : Nat) (0 : UInt8)).toNat : Int) = Int.ofNat (3 : Nat)) = false → (decide ((↑(b.getD (0 : Nat) (0 : UInt8)).toNat : Int) = Int.ofNat (4 : Nat)) = true → (decide (Int.ofNat (32 : Nat) ≤ (↑b.length : Int)) = true → (decide ((↑b.length : Int) ≤ Int.ofNat (2100 : Nat)) = true → (↑(b.getD (0 : Nat) (0 : UInt8)).toNat : Int) = kindL b ∧ True) ∧ (decide ((↑b.length : Int) ≤ Int.ofNat (2100 : Nat)) = false → Int.ofNat (0 : Nat) = kindL b ∧ True)) ∧ (decide (Int.ofNat (32 : Nat) ≤ (↑b.length : Int)) = false → Int.ofNat (0 : Nat) = kindL b ∧ True)) ∧ (decide ((↑(b.getD (0 : Nat) (0 : UInt8)).toNat : Int) = Int.ofNat (4 : Nat)) = false → Int.ofNat (0 : Nat) = kindL b ∧ True))))) ∧ (decide ((↑(b.getD (0 : Nat) (0 : UInt8)).toNat : Int) = Int.ofNat (1 : Nat)) = false → (decide ((↑(b.getD (0 : Nat) (0 : UInt8)).toNat : Int) = Int.ofNat (2 : Nat)) = true → (decide ((↑b.length : Int) = Int.ofNat (92 : Nat)) = true → (↑(b.getD (0 : Nat) (0 : UInt8)).toNat : Int) = kindL b ∧ True) ∧ (decide ((↑b.length : Int) = Int.ofNat (92 : Nat)) = false → (decide ((↑(b.getD (0 : Nat) (0 : UInt8)).toNat : Int) = Int.ofNat (3 : Nat)) = true → (decide ((↑b.length : Int) = Int.ofNat (64 : Nat)) = true → (↑(b.getD (0 : Nat) (0 : UInt8)).toNat : Int) = kindL b ∧ True) ∧ (decide ((↑b.length : Int) = Int.ofNat (64 : Nat)) = false → (decide ((↑(b.getD (0 : Nat) (0 : UInt8)).toNat : Int) = Int.ofNat (4 : Nat)) = true → (decide (Int.ofNat (32 : Nat) ≤ (↑b.length : Int)) = true → (decide ((↑b.length : Int) ≤ Int.ofNat (2100 : Nat)) = true → (↑(b.getD (0 : Nat) (0 : UInt8)).toNat : Int) = kindL b ∧ True) ∧ (decide ((↑b.length : Int) ≤ Int.ofNat (2100 : Nat)) = false → Int.ofNat (0 : Nat) = kindL b ∧ True)) ∧ (decide (Int.ofNat (32 : Nat) ≤ (↑b.length : Int)) = false → Int.ofNat (0 : Nat) = kindL b ∧ True)) ∧ (decide ((↑(b.getD (0 : Nat) (0 : UInt8)).toNat : Int) = Int.ofNat (4 : Nat)) = false → Int.ofNat (0 : Nat) = kindL b ∧ True))) ∧ (decide ((↑(b.getD (0 : Nat) (0 : UInt8)).toNat : Int) = Int.ofNat (3 : Nat)) = false → (decide ((↑(b.getD (0 : Nat) (0 : UInt8)).toNat : Int) = Int.ofNat (4 : Nat)) = true → (decide (Int.ofNat (32 : Nat) ≤ (↑b.length : Int)) = true → (decide ((↑b.length : Int) ≤ Int.ofNat (2100 : Nat)) = true → (↑(b.getD (0 : Nat) (0 : UInt8)).toNat : Int) = kindL b ∧ True) ∧ (decide ((↑b.length : Int) ≤ Int.ofNat (2100 : Nat)) = false → Int.ofNat (0 : Nat) = kindL b ∧ True)) ∧ (decide (Int.ofNat (32 : Nat) ≤ (↑b.length : Int)) = false → Int.ofNat (0 : Nat) = kindL b ∧ True)) ∧ (decide ((↑(b.getD (0 : Nat) (0 : UInt8)).toNat : Int) = Int.ofNat (4 : Nat)) = false → Int.ofNat (0 : Nat) = kindL b ∧ True)))) ∧ (decide ((↑(b.getD (0 : Nat) (0 : UInt8)).toNat : Int) = Int.ofNat (2 : Nat)) = false → (decide ((↑(b.getD (0 : Nat) (0 : UInt8)).toNat : Int) = Int.ofNat (3 : Nat)) = true → (decide ((↑b.length : Int) = Int.ofNat (64 : Nat)) = true → (↑(b.getD (0 : Nat) (0 : UInt8)).toNat : Int) = kindL b ∧ True) ∧ (decide ((↑b.length : Int) = Int.ofNat (64 : Nat)) = false → (decide ((↑(b.getD (0 : Nat) (0 : UInt8)).toNat : Int) = Int.ofNat (4 : Nat)) = true → (decide (Int.ofNat (32 : Nat) ≤ (↑b.length : Int)) = true → (decide ((↑b.length : Int) ≤ Int.ofNat (2100 : Nat)) = true → (↑(b.getD (0 : Nat) (0 : UInt8)).toNat : Int) = kindL b ∧ True) ∧ (decide ((↑b.length : Int) ≤ Int.ofNat (2100 : Nat)) = false → Int.ofNat (0 : Nat) = kindL b ∧ True)) ∧ (decide (Int.ofNat (32 : Nat) ≤ (↑b.length : Int)) = false → Int.ofNat (0 : Nat) = kindL b ∧ True)) ∧ (decide ((↑(b.getD (0 : Nat) (0 : UInt8)).toNat : Int) = Int.ofNat (4 : Nat)) = false → Int.ofNat (0 : Nat) = kindL b ∧ True))) ∧ (decide ((↑(b.getD (0 : Nat) (0 : UInt8)).toNat : Int) = Int.ofNat (3 : Nat)) = false → (decide ((↑(b.getD (0 : Nat) (0 : UInt8)).toNat : Int) = Int.ofNat (4 : Nat)) = true → (decide (Int.ofNat (32 : Nat) ≤ (↑b.length : Int)) = true → (decide ((↑b.length : Int) ≤ Int.ofNat (2100 : Nat)) = true → (↑(b.getD (0 : Nat) (0 : UInt8)).toNat : Int) = kindL b ∧ True) ∧ (decide ((↑b.length : Int) ≤ Int.ofNat (2100 : Nat)) = false → Int.ofNat (0 : Nat) = kindL b ∧ True)) ∧ (decide (Int.ofNat (32 : Nat) ≤ (↑b.length : Int)) = false → Int.ofNat (0 : Nat) = kindL b ∧ True)) ∧ (decide ((↑(b.getD (0 : Nat) (0 : UInt8)).toNat : Int) = Int.ofNat (4 : Nat)) = false → Int.ofNat (0 : Nat) = kindL b ∧ True))))))))) := by kernel_rfl
set_option maxRecDepth 100000 in
theorem vcDTran (b : List UInt8) : (vcFn MEd 100 12 [.s (.xs 1 (.s b.length) (.u8 b))] (dTran b)) =
  (b.length = b.length ∧ b.length ≤ (4294967296 : Nat) ∧ ∀ (y : Int), y = kindL b → (decide (y ≠ Int.ofNat (4 : Nat)) = true → ∀ (y : UInt32), y = (0 : UInt32) → ∀ (y_1 : UInt64), y_1 = (0 : UInt64) → y = fld32 (4 : Int) b (4 : Nat) ∧ y_1 = fld64 (4 : Int) b (8 : Nat) ∧ (fldR (4 : Int) b (16 : Nat)).length = (0 : Nat) ∧ (fldR (4 : Int) b (16 : Nat)).length = (0 : Nat) ∧ Int.ofNat (4 : Nat) = decE (4 : Int) b ∧ True) ∧ (decide (y ≠ Int.ofNat (4 : Nat)) = false → (4 : Nat) ≤ b.length ∧ ∀ (y : UInt32), y = UInt32.ofNat (nat_lit 0) → (4 : Nat) ≤ b.length - (4 : Nat) ∧ (4 : Nat) ≤ b.length - (4 : Nat) ∧ (List.take (4 : Nat) (dropL b (4 : Nat))).length = (List.take (4 : Nat) (dropL b (4 : Nat))).length ∧ (List.take (4 : Nat) (dropL b (4 : Nat))).length < (4611686018427387904 : Nat) ∧ ∀ (y : UInt64), y = readL (List.take (4 : Nat) (dropL b (4 : Nat))) → ∀ (y_1 : UInt32), y_1 = y.toUInt32 → ∀ (y : UInt32), y = y_1 → ∀ (y_2 : UInt64), y_2 = (0 : UInt64) → (8 : Nat) ≤ b.length - (4 : Nat) - (4 : Nat) ∧ (8 : Nat) ≤ b.length - (4 : Nat) - (4 : Nat) ∧ (List.take (8 : Nat) (dropL (dropL b (4 : Nat)) (4 : Nat))).length = (List.take (8 : Nat) (dropL (dropL b (4 : Nat)) (4 : Nat))).length ∧ (List.take (8 : Nat) (dropL (dropL b (4 : Nat)) (4 : Nat))).length < (4611686018427387904 : Nat) ∧ ∀ (y_3 : UInt64), y_3 = readL (List.take (8 : Nat) (dropL (dropL b (4 : Nat)) (4 : Nat))) → ∀ (y_4 : UInt32), y_4 = y → ∀ (y : UInt64), y = y_3 → b.length - (4 : Nat) - (4 : Nat) - (8 : Nat) ≤ (4294967296 : Nat) ∧ ∀ (y_5 : List UInt8), y_5 = dropL (dropL (dropL b (4 : Nat)) (4 : Nat)) (8 : Nat) → ∀ (y_6 : UInt32), y_6 = y_4 → ∀ (y_7 : UInt64), y_7 = y → ∀ (y : UInt32), y = y_6 → ∀ (y_8 : UInt64), y_8 = y_7 → y = fld32 (4 : Int) b (4 : Nat) ∧ y_8 = fld64 (4 : Int) b (8 : Nat) ∧ (0 : Nat) + (b.length - (4 : Nat) - (4 : Nat) - (8 : Nat)) ≤ b.length - (4 : Nat) - (4 : Nat) - (8 : Nat) ∧ b.length - (4 : Nat) - (4 : Nat) - (8 : Nat) = (fldR (4 : Int) b (16 : Nat)).length ∧ List.take (b.length - (4 : Nat) - (4 : Nat) - (8 : Nat)) (dropL (dropL y_5 (0 : Nat)) (0 : Nat)) = fldR (4 : Int) b (16 : Nat) ∧ Int.ofNat (0 : Nat) = decE (4 : Int) b ∧ True)) := by kernel_rfl
set_option maxRecDepth 100000 in
theorem vcKindR (b : List UInt8) : (vcFn MEk 100 53 [.s (.xs 1 (.s b.length) (.u8 b))] (.s (.i64 (kindL b)))) =
  ((decide ((↑b.length : Int) < Int.ofNat (4 : Nat)) = true → Int.ofNat (0 : Nat) = kindL b ∧ True) ∧ (decide ((↑b.length : Int) < Int.ofNat (4 : Nat)) = false → (1 : Nat) < b.length ∧ (1 : Nat) < b.length ∧ ((b.getD (1 : Nat) (0 : UInt8) != UInt8.ofNat (nat_lit 0)) = true → Int.ofNat (0 : Nat) = kindL b ∧ True) ∧ ((b.getD (1 : Nat) (0 : UInt8) != UInt8.ofNat (nat_lit 0)) = false → (2 : Nat) < b.length ∧ (2 : Nat) < b.length ∧ ((b.getD (2 : Nat) (0 : UInt8) != UInt8.ofNat (nat_lit 0)) = true → Int.ofNat (0 : Nat) = kindL b ∧ True) ∧ ((b.getD (2 : Nat) (0 : UInt8) != UInt8.ofNat (nat_lit 0)) = false → (3 : Nat) < b.length ∧ (3 : Nat) < b.length ∧ ((b.getD (3 : Nat) (0 : UInt8) != UInt8.ofNat (nat_lit 0)) = true → Int.ofNat (0 : Nat) = kindL b ∧ True) ∧ ((b.getD (3 : Nat) (0 : UInt8) != UInt8.ofNat (nat_lit 0)) = false → (0 : Nat) < b.length ∧ (0 : Nat) < b.length ∧ ((b.getD (0 : Nat) (0 : UInt8) == UInt8.ofNat (nat_lit 1)) = true → (decide ((↑b.length : Int) = Int.ofNat (148 : Nat)) = true → (0 : Nat) < b.length ∧ (0 : Nat) < b.length ∧ (↑(b.getD (0 : Nat) (0 : UInt8)).toNat : Int) = kindL b ∧ True) ∧ (decide ((↑b.length : Int) = Int.ofNat (148 : Nat)) = false → (0 : Nat) < b.length ∧ (0 : Nat) < b.length ∧ ((b.getD (0 : Nat) (0 : UInt8) == UInt8.ofNat (nat_lit 2)) = true → (decide ((↑b.length : Int) = Int.ofNat (92 : Nat)) = true → (0 : Nat) < b.length ∧ (0 : Nat) < b.length ∧ (↑(b.getD (0 : Nat) (0 : UInt8)).toNat : Int) = kindL b ∧ True) ∧ (decide ((↑b.length : Int) = Int.ofNat (92 : Nat)) = false → (0 : Nat) < b.length ∧ (0 : Nat) < b.length ∧ ((b.getD (0 : Nat) (0 : UInt8) == UInt8.ofNat (nat_lit 3)) = true → (decide ((↑b.length : Int) = Int.ofNat (64 : Nat)) = true → (0 : Nat) < b.length ∧ (0 : Nat) < b.length ∧ (↑(b.getD (0 : Nat) (0 : UInt8)).toNat : Int) = kindL b ∧ True) ∧ (decide ((↑b.length : Int) = Int.ofNat (64 : Nat)) = false → (0 : Nat) < b.length ∧ (0 : Nat) < b.length ∧ ((b.getD (0 : Nat) (0 : UInt8) == UInt8.ofNat (nat_lit 4)) = true → (decide (Int.ofNat (32 : Nat) ≤ (↑b.length : Int)) = true → (decide ((↑b.length : Int) ≤ Int.ofNat (2100 : Nat)) = true → (0 : Nat) < b.length ∧ (0 : Nat) < b.length ∧ (↑(b.getD (0 : Nat) (0 : UInt8)).toNat : Int) = kindL b ∧ True) ∧ (decide ((↑b.length : Int) ≤ Int.ofNat (2100 : Nat)) = false → Int.ofNat (0 : Nat) = kindL b ∧ True)) ∧ (decide (Int.ofNat (32 : Nat) ≤ (↑b.length : Int)) = false → Int.ofNat (0 : Nat) = kindL b ∧ True)) ∧ ((b.getD (0 : Nat) (0 : UInt8) == UInt8.ofNat (nat_lit 4)) = false → Int.ofNat (0 : Nat) = kindL b ∧ True))) ∧ ((b.getD (0 : Nat) (0 : UInt8) == UInt8.ofNat (nat_lit 3)) = false → (0 : Nat) < b.length ∧ (0 : Nat) < b.length ∧ ((b.getD (0 : Nat) (0 : UInt8) == UInt8.ofNat (nat_lit 4)) = true → (decide (Int.ofNat (32 : Nat) ≤ (↑b.length : Int)) = true → (decide ((↑b.length : Int) ≤ Int.ofNat (2100 : Nat)) = true → (0 : Nat) < b.length ∧ (0 : Nat) < b.length ∧ (↑(b.getD (0 : Nat) (0 : UInt8)).toNat : Int) = kindL b ∧ True) ∧ (decide ((↑b.length : Int) ≤ Int.ofNat (2100 : Nat)) = false → Int.ofNat (0 : Nat) = kindL b ∧ True)) ∧ (decide (Int.ofNat (32 : Nat) ≤ (↑b.length : Int)) = false → Int.ofNat (0 : Nat) = kindL b ∧ True)) ∧ ((b.getD (0 : Nat) (0 : UInt8) == UInt8.ofNat (nat_lit 4)) = false → Int.ofNat (0 : Nat) = kindL b ∧ True)))) ∧ ((b.getD (0 : Nat) (0 : UInt8) == UInt8.ofNat (nat_lit 2)) = false → (0 : Nat) < b.length ∧ (0 : Nat) < b.length ∧ ((b.getD (0 : Nat) (0 : UInt8) == UInt8.ofNat (nat_lit 3)) = true → (decide ((↑b.length : Int) = Int.ofNat (64 : Nat)) = true → (0 : Nat) < b.length ∧ (0 : Nat) < b.length ∧ (↑(b.getD (0 : Nat) (0 : UInt8)).toNat : Int) = kindL b ∧ True) ∧ (decide ((↑b.length : Int) = Int.ofNat (64 : Nat)) = false → (0 : Nat) < b.length ∧ (0 : Nat) < b.length ∧ ((b.getD (0 : Nat) (0 : UInt8) == UInt8.ofNat (nat_lit 4)) = true → (decide (Int.ofNat (32 : Nat) ≤ (↑b.length : Int)) = true → (decide ((↑b.length : Int) ≤ Int.ofNat (2100 : Nat)) = true → (0 : Nat) < b.length ∧ (0 : Nat) < b.length ∧ (↑(b.getD (0 : Nat) (0 : UInt8)).toNat : Int) = kindL b ∧ True) ∧ (decide ((↑b.length : Int) ≤ Int.ofNat (2100 : Nat)) = false → Int.ofNat (0 : Nat) = kindL b ∧ True)) ∧ (decide (Int.ofNat (32 : Nat) ≤ (↑b.length : Int)) = false → Int.ofNat (0 : Nat) = kindL b ∧ True)) ∧ ((b.getD (0 : Nat) (0 : UInt8) == UInt8.ofNat (nat_lit 4)) = false → Int.ofNat (0 : Nat) = kindL b ∧ True))) ∧ ((b.getD (0 : Nat) (0 : UInt8) == UInt8.ofNat (nat_lit 3)) = false → (0 : Nat) < b.length ∧ (0 : Nat) < b.length ∧ ((b.getD (0 : Nat) (0 : UInt8) == UInt8.ofNat (nat_lit 4)) = true → (decide (Int.ofNat (32 : Nat) ≤ (↑b.length : Int)) = true → (decide ((↑b.length : Int) ≤ Int.ofNat (2100 : Nat)) = true → (0 : Nat) < b.length ∧ (0 : Nat) < b.length ∧ (↑(b.getD (0 : Nat) (0 : UInt8)).toNat : Int) = kindL b ∧ True) ∧ (decide ((↑b.length : Int) ≤ Int.ofNat (2100 : Nat)) = false → Int.ofNat (0 : Nat) = kindL b ∧ True)) ∧ (decide (Int.ofNat (32 : Nat) ≤ (↑b.length : Int)) = false → Int.ofNat (0 : Nat) = kindL b ∧ True)) ∧ ((b.getD (0 : Nat) (0 : UInt8) == UInt8.ofNat (nat_lit 4)) = false → Int.ofNat (0 : Nat) = kindL b ∧ True))))) ∧ ((b.getD (0 : Nat) (0 : UInt8) == UInt8.ofNat (nat_lit 1)) = false → (0 : Nat) < b.length ∧ (0 : Nat) < b.length ∧ ((b.getD (0 : Nat) (0 : UInt8) == UInt8.ofNat (nat_lit 2)) = true → (decide ((↑b.length : Int) = Int.ofNat (92 : Nat)) = true → (0 : Nat) < b.length ∧ (0 : Nat) < b.length ∧ (↑(b.getD (0 : Nat) (0 : UInt8)).toNat : Int) = kindL b ∧ True) ∧ (decide ((↑b.length : Int) = Int.ofNat (92 : Nat)) = false → (0 : Nat) < b.length ∧ (0 : Nat) < b.length ∧ ((b.getD (0 : Nat) (0 : UInt8) == UInt8.ofNat (nat_lit 3)) = true → (decide ((↑b.length : Int) = Int.ofNat (64 : Nat)) = true → (0 : Nat) < b.length ∧ (0 : Nat) < b.length ∧ (↑(b.getD (0 : Nat) (0 : UInt8)).toNat : Int) = kindL b ∧ True) ∧ (decide ((↑b.length : Int) = Int.ofNat (64 : Nat)) = false → (0 : Nat) < b.length ∧ (0 : Nat) < b.length ∧ ((b.getD (0 : Nat) (0 : UInt8) == UInt8.ofNat (nat_lit 4)) = true → (decide (Int.ofNat (32 : Nat) ≤ (↑b.length : Int)) = true → (decide ((↑b.length : Int) ≤ Int.ofNat (2100 : Nat)) = true → (0 : Nat) < b.length ∧ (0 : Nat) < b.length ∧ (↑(b.getD (0 : Nat) (0 : UInt8)).toNat : Int) = kindL b ∧ True) ∧ (decide ((↑b.length : Int) ≤ Int.ofNat (2100 : Nat)) = false → Int.ofNat (0 : Nat) = kindL b ∧ True)) ∧ (decide (Int.ofNat (32 : Nat) ≤ (↑b.length : Int)) = false → Int.ofNat (0 : Nat) = kindL b ∧ True)) ∧ ((b.getD (0 : Nat) (0 : UInt8) == UInt8.ofNat (nat_lit 4)) = false → Int.ofNat (0 : Nat) = kindL b ∧ True))) ∧ ((b.getD (0 : Nat) (0 : UInt8) == UInt8.ofNat (nat_lit 3)) = false → (0 : Nat) < b.length ∧ (0 : Nat) < b.length ∧ ((b.getD (0 : Nat) (0 : UInt8) == UInt8.ofNat (nat_lit 4)) = true → (decide (Int.ofNat (32 : Nat) ≤ (↑b.length : Int)) = true → (decide ((↑b.length : Int) ≤ Int.ofNat (2100 : Nat)) = true → (0 : Nat) < b.length ∧ (0 : Nat) < b.length ∧ (↑(b.getD (0 : Nat) (0 : UInt8)).toNat : Int) = kindL b ∧ True) ∧ (decide ((↑b.length : Int) ≤ Int.ofNat (2100 : Nat)) = false → Int.ofNat (0 : Nat) = kindL b ∧ True)) ∧ (decide (Int.ofNat (32 : Nat) ≤ (↑b.length : Int)) = false → Int.ofNat (0 : Nat) = kindL b ∧ True)) ∧ ((b.getD (0 : Nat) (0 : UInt8) == UInt8.ofNat (nat_lit 4)) = false → Int.ofNat (0 : Nat) = kindL b ∧ True)))) ∧ ((b.getD (0 : Nat) (0 : UInt8) == UInt8.ofNat (nat_lit 2)) = false → (0 : Nat) < b.length ∧ (0 : Nat) < b.length ∧ ((b.getD (0 : Nat) (0 : UInt8) == UInt8.ofNat (nat_lit 3)) = true → (decide ((↑b.length : Int) = Int.ofNat (64 : Nat)) = true → (0 : Nat) < b.length ∧ (0 : Nat) < b.length ∧ (↑(b.getD (0 : Nat) (0 : UInt8)).toNat : Int) = kindL b ∧ True) ∧ (decide ((↑b.length : Int) = Int.ofNat (64 : Nat)) = false → (0 : Nat) < b.length ∧ (0 : Nat) < b.length ∧ ((b.getD (0 : Nat) (0 : UInt8) == UInt8.ofNat (nat_lit 4)) = true → (decide (Int.ofNat (32 : Nat) ≤ (↑b.length : Int)) = true → (decide ((↑b.length : Int) ≤ Int.ofNat (2100 : Nat)) = true → (0 : Nat) < b.length ∧ (0 : Nat) < b.length ∧ (↑(b.getD (0 : Nat) (0 : UInt8)).toNat : Int) = kindL b ∧ True) ∧ (decide ((↑b.length : Int) ≤ Int.ofNat (2100 : Nat)) = false → Int.ofNat (0 : Nat) = kindL b ∧ True)) ∧ (decide (Int.ofNat (32 : Nat) ≤ (↑b.length : Int)) = false → Int.ofNat (0 : Nat) = kindL b ∧ True)) ∧ ((b.getD (0 : Nat) (0 : UInt8) == UInt8.ofNat (nat_lit 4)) = false → Int.ofNat (0 : Nat) = kindL b ∧ True))) ∧ ((b.getD (0 : Nat) (0 : UInt8) == UInt8.ofNat (nat_lit 3)) = false → (0 : Nat) < b.length ∧ (0 : Nat) < b.length ∧ ((b.getD (0 : Nat) (0 : UInt8) == UInt8.ofNat (nat_lit 4)) = true → (decide (Int.ofNat (32 : Nat) ≤ (↑b.length : Int)) = true → (decide ((↑b.length : Int) ≤ Int.ofNat (2100 : Nat)) = true → (0 : Nat) < b.length ∧ (0 : Nat) < b.length ∧ (↑(b.getD (0 : Nat) (0 : UInt8)).toNat : Int) = kindL b ∧ True) ∧ (decide ((↑b.length : Int) ≤ Int.ofNat (2100 : Nat)) = false → Int.ofNat (0 : Nat) = kindL b ∧ True)) ∧ (decide (Int.ofNat (32 : Nat) ≤ (↑b.length : Int)) = false → Int.ofNat (0 : Nat) = kindL b ∧ True)) ∧ ((b.getD (0 : Nat) (0 : UInt8) == UInt8.ofNat (nat_lit 4)) = false → Int.ofNat (0 : Nat) = kindL b ∧ True))))))))) := by kernel_rfl
set_option maxRecDepth 100000 in
theorem vcN32 (b : List UInt8) : (vcFn MEn 100 54 [.s (.xs 1 (.s b.length) (.u8 b))] (.s (.u32 (readL (b.take 4)).toUInt32))) =
  ((4 : Nat) ≤ b.length ∧ (List.take (4 : Nat) b).length = (List.take (4 : Nat) b).length ∧ (List.take (4 : Nat) b).length < (4611686018427387904 : Nat) ∧ (readL (List.take (4 : Nat) b)).toUInt32 = (readL (List.take (4 : Nat) b)).toUInt32 ∧ True) := by kernel_rfl
set_option maxRecDepth 100000 in
theorem vcDTranR (b : List UInt8) : (vcFn MEr 100 40 [.s (.xs 1 (.s b.length) (.u8 b))] (dTran b)) =
  (b.length = b.length ∧ b.length ≤ (4294967296 : Nat) ∧ ∀ (y : Int), y = kindL b → (decide (y ≠ Int.ofNat (4 : Nat)) = true → ∀ (y : UInt32), y = (0 : UInt32) → ∀ (y_1 : UInt64), y_1 = (0 : UInt64) → y = fld32 (4 : Int) b (4 : Nat) ∧ y_1 = fld64 (4 : Int) b (8 : Nat) ∧ (fldR (4 : Int) b (16 : Nat)).length = (0 : Nat) ∧ (fldR (4 : Int) b (16 : Nat)).length = (0 : Nat) ∧ Int.ofNat (4 : Nat) = decE (4 : Int) b ∧ True) ∧ (decide (y ≠ Int.ofNat (4 : Nat)) = false → (4 : Nat) ≤ b.length ∧ (dropL b (4 : Nat)).length = (dropL b (4 : Nat)).length ∧ (4 : Nat) ≤ (dropL b (4 : Nat)).length ∧ ∀ (y : UInt32), y = (readL (List.take (4 : Nat) (dropL b (4 : Nat)))).toUInt32 → (16 : Nat) ≤ b.length ∧ (List.take (8 : Nat) (dropL b (8 : Nat))).length = (List.take (8 : Nat) (dropL b (8 : Nat))).length ∧ (List.take (8 : Nat) (dropL b (8 : Nat))).length < (4611686018427387904 : Nat) ∧ ∀ (y_1 : UInt64), y_1 = readL (List.take (8 : Nat) (dropL b (8 : Nat))) → (16 : Nat) ≤ b.length ∧ (0 : Nat) + (b.length - (16 : Nat)) ≤ (4294967296 : Nat) ∧ ∀ (y_2 : List UInt8), y_2 = [] ++ dropL b (16 : Nat) → ∀ (y_3 : UInt32), y_3 = y → ∀ (y : UInt64), y = y_1 → y_3 = fld32 (4 : Int) b (4 : Nat) ∧ y = fld64 (4 : Int) b (8 : Nat) ∧ (0 : Nat) + ((0 : Nat) + (b.length - (16 : Nat))) ≤ (0 : Nat) + (b.length - (16 : Nat)) ∧ (0 : Nat) + (b.length - (16 : Nat)) = (fldR (4 : Int) b (16 : Nat)).length ∧ List.take ((0 : Nat) + (b.length - (16 : Nat))) (dropL (dropL y_2 (0 : Nat)) (0 : Nat)) = fldR (4 : Int) b (16 : Nat) ∧ Int.ofNat (0 : Nat) = decE (4 : Int) b ∧ True)) := by kernel_rfl
end Go.Proofs.Ytimjfjlaoekfkaa

/- A step towards SessionExchangesSaid: no conditions. -/
namespace Go.Proofs.Ytimjfjlaoekfkaa
open Go Go.Eng Go.Cod
noncomputable def ERL : Env := mkE Try.prog [] [(0, JReadL)] 2
noncomputable def ERr : Env := mkE Try.prog [] [(0, JReadLr)] 2
noncomputable def EJo : Env := mkE Try.prog [] [(0, JJoin)] 2
noncomputable def ELi : Env := mkE Try.prog [] [(0, JLittle 14 [0, 1, 4, 13])] 2
noncomputable def ELr : Env := mkE Try.prog [] [(0, JLittle 6 [0, 1, 4])] 2
set_option maxRecDepth 100000 in
theorem vcLittle (n : UInt64) (s : Int) : (vcFn ELi 100 36 [.s (.u64 n), .s (.i64 s)] (.s (.xs 1 (.s s.toNat) (.u8 (littleL n s.toNat))))) =
  ((decide (s < Int.ofNat (1 : Nat)) = true → s.toNat = (0 : Nat) ∧ (littleL n s.toNat).length = (0 : Nat) ∧ True) ∧ (decide (s < Int.ofNat (1 : Nat)) = false → (decide (Int.ofNat (8 : Nat) < s) = true → s.toNat = (0 : Nat) ∧ (littleL n s.toNat).length = (0 : Nat) ∧ True) ∧ (decide (Int.ofNat (8 : Nat) < s) = false → (∃ (x : Nat), (↑x : Int) ≤ s ∧ n = n ∧ s = s ∧ x = (0 : Nat) ∧ s = s ∧ Int.ofNat (0 : Nat) = (↑x : Int) ∧ x = (0 : Nat) ∧ (littleL n x).length = (0 : Nat) ∧ True) ∧ ∀ (x : Nat), (↑x : Int) ≤ s → (decide ((↑x : Int) < s) = true → InI (Int.ofNat (8 : Nat) * (↑x : Int)) ∧ (0 : Int) ≤ Int.ofNat (8 : Nat) * (↑x : Int) ∧ x = x ∧ x + (1 : Nat) ≤ (4294967296 : Nat) ∧ InI ((↑x : Int) + Int.ofNat (1 : Nat)) ∧ ∃ (y : Nat), (↑y : Int) ≤ s ∧ s.toNat - y < s.toNat - x ∧ n = n ∧ s = s ∧ x + (1 : Nat) = y ∧ s = s ∧ (↑x : Int) + Int.ofNat (1 : Nat) = (↑y : Int) ∧ x + (1 : Nat) = y ∧ littleL n x ++ [(shr64 n (Int.ofNat (8 : Nat) * (↑x : Int)).toNat).toUInt8] = littleL n y ∧ True) ∧ (decide ((↑x : Int) < s) = false → (0 : Nat) + x ≤ x ∧ x = s.toNat ∧ List.take x (dropL (dropL (littleL n x) (0 : Nat)) (0 : Nat)) = littleL n s.toNat ∧ True)))) := by kernel_rfl
set_option maxRecDepth 100000 in
theorem vcLittleR (n : UInt64) (s : Int) : (vcFn ELr 100 47 [.s (.u64 n), .s (.i64 s)] (.s (.xs 1 (.s s.toNat) (.u8 (littleL n s.toNat))))) =
  ((decide (s < Int.ofNat (1 : Nat)) = true → s.toNat = (0 : Nat) ∧ (littleL n s.toNat).length = (0 : Nat) ∧ True) ∧ (decide (s < Int.ofNat (1 : Nat)) = false → (decide (Int.ofNat (8 : Nat) < s) = true → s.toNat = (0 : Nat) ∧ (littleL n s.toNat).length = (0 : Nat) ∧ True) ∧ (decide (Int.ofNat (8 : Nat) < s) = false → (∃ (x : Nat), (↑x : Int) ≤ s ∧ n = n ∧ s = s ∧ x = (0 : Nat) ∧ Int.ofNat (0 : Nat) = (↑x : Int) ∧ x = (0 : Nat) ∧ (littleL n x).length = (0 : Nat) ∧ True) ∧ ∀ (x : Nat), (↑x : Int) ≤ s → (decide ((↑x : Int) < s) = true → InI (Int.ofNat (8 : Nat) * (↑x : Int)) ∧ (0 : Int) ≤ Int.ofNat (8 : Nat) * (↑x : Int) ∧ x = x ∧ x + (1 : Nat) ≤ (4294967296 : Nat) ∧ InI ((↑x : Int) + Int.ofNat (1 : Nat)) ∧ ∃ (y : Nat), (↑y : Int) ≤ s ∧ s.toNat - y < s.toNat - x ∧ n = n ∧ s = s ∧ x + (1 : Nat) = y ∧ (↑x : Int) + Int.ofNat (1 : Nat) = (↑y : Int) ∧ x + (1 : Nat) = y ∧ littleL n x ++ [(shr64 n (Int.ofNat (8 : Nat) * (↑x : Int)).toNat).toUInt8] = littleL n y ∧ True) ∧ (decide ((↑x : Int) < s) = false → (0 : Nat) + x ≤ x ∧ x = s.toNat ∧ List.take x (dropL (dropL (littleL n x) (0 : Nat)) (0 : Nat)) = littleL n s.toNat ∧ True)))) := by kernel_rfl
set_option maxRecDepth 100000 in
theorem vcReadL (l : List UInt8) : (vcFn ERL 100 30 [.s (.xs 1 (.s l.length) (.u8 l))] (.s (.u64 (readL l)))) =
  ((∃ (x : Nat), x ≤ min l.length (8 : Nat) ∧ l.length = l.length ∧ l = l ∧ UInt64.ofNat (nat_lit 0) = UInt64.ofNat (nat_lit 0) ∧ UInt64.ofNat (nat_lit 0) = readL (List.take x l) ∧ min (↑l.length : Int) (Int.ofNat (8 : Nat)) = min (↑l.length : Int) (Int.ofNat (8 : Nat)) ∧ Int.ofNat (0 : Nat) = (↑x : Int) ∧ True) ∧ ∀ (x : Nat), x ≤ min l.length (8 : Nat) → (decide ((↑x : Int) < min (↑l.length : Int) (Int.ofNat (8 : Nat))) = true → ((0 : Int) ≤ (↑x : Int) ∧ (↑x : Int) < (↑l.length : Int)) ∧ (↑x : Int).toNat < l.length ∧ InI (Int.ofNat (8 : Nat) * (↑x : Int)) ∧ (0 : Int) ≤ Int.ofNat (8 : Nat) * (↑x : Int) ∧ InI ((↑x : Int) + Int.ofNat (1 : Nat)) ∧ ∃ (y : Nat), y ≤ min l.length (8 : Nat) ∧ (8 : Nat) - y < (8 : Nat) - x ∧ l.length = l.length ∧ l = l ∧ UInt64.ofNat (nat_lit 0) = UInt64.ofNat (nat_lit 0) ∧ readL (List.take x l) ||| shl64 (l.getD (↑x : Int).toNat (0 : UInt8)).toUInt64 (Int.ofNat (8 : Nat) * (↑x : Int)).toNat = readL (List.take y l) ∧ min (↑l.length : Int) (Int.ofNat (8 : Nat)) = min (↑l.length : Int) (Int.ofNat (8 : Nat)) ∧ (↑x : Int) + Int.ofNat (1 : Nat) = (↑y : Int) ∧ True) ∧ (decide ((↑x : Int) < min (↑l.length : Int) (Int.ofNat (8 : Nat))) = false → readL (List.take x l) = readL l ∧ True)) := by kernel_rfl
set_option maxRecDepth 100000 in
theorem vcReadLr (l : List UInt8) : (vcFn ERr 100 55 [.s (.xs 1 (.s l.length) (.u8 l))] (.s (.u64 (readL l)))) =
  (InI ((↑l.length : Int) - Int.ofNat (1 : Nat)) ∧ (∃ (x : Nat), x ≤ l.length ∧ l.length = l.length ∧ l = l ∧ UInt64.ofNat (nat_lit 0) = UInt64.ofNat (nat_lit 0) ∧ UInt64.ofNat (nat_lit 0) = readL (List.drop x l) ∧ (↑l.length : Int) - Int.ofNat (1 : Nat) = (↑x : Int) - (1 : Int) ∧ True) ∧ ∀ (x : Nat), x ≤ l.length → (decide (Int.ofNat (0 : Nat) ≤ (↑x : Int) - (1 : Int)) = true → ((0 : Int) ≤ (↑x : Int) - (1 : Int) ∧ (↑x : Int) - (1 : Int) < (↑l.length : Int)) ∧ ((↑x : Int) - (1 : Int)).toNat < l.length ∧ InI ((↑x : Int) - (1 : Int) - Int.ofNat (1 : Nat)) ∧ ∃ (y : Nat), y ≤ l.length ∧ y < x ∧ l.length = l.length ∧ l = l ∧ UInt64.ofNat (nat_lit 0) = UInt64.ofNat (nat_lit 0) ∧ shl64 (readL (List.drop x l)) (8 : Nat) ||| (l.getD ((↑x : Int) - (1 : Int)).toNat (0 : UInt8)).toUInt64 = readL (List.drop y l) ∧ (↑x : Int) - (1 : Int) - Int.ofNat (1 : Nat) = (↑y : Int) - (1 : Int) ∧ True) ∧ (decide (Int.ofNat (0 : Nat) ≤ (↑x : Int) - (1 : Int)) = false → readL (List.drop x l) = readL l ∧ True)) := by kernel_rfl
set_option maxRecDepth 100000 in
theorem vcJoin (ls : List (List UInt8)) : (vcFn EJo 100 35 [.s (.xs 1 (.s ls.length) (.sl ls))] (.s (.xs 1 (.s ls.flatten.length) (.u8 ls.flatten)))) =
  ((∃ (x : Nat), x ≤ ls.length ∧ ls.length = ls.length ∧ ls = ls ∧ (List.take x ls).flatten.length = (0 : Nat) ∧ ls.length = ls.length ∧ ls = ls ∧ (↑ls.length : Int) = (↑ls.length : Int) ∧ Int.ofNat (0 : Nat) = (↑x : Int) ∧ (List.take x ls).flatten.length = (0 : Nat) ∧ (List.take x ls).flatten.length = (0 : Nat) ∧ True) ∧ ∀ (x : Nat), x ≤ ls.length → (decide ((↑x : Int) < (↑ls.length : Int)) = true → ((0 : Int) ≤ (↑x : Int) ∧ (↑x : Int) < (↑ls.length : Int)) ∧ (↑x : Int).toNat < ls.length ∧ (List.take x ls).flatten.length = (List.take x ls).flatten.length ∧ (List.take x ls).flatten.length + (ls.getD (↑x : Int).toNat []).length ≤ (4294967296 : Nat) ∧ InI ((↑x : Int) + Int.ofNat (1 : Nat)) ∧ ∃ (y : Nat), y ≤ ls.length ∧ ls.length - y < ls.length - x ∧ ls.length = ls.length ∧ ls = ls ∧ (List.take x ls).flatten.length + (ls.getD (↑x : Int).toNat []).length = (List.take y ls).flatten.length ∧ ls.length = ls.length ∧ ls = ls ∧ (↑ls.length : Int) = (↑ls.length : Int) ∧ (↑x : Int) + Int.ofNat (1 : Nat) = (↑y : Int) ∧ (List.take x ls).flatten.length + (ls.getD (↑x : Int).toNat []).length = (List.take y ls).flatten.length ∧ (List.take x ls).flatten ++ ls.getD (↑x : Int).toNat [] = (List.take y ls).flatten ∧ True) ∧ (decide ((↑x : Int) < (↑ls.length : Int)) = false → (0 : Nat) + (List.take x ls).flatten.length ≤ (List.take x ls).flatten.length ∧ (List.take x ls).flatten.length = ls.flatten.length ∧ List.take (List.take x ls).flatten.length (dropL (dropL (List.take x ls).flatten (0 : Nat)) (0 : Nat)) = ls.flatten ∧ True)) := by kernel_rfl
set_option maxRecDepth 100000 in
theorem vcJoinR (ls : List (List UInt8)) : (vcFn EJo 100 48 [.s (.xs 1 (.s ls.length) (.sl ls))] (.s (.xs 1 (.s ls.flatten.length) (.u8 ls.flatten)))) =
  ((∃ (x : Nat), x ≤ ls.length ∧ ls.length = ls.length ∧ ls = ls ∧ (List.take x ls).flatten.length = (0 : Nat) ∧ ls.length = ls.length ∧ ls = ls ∧ (↑ls.length : Int) = (↑ls.length : Int) ∧ Int.ofNat (0 : Nat) = (↑x : Int) ∧ (List.take x ls).flatten.length = (0 : Nat) ∧ (List.take x ls).flatten.length = (0 : Nat) ∧ True) ∧ ∀ (x : Nat), x ≤ ls.length → (decide ((↑x : Int) < (↑ls.length : Int)) = true → ((0 : Int) ≤ (↑x : Int) ∧ (↑x : Int) < (↑ls.length : Int)) ∧ (↑x : Int).toNat < ls.length ∧ (List.take x ls).flatten.length = (List.take x ls).flatten.length ∧ (List.take x ls).flatten.length + (ls.getD (↑x : Int).toNat []).length ≤ (4294967296 : Nat) ∧ InI ((↑x : Int) + Int.ofNat (1 : Nat)) ∧ ∃ (y : Nat), y ≤ ls.length ∧ ls.length - y < ls.length - x ∧ ls.length = ls.length ∧ ls = ls ∧ (List.take x ls).flatten.length + (ls.getD (↑x : Int).toNat []).length = (List.take y ls).flatten.length ∧ ls.length = ls.length ∧ ls = ls ∧ (↑ls.length : Int) = (↑ls.length : Int) ∧ (↑x : Int) + Int.ofNat (1 : Nat) = (↑y : Int) ∧ (List.take x ls).flatten.length + (ls.getD (↑x : Int).toNat []).length = (List.take y ls).flatten.length ∧ (List.take x ls).flatten ++ ls.getD (↑x : Int).toNat [] = (List.take y ls).flatten ∧ True) ∧ (decide ((↑x : Int) < (↑ls.length : Int)) = false → (0 : Nat) + (List.take x ls).flatten.length ≤ (List.take x ls).flatten.length ∧ (List.take x ls).flatten.length = ls.flatten.length ∧ List.take (List.take x ls).flatten.length (dropL (dropL (List.take x ls).flatten (0 : Nat)) (0 : Nat)) = ls.flatten ∧ True)) := by kernel_rfl
end Go.Proofs.Ytimjfjlaoekfkaa

/- A step towards SessionExchangesSaid: no conditions. -/
namespace Go.Proofs.Ytimjfjlaoekfkaa
open Go Go.Eng Go.Cod
theorem dropL_zero {α : Type} (l : List α) : dropL l 0 = l := rfl
theorem inI_of {x : Int} (h1 : -9223372036854775808 ≤ x) (h2 : x < 9223372036854775808) : InI x := ⟨h1, h2⟩
set_option maxRecDepth 100000 in
theorem conLittle : Con Try.prog 36 gLittle := con_of_vcs fun args ps res h hp => by
  unfold gLittle at h
  split at h <;> cases h
  rename_i n s
  have hs := (all_cons.1 hp).1
  refine ⟨ELi, 100, rfl, eok (gs := []) trivial, ?_⟩
  refine Eq.mpr (vcLittle n s) ?_
  simp only [io, true_and, and_true, dropL_zero, Nat.zero_add, Nat.le_refl]
  refine ⟨fun h1 => absurd (of_decide_eq_true h1) (by omega), fun _ => ⟨fun h1 => absurd (of_decide_eq_true h1) (by omega), fun _ => ⟨⟨0, by omega, rfl, rfl, rfl, rfl⟩, fun x hx => ⟨fun h1 => ?_, fun h1 => ?_⟩⟩⟩⟩
  · have h1 := of_decide_eq_true h1
    refine ⟨inI_of (by omega) (by omega), by omega, by omega, inI_of (by omega) (by omega), x + 1, by omega, by omega, rfl, rfl, rfl, ?_⟩
    have e2 : (((8 : Nat) : Int) * (x : Int)).toNat = 8 * x := by omega
    rw [e2]; rfl
  · have h1 := of_decide_eq_false h1
    have e : x = s.toNat := by omega
    subst e
    exact ⟨rfl, by rw [List.take_of_length_le (by rw [littleL_len]; exact Nat.le_refl _)]⟩
theorem conLittleN4 : Con Try.prog 36 gLittleN := littleN_of conLittle
set_option maxRecDepth 100000 in
theorem conLittleR : Con Try.prog 47 gLittle := con_of_vcs fun args ps res h hp => by
  unfold gLittle at h
  split at h <;> cases h
  rename_i n s
  have hs := (all_cons.1 hp).1
  refine ⟨ELr, 100, rfl, eok (gs := []) trivial, ?_⟩
  refine Eq.mpr (vcLittleR n s) ?_
  simp only [io, true_and, and_true, dropL_zero, Nat.zero_add, Nat.le_refl]
  refine ⟨fun h1 => absurd (of_decide_eq_true h1) (by omega), fun _ => ⟨fun h1 => absurd (of_decide_eq_true h1) (by omega), fun _ => ⟨⟨0, by omega, rfl, rfl, rfl, rfl⟩, fun x hx => ⟨fun h1 => ?_, fun h1 => ?_⟩⟩⟩⟩
  · have h1 := of_decide_eq_true h1
    refine ⟨inI_of (by omega) (by omega), by omega, by omega, inI_of (by omega) (by omega), x + 1, by omega, by omega, rfl, rfl, rfl, ?_⟩
    have e2 : (((8 : Nat) : Int) * (x : Int)).toNat = 8 * x := by omega
    rw [e2]; rfl
  · have h1 := of_decide_eq_false h1
    have e : x = s.toNat := by omega
    subst e
    exact ⟨rfl, by rw [List.take_of_length_le (by rw [littleL_len]; exact Nat.le_refl _)]⟩
theorem conLittleRN4 : Con Try.prog 47 gLittleN := littleN_of conLittleR
set_option maxRecDepth 100000 in
theorem conReadL : Con Try.prog 30 gReadL := con_of_vcs fun args ps res h hp => by
  unfold gReadL at h
  split at h <;> cases h
  rename_i n l
  obtain ⟨rfl, hp2⟩ := all_cons.1 hp
  have hl := (all_cons.1 hp2).1
  refine ⟨ERL, 100, rfl, eok (gs := []) trivial, ?_⟩
  refine Eq.mpr (vcReadL l) ?_
  simp only [io, true_and, and_true]
  have hm : min l.length 8 ≤ 8 := Nat.min_le_right ..
  have hm2 : min l.length 8 ≤ l.length := Nat.min_le_left ..
  have hi : (min (l.length : Int) ((8 : Nat) : Int)) = ((min l.length 8 : Nat) : Int) := by omega
  simp only [hi]
  refine ⟨⟨0, by omega, rfl, rfl⟩, fun x hx => ⟨fun h1 => ?_, fun h1 => ?_⟩⟩
  · have h1 := of_decide_eq_true h1
    have hx' : x < l.length := by omega
    refine ⟨⟨by omega, by omega⟩, by omega, inI_of (by omega) (by omega), by omega, inI_of (by omega) (by omega), x + 1, by omega, by omega, ?_, rfl⟩
    rw [readL_step l x hx']
    have e1 : (x : Int).toNat = x := rfl
    have e2 : (((8 : Nat) : Int) * (x : Int)).toNat = 8 * x := by omega
    rw [e1, e2]
  · have h1 := of_decide_eq_false h1
    have e : x = min l.length 8 := by omega
    rw [e]
    exact readL_min l
set_option maxRecDepth 100000 in
theorem conReadLr : Con Try.prog 55 gReadL := con_of_vcs fun args ps res h hp => by
  unfold gReadL at h
  split at h <;> cases h
  rename_i n l
  obtain ⟨rfl, hp2⟩ := all_cons.1 hp
  have hl := (all_cons.1 hp2).1
  refine ⟨ERr, 100, rfl, eok (gs := []) trivial, ?_⟩
  refine Eq.mpr (vcReadLr l) ?_
  simp only [io, true_and, and_true]
  refine ⟨inI_of (by omega) (by omega), ⟨l.length, Nat.le_refl _, ?_, rfl⟩, fun x hx => ⟨fun h1 => ?_, fun h1 => ?_⟩⟩
  · rw [List.drop_length]; rfl
  · have h1 := of_decide_eq_true h1
    have e1 : ((x : Int) - 1).toNat = x - 1 := by omega
    rw [e1]
    refine ⟨⟨by omega, by omega⟩, by omega, inI_of (by omega) (by omega), x - 1, by omega, by omega, ?_, by omega⟩
    rw [readL_drop l (x - 1) (by omega), show x - 1 + 1 = x by omega]
  · have h1 := of_decide_eq_false h1
    have e : x = 0 := by omega
    rw [e]; rfl
set_option maxRecDepth 100000 in
theorem conJoin : Con Try.prog 35 gJoin := con_of_vcs fun args ps res h hp => by
  unfold gJoin at h
  split at h <;> cases h
  rename_i n ls
  obtain ⟨rfl, hp2⟩ := all_cons.1 hp
  have h2 := all_cons.1 hp2
  have hl := h2.1
  have hb := (all_cons.1 h2.2).1
  refine ⟨EJo, 100, rfl, eok (gs := []) trivial, ?_⟩
  refine Eq.mpr (vcJoin ls) ?_
  simp only [io, true_and, and_true, dropL_zero, List.take_length, Nat.zero_add, Nat.le_refl]
  refine ⟨⟨0, by omega, rfl, rfl, rfl, rfl⟩, fun x hx => ⟨fun h1 => ?_, fun h1 => ?_⟩⟩
  · have h1 := of_decide_eq_true h1
    have hx' : x < ls.length := by omega
    have e1 : (x : Int).toNat = x := rfl
    rw [e1]
    have e2 : (ls.take (x + 1)).flatten = (ls.take x).flatten ++ ls.getD x [] := by
      rw [List.take_add_one, List.getElem?_eq_getElem hx', Option.toList_some, List.flatten_append, List.getD_eq_getElem?_getD, List.getElem?_eq_getElem hx']
      simp
    have e3 : (ls.take x).flatten.length + (ls.getD x []).length ≤ ls.flatten.length := by
      rw [← List.length_append, ← e2]
      have : ls.flatten = (ls.take (x + 1)).flatten ++ (ls.drop (x + 1)).flatten := by rw [← List.flatten_append, List.take_append_drop]
      rw [this, List.length_append]; omega
    refine ⟨⟨by omega, by omega⟩, by omega, by omega, inI_of (by omega) (by omega), x + 1, by omega, by omega, ?_, rfl, ?_, ?_⟩
    · rw [e2, List.length_append]
    · rw [e2, List.length_append]
    · rw [e2]
  · have h1 := of_decide_eq_false h1
    have e : x = ls.length := by omega
    rw [e, List.take_length]
    exact ⟨rfl, rfl⟩
set_option maxRecDepth 100000 in
theorem conJoinR : Con Try.prog 48 gJoin := con_of_vcs fun args ps res h hp => by
  unfold gJoin at h
  split at h <;> cases h
  rename_i n ls
  obtain ⟨rfl, hp2⟩ := all_cons.1 hp
  have h2 := all_cons.1 hp2
  have hl := h2.1
  have hb := (all_cons.1 h2.2).1
  refine ⟨EJo, 100, rfl, eok (gs := []) trivial, ?_⟩
  refine Eq.mpr (vcJoinR ls) ?_
  simp only [io, true_and, and_true, dropL_zero, List.take_length, Nat.zero_add, Nat.le_refl]
  refine ⟨⟨0, by omega, rfl, rfl, rfl, rfl⟩, fun x hx => ⟨fun h1 => ?_, fun h1 => ?_⟩⟩
  · have h1 := of_decide_eq_true h1
    have hx' : x < ls.length := by omega
    have e1 : (x : Int).toNat = x := rfl
    rw [e1]
    have e2 : (ls.take (x + 1)).flatten = (ls.take x).flatten ++ ls.getD x [] := by
      rw [List.take_add_one, List.getElem?_eq_getElem hx', Option.toList_some, List.flatten_append, List.getD_eq_getElem?_getD, List.getElem?_eq_getElem hx']
      simp
    have e3 : (ls.take x).flatten.length + (ls.getD x []).length ≤ ls.flatten.length := by
      rw [← List.length_append, ← e2]
      have : ls.flatten = (ls.take (x + 1)).flatten ++ (ls.drop (x + 1)).flatten := by rw [← List.flatten_append, List.take_append_drop]
      rw [this, List.length_append]; omega
    refine ⟨⟨by omega, by omega⟩, by omega, by omega, inI_of (by omega) (by omega), x + 1, by omega, by omega, ?_, rfl, ?_, ?_⟩
    · rw [e2, List.length_append]
    · rw [e2, List.length_append]
    · rw [e2]
  · have h1 := of_decide_eq_false h1
    have e : x = ls.length := by omega
    rw [e, List.take_length]
    exact ⟨rfl, rfl⟩
end Go.Proofs.Ytimjfjlaoekfkaa

/- A step towards SessionExchangesSaid: no conditions. -/
namespace Go.Proofs.Ytimjfjlaoekfkaa
open Go Go.Eng Go.Cod Go.Msg
theorem k8 {x : UInt8} {n : Nat} (hn : n < 256) : ((x.toNat : Int) = (n : Int)) = (x = UInt8.ofNat n) := by
  apply propext
  constructor
  · intro h
    have h : x.toNat = n := by omega
    rw [← UInt8.toNat_inj, UInt8.toNat_ofNat_of_lt' hn]; exact h
  · intro h
    rw [h, UInt8.toNat_ofNat_of_lt' hn]
theorem kind_zero {b : List UInt8} (h : ¬(b.length < 4 ∨ b.getD 1 0 ≠ 0 ∨ b.getD 2 0 ≠ 0 ∨ b.getD 3 0 ≠ 0) → ¬((b.getD 0 0 = 1 ∧ b.length = 148) ∨ (b.getD 0 0 = 2 ∧ b.length = 92) ∨ (b.getD 0 0 = 3 ∧ b.length = 64) ∨ (b.getD 0 0 = 4 ∧ 32 ≤ b.length ∧ b.length ≤ 2100))) : ((0 : Nat) : Int) = kindL b := by
  unfold kindL
  split
  · rfl
  · rename_i h1
    rw [if_neg (h h1)]; rfl
theorem kind_some {b : List UInt8} (h : ¬(b.length < 4 ∨ b.getD 1 0 ≠ 0 ∨ b.getD 2 0 ≠ 0 ∨ b.getD 3 0 ≠ 0)) (h2 : ((b.getD 0 0 = 1 ∧ b.length = 148) ∨ (b.getD 0 0 = 2 ∧ b.length = 92) ∨ (b.getD 0 0 = 3 ∧ b.length = 64) ∨ (b.getD 0 0 = 4 ∧ 32 ≤ b.length ∧ b.length ≤ 2100))) : ((b.getD 0 0).toNat : Int) = kindL b := by
  unfold kindL
  rw [if_neg h, if_pos h2]
/-- what a kind tells of the length -/
theorem kind_len {b : List UInt8} : (kindL b = 1 → b.length = 148) ∧ (kindL b = 2 → b.length = 92) ∧ (kindL b = 3 → b.length = 64) ∧ (kindL b = 4 → 32 ≤ b.length ∧ b.length ≤ 2100) := by
  unfold kindL
  split
  · refine ⟨fun h => ?_, fun h => ?_, fun h => ?_, fun h => ?_⟩ <;> cases h
  · split
    · rename_i h2
      generalize b.getD 0 0 = x at *
      generalize b.length = n at *
      rcases h2 with ⟨rfl, h⟩ | ⟨rfl, h⟩ | ⟨rfl, h⟩ | ⟨rfl, h⟩
      · exact ⟨fun _ => h, fun h => absurd h (by decide), fun h => absurd h (by decide), fun h => absurd h (by decide)⟩
      · exact ⟨fun h => absurd h (by decide), fun _ => h, fun h => absurd h (by decide), fun h => absurd h (by decide)⟩
      · exact ⟨fun h => absurd h (by decide), fun h => absurd h (by decide), fun _ => h, fun h => absurd h (by decide)⟩
      · exact ⟨fun h => absurd h (by decide), fun h => absurd h (by decide), fun h => absurd h (by decide), fun _ => h⟩
    · refine ⟨fun h => ?_, fun h => ?_, fun h => ?_, fun h => ?_⟩ <;> cases h
theorem ofN0 : UInt8.ofNat 0 = (0 : UInt8) := rfl
theorem ofN1 : UInt8.ofNat 1 = (1 : UInt8) := rfl
theorem ofN2 : UInt8.ofNat 2 = (2 : UInt8) := rfl
theorem ofN3 : UInt8.ofNat 3 = (3 : UInt8) := rfl
theorem ofN4 : UInt8.ofNat 4 = (4 : UInt8) := rfl
set_option maxRecDepth 100000 in
set_option maxHeartbeats 4000000 in
theorem conKind : Con Try.prog 28 gKind := con_of_vcl fun args ps res h hp hlen => by
  unfold gKind at h
  split at h <;> cases h
  rename_i m b
  obtain ⟨rfl, hp2⟩ := all_cons.1 hp
  have hl := (all_cons.1 hp2).1
  refine ⟨MEk, 100, rfl, eok (gs := []) trivial, ?_⟩
  rw [vcKind b]
  have z := @kind_zero b
  have s := @kind_some b
  simp only [true_and, and_true, io, decide_eq_true_eq, decide_eq_false_iff_not, k8 (show 1 < 256 by decide), k8 (show 2 < 256 by decide), k8 (show 3 < 256 by decide), k8 (show 4 < 256 by decide), ofN0, ofN1, ofN2, ofN3, ofN4, bne_iff_ne, bne_eq_false_iff_eq, ne_eq]
  generalize kindL b = K at *
  generalize b.getD 0 0 = x0 at *
  generalize b.getD 1 0 = x1 at *
  generalize b.getD 2 0 = x2 at *
  generalize b.getD 3 0 = x3 at *
  generalize b.length = n at *
  repeat' first | (apply And.intro) | intro
  all_goals first | omega | grind
set_option maxRecDepth 100000 in
set_option maxHeartbeats 4000000 in
theorem conKindR : Con Try.prog 53 gKind := con_of_vcl fun args ps res h hp hlen => by
  unfold gKind at h
  split at h <;> cases h
  rename_i m b
  obtain ⟨rfl, hp2⟩ := all_cons.1 hp
  have hl := (all_cons.1 hp2).1
  refine ⟨MEk, 100, rfl, eok (gs := []) trivial, ?_⟩
  rw [vcKindR b]
  have z := @kind_zero b
  have s := @kind_some b
  simp only [true_and, and_true, io, decide_eq_true_eq, decide_eq_false_iff_not, ofN0, ofN1, ofN2, ofN3, ofN4, bne_iff_ne, bne_eq_false_iff_eq, beq_iff_eq, beq_eq_false_iff_ne, ne_eq]
  generalize kindL b = K at *
  generalize b.getD 0 0 = x0 at *
  generalize b.getD 1 0 = x1 at *
  generalize b.getD 2 0 = x2 at *
  generalize b.getD 3 0 = x3 at *
  generalize b.length = n at *
  repeat' first | (apply And.intro) | intro
  all_goals first | omega | grind
theorem dropL_eq {α : Type} (l : List α) (i : Nat) : dropL l i = l.drop i := by cases i <;> rfl
theorem fld_no {k : Int} {b : List UInt8} (h : kindL b ≠ k) : fld32 k b = (fun _ => 0) ∧ fld64 k b = (fun _ => 0) ∧ fld k b = (fun _ n => List.replicate n 0) ∧ fldR k b = (fun _ => []) ∧ decE k b = 4 :=
  ⟨funext fun _ => if_neg h, funext fun _ => if_neg h, funext fun _ => funext fun _ => if_neg h, funext fun _ => if_neg h, if_neg h⟩
theorem fld_yes {k : Int} {b : List UInt8} (h : kindL b = k) : (∀ o, fld32 k b o = (readL ((b.drop o).take 4)).toUInt32) ∧ (∀ o, fld64 k b o = readL ((b.drop o).take 8)) ∧ (∀ o n, fld k b o n = (b.drop o).take n) ∧ (∀ o, fldR k b o = b.drop o) ∧ decE k b = 0 :=
  ⟨fun _ => if_pos h, fun _ => if_pos h, fun _ _ => if_pos h, fun _ => if_pos h, if_pos h⟩
theorem over_all {z : List UInt8} {l : List UInt8} (h : z.length = l.length) : over z 0 l = l := by
  unfold over
  rw [List.take_zero, List.nil_append, List.drop_of_length_le (by omega), List.append_nil]
set_option maxRecDepth 100000 in
theorem conN32 : Con Try.prog 54 gN32 := con_of_vcl fun args ps res h hp hlen => by
  unfold gN32 at h
  split at h <;> cases h
  rename_i m b
  obtain ⟨rfl, hp2⟩ := all_cons.1 hp
  have hl := (all_cons.1 hp2).1
  refine ⟨MEn, 100, rfl, eok (gs := [(55, gReadL)]) ⟨conReadLr, trivial⟩, ?_⟩
  rw [vcN32 b]
  exact ⟨hl, rfl, by rw [List.length_take]; omega, rfl, trivial⟩
set_option maxRecDepth 100000 in
set_option maxHeartbeats 4000000 in
theorem conDTran : Con Try.prog 12 (gDec dTran) := con_of_vcl fun args ps res h hp hlen => by
  unfold gDec at h
  split at h <;> cases h
  rename_i m b
  obtain ⟨rfl, hp2⟩ := all_cons.1 hp
  have hl := (all_cons.1 hp2).1
  refine ⟨MEd, 100, rfl, eok (gs := [(30, gReadL), (28, gKind)]) ⟨conReadL, conKind, trivial⟩, ?_⟩
  show vcFn _ _ _ _ (dTran b)
  rw [vcDTran b]
  have kn : ((4 : Nat) : Int) = 4 := rfl
  simp only [forall_eq, true_and, and_true, io, decide_eq_true_eq, decide_eq_false_iff_not, dropL_eq, Nat.zero_add, Nat.sub_zero, List.drop_drop, List.take_take, List.length_take, List.length_drop, List.drop_zero, List.nil_append, ne_eq, Decidable.not_not, kn]
  refine ⟨hl, fun hne => ?_, fun he => ?_⟩
  · obtain ⟨e1, e2, e3, e4, e5⟩ := fld_no hne
    simp only [e1, e2, e3, e4, e5]
    simp
  · obtain ⟨e1, e2, e3, e4, e5⟩ := fld_yes he
    have hk := kind_len (b := b)
    have hn := hk.2.2.2 he
    simp only [e1, e2, e3, e4, e5]
    repeat rw [over_all (by rw [List.length_take, List.length_drop, List.length_replicate]; omega)]
    and_intros
    all_goals first | omega | rfl | (rw [List.take_of_length_le (by rw [List.length_drop]; omega)]) | (simp; done) | (simp; omega)
set_option maxRecDepth 100000 in
set_option maxHeartbeats 4000000 in
theorem conDTranR : Con Try.prog 40 (gDec dTran) := con_of_vcl fun args ps res h hp hlen => by
  unfold gDec at h
  split at h <;> cases h
  rename_i m b
  obtain ⟨rfl, hp2⟩ := all_cons.1 hp
  have hl := (all_cons.1 hp2).1
  refine ⟨MEr, 100, rfl, eok (gs := [(55, gReadL), (54, gN32), (53, gKind)]) ⟨conReadLr, conN32, conKindR, trivial⟩, ?_⟩
  show vcFn _ _ _ _ (dTran b)
  rw [vcDTranR b]
  have kn : ((4 : Nat) : Int) = 4 := rfl
  simp only [forall_eq, true_and, and_true, io, decide_eq_true_eq, decide_eq_false_iff_not, dropL_eq, Nat.zero_add, Nat.sub_zero, List.drop_drop, List.take_take, List.length_take, List.length_drop, List.drop_zero, List.nil_append, ne_eq, Decidable.not_not, kn]
  refine ⟨hl, fun hne => ?_, fun he => ?_⟩
  · obtain ⟨e1, e2, e3, e4, e5⟩ := fld_no hne
    simp only [e1, e2, e3, e4, e5]
    simp
  · obtain ⟨e1, e2, e3, e4, e5⟩ := fld_yes he
    have hk := kind_len (b := b)
    have hn := hk.2.2.2 he
    simp only [e1, e2, e3, e4, e5]
    repeat rw [over_all (by rw [List.length_take, List.length_drop, List.length_replicate]; omega)]
    and_intros
    all_goals first | omega | rfl | (rw [List.take_of_length_le (by rw [List.length_drop]; omega)]) | (simp; done) | (simp; omega)
end Go.Proofs.Ytimjfjlaoekfkaa
