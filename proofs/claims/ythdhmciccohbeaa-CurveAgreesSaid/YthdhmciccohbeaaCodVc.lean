/- A step towards CurveAgreesSaid: no conditions. -/
import Derived.Test.YthdhmciccohbeaaCodSpec
import Derived.Test.YthdhmciccohbeaaBase
namespace Go.Proofs.Ythdhmciccohbeaa
open Go Go.Eng Go.Cod
noncomputable def ERL : Env := mkE Try.prog [] [(0, JReadL)] 2
noncomputable def ERr : Env := mkE Try.prog [] [(0, JReadLr)] 2
noncomputable def EJo : Env := mkE Try.prog [] [(0, JJoin)] 2
noncomputable def ELi : Env := mkE Try.prog [] [(0, JLittle 14 [0, 1, 4, 13])] 2
noncomputable def ELr : Env := mkE Try.prog [] [(0, JLittle 6 [0, 1, 4])] 2
set_option maxRecDepth 100000 in
theorem vcLittle (n : UInt64) (s : Int) : (vcFn ELi 100 34 [.s (.u64 n), .s (.i64 s)] (.s (.xs 1 (.s s.toNat) (.u8 (littleL n s.toNat))))) =
  ((decide (s < Int.ofNat (1 : Nat)) = true → s.toNat = (0 : Nat) ∧ (littleL n s.toNat).length = (0 : Nat) ∧ True) ∧ (decide (s < Int.ofNat (1 : Nat)) = false → (decide (Int.ofNat (8 : Nat) < s) = true → s.toNat = (0 : Nat) ∧ (littleL n s.toNat).length = (0 : Nat) ∧ True) ∧ (decide (Int.ofNat (8 : Nat) < s) = false → (∃ (x : Nat), (↑x : Int) ≤ s ∧ n = n ∧ s = s ∧ x = (0 : Nat) ∧ s = s ∧ Int.ofNat (0 : Nat) = (↑x : Int) ∧ x = (0 : Nat) ∧ (littleL n x).length = (0 : Nat) ∧ True) ∧ ∀ (x : Nat), (↑x : Int) ≤ s → (decide ((↑x : Int) < s) = true → InI (Int.ofNat (8 : Nat) * (↑x : Int)) ∧ (0 : Int) ≤ Int.ofNat (8 : Nat) * (↑x : Int) ∧ x = x ∧ x + (1 : Nat) ≤ (4294967296 : Nat) ∧ InI ((↑x : Int) + Int.ofNat (1 : Nat)) ∧ ∃ (y : Nat), (↑y : Int) ≤ s ∧ s.toNat - y < s.toNat - x ∧ n = n ∧ s = s ∧ x + (1 : Nat) = y ∧ s = s ∧ (↑x : Int) + Int.ofNat (1 : Nat) = (↑y : Int) ∧ x + (1 : Nat) = y ∧ littleL n x ++ [(shr64 n (Int.ofNat (8 : Nat) * (↑x : Int)).toNat).toUInt8] = littleL n y ∧ True) ∧ (decide ((↑x : Int) < s) = false → (0 : Nat) + x ≤ x ∧ x = s.toNat ∧ List.take x (dropL (dropL (littleL n x) (0 : Nat)) (0 : Nat)) = littleL n s.toNat ∧ True)))) := by kernel_rfl
set_option maxRecDepth 100000 in
theorem vcReadL (l : List UInt8) : (vcFn ERL 100 31 [.s (.xs 1 (.s l.length) (.u8 l))] (.s (.u64 (readL l)))) =
  ((∃ (x : Nat), x ≤ min l.length (8 : Nat) ∧ l.length = l.length ∧ l = l ∧ UInt64.ofNat (nat_lit 0) = UInt64.ofNat (nat_lit 0) ∧ UInt64.ofNat (nat_lit 0) = readL (List.take x l) ∧ min (↑l.length : Int) (Int.ofNat (8 : Nat)) = min (↑l.length : Int) (Int.ofNat (8 : Nat)) ∧ Int.ofNat (0 : Nat) = (↑x : Int) ∧ True) ∧ ∀ (x : Nat), x ≤ min l.length (8 : Nat) → (decide ((↑x : Int) < min (↑l.length : Int) (Int.ofNat (8 : Nat))) = true → ((0 : Int) ≤ (↑x : Int) ∧ (↑x : Int) < (↑l.length : Int)) ∧ (↑x : Int).toNat < l.length ∧ InI (Int.ofNat (8 : Nat) * (↑x : Int)) ∧ (0 : Int) ≤ Int.ofNat (8 : Nat) * (↑x : Int) ∧ InI ((↑x : Int) + Int.ofNat (1 : Nat)) ∧ ∃ (y : Nat), y ≤ min l.length (8 : Nat) ∧ (8 : Nat) - y < (8 : Nat) - x ∧ l.length = l.length ∧ l = l ∧ UInt64.ofNat (nat_lit 0) = UInt64.ofNat (nat_lit 0) ∧ readL (List.take x l) ||| shl64 (l.getD (↑x : Int).toNat (0 : UInt8)).toUInt64 (Int.ofNat (8 : Nat) * (↑x : Int)).toNat = readL (List.take y l) ∧ min (↑l.length : Int) (Int.ofNat (8 : Nat)) = min (↑l.length : Int) (Int.ofNat (8 : Nat)) ∧ (↑x : Int) + Int.ofNat (1 : Nat) = (↑y : Int) ∧ True) ∧ (decide ((↑x : Int) < min (↑l.length : Int) (Int.ofNat (8 : Nat))) = false → readL (List.take x l) = readL l ∧ True)) := by kernel_rfl
end Go.Proofs.Ythdhmciccohbeaa
