/- A step towards NoiseAgreesSaid: no conditions. -/
import Derived.Test.YtbgnjipdecekoaaJBlaSpec
import Derived.Test.YtbgnjipdecekoaaBase

namespace Go.Proofs.Ytbgnjipdecekoaa
open Go Go.Eng Go.Cod Go.Cha Go.Bla
noncomputable def BEh : Env := mkE Try.prog [(38, gJoin), (37, gSum)] [] 2 true
set_option maxRecDepth 100000 in
theorem vcHash (ls : List (List UInt8)) : (vcFn BEh 100 28 [.s (.xs 1 (.s ls.length) (.sl ls))] (.w (.agg [.vec (.n 32) (.u8 (sumL 32 [] ls.flatten))]))) =
  (ls.length = ls.length ∧ ls.length < (4611686018427387904 : Nat) ∧ ls.flatten.length ≤ (4294967296 : Nat) ∧ ∀ (y : List UInt8), y = ls.flatten → (0 : Nat) + ls.flatten.length ≤ ls.flatten.length ∧ (0 : Nat) = (0 : Nat) ∧ (List.take ls.flatten.length (dropL (dropL y (0 : Nat)) (0 : Nat))).length = (List.take ls.flatten.length (dropL (dropL y (0 : Nat)) (0 : Nat))).length ∧ (List.take ls.flatten.length (dropL (dropL y (0 : Nat)) (0 : Nat))).length ≤ (4294967000 : Nat) ∧ ∀ (y_1 : Int), y_1 = sumE (Int.ofNat (32 : Nat)) (List.replicate (0 : Nat) (0 : UInt8)) → ∀ (y_2 : List UInt8), y_2 = sumR (Int.ofNat (32 : Nat)) (List.replicate (0 : Nat) (0 : UInt8)) (List.take ls.flatten.length (dropL (dropL y (0 : Nat)) (0 : Nat))) → ∀ (y_3 : Int), y_3 = y_1 → (32 : Nat) ≤ (sumR (Int.ofNat (32 : Nat)) (List.replicate (0 : Nat) (0 : UInt8)) (List.take ls.flatten.length (dropL (dropL y (0 : Nat)) (0 : Nat)))).length ∧ (32 : Nat) ≤ (sumR (Int.ofNat (32 : Nat)) (List.replicate (0 : Nat) (0 : UInt8)) (List.take ls.flatten.length (dropL (dropL y (0 : Nat)) (0 : Nat)))).length ∧ ∀ (y : List UInt8), y = List.take (32 : Nat) y_2 → y = sumL (32 : Int) [] ls.flatten ∧ True) := by kernel_rfl
end Go.Proofs.Ytbgnjipdecekoaa
