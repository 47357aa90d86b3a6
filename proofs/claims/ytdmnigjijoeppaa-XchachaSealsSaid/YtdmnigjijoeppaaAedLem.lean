/- A step towards XchachaSealsSaid: no conditions. -/
import Derived.Test.YtdmnigjijoeppaaAedCon
namespace Go.Proofs.Ytdmnigjijoeppaa
open Go Go.Eng Go.Cod Go.Cha Go.Pol Go.Aed
theorem ael_minNN (a b : Nat) : min (a : Int) (b : Int) = ((min a b : Nat) : Int) := by omega
theorem ael_xx (k n : List UInt8) (c : UInt32) (d : List UInt8) : xorL k n c (xorL k n c d) = d := by
  apply List.ext_getElem?
  intro i
  rw [xorL_get, xorL_get]
  cases d[i]? with
  | none => rfl
  | some x =>
    show some (x ^^^ _ ^^^ _) = some x
    rw [UInt8.xor_assoc, UInt8.xor_self, UInt8.xor_zero]
theorem openE_seal (k n p m : List UInt8) : openE k n (sealL k n p m) m = 0 := by
  have l : (sealL k n p m).length - 16 = (xorL k n 1 p).length := by rw [sealL_len, xorL_len]; omega
  unfold openE
  rw [if_neg (by rw [sealL_len]; omega), if_pos]
  rw [l]
  unfold sealL
  rw [List.take_append_of_le_length (Nat.le_refl _), List.take_length, List.drop_append_of_le_length (Nat.le_refl _), List.drop_length, List.nil_append]
theorem openL_seal (k n p m : List UInt8) : openL k n (sealL k n p m) m = p := by
  have l : (sealL k n p m).length - 16 = (xorL k n 1 p).length := by rw [sealL_len, xorL_len]; omega
  unfold openL
  rw [if_pos (openE_seal ..), l]
  unfold sealL
  rw [List.take_append_of_le_length (Nat.le_refl _), List.take_length, ael_xx]
theorem open_cases (k n s m : List UInt8) (h : 16 ≤ s.length) : (openE k n s m = 6 ∧ openL k n s m = []) ∨ (openE k n s m = 0 ∧ sealL k n (openL k n s m) m = s) := by
  by_cases ht : tagL k n (s.take (s.length - 16)) m = s.drop (s.length - 16)
  · have e : openE k n s m = 0 := by unfold openE; rw [if_neg (by omega), if_pos ht]
    refine .inr ⟨e, ?_⟩
    unfold openL
    rw [if_pos e]
    unfold sealL
    rw [ael_xx, ht, List.take_append_drop]
  · have e : openE k n s m = 6 := by unfold openE; rw [if_neg (by omega), if_neg ht]
    refine .inl ⟨e, ?_⟩
    unfold openL
    rw [e]; rfl
theorem openL_le (k n s m : List UInt8) : (openL k n s m).length ≤ s.length := by
  unfold openL
  split
  · rw [xorL_len, List.length_take]; omega
  · exact Nat.zero_le _
theorem set_same {s : List UInt8} {i : Nat} : s.set i (s.getD i 0 ^^^ UInt8.ofNat 0) = s := by
  show s.set i (s.getD i 0 ^^^ 0) = s
  rw [UInt8.xor_zero]
  by_cases h : i < s.length
  · rw [List.getD_eq_getElem?_getD, List.getElem?_eq_getElem h, Option.getD_some, List.set_getElem_self]
  · rw [List.set_eq_of_length_le (by omega)]
theorem take_set (l : List UInt8) (i : Nat) (x : UInt8) : (l.set i x).take l.length = l.set i x := List.take_of_length_le (by rw [List.length_set]; exact Nat.le_refl _)
theorem tmod_nn (a b : Nat) : (a : Int).tmod (b : Int) = ((a % b : Nat) : Int) := rfl
end Go.Proofs.Ytdmnigjijoeppaa
