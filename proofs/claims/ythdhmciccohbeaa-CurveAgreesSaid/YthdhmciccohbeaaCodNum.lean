/- A step towards CurveAgreesSaid: no conditions. -/
import Derived.Test.YthdhmciccohbeaaCodSpec
namespace Go.Cod
open Go Go.Eng
/-- the number of bytes, as a natural number -/
def natL : List UInt8 → Nat
  | [] => 0
  | b :: r => b.toNat + 256 * natL r
theorem natL_lt : ∀ l : List UInt8, natL l < 256 ^ l.length
  | [] => by simp [natL]
  | b :: r => by
    have h1 := natL_lt r
    have h2 := b.toNat_lt
    rw [List.length_cons, Nat.pow_succ, natL]
    omega
theorem natL_append : ∀ (a b : List UInt8), natL (a ++ b) = natL a + 256 ^ a.length * natL b
  | [], b => by simp [natL]
  | x :: a, b => by
    rw [List.cons_append, natL, natL_append a b, natL, List.length_cons, Nat.pow_succ, Nat.mul_add]
    rw [Nat.mul_comm (256 ^ a.length) 256, Nat.mul_assoc]
    omega
theorem pow256_8 {n : Nat} (h : n ≤ 8) : 256 ^ n ≤ 18446744073709551616 := by
  calc 256 ^ n ≤ 256 ^ 8 := Nat.pow_le_pow_right (by omega) h
    _ = 18446744073709551616 := rfl
theorem shl64_toNat (x : UInt64) (n : Nat) : (shl64 x n).toNat = x.toNat * 2 ^ n % 18446744073709551616 := by
  show (x.toBitVec <<< n).toNat = _
  rw [BitVec.toNat_shiftLeft, Nat.shiftLeft_eq]; rfl
theorem shr64_toNat (x : UInt64) (n : Nat) : (shr64 x n).toNat = x.toNat / 2 ^ n := by
  show (x.toBitVec >>> n).toNat = _
  rw [BitVec.toNat_ushiftRight, Nat.shiftRight_eq_div_pow]; rfl
theorem shr32_toNat (x : UInt32) (n : Nat) : (shr32 x n).toNat = x.toNat / 2 ^ n := by
  show (x.toBitVec >>> n).toNat = _
  rw [BitVec.toNat_ushiftRight, Nat.shiftRight_eq_div_pow]; rfl
theorem shl32_toNat (x : UInt32) (n : Nat) : (shl32 x n).toNat = x.toNat * 2 ^ n % 4294967296 := by
  show (x.toBitVec <<< n).toNat = _
  rw [BitVec.toNat_shiftLeft, Nat.shiftLeft_eq]; rfl
theorem readL_nat : ∀ l : List UInt8, l.length ≤ 8 → (readL l).toNat = natL l
  | [], _ => rfl
  | b :: r, h => by
    rw [List.length_cons] at h
    have ih := readL_nat r (by omega)
    have h1 := natL_lt r
    have h2 : 256 ^ r.length ≤ 256 ^ 7 := Nat.pow_le_pow_right (by omega) (by omega)
    have h3 : (256 : Nat) ^ 7 = 72057594037927936 := rfl
    have hb := b.toNat_lt
    show (shl64 (readL r) 8 ||| b.toUInt64).toNat = _
    rw [UInt64.toNat_or, shl64_toNat, ih, UInt8.toNat_toUInt64, natL, Nat.mod_eq_of_lt (by omega)]
    have := Nat.shiftLeft_add_eq_or_of_lt (a := natL r) (b := b.toNat) (i := 8) (by omega)
    rw [Nat.shiftLeft_eq] at this
    rw [← this]
    omega
theorem natL_little (x : UInt64) : ∀ s, natL (littleL x s) = x.toNat % 256 ^ s
  | 0 => by simp [littleL, natL, Nat.mod_one]
  | s + 1 => by
    rw [littleL, natL_append, littleL_len, natL_little x s, natL, natL, Nat.mul_zero, Nat.add_zero]
    rw [UInt64.toNat_toUInt8, shr64_toNat, show 2 ^ (8 * s) = 256 ^ s by rw [Nat.pow_mul], show (2 : Nat) ^ 8 = 256 from rfl]
    exact (Nat.mod_pow_succ).symm
theorem readL_little8 (x : UInt64) : readL (littleL x 8) = x := by
  apply UInt64.toNat.inj
  rw [readL_nat _ (by rw [littleL_len]; omega), natL_little]
  exact Nat.mod_eq_of_lt x.toNat_lt
theorem readL_little4 (c : UInt32) : (readL (littleL c.toUInt64 4)).toUInt32 = c := by
  apply UInt32.toNat.inj
  rw [UInt64.toNat_toUInt32, readL_nat _ (by rw [littleL_len]; omega), natL_little, UInt32.toNat_toUInt64]
  have := c.toNat_lt
  have e : (256 : Nat) ^ 4 = 4294967296 := rfl
  rw [e, Nat.mod_eq_of_lt this, Nat.mod_eq_of_lt this]
end Go.Cod
