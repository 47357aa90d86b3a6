/- A step towards CurveAgreesSaid: no conditions. -/
import Derived.Test.YthdhmciccohbeaaCwKey
import Derived.Test.YthdhmciccohbeaaCulVc
import Derived.Test.YthdhmciccohbeaaCugVal
/-! keys of 32 bytes agree -/
namespace Go.Ed
open Go Go.Eng Go.Cod Go.Pol Go.Cur
theorem keyN_lt (s : List UInt8) (x : Nat) : keyN s x < PP := by
  unfold keyN endN
  split <;> exact fm_lt' _ _
theorem nine_val : natL nineL % 57896044618658097711785492504343953926634992332820282019728792003956564819968 % PP = 9 := by decide +kernel
theorem pub_val (b : List UInt8) : keyL b nineL = outN (keyN b 9) := by rw [key_val rfl, nine_val]
theorem two_val (a b : List UInt8) : keyL a (keyL b nineL) = outN (keyN a (keyN b 9)) := by
  have h := keyN_lt b 9
  rw [pub_val, key_val (outN_len _)]
  have e : natL (outN (keyN b 9)) = keyN b 9 := outN_nat (Nat.lt_trans h (by decide))
  rw [e, Nat.mod_eq_of_lt (Nat.lt_trans h (by decide)), Nat.mod_eq_of_lt h]
theorem keys_agree (a b : List UInt8) : keyL a (keyL b nineL) = keyL b (keyL a nineL) := by
  rw [two_val, two_val, key_agree]
end Go.Ed
