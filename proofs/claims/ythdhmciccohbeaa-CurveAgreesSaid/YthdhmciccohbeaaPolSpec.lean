/- A step towards CurveAgreesSaid: no conditions. -/
import Derived.Test.YthdhmciccohbeaaCodNum
namespace Go.Pol
open Go Go.Eng Go.Cod
abbrev D64 : Nat := 18446744073709551616
abbrev D128 : Nat := 340282366920938463463374607431768211456
abbrev D192 : Nat := 6277101735386680763835789423207666416102355444464034512896
abbrev P130 : Nat := 1361129467683753853853498429727072845819
def u (n : Nat) : UInt64 := UInt64.ofNat n
theorem u_nat (n : Nat) : (u n).toNat = n % D64 := by unfold u; rw [UInt64.toNat_ofNat']
theorem u_eq {x : UInt64} {n : Nat} (h : x.toNat = n % D64) : x = u n := UInt64.toNat_inj.1 (by rw [h, u_nat])
def val3 (l : List UInt64) : Nat := (l.getD 0 0).toNat + D64 * (l.getD 1 0).toNat + D128 * (l.getD 2 0).toNat
def w3 (n : Nat) : List UInt64 := [u n, u (n / D64), u (n / D128)]
theorem w3_val {n : Nat} (h : n < D192) : val3 (w3 n) = n := by
  show (u n).toNat + D64 * (u (n / D64)).toNat + D128 * (u (n / D128)).toNat = n
  rw [u_nat, u_nat, u_nat]
  simp only [D64, D128, D192] at h ⊢
  omega
/-- a product, reduced to little more than 130 bits -/
def red1 (x : Nat) : Nat := x % 1361129467683753853853498429727072845824 + 5 * (x / 1361129467683753853853498429727072845824)
def gAdd64 : SpecF := fun args => match args with
  | [.w (.s (.u64 x)), .w (.s (.u64 y)), .w (.s (.u64 c))] => some ([c.toNat ≤ 1], .tup [.s (.u64 (u (x.toNat + y.toNat + c.toNat))), .s (.u64 (u ((x.toNat + y.toNat + c.toNat) / D64)))])
  | _ => none
def gSub64 : SpecF := fun args => match args with
  | [.w (.s (.u64 x)), .w (.s (.u64 y)), .w (.s (.u64 c))] => some ([c.toNat ≤ 1], .tup [.s (.u64 (u (x.toNat + D64 - y.toNat - c.toNat))), .s (.u64 (u (if x.toNat < y.toNat + c.toNat then 1 else 0)))])
  | _ => none
def gMul64 : SpecF := fun args => match args with
  | [.w (.s (.u64 x)), .w (.s (.u64 y))] => some ([], .tup [.s (.u64 (u (x.toNat * y.toNat / D64))), .s (.u64 (u (x.toNat * y.toNat)))])
  | _ => none
def gProd : SpecF := fun args => match args with
  | [.w (.s (.u64 x)), .w (.s (.u64 y))] => some ([], .w (.agg [.one (.u64 (u (x.toNat * y.toNat / D64))), .one (.u64 (u (x.toNat * y.toNat)))]))
  | _ => none
def gPlus : SpecF := fun args => match args with
  | [.w (.agg [.one (.u64 a), .one (.u64 b)]), .w (.agg [.one (.u64 c), .one (.u64 d)])] => some ([], .w (.agg [.one (.u64 (u ((b.toNat + D64 * a.toNat + (d.toNat + D64 * c.toNat)) / D64))), .one (.u64 (u (b.toNat + D64 * a.toNat + (d.toNat + D64 * c.toNat))))]))
  | _ => none
def gAddN : SpecF := fun args => match args with
  | [.w (.agg [.vec (.n 3) (.u64 l)]), .w (.agg [.one (.u64 c), .one (.u64 d)])] => some ([], .w (.agg [.vec (.n 3) (.u64 (w3 (val3 l + (d.toNat + D64 * c.toNat))))]))
  | _ => none
def gTimes : SpecF := fun args => match args with
  | [.w (.agg [.vec (.n 3) (.u64 l)]), .w (.s (.u64 r)), .w (.s (.u64 s))] => some ([val3 l < 2722258935367507707706996859454145691648, r.toNat < 1152921504606846976, s.toNat < 1152921504606846976], .w (.agg [.vec (.n 3) (.u64 (w3 (red1 (val3 l * (r.toNat + D64 * s.toNat)))))]))
  | _ => none
def gReduced : SpecF := fun args => match args with
  | [.w (.agg [.vec (.n 3) (.u64 l)])] => some ([], .w (.agg [.vec (.n 3) (.u64 (w3 (if val3 l < P130 then val3 l else val3 l - P130)))]))
  | _ => none
end Go.Pol
