/- A step towards CurveAgreesSaid: no conditions. -/
import Derived.Test.YthdhmciccohbeaaCubSpec
import Derived.Test.YthdhmciccohbeaaBase
namespace Go.Cur
open Go Go.Eng
def nineL : List UInt8 := [9, 0, 0, 0, 0, 0, 0, 0, 0, 0, 0, 0, 0, 0, 0, 0, 0, 0, 0, 0, 0, 0, 0, 0, 0, 0, 0, 0, 0, 0, 0, 0]
def gPub : SpecF := fun args => match args with
  | [.w (.agg [.vec (.n 32) (.u8 s)])] => some ([], .w (.agg [.vec (.n 32) (.u8 (keyL s nineL))]))
  | _ => none
def shareE (s p : List UInt8) : Int := if keyL s p = List.replicate 32 0 then 21 else 0
def gShare : SpecF := fun args => match args with
  | [.w (.agg [.vec (.n 32) (.u8 s)]), .w (.agg [.vec (.n 32) (.u8 p)])] => some ([], .tup [.agg [.vec (.n 32) (.u8 (keyL s p))], .s (.i64 (shareE s p))])
  | _ => none
def gMod : SpecF := fun args => match args with
  | [.w (.s (.i64 x)), .w (.s (.i64 n))] => some ([1 ≤ n ∧ n ≤ 4294967296], .s (.i64 ((x.tmod n + n).tmod n)))
  | _ => none
def gYes : SpecF := fun args => match args with
  | [] => some ([], .s (.b true))
  | _ => none
end Go.Cur
namespace Go.Proofs.Ythdhmciccohbeaa
open Go Go.Eng Go.Cod Go.Pol Go.Cur
noncomputable def CLm : Env := mkE Try.prog [(8, gMulP)] [] 40 true
noncomputable def CLr : Env := mkE Try.prog [(16, gMulP)] [] 40 true
set_option maxRecDepth 100000 in
theorem vcPub (s : List UInt8) : (vcFn CLm 100 13 [.agg [.vec (.n 32) (.u8 s)]] (.w (.agg [.vec (.n 32) (.u8 (keyL s nineL))]))) =
  (∀ (y : List UInt8), y = keyL s [UInt8.ofNat (nat_lit 9), (0 : UInt8), (0 : UInt8), (0 : UInt8), (0 : UInt8), (0 : UInt8), (0 : UInt8), (0 : UInt8), (0 : UInt8), (0 : UInt8), (0 : UInt8), (0 : UInt8), (0 : UInt8), (0 : UInt8), (0 : UInt8), (0 : UInt8), (0 : UInt8), (0 : UInt8), (0 : UInt8), (0 : UInt8), (0 : UInt8), (0 : UInt8), (0 : UInt8), (0 : UInt8), (0 : UInt8), (0 : UInt8), (0 : UInt8), (0 : UInt8), (0 : UInt8), (0 : UInt8), (0 : UInt8), (0 : UInt8)] → ∀ (y_1 : List UInt8), y_1 = y → y_1 = keyL s nineL ∧ True) := by kernel_rfl
set_option maxRecDepth 100000 in
theorem vcPubR (s : List UInt8) : (vcFn CLr 100 14 [.agg [.vec (.n 32) (.u8 s)]] (.w (.agg [.vec (.n 32) (.u8 (keyL s nineL))]))) =
  (∀ (y : List UInt8), y = keyL s [UInt8.ofNat (nat_lit 9), (0 : UInt8), (0 : UInt8), (0 : UInt8), (0 : UInt8), (0 : UInt8), (0 : UInt8), (0 : UInt8), (0 : UInt8), (0 : UInt8), (0 : UInt8), (0 : UInt8), (0 : UInt8), (0 : UInt8), (0 : UInt8), (0 : UInt8), (0 : UInt8), (0 : UInt8), (0 : UInt8), (0 : UInt8), (0 : UInt8), (0 : UInt8), (0 : UInt8), (0 : UInt8), (0 : UInt8), (0 : UInt8), (0 : UInt8), (0 : UInt8), (0 : UInt8), (0 : UInt8), (0 : UInt8), (0 : UInt8)] → ∀ (y_1 : List UInt8), y_1 = y → y_1 = keyL s nineL ∧ True) := by kernel_rfl
set_option maxRecDepth 100000 in
theorem vcShare (s p : List UInt8) : (vcFn CLm 100 17 [.agg [.vec (.n 32) (.u8 s)], .agg [.vec (.n 32) (.u8 p)]] (.tup [.agg [.vec (.n 32) (.u8 (keyL s p))], .s (.i64 (shareE s p))])) =
  (∀ (y : List UInt8), y = keyL s p → ∀ (y_1 : List UInt8), y_1 = y → ((y_1 == [(0 : UInt8), (0 : UInt8), (0 : UInt8), (0 : UInt8), (0 : UInt8), (0 : UInt8), (0 : UInt8), (0 : UInt8), (0 : UInt8), (0 : UInt8), (0 : UInt8), (0 : UInt8), (0 : UInt8), (0 : UInt8), (0 : UInt8), (0 : UInt8), (0 : UInt8), (0 : UInt8), (0 : UInt8), (0 : UInt8), (0 : UInt8), (0 : UInt8), (0 : UInt8), (0 : UInt8), (0 : UInt8), (0 : UInt8), (0 : UInt8), (0 : UInt8), (0 : UInt8), (0 : UInt8), (0 : UInt8), (0 : UInt8)]) = true → ∀ (y : List UInt8), y = y_1 → y = keyL s p ∧ Int.ofNat (21 : Nat) = shareE s p ∧ True) ∧ ((y_1 == [(0 : UInt8), (0 : UInt8), (0 : UInt8), (0 : UInt8), (0 : UInt8), (0 : UInt8), (0 : UInt8), (0 : UInt8), (0 : UInt8), (0 : UInt8), (0 : UInt8), (0 : UInt8), (0 : UInt8), (0 : UInt8), (0 : UInt8), (0 : UInt8), (0 : UInt8), (0 : UInt8), (0 : UInt8), (0 : UInt8), (0 : UInt8), (0 : UInt8), (0 : UInt8), (0 : UInt8), (0 : UInt8), (0 : UInt8), (0 : UInt8), (0 : UInt8), (0 : UInt8), (0 : UInt8), (0 : UInt8), (0 : UInt8)]) = false → ∀ (y : List UInt8), y = y_1 → y = keyL s p ∧ Int.ofNat (0 : Nat) = shareE s p ∧ True)) := by kernel_rfl
set_option maxRecDepth 100000 in
theorem vcShareR (s p : List UInt8) : (vcFn CLr 100 18 [.agg [.vec (.n 32) (.u8 s)], .agg [.vec (.n 32) (.u8 p)]] (.tup [.agg [.vec (.n 32) (.u8 (keyL s p))], .s (.i64 (shareE s p))])) =
  (∀ (y : List UInt8), y = keyL s p → ∀ (y_1 : List UInt8), y_1 = y → ((y_1 == [(0 : UInt8), (0 : UInt8), (0 : UInt8), (0 : UInt8), (0 : UInt8), (0 : UInt8), (0 : UInt8), (0 : UInt8), (0 : UInt8), (0 : UInt8), (0 : UInt8), (0 : UInt8), (0 : UInt8), (0 : UInt8), (0 : UInt8), (0 : UInt8), (0 : UInt8), (0 : UInt8), (0 : UInt8), (0 : UInt8), (0 : UInt8), (0 : UInt8), (0 : UInt8), (0 : UInt8), (0 : UInt8), (0 : UInt8), (0 : UInt8), (0 : UInt8), (0 : UInt8), (0 : UInt8), (0 : UInt8), (0 : UInt8)]) = true → ∀ (y : List UInt8), y = y_1 → y = keyL s p ∧ Int.ofNat (21 : Nat) = shareE s p ∧ True) ∧ ((y_1 == [(0 : UInt8), (0 : UInt8), (0 : UInt8), (0 : UInt8), (0 : UInt8), (0 : UInt8), (0 : UInt8), (0 : UInt8), (0 : UInt8), (0 : UInt8), (0 : UInt8), (0 : UInt8), (0 : UInt8), (0 : UInt8), (0 : UInt8), (0 : UInt8), (0 : UInt8), (0 : UInt8), (0 : UInt8), (0 : UInt8), (0 : UInt8), (0 : UInt8), (0 : UInt8), (0 : UInt8), (0 : UInt8), (0 : UInt8), (0 : UInt8), (0 : UInt8), (0 : UInt8), (0 : UInt8), (0 : UInt8), (0 : UInt8)]) = false → ∀ (y : List UInt8), y = y_1 → y = keyL s p ∧ Int.ofNat (0 : Nat) = shareE s p ∧ True)) := by kernel_rfl
set_option maxRecDepth 100000 in
theorem vcMod (x n : Int) : (vcFn CLr 100 9 [.s (.i64 x), .s (.i64 n)] (.s (.i64 ((x.tmod n + n).tmod n)))) =
  ((decide (n < Int.ofNat (1 : Nat)) = true → Int.ofNat (0 : Nat) = (x.tmod n + n).tmod n ∧ True) ∧ (decide (n < Int.ofNat (1 : Nat)) = false → n ≠ (0 : Int) ∧ InI (x.tmod n + n) ∧ n ≠ (0 : Int) ∧ ∀ (y : Int), y = (x.tmod n + n).tmod n → y = (x.tmod n + n).tmod n ∧ True)) := by kernel_rfl
end Go.Proofs.Ythdhmciccohbeaa
