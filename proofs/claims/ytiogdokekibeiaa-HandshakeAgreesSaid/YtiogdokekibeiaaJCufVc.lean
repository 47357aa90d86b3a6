/- Steps towards HandshakeAgreesSaid. -/
import Derived.Test.YtiogdokekibeiaaJCufSpec
import Derived.Test.YtiogdokekibeiaaBase
import Derived.Test.YtiogdokekibeiaaJCuvVal
import Derived.Test.YtiogdokekibeiaaJCurVc
import Derived.Test.YtiogdokekibeiaaJCulVc
/- A step towards HandshakeAgreesSaid: no conditions. -/

namespace Go.Proofs.Ytiogdokekibeiaa
open Go Go.Eng Go.Cod Go.Pol Go.Cur
noncomputable def FEc : Env := mkE Try.prog [] [(0, JCarR)] 4 true
noncomputable def FEa : Env := mkE Try.prog [] [(0, JBin addI 6)] 4 true
noncomputable def FEs : Env := mkE Try.prog [] [(0, JBin subI 6)] 4 true
noncomputable def FEm : Env := mkE Try.prog [(42, gCarR)] [(0, JProd), (2, JRow), (4, JFold)] 4 true
noncomputable def FEp : Env := mkE Try.prog [(26, gMulR)] [(0, JPowR)] 4 true
set_option maxRecDepth 100000 in
theorem vcRCar (f : List Int) : (vcFn FEc 100 42 [.agg [.vec (.n 16) (.i64 f)]] (.w (.agg [.vec (.n 16) (.i64 (carR f))]))) =
  ((∃ (x : Nat), x ≤ (16 : Nat) ∧ Int.ofNat (0 : Nat) = (↑x : Int) ∧ f = carI f x ∧ List.replicate (16 : Nat) (0 : Int) = List.replicate (16 : Nat) (0 : Int) ∧ True) ∧ ∀ (x : Nat), x ≤ (16 : Nat) → (decide ((↑x : Int) < Int.ofNat (16 : Nat)) = true → ((0 : Int) ≤ (↑x : Int) ∧ (↑x : Int) < (↑(16 : Nat) : Int)) ∧ (↑x : Int).toNat < (16 : Nat) ∧ (16 : Nat) ≤ (64 : Nat) ∧ ∀ (y : Int), y = (carI f x).getD (↑x : Int).toNat (0 : Int) / (2 : Int) ^ (16 : Nat) → ((0 : Int) ≤ (↑x : Int) ∧ (↑x : Int) < (↑(16 : Nat) : Int)) ∧ (↑x : Int).toNat < (16 : Nat) ∧ ((16 : Nat) ≤ (64 : Nat) ∧ InI (y * (2 : Int) ^ (16 : Nat))) ∧ InI ((carI f x).getD (↑x : Int).toNat (0 : Int) - y * (2 : Int) ^ (16 : Nat)) ∧ ((0 : Int) ≤ (↑x : Int) ∧ (↑x : Int) < (↑(16 : Nat) : Int)) ∧ (↑x : Int).toNat < (16 : Nat) ∧ ∀ (y_1 : List Int), y_1 = (carI f x).set (↑x : Int).toNat ((carI f x).getD (↑x : Int).toNat (0 : Int) - y * (2 : Int) ^ (16 : Nat)) → (decide ((↑x : Int) < Int.ofNat (15 : Nat)) = true → InI ((↑x : Int) + Int.ofNat (1 : Nat)) ∧ ((0 : Int) ≤ (↑x : Int) + Int.ofNat (1 : Nat) ∧ (↑x : Int) + Int.ofNat (1 : Nat) < (↑(16 : Nat) : Int)) ∧ ((↑x : Int) + Int.ofNat (1 : Nat)).toNat < (16 : Nat) ∧ InI (y_1.getD ((↑x : Int) + Int.ofNat (1 : Nat)).toNat (0 : Int) + y) ∧ ((0 : Int) ≤ (↑x : Int) + Int.ofNat (1 : Nat) ∧ (↑x : Int) + Int.ofNat (1 : Nat) < (↑(16 : Nat) : Int)) ∧ ((↑x : Int) + Int.ofNat (1 : Nat)).toNat < (16 : Nat) ∧ ∀ (y_2 : List Int), y_2 = y_1.set ((↑x : Int) + Int.ofNat (1 : Nat)).toNat (y_1.getD ((↑x : Int) + Int.ofNat (1 : Nat)).toNat (0 : Int) + y) → InI ((↑x : Int) + Int.ofNat (1 : Nat)) ∧ ∀ (y : Int), y = (↑x : Int) + Int.ofNat (1 : Nat) → ∃ (y_3 : Nat), y_3 ≤ (16 : Nat) ∧ (16 : Nat) - y_3 < (16 : Nat) - x ∧ y = (↑y_3 : Int) ∧ y_2 = carI f y_3 ∧ List.replicate (16 : Nat) (0 : Int) = List.replicate (16 : Nat) (0 : Int) ∧ True) ∧ (decide ((↑x : Int) < Int.ofNat (15 : Nat)) = false → InI (Int.ofNat (38 : Nat) * y) ∧ InI (y_1.getD (0 : Nat) (0 : Int) + Int.ofNat (38 : Nat) * y) ∧ ∀ (y_2 : List Int), y_2 = y_1.set (0 : Nat) (y_1.getD (0 : Nat) (0 : Int) + Int.ofNat (38 : Nat) * y) → InI ((↑x : Int) + Int.ofNat (1 : Nat)) ∧ ∀ (y : Int), y = (↑x : Int) + Int.ofNat (1 : Nat) → ∃ (y_3 : Nat), y_3 ≤ (16 : Nat) ∧ (16 : Nat) - y_3 < (16 : Nat) - x ∧ y = (↑y_3 : Int) ∧ y_2 = carI f y_3 ∧ List.replicate (16 : Nat) (0 : Int) = List.replicate (16 : Nat) (0 : Int) ∧ True)) ∧ (decide ((↑x : Int) < Int.ofNat (16 : Nat)) = false → ∀ (y : List Int), y = carI f x → y = carR f ∧ True)) := by kernel_rfl
set_option maxRecDepth 100000 in
theorem vcRAdd (a b : List Int) : (vcFn FEa 100 39 [.agg [.vec (.n 16) (.i64 a)], .agg [.vec (.n 16) (.i64 b)]] (.w (.agg [.vec (.n 16) (.i64 (addI a b 16))]))) =
  ((∃ (x : Nat), x ≤ (16 : Nat) ∧ Int.ofNat (0 : Nat) = (↑x : Int) ∧ a = addI a b x ∧ b = b ∧ List.replicate (16 : Nat) (0 : Int) = List.replicate (16 : Nat) (0 : Int) ∧ True) ∧ ∀ (x : Nat), x ≤ (16 : Nat) → (decide ((↑x : Int) < Int.ofNat (16 : Nat)) = true → ∀ (y : Int), y = (↑x : Int) → ((0 : Int) ≤ y ∧ y < (↑(16 : Nat) : Int)) ∧ y.toNat < (16 : Nat) ∧ ((0 : Int) ≤ y ∧ y < (↑(16 : Nat) : Int)) ∧ y.toNat < (16 : Nat) ∧ InI ((addI a b x).getD y.toNat (0 : Int) + b.getD y.toNat (0 : Int)) ∧ ((0 : Int) ≤ y ∧ y < (↑(16 : Nat) : Int)) ∧ y.toNat < (16 : Nat) ∧ ∀ (y_1 : List Int), y_1 = (addI a b x).set y.toNat ((addI a b x).getD y.toNat (0 : Int) + b.getD y.toNat (0 : Int)) → InI ((↑x : Int) + Int.ofNat (1 : Nat)) ∧ ∃ (y : Nat), y ≤ (16 : Nat) ∧ (16 : Nat) - y < (16 : Nat) - x ∧ (↑x : Int) + Int.ofNat (1 : Nat) = (↑y : Int) ∧ y_1 = addI a b y ∧ b = b ∧ List.replicate (16 : Nat) (0 : Int) = List.replicate (16 : Nat) (0 : Int) ∧ True) ∧ (decide ((↑x : Int) < Int.ofNat (16 : Nat)) = false → ∀ (y : List Int), y = addI a b x → y = addI a b (16 : Nat) ∧ True)) := by kernel_rfl
set_option maxRecDepth 100000 in
theorem vcRSub (a b : List Int) : (vcFn FEs 100 40 [.agg [.vec (.n 16) (.i64 a)], .agg [.vec (.n 16) (.i64 b)]] (.w (.agg [.vec (.n 16) (.i64 (subI a b 16))]))) =
  ((∃ (x : Nat), x ≤ (16 : Nat) ∧ Int.ofNat (0 : Nat) = (↑x : Int) ∧ a = subI a b x ∧ b = b ∧ List.replicate (16 : Nat) (0 : Int) = List.replicate (16 : Nat) (0 : Int) ∧ True) ∧ ∀ (x : Nat), x ≤ (16 : Nat) → (decide ((↑x : Int) < Int.ofNat (16 : Nat)) = true → ∀ (y : Int), y = (↑x : Int) → ((0 : Int) ≤ y ∧ y < (↑(16 : Nat) : Int)) ∧ y.toNat < (16 : Nat) ∧ ((0 : Int) ≤ y ∧ y < (↑(16 : Nat) : Int)) ∧ y.toNat < (16 : Nat) ∧ InI ((subI a b x).getD y.toNat (0 : Int) - b.getD y.toNat (0 : Int)) ∧ ((0 : Int) ≤ y ∧ y < (↑(16 : Nat) : Int)) ∧ y.toNat < (16 : Nat) ∧ ∀ (y_1 : List Int), y_1 = (subI a b x).set y.toNat ((subI a b x).getD y.toNat (0 : Int) - b.getD y.toNat (0 : Int)) → InI ((↑x : Int) + Int.ofNat (1 : Nat)) ∧ ∃ (y : Nat), y ≤ (16 : Nat) ∧ (16 : Nat) - y < (16 : Nat) - x ∧ (↑x : Int) + Int.ofNat (1 : Nat) = (↑y : Int) ∧ y_1 = subI a b y ∧ b = b ∧ List.replicate (16 : Nat) (0 : Int) = List.replicate (16 : Nat) (0 : Int) ∧ True) ∧ (decide ((↑x : Int) < Int.ofNat (16 : Nat)) = false → ∀ (y : List Int), y = subI a b x → y = subI a b (16 : Nat) ∧ True)) := by kernel_rfl
set_option maxRecDepth 100000 in
theorem vcRMul (a b : List Int) : (vcFn FEm 200 26 [.agg [.vec (.n 16) (.i64 a)], .agg [.vec (.n 16) (.i64 b)]] (.w (.agg [.vec (.n 16) (.i64 (mulR a b))]))) =
  ((∃ (x : Nat), x ≤ (16 : Nat) ∧ Int.ofNat (0 : Nat) = (↑x : Int) ∧ a = a ∧ b = b ∧ List.replicate (16 : Nat) (0 : Int) = List.replicate (16 : Nat) (0 : Int) ∧ List.replicate (31 : Nat) (0 : Int) = prodI a b x ∧ True) ∧ ∀ (x : Nat), x ≤ (16 : Nat) → (decide ((↑x : Int) < Int.ofNat (16 : Nat)) = true → ∀ (y : Int), y = (↑x : Int) → (∃ (x_1 : Nat), x_1 ≤ (16 : Nat) ∧ y = y ∧ (↑x : Int) = (↑x : Int) ∧ Int.ofNat (0 : Nat) = (↑x_1 : Int) ∧ a = a ∧ b = b ∧ List.replicate (16 : Nat) (0 : Int) = List.replicate (16 : Nat) (0 : Int) ∧ prodI a b x = rowI a b y.toNat (prodI a b x) x_1 ∧ True) ∧ ∀ (x_1 : Nat), x_1 ≤ (16 : Nat) → (decide ((↑x_1 : Int) < Int.ofNat (16 : Nat)) = true → ∀ (y_1 : Int), y_1 = (↑x_1 : Int) → InI (y + y_1) ∧ ((0 : Int) ≤ y + y_1 ∧ y + y_1 < (↑(31 : Nat) : Int)) ∧ (y + y_1).toNat < (31 : Nat) ∧ ((0 : Int) ≤ y ∧ y < (↑(16 : Nat) : Int)) ∧ y.toNat < (16 : Nat) ∧ ((0 : Int) ≤ y_1 ∧ y_1 < (↑(16 : Nat) : Int)) ∧ y_1.toNat < (16 : Nat) ∧ InI (a.getD y.toNat (0 : Int) * b.getD y_1.toNat (0 : Int)) ∧ InI ((rowI a b y.toNat (prodI a b x) x_1).getD (y + y_1).toNat (0 : Int) + a.getD y.toNat (0 : Int) * b.getD y_1.toNat (0 : Int)) ∧ ((0 : Int) ≤ y + y_1 ∧ y + y_1 < (↑(31 : Nat) : Int)) ∧ (y + y_1).toNat < (31 : Nat) ∧ ∀ (y_2 : List Int), y_2 = (rowI a b y.toNat (prodI a b x) x_1).set (y + y_1).toNat ((rowI a b y.toNat (prodI a b x) x_1).getD (y + y_1).toNat (0 : Int) + a.getD y.toNat (0 : Int) * b.getD y_1.toNat (0 : Int)) → InI ((↑x_1 : Int) + Int.ofNat (1 : Nat)) ∧ ∃ (y_3 : Nat), y_3 ≤ (16 : Nat) ∧ (16 : Nat) - y_3 < (16 : Nat) - x_1 ∧ y = y ∧ (↑x : Int) = (↑x : Int) ∧ (↑x_1 : Int) + Int.ofNat (1 : Nat) = (↑y_3 : Int) ∧ a = a ∧ b = b ∧ List.replicate (16 : Nat) (0 : Int) = List.replicate (16 : Nat) (0 : Int) ∧ y_2 = rowI a b y.toNat (prodI a b x) y_3 ∧ True) ∧ (decide ((↑x_1 : Int) < Int.ofNat (16 : Nat)) = false → InI ((↑x : Int) + Int.ofNat (1 : Nat)) ∧ ∃ (y_1 : Nat), y_1 ≤ (16 : Nat) ∧ (16 : Nat) - y_1 < (16 : Nat) - x ∧ (↑x : Int) + Int.ofNat (1 : Nat) = (↑y_1 : Int) ∧ a = a ∧ b = b ∧ List.replicate (16 : Nat) (0 : Int) = List.replicate (16 : Nat) (0 : Int) ∧ rowI a b y.toNat (prodI a b x) x_1 = prodI a b y_1 ∧ True)) ∧ (decide ((↑x : Int) < Int.ofNat (16 : Nat)) = false → (∃ (x_1 : Nat), x_1 ≤ (16 : Nat) ∧ Int.ofNat (0 : Nat) = (↑x_1 : Int) ∧ a = a ∧ b = b ∧ List.replicate (16 : Nat) (0 : Int) = List.replicate (16 : Nat) (0 : Int) ∧ prodI a b x = prodI a b x ∧ List.replicate (16 : Nat) (0 : Int) = foldI (prodI a b x) x_1 ∧ True) ∧ ∀ (x_1 : Nat), x_1 ≤ (16 : Nat) → (decide ((↑x_1 : Int) < Int.ofNat (16 : Nat)) = true → ∀ (y : Int), y = (↑x_1 : Int) → ((0 : Int) ≤ y ∧ y < (↑(31 : Nat) : Int)) ∧ y.toNat < (31 : Nat) ∧ ((0 : Int) ≤ y ∧ y < (↑(16 : Nat) : Int)) ∧ y.toNat < (16 : Nat) ∧ ∀ (y_1 : List Int), y_1 = (foldI (prodI a b x) x_1).set y.toNat ((prodI a b x).getD y.toNat (0 : Int)) → (decide (y < Int.ofNat (15 : Nat)) = true → ((0 : Int) ≤ y ∧ y < (↑(16 : Nat) : Int)) ∧ y.toNat < (16 : Nat) ∧ InI (y + Int.ofNat (16 : Nat)) ∧ ((0 : Int) ≤ y + Int.ofNat (16 : Nat) ∧ y + Int.ofNat (16 : Nat) < (↑(31 : Nat) : Int)) ∧ (y + Int.ofNat (16 : Nat)).toNat < (31 : Nat) ∧ InI (Int.ofNat (38 : Nat) * (prodI a b x).getD (y + Int.ofNat (16 : Nat)).toNat (0 : Int)) ∧ InI (y_1.getD y.toNat (0 : Int) + Int.ofNat (38 : Nat) * (prodI a b x).getD (y + Int.ofNat (16 : Nat)).toNat (0 : Int)) ∧ ((0 : Int) ≤ y ∧ y < (↑(16 : Nat) : Int)) ∧ y.toNat < (16 : Nat) ∧ ∀ (y_2 : List Int), y_2 = y_1.set y.toNat (y_1.getD y.toNat (0 : Int) + Int.ofNat (38 : Nat) * (prodI a b x).getD (y + Int.ofNat (16 : Nat)).toNat (0 : Int)) → InI ((↑x_1 : Int) + Int.ofNat (1 : Nat)) ∧ ∃ (y : Nat), y ≤ (16 : Nat) ∧ (16 : Nat) - y < (16 : Nat) - x_1 ∧ (↑x_1 : Int) + Int.ofNat (1 : Nat) = (↑y : Int) ∧ a = a ∧ b = b ∧ List.replicate (16 : Nat) (0 : Int) = List.replicate (16 : Nat) (0 : Int) ∧ prodI a b x = prodI a b x ∧ y_2 = foldI (prodI a b x) y ∧ True) ∧ (decide (y < Int.ofNat (15 : Nat)) = false → InI ((↑x_1 : Int) + Int.ofNat (1 : Nat)) ∧ ∃ (y : Nat), y ≤ (16 : Nat) ∧ (16 : Nat) - y < (16 : Nat) - x_1 ∧ (↑x_1 : Int) + Int.ofNat (1 : Nat) = (↑y : Int) ∧ a = a ∧ b = b ∧ List.replicate (16 : Nat) (0 : Int) = List.replicate (16 : Nat) (0 : Int) ∧ prodI a b x = prodI a b x ∧ y_1 = foldI (prodI a b x) y ∧ True)) ∧ (decide ((↑x_1 : Int) < Int.ofNat (16 : Nat)) = false → Bd B60 (foldI (prodI a b x) x_1) ∧ ∀ (y : List Int), y = carR (foldI (prodI a b x) x_1) → Bd B60 y ∧ ∀ (y_1 : List Int), y_1 = carR y → ∀ (y : List Int), y = y_1 → y = mulR a b ∧ True))) := by kernel_rfl
set_option maxRecDepth 100000 in
theorem vcRPow (a : List Int) : (vcFn FEp 200 27 [.agg [.vec (.n 16) (.i64 a)]] (.w (.agg [.vec (.n 16) (.i64 (powR a 254))]))) =
  (∀ (y : List Int), y = a → (∃ (x : Nat), x ≤ (254 : Nat) ∧ Int.ofNat (253 : Nat) = (253 : Int) - (↑x : Int) ∧ a = a ∧ List.replicate (16 : Nat) (0 : Int) = List.replicate (16 : Nat) (0 : Int) ∧ y = powR a x ∧ True) ∧ ∀ (x : Nat), x ≤ (254 : Nat) → (decide (Int.ofNat (0 : Nat) ≤ (253 : Int) - (↑x : Int)) = true → Bd B18 (powR a x) ∧ Bd B18 (powR a x) ∧ ∀ (y : List Int), y = mulR (powR a x) (powR a x) → ∀ (y_1 : List Int), y_1 = y → (decide ((253 : Int) - (↑x : Int) ≠ Int.ofNat (2 : Nat)) = true → (decide ((253 : Int) - (↑x : Int) ≠ Int.ofNat (4 : Nat)) = true → Bd B18 y_1 ∧ Bd B18 a ∧ ∀ (y : List Int), y = mulR y_1 a → ∀ (y_2 : List Int), y_2 = y → InI ((253 : Int) - (↑x : Int) - Int.ofNat (1 : Nat)) ∧ ∀ (y : Int), y = (253 : Int) - (↑x : Int) - Int.ofNat (1 : Nat) → ∃ (y_3 : Nat), y_3 ≤ (254 : Nat) ∧ (254 : Nat) - y_3 < (254 : Nat) - x ∧ y = (253 : Int) - (↑y_3 : Int) ∧ a = a ∧ List.replicate (16 : Nat) (0 : Int) = List.replicate (16 : Nat) (0 : Int) ∧ y_2 = powR a y_3 ∧ True) ∧ (decide ((253 : Int) - (↑x : Int) ≠ Int.ofNat (4 : Nat)) = false → InI ((253 : Int) - (↑x : Int) - Int.ofNat (1 : Nat)) ∧ ∀ (y : Int), y = (253 : Int) - (↑x : Int) - Int.ofNat (1 : Nat) → ∃ (y_2 : Nat), y_2 ≤ (254 : Nat) ∧ (254 : Nat) - y_2 < (254 : Nat) - x ∧ y = (253 : Int) - (↑y_2 : Int) ∧ a = a ∧ List.replicate (16 : Nat) (0 : Int) = List.replicate (16 : Nat) (0 : Int) ∧ y_1 = powR a y_2 ∧ True)) ∧ (decide ((253 : Int) - (↑x : Int) ≠ Int.ofNat (2 : Nat)) = false → InI ((253 : Int) - (↑x : Int) - Int.ofNat (1 : Nat)) ∧ ∀ (y : Int), y = (253 : Int) - (↑x : Int) - Int.ofNat (1 : Nat) → ∃ (y_2 : Nat), y_2 ≤ (254 : Nat) ∧ (254 : Nat) - y_2 < (254 : Nat) - x ∧ y = (253 : Int) - (↑y_2 : Int) ∧ a = a ∧ List.replicate (16 : Nat) (0 : Int) = List.replicate (16 : Nat) (0 : Int) ∧ y_1 = powR a y_2 ∧ True)) ∧ (decide (Int.ofNat (0 : Nat) ≤ (253 : Int) - (↑x : Int)) = false → ∀ (y : List Int), y = powR a x → y = powR a (254 : Nat) ∧ True)) := by kernel_rfl
end Go.Proofs.Ytiogdokekibeiaa

/- A step towards HandshakeAgreesSaid: no conditions. -/

namespace Go.Proofs.Ytiogdokekibeiaa
open Go Go.Eng Go.Cod Go.Pol Go.Cur
theorem in16 {x : Nat} (h : x < 16) : (0 ≤ (x : Int) ∧ (x : Int) < ((16 : Nat) : Int)) := by omega
theorem inI60 {x : Int} (h : -4611686018427387904 ≤ x ∧ x ≤ 4611686018427387904) : InI x := by unfold InI; omega
theorem to_n (x : Nat) : ((x : Int) + ((1 : Nat) : Int)).toNat = x + 1 := by omega
theorem nx16 {n x : Nat} {p : Nat → Prop} (hx : x < n) (h : p (x + 1)) : ∃ y : Nat, y ≤ n ∧ n - y < n - x ∧ (x : Int) + ((1 : Nat) : Int) = (y : Int) ∧ p y := ⟨x + 1, by omega, by omega, by omega, h⟩
set_option maxRecDepth 100000 in
theorem conRCar : Con Try.prog 42 gCarR := con_of_vcl fun args ps res h hp hlen => by
  unfold gCarR at h
  split at h <;> cases h
  rename_i f
  have hl : f.length = 16 := hlen.1.1
  have hb := (all_cons.1 hp).1
  refine ⟨FEc, 100, rfl, eok (gs := []) trivial, ?_⟩
  rw [vcRCar]
  simp only [forall_eq, io, Int.toNat_natCast, to_n, d_eq]
  refine ⟨⟨0, by decide, rfl, rfl, trivial, trivial⟩, fun x hx => ⟨fun h => ?_, fun h => ?_⟩⟩
  · have h := of_decide_eq_true h
    have hx : x ≤ 15 := by omega
    obtain ⟨i1, i2, i3⟩ := car_inv hl (Int.le_refl _) hb x hx
    have l1 : (carI f x).length = 16 := by rw [carI_len, hl]
    simp only [B60] at i2
    have hI : InI (d (carI f x) x / 2 ^ 16 * 2 ^ 16) := inI60 (by omega)
    have hJ : InI (d (carI f x) x - d (carI f x) x / 2 ^ 16 * 2 ^ 16) := inI60 (by omega)
    refine ⟨by omega, by omega, by decide, by omega, by omega, ⟨by decide, hI⟩, hJ, by omega, by omega, fun h2 => ?_, fun h2 => ?_⟩
    · have h2 := of_decide_eq_true h2
      have e : d ((carI f x).set x (d (carI f x) x - d (carI f x) x / 2 ^ 16 * 2 ^ 16)) (x + 1) = d f (x + 1) := by rw [d_ne (by omega), i3 (x + 1) (by omega)]
      have b1 := hb (x + 1)
      simp only [B60] at b1
      refine ⟨inI60 (by omega), by omega, by omega, inI60 (by rw [e]; omega), by omega, by omega, inI60 (by omega), nx16 (by omega) ⟨?_, trivial, trivial⟩⟩
      show _ = carS (carI f x) x
      unfold carS
      rw [if_pos (by omega)]
    · have h2 := of_decide_eq_false h2
      have hx15 : x = 15 := by omega
      subst hx15
      have b1 := i1 0 (by omega)
      have e : d ((carI f 15).set 15 (d (carI f 15) 15 - d (carI f 15) 15 / 2 ^ 16 * 2 ^ 16)) 0 = d (carI f 15) 0 := by rw [d_ne (by omega)]
      refine ⟨inI60 (by omega), inI60 (by rw [e]; omega), inI60 (by omega), nx16 (by omega) ⟨?_, trivial, trivial⟩⟩
      show _ = carS (carI f 15) 15
      unfold carS
      rw [if_neg (by omega)]
      rfl
  · have h := of_decide_eq_false h
    have : x = 16 := by omega
    subst this
    exact ⟨rfl, trivial⟩
set_option maxRecDepth 100000 in
theorem conRAdd : Con Try.prog 39 gAddR := con_of_vcl fun args ps res h hp hlen => by
  unfold gAddR at h
  split at h <;> cases h
  rename_i a b
  have la : a.length = 16 := hlen.1.1
  obtain ⟨ha, hp2⟩ := all_cons.1 hp
  have hb := (all_cons.1 hp2).1
  refine ⟨FEa, 100, rfl, eok (gs := []) trivial, ?_⟩
  rw [vcRAdd]
  simp only [forall_eq, io, Int.toNat_natCast, d_eq]
  refine ⟨⟨0, by decide, rfl, rfl, trivial, trivial, trivial⟩, fun x hx => ⟨fun h => ?_, fun h => ?_⟩⟩
  · have h := of_decide_eq_true h
    have e := addI_d (b := b) la x hx x
    rw [if_neg (by omega)] at e
    have h1 := ha x
    have h2 := hb x
    simp only [B60] at h1 h2
    exact ⟨by omega, by omega, by omega, by omega, inI60 (by rw [e]; omega), by omega, by omega, inI60 (by omega), nx16 (by omega) ⟨rfl, trivial, trivial, trivial⟩⟩
  · have h := of_decide_eq_false h
    have : x = 16 := by omega
    subst this
    exact ⟨rfl, trivial⟩
set_option maxRecDepth 100000 in
theorem conRSub : Con Try.prog 40 gSubR := con_of_vcl fun args ps res h hp hlen => by
  unfold gSubR at h
  split at h <;> cases h
  rename_i a b
  have la : a.length = 16 := hlen.1.1
  obtain ⟨ha, hp2⟩ := all_cons.1 hp
  have hb := (all_cons.1 hp2).1
  refine ⟨FEs, 100, rfl, eok (gs := []) trivial, ?_⟩
  rw [vcRSub]
  simp only [forall_eq, io, Int.toNat_natCast, d_eq]
  refine ⟨⟨0, by decide, rfl, rfl, trivial, trivial, trivial⟩, fun x hx => ⟨fun h => ?_, fun h => ?_⟩⟩
  · have h := of_decide_eq_true h
    have e := subI_d (b := b) la x hx x
    rw [if_neg (by omega)] at e
    have h1 := ha x
    have h2 := hb x
    simp only [B60] at h1 h2
    exact ⟨by omega, by omega, by omega, by omega, inI60 (by rw [e]; omega), by omega, by omega, inI60 (by omega), nx16 (by omega) ⟨rfl, trivial, trivial, trivial⟩⟩
  · have h := of_decide_eq_false h
    have : x = 16 := by omega
    subst this
    exact ⟨rfl, trivial⟩
theorem to_nn (x y : Nat) : ((x : Int) + (y : Int)).toNat = x + y := by omega
theorem to_n16 (x : Nat) : ((x : Int) + ((16 : Nat) : Int)).toNat = x + 16 := by omega
set_option maxRecDepth 100000 in
theorem conRMul : Con Try.prog 26 gMulR := con_of_vcl fun args ps res h hp hlen => by
  unfold gMulR at h
  split at h <;> cases h
  rename_i a b
  have la : a.length = 16 := hlen.1.1
  have lb : b.length = 16 := hlen.2.1.1
  obtain ⟨ha, hp2⟩ := all_cons.1 hp
  have hb := (all_cons.1 hp2).1
  refine ⟨FEm, 200, rfl, eok (gs := [(42, gCarR)]) ⟨conRCar, trivial⟩, ?_⟩
  rw [vcRMul]
  simp only [forall_eq, io, Int.toNat_natCast, d_eq, to_nn]
  refine ⟨⟨0, by decide, rfl, trivial, trivial, trivial, rfl, trivial⟩, fun x hx => ⟨fun h => ?_, fun h => ?_⟩⟩
  · have h := of_decide_eq_true h
    refine ⟨⟨0, by decide, trivial, trivial, rfl, trivial, trivial, trivial, rfl, trivial⟩, fun y hy => ⟨fun h2 => ?_, fun h2 => ?_⟩⟩
    · have h2 := of_decide_eq_true h2
      have r := rowI_bd ha hb x (by omega) (prodI_len a b x) (prodI_bd ha hb x (by omega)) y (by omega) (x + y)
      have p := pr_bd (ha x) (hb y)
      exact ⟨inI60 (by omega), by omega, by omega, by omega, by omega, by omega, by omega, inI60 (by omega), inI60 (by omega), by omega, by omega, inI60 (by omega), ⟨y + 1, by omega, by omega, trivial, trivial, by omega, trivial, trivial, trivial, rfl, trivial⟩⟩
    · have h2 := of_decide_eq_false h2
      have : y = 16 := by omega
      subst this
      exact ⟨inI60 (by omega), nx16 (by omega) ⟨trivial, trivial, trivial, rfl, trivial⟩⟩
  · have h := of_decide_eq_false h
    have : x = 16 := by omega
    subst this
    have pb := prodI_bd ha hb 16 (by omega)
    have pb2 : Bd 17592186044416 (prodI a b 16) := fun j => by have := pb j; omega
    refine ⟨⟨0, by decide, rfl, trivial, trivial, trivial, trivial, rfl, trivial⟩, fun x hx => ⟨fun h => ?_, fun h => ?_⟩⟩
    · have h := of_decide_eq_true h
      have e0 : d (foldI (prodI a b 16) x) x = 0 := by rw [foldI_d x (by omega) x, if_neg (by omega)]
      have l0 := foldI_len (prodI a b 16) x
      have e1 : d ((foldI (prodI a b 16) x).set x (d (prodI a b 16) x)) x = d (prodI a b 16) x := d_set (by omega)
      have b1 := pb2 x
      have b2 := pb2 (x + 16)
      refine ⟨by omega, by omega, by omega, by omega, fun h2 => ?_, fun h2 => ?_⟩
      · have h2 := of_decide_eq_true h2
        refine ⟨by omega, by omega, inI60 (by omega), by omega, by omega, inI60 (by omega), inI60 (by rw [e1]; omega), by omega, by omega, inI60 (by omega), nx16 (by omega) ⟨trivial, trivial, trivial, trivial, ?_, trivial⟩⟩
        show _ = if _ then _ else _
        rw [if_pos (by omega)]
        rfl
      · have h2 := of_decide_eq_false h2
        refine ⟨inI60 (by omega), nx16 (by omega) ⟨trivial, trivial, trivial, trivial, ?_, trivial⟩⟩
        show _ = if _ then _ else _
        rw [if_neg (by omega)]
    · have h := of_decide_eq_false h
      have : x = 16 := by omega
      subst this
      have fb := foldI_bd pb2 (Nat.le_refl 16)
      have cb := carR_bd (foldI_len (prodI a b 16) 16) (by decide) fb (by decide)
      exact ⟨fun j => by have := fb j; simp only [B60]; omega, fun j => by have := cb j; simp only [B60]; omega, rfl, trivial⟩
theorem powR_nm {a : List Int} (ha : Bd B18 a) (la : a.length = 16) : ∀ n, Bd B18 (powR a n) ∧ (powR a n).length = 16
  | 0 => ⟨ha, la⟩
  | n + 1 => by
    obtain ⟨h1, h2⟩ := powR_nm ha la n
    obtain ⟨n1, _⟩ := mulR_nm h1 h1 h2 h2
    have b1 : Bd B18 (mulR (powR a n) (powR a n)) := fun j => by have := n1.bd j; simp only [B17, B18] at *; omega
    rw [powR]
    split
    · exact ⟨b1, n1.len⟩
    · obtain ⟨n2, _⟩ := mulR_nm b1 ha n1.len la
      exact ⟨fun j => by have := n2.bd j; simp only [B17, B18] at *; omega, n2.len⟩
theorem pow_step {a : List Int} {x : Nat} {b : List Int} (hx : x ≤ 253) (hb : b = powR a (x + 1)) :
    InI ((253 : Int) - (x : Int) - ((1 : Nat) : Int)) ∧ ∃ y : Nat, y ≤ 254 ∧ 254 - y < 254 - x ∧ (253 : Int) - (x : Int) - ((1 : Nat) : Int) = (253 : Int) - (y : Int) ∧ True ∧ True ∧ b = powR a y ∧ True :=
  ⟨by unfold InI; omega, x + 1, by omega, by omega, by omega, trivial, trivial, hb, trivial⟩
set_option maxRecDepth 100000 in
theorem conRPow : Con Try.prog 27 gPowR := con_of_vcl fun args ps res h hp hlen => by
  unfold gPowR at h
  split at h <;> cases h
  rename_i a
  have la : a.length = 16 := hlen.1.1
  have ha := (all_cons.1 hp).1
  refine ⟨FEp, 200, rfl, eok (gs := [(26, gMulR)]) ⟨conRMul, trivial⟩, ?_⟩
  rw [vcRPow]
  simp only [forall_eq, io]
  refine ⟨⟨0, by decide, by decide, trivial, trivial, rfl, trivial⟩, fun x hx => ⟨fun h => ?_, fun h => ?_⟩⟩
  · have h := of_decide_eq_true h
    have hx2 : x ≤ 253 := by omega
    obtain ⟨b0, l0⟩ := powR_nm ha la x
    obtain ⟨n1, _⟩ := mulR_nm b0 b0 l0 l0
    have b1 : Bd B18 (mulR (powR a x) (powR a x)) := fun j => by have := n1.bd j; simp only [B17, B18] at *; omega
    refine ⟨b0, b0, fun h2 => ⟨fun h4 => ⟨b1, ha, pow_step hx2 ?_⟩, fun h4 => pow_step hx2 ?_⟩, fun h2 => pow_step hx2 ?_⟩
    · have h2 := of_decide_eq_true h2
      have h4 := of_decide_eq_true h4
      show _ = if _ then _ else _
      rw [if_neg (by omega)]
    · have h4 := of_decide_eq_false h4
      show _ = if _ then _ else _
      rw [if_pos (by omega)]
    · have h2 := of_decide_eq_false h2
      show _ = if _ then _ else _
      rw [if_pos (by omega)]
  · have h := of_decide_eq_false h
    have : x = 254 := by omega
    subst this
    exact ⟨rfl, trivial⟩
end Go.Proofs.Ytiogdokekibeiaa

/- A step towards HandshakeAgreesSaid: no conditions. -/

namespace Go.Proofs.Ytiogdokekibeiaa
open Go Go.Eng Go.Cod Go.Pol Go.Cur
theorem two_n (x : Nat) : ((2 : Nat) : Int) * (x : Int) = ((2 * x : Nat) : Int) := by omega
theorem two_n1 (x : Nat) : ((2 * x : Nat) : Int) + ((1 : Nat) : Int) = ((2 * x + 1 : Nat) : Int) := by omega
theorem one_n (x : Nat) : (x : Int) + (1 : Int) = ((x + 1 : Nat) : Int) := by omega
theorem less1 (x : Nat) : ((x + 1 : Nat) : Int) - ((1 : Nat) : Int) = (x : Int) := by omega
set_option maxRecDepth 100000 in
theorem conRRead : Con Try.prog 22 gReadR := con_of_vcl fun args ps res h hp hlen => by
  unfold gReadR at h
  split at h <;> cases h
  rename_i k
  refine ⟨GEr, 100, rfl, eok (gs := []) trivial, ?_⟩
  rw [vcRRead]
  simp only [forall_eq, io, two_n, two_n1, Int.toNat_natCast, d_eq]
  refine ⟨⟨0, by decide, rfl, trivial, trivial, rfl, trivial⟩, fun x hx => ⟨fun h => ?_, fun h => ?_⟩⟩
  · have h := of_decide_eq_true h
    have hk := (k.getD (2 * x + 1) 0).toNat_lt
    refine ⟨inI60 (by omega), by omega, by omega, inI60 (by omega), inI60 (by omega), by omega, by omega, ⟨by decide, inI60 (by omega)⟩, by omega, by omega, inI60 (by omega), nx16 (by omega) ⟨trivial, trivial, rfl, trivial⟩⟩
  · have h := of_decide_eq_false h
    have : x = 16 := by omega
    subst this
    exact ⟨rfl, trivial⟩
set_option maxRecDepth 100000 in
theorem conROnce : Con Try.prog 41 gOnceR := con_of_vcl fun args ps res h hp hlen => by
  unfold gOnceR at h
  split at h <;> cases h
  rename_i f
  have hf := (all_cons.1 hp).1
  refine ⟨GEo, 100, rfl, eok (gs := []) trivial, ?_⟩
  rw [vcROnce]
  simp only [forall_eq, io, one_n, less1, Int.toNat_natCast, d_eq]
  have f0 := hf.all 0
  refine ⟨inI60 (by omega), ⟨0, by decide, rfl, trivial, trivial, rfl, trivial⟩, fun x hx => ⟨fun h => ?_, fun h => ?_⟩⟩
  · have h := of_decide_eq_true h
    obtain ⟨i1, i2, i3, _⟩ := once_inv hf x hx
    have hn := i3 (x + 1) (by omega)
    have fb := hf.all (x + 1)
    have e1 : iand (d (onceI f x) x / 2 ^ 16) ((1 : Nat) : Int) = d (onceI f x) x / 2 ^ 16 % 2 := iand1 _
    rw [e1]
    refine ⟨by omega, by omega, inI60 (by omega), by omega, by omega, by decide, inI60 (by omega), inI60 (by rw [hn]; omega), by omega, by omega, inI60 (by omega), by omega, by omega, by omega, by omega, inI60 (by omega), ⟨x + 1, by omega, by omega, by omega, trivial, trivial, ?_, trivial⟩⟩
    show _ = onceS (onceI f x) x
    unfold onceS
    rw [iand1]
    rfl
  · have h := of_decide_eq_false h
    have : x = 14 := by omega
    subst this
    obtain ⟨i1, i2, i3, _⟩ := once_inv hf 14 hx
    have hn := i3 15 (by omega)
    have fb := hf.all 15
    have e1 : iand (d (onceI f 14) 14 / 2 ^ 16) ((1 : Nat) : Int) = d (onceI f 14) 14 / 2 ^ 16 % 2 := iand1 _
    refine ⟨by decide, inI60 (by rw [e1]; omega), inI60 (by rw [e1, hn]; omega), by decide, fun hb => ⟨?_, trivial⟩, fun hb => ⟨?_, trivial⟩⟩
    · have hb := of_decide_eq_true hb
      show f = if _ then _ else _
      exact (if_pos hb).symm
    · have hb := of_decide_eq_false hb
      show _ = if _ then _ else _
      exact (if_neg hb).symm
set_option maxRecDepth 100000 in
theorem conRWrite : Con Try.prog 25 gWriteR := con_of_vcl fun args ps res h hp hlen => by
  unfold gWriteR at h
  split at h <;> cases h
  rename_i f
  have hf := (all_cons.1 hp).1
  refine ⟨GEw, 100, rfl, eok (gs := [(42, gCarR), (41, gOnceR)]) ⟨conRCar, conROnce, trivial⟩, ?_⟩
  rw [vcRWrite]
  obtain ⟨h1, _⟩ := carR_dg hf
  obtain ⟨h2, _⟩ := carR_dg h1.nm
  obtain ⟨h3, _⟩ := carR_dg h2.nm
  obtain ⟨o1, _⟩ := once_ok h3
  have big : ∀ {l : List Int}, Nm l → Bd B60 l := fun hl j => by have := hl.bd j; simp only [B17, B60] at *; omega
  simp only [forall_eq, io, two_n, two_n1, Int.toNat_natCast, d_eq]
  refine ⟨big hf, big h1.nm, big h2.nm, h3, o1, ⟨0, by decide, rfl, trivial, trivial, rfl, trivial⟩, fun x hx => ⟨fun h => ?_, fun h => ?_⟩⟩
  · have h := of_decide_eq_true h
    refine ⟨inI60 (by omega), inI60 (by omega), inI60 (by omega), by omega, by omega, by omega, by omega, by decide, by omega, by omega, by omega, by omega, inI60 (by omega), nx16 (by omega) ⟨trivial, trivial, rfl, trivial⟩⟩
  · have h := of_decide_eq_false h
    have : x = 16 := by omega
    subst this
    exact ⟨rfl, trivial⟩
set_option maxRecDepth 100000 in
theorem egs : EnvOk GEs := eok (gs := [(39, gAddR), (40, gSubR), (26, gMulR)]) ⟨conRAdd, conRSub, conRMul, trivial⟩
set_option maxRecDepth 100000 in
theorem conRSwap : Con Try.prog 23 gSwapR := con_of_vcl fun args ps res h hp hlen => by
  unfold gSwapR at h
  split at h <;> cases h
  rename_i a b c e
  refine ⟨GEs, 100, rfl, egs, ?_⟩
  rw [vcRSwap]
  simp only [forall_eq, and_self]
/-- what is asked of the operands -/
def OkJ (f : List Int) : Prop := f.length = 16 ∧ Bd B18 f
theorem okm {a b : List Int} (ha : OkJ a) (hb : OkJ b) : Nm (mulR a b) := (mulR_nm ha.2 hb.2 ha.1 hb.1).1
theorem okn {a : List Int} (ha : Nm a) : OkJ a := ⟨ha.len, ha.b18⟩
theorem oka {a b : List Int} (ha : Nm a) (hb : Nm b) : OkJ (addI a b 16) := (i_add (⟨ha, rfl⟩ : RI a _) (⟨hb, rfl⟩ : RI b _)).1
theorem oks {a b : List Int} (ha : Nm a) (hb : Nm b) : OkJ (subI a b 16) := (i_sub (⟨ha, rfl⟩ : RI a _) (⟨hb, rfl⟩ : RI b _)).1
theorem ok60 {a : List Int} (ha : Nm a) : Bd B60 a := fun j => by have := ha.bd j; simp only [B17, B60] at *; omega
theorem a24_ok : OkJ [((56129 : Nat) : Int), ((1 : Nat) : Int), 0, 0, 0, 0, 0, 0, 0, 0, 0, 0, 0, 0, 0, 0] := i_a24.1
set_option maxRecDepth 100000 in
theorem conRStep : Con Try.prog 24 gStepR := con_of_vcl fun args ps res h hp hlen => by
  unfold gStepR at h
  split at h <;> cases h
  rename_i a b c e x
  obtain ⟨ha, hp2⟩ := all_cons.1 hp
  obtain ⟨hb, hp3⟩ := all_cons.1 hp2
  obtain ⟨hc, hp4⟩ := all_cons.1 hp3
  obtain ⟨he, hp5⟩ := all_cons.1 hp4
  have hx := (all_cons.1 hp5).1
  refine ⟨GEs, 200, rfl, egs, ?_⟩
  rw [vcRStep]
  have s := oka ha hb
  have t := oks ha hb
  have aa := okm s s
  have bb := okm t t
  have ee := oks aa bb
  have s3 := oka hc he
  have t3 := oks hc he
  have da := okm t3 s
  have cb := okm s3 t
  have u := oka da cb
  have v := oks da cb
  have w := okm a24_ok ee
  have z := oka aa w
  have vv := okm v v
  simp only [forall_eq, io]
  simp only [stR]
  exact ⟨ok60 ha, ok60 hb, ok60 ha, ok60 hb, s.2, s.2, t.2, t.2, ok60 aa, ok60 bb, ok60 hc, ok60 he, ok60 hc, ok60 he, t3.2, s.2, s3.2, t.2, ok60 da, ok60 cb, ok60 da, ok60 cb, (okn aa).2, (okn bb).2, a24_ok.2, ee.2, ok60 aa, ok60 w, ee.2, z.2, u.2, u.2, v.2, v.2, (okn hx).2, (okn vv).2, by first | rfl | trivial, by first | rfl | trivial, by first | rfl | trivial, by first | rfl | trivial, trivial⟩
theorem key_step {n : List UInt8} {x1 : List Int} {x : Nat} {k : UInt8} {l : LR} (hx : x ≤ 254) (hk : k = bitL n (254 - x)) (hl : l = if bitL n (254 - x) = (ladR n x1 x).last then (ladR n x1 x).l else swapR (ladR n x1 x).l) (p q r : Prop) (hp : p) (hq : q) (hr : r) :
    InI ((254 : Int) - (x : Int) - ((1 : Nat) : Int)) ∧ ∃ y : Nat, y ≤ 255 ∧ 255 - y < 255 - x ∧ k = (ladR n x1 y).last ∧ (254 : Int) - (x : Int) - ((1 : Nat) : Int) = (254 : Int) - (y : Int) ∧ p ∧ q ∧ r ∧ True ∧ True ∧ (stR l x1).x2 = (ladR n x1 y).l.x2 ∧ (stR l x1).z2 = (ladR n x1 y).l.z2 ∧ (stR l x1).x3 = (ladR n x1 y).l.x3 ∧ (stR l x1).z3 = (ladR n x1 y).l.z3 ∧ True := by
  have e : ladR n x1 (x + 1) = ⟨stR l x1, k⟩ := by
    show stepM x1 (bitL n (254 - x)) (ladR n x1 x) = _
    unfold stepM
    rw [← hl, hk]
  exact ⟨by unfold InI; omega, x + 1, by omega, by omega, by rw [e], by omega, hp, hq, hr, trivial, trivial, by rw [e], by rw [e], by rw [e], by rw [e], trivial⟩
theorem bit_eqR {n : List UInt8} {x : Nat} (hx : x ≤ 254) : shr8 (n.getD (((254 : Int) - (x : Int)).tdiv ((8 : Nat) : Int)).toNat 0) (((254 : Int) - (x : Int)).tmod ((8 : Nat) : Int)).toNat &&& UInt8.ofNat 1 = bitL n (254 - x) := by
  rw [show (254 : Int) - (x : Int) = ((254 - x : Nat) : Int) by omega]
  rfl
set_option maxRecDepth 100000 in
set_option maxHeartbeats 4000000 in
theorem conMulR : Con Try.prog 10 gMulP := con_of_vcl fun args ps res h hp hlen => by
  unfold gMulP at h
  split at h <;> cases h
  rename_i s p
  have hpl : p.length = 32 := hlen.2.1.1
  refine ⟨GEm, 200, rfl, eok (gs := [(21, gClamp), (22, gReadR), (23, gSwapR), (24, gStepR), (27, gPowR), (26, gMulR), (25, gWriteR)]) ⟨conClampR, conRRead, conRSwap, conRStep, conRPow, conRMul, conRWrite, trivial⟩, ?_⟩
  rw [← key_eq hpl]
  rw [vcRKey]
  obtain ⟨l1, l2⟩ := readR_dg hpl
  have hx1 : RI (readR p) (natL p % 57896044618658097711785492504343953926634992332820282019728792003956564819968 % PP) := ⟨l1.nm, by rw [l2]; simp only [PP]; omega⟩
  have hlad := i_lad hx1 (clampL s)
  simp only [forall_eq, io]
  refine ⟨⟨0, by decide, rfl, by decide, trivial, trivial, trivial, trivial, trivial, rfl, rfl, rfl, rfl, trivial⟩, fun x hx => ⟨fun h => ?_, fun h => ?_⟩⟩
  · have h := of_decide_eq_true h
    have hx2 : x ≤ 254 := by omega
    obtain ⟨n1, n2, n3, n4, _⟩ := hlad x
    rw [bit_eqR hx2]
    have q1 : ((254 : Int) - (x : Int)).tdiv ((8 : Nat) : Int) = (((254 - x) / 8 : Nat) : Int) := by
      rw [show (254 : Int) - (x : Int) = ((254 - x : Nat) : Int) by omega]; rfl
    have q2 : ((254 : Int) - (x : Int)).tmod ((8 : Nat) : Int) = (((254 - x) % 8 : Nat) : Int) := by
      rw [show (254 : Int) - (x : Int) = ((254 - x : Nat) : Int) by omega]; rfl
    rw [q1, q2]
    refine ⟨⟨by decide, by unfold InI; omega⟩, by omega, by omega, by decide, by omega, fun hb => ?_, fun hb => ?_⟩
    · have hn : ¬ bitL (clampL s) (254 - x) = (ladR (clampL s) (readR p) x).last := by simpa using hb
      refine ⟨n3.1, n4.1, n1.1, n2.1, l1.nm, key_step hx2 rfl ?_ True True True trivial trivial trivial⟩
      rw [if_neg hn]
      rfl
    · have hn : bitL (clampL s) (254 - x) = (ladR (clampL s) (readR p) x).last := by simpa using hb
      refine ⟨n1.1, n2.1, n3.1, n4.1, l1.nm, key_step hx2 rfl ?_ True True True trivial trivial trivial⟩
      rw [if_pos hn]
  · have h := of_decide_eq_false h
    have : x = 255 := by omega
    subst this
    obtain ⟨n1, n2, n3, n4, _⟩ := hlad 255
    refine ⟨fun hb => ?_, fun hb => ?_⟩
    · have pw := i_pow n4 254
      exact ⟨n4.1.b18, n3.1.b18, pw.1.b18, (i_mul n3.mid pw.mid).1, by unfold keyR endR; rw [if_pos (by simpa using hb)], trivial⟩
    · have pw := i_pow n2 254
      exact ⟨n2.1.b18, n1.1.b18, pw.1.b18, (i_mul n1.mid pw.mid).1, by unfold keyR endR; rw [if_neg (by simpa using hb)], trivial⟩
end Go.Proofs.Ytiogdokekibeiaa

/- A step towards HandshakeAgreesSaid: no conditions. -/

namespace Go.Proofs.Ytiogdokekibeiaa
open Go Go.Eng Go.Cod Go.Pol Go.Cur
theorem nine_eq : [UInt8.ofNat 9, (0 : UInt8), 0, 0, 0, 0, 0, 0, 0, 0, 0, 0, 0, 0, 0, 0, 0, 0, 0, 0, 0, 0, 0, 0, 0, 0, 0, 0, 0, 0, 0, 0] = nineL := rfl
theorem zeros32 : [(0 : UInt8), 0, 0, 0, 0, 0, 0, 0, 0, 0, 0, 0, 0, 0, 0, 0, 0, 0, 0, 0, 0, 0, 0, 0, 0, 0, 0, 0, 0, 0, 0, 0] = List.replicate 32 0 := rfl
theorem eclm : EnvOk CLm := eok (gs := [(30, gMulP)]) ⟨conMulP, trivial⟩
theorem eclr : EnvOk CLr := eok (gs := [(10, gMulP)]) ⟨conMulR, trivial⟩
set_option maxRecDepth 100000 in
theorem conPub : Con Try.prog 12 gPub := con_of_vcs fun args ps res h hp => by
  unfold gPub at h
  split at h <;> cases h
  rename_i s
  refine ⟨CLm, 100, rfl, eclm, ?_⟩
  rw [vcPub]
  simp only [forall_eq, nine_eq, and_self]
set_option maxRecDepth 100000 in
theorem conPubR : Con Try.prog 4 gPub := con_of_vcs fun args ps res h hp => by
  unfold gPub at h
  split at h <;> cases h
  rename_i s
  refine ⟨CLr, 100, rfl, eclr, ?_⟩
  rw [vcPubR]
  simp only [forall_eq, nine_eq, and_self]
theorem share_yes {s p : List UInt8} (h : (keyL s p == List.replicate 32 0) = true) : Int.ofNat 21 = shareE s p := by
  unfold shareE; rw [if_pos (by simpa using h)]; rfl
theorem share_no {s p : List UInt8} (h : (keyL s p == List.replicate 32 0) = false) : Int.ofNat 0 = shareE s p := by
  unfold shareE; rw [if_neg (by simpa using h)]; rfl
set_option maxRecDepth 100000 in
theorem conShare : Con Try.prog 36 gShare := con_of_vcs fun args ps res h hp => by
  unfold gShare at h
  split at h <;> cases h
  rename_i s p
  refine ⟨CLm, 100, rfl, eclm, ?_⟩
  rw [vcShare]
  simp only [forall_eq, zeros32]
  exact ⟨fun h => ⟨trivial, share_yes h, trivial⟩, fun h => ⟨trivial, share_no h, trivial⟩⟩
end Go.Proofs.Ytiogdokekibeiaa
