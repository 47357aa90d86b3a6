/- Steps towards NoiseAgreesSaid. -/
import Derived.Test.YtbgnjipdecekoaaJBlhCon
import Derived.Test.YtbgnjipdecekoaaSrfCon
import Derived.Test.YtbgnjipdecekoaaJKdfSpec
import Derived.Test.YtbgnjipdecekoaaBase
import Derived.Test.YtbgnjipdecekoaaJNoaVc
import Derived.Test.YtbgnjipdecekoaaJAedCon
import Derived.Test.YtbgnjipdecekoaaJPrfCon
/- A step towards NoiseAgreesSaid: no conditions. -/
namespace Go.Proofs.Ytbgnjipdecekoaa
open Go Go.Eng Go.Cod Go.Cha Go.Bla
theorem codeL_len (key d : List UInt8) : (codeL key d).length = 16 := by
  unfold codeL
  split
  · exact sumL_len 16 key d (by decide)
  · rfl
theorem codeL_sum (key d : List UInt8) : over (List.replicate 16 0) 0 (sumR 16 key d) = codeL key d := by
  unfold codeL
  split
  · rename_i hk
    have hn : (sumL 16 key d).length = 16 := sumL_len 16 key d (by decide)
    rw [(sumR_ok (size := 16) d (by decide) hk).1]
    unfold over
    rw [hn]
    simp
  · rename_i hk
    have : sumR 16 key d = [] := if_neg (fun h => hk h.2.2)
    rw [this]
    rfl
set_option maxRecDepth 100000 in
theorem conHashR : Con Try.prog 29 gHash := con_of_vcl fun args ps res h hp hlen => by
  unfold gHash at h
  split at h <;> cases h
  rename_i m ls
  obtain ⟨rfl, hp2⟩ := all_cons.1 hp
  obtain ⟨hl, hp3⟩ := all_cons.1 hp2
  have hf := (all_cons.1 hp3).1
  refine ⟨BEhr, 100, rfl, eok (gs := [(40, gJoin), (39, gSum)]) ⟨conJoinR, conSumR, trivial⟩, ?_⟩
  rw [vcHashR ls]
  simp only [forall_eq, true_and, and_true, io, dropL_zero, Nat.zero_add, List.take_length]
  have hr := (sumR_ok (size := 32) (key := []) ls.flatten (by decide) (by decide)).1
  have hr' : sumR ((32 : Nat) : Int) (List.replicate 0 0) ls.flatten = sumL 32 [] ls.flatten := hr
  have hn : (sumL 32 [] ls.flatten).length = 32 := sumL_len 32 [] ls.flatten (by decide)
  rw [hr', hn]
  refine ⟨hl, by omega, Nat.le_refl _, by omega, Nat.le_refl _, by rw [List.length_take]; omega, ?_⟩
  rw [List.take_of_length_le (by omega)]
  unfold over
  rw [hn]
  simp
end Go.Proofs.Ytbgnjipdecekoaa

/- A step towards NoiseAgreesSaid: no conditions. -/
namespace Go.Proofs.Ytbgnjipdecekoaa
open Go Go.Eng Go.Cod Go.Cha Go.Bla Go.Kdf
noncomputable def KEh : Env := mkE Try.prog [(38, gJoin), (28, gHash)] [(0, JHmac)] 2 true
noncomputable def KEe : Env := mkE Try.prog [(36, gHmac)] [(0, JExpand 23 0 [2, 6, 7, 22])] 2 true
noncomputable def KEhr : Env := mkE Try.prog [(40, gJoin), (29, gHash)] [(0, JHmacR)] 2 true
noncomputable def KEer : Env := mkE Try.prog [(35, gHmac)] [(0, JExpand 10 1 [2, 6, 7])] 2 true
set_option maxRecDepth 100000 in
theorem vcHmac (key : List UInt8) (ls : List (List UInt8)) : (vcFn KEh 200 36 [.s (.xs 1 (.s key.length) (.u8 key)), .s (.xs 1 (.s ls.length) (.sl ls))] (.w (.agg [.vec (.n 32) (.u8 (hmacL key ls.flatten))]))) =
  (∀ (y : Int), y = (↑key.length : Int) → (decide (Int.ofNat (64 : Nat) < y) = true → [key].length = (1 : Nat) ∧ (1 : Nat) < (4611686018427387904 : Nat) ∧ [key].flatten.length ≤ (4294966000 : Nat) ∧ ∀ (y : List UInt8), y = sumL (32 : Int) [] [key].flatten → ∀ (y_1 : List UInt8), y_1 = y → (32 : Nat) ≤ (64 : Nat) ∧ ∀ (y : List UInt8), y = over (List.replicate (64 : Nat) (0 : UInt8)) (0 : Nat) y_1 → (32 : Nat) ≤ (64 : Nat) ∧ ∀ (y_2 : List UInt8), y_2 = over (List.replicate (64 : Nat) (0 : UInt8)) (0 : Nat) y_1 → (∃ (x : Nat), x ≤ (64 : Nat) ∧ ls.length = ls.length ∧ ls = ls ∧ Int.ofNat (0 : Nat) = (↑x : Int) ∧ List.replicate (32 : Nat) (0 : UInt8) = List.replicate (32 : Nat) (0 : UInt8) ∧ key.length = key.length ∧ key = key ∧ y_1 = y_1 ∧ y = xorToK (54 : UInt8) y x ∧ y_2 = xorToK (92 : UInt8) y_2 x ∧ True) ∧ ∀ (x : Nat), x ≤ (64 : Nat) → (decide ((↑x : Int) < Int.ofNat (64 : Nat)) = true → ∀ (y_3 : Int), y_3 = (↑x : Int) → ((0 : Int) ≤ y_3 ∧ y_3 < (↑(64 : Nat) : Int)) ∧ (0 : Nat) + y_3.toNat < (64 : Nat) ∧ ((0 : Int) ≤ y_3 ∧ y_3 < (↑(64 : Nat) : Int)) ∧ (0 : Nat) + y_3.toNat < (64 : Nat) ∧ ∀ (y_4 : List UInt8), y_4 = (xorToK (54 : UInt8) y x).set ((0 : Nat) + y_3.toNat) ((xorToK (54 : UInt8) y x).getD ((0 : Nat) + y_3.toNat) (0 : UInt8) ^^^ UInt8.ofNat (nat_lit 54)) → ((0 : Int) ≤ y_3 ∧ y_3 < (↑(64 : Nat) : Int)) ∧ (0 : Nat) + y_3.toNat < (64 : Nat) ∧ ((0 : Int) ≤ y_3 ∧ y_3 < (↑(64 : Nat) : Int)) ∧ (0 : Nat) + y_3.toNat < (64 : Nat) ∧ ∀ (y_5 : List UInt8), y_5 = (xorToK (92 : UInt8) y_2 x).set ((0 : Nat) + y_3.toNat) ((xorToK (92 : UInt8) y_2 x).getD ((0 : Nat) + y_3.toNat) (0 : UInt8) ^^^ UInt8.ofNat (nat_lit 92)) → InI ((↑x : Int) + Int.ofNat (1 : Nat)) ∧ ∃ (y_6 : Nat), y_6 ≤ (64 : Nat) ∧ (64 : Nat) - y_6 < (64 : Nat) - x ∧ ls.length = ls.length ∧ ls = ls ∧ (↑x : Int) + Int.ofNat (1 : Nat) = (↑y_6 : Int) ∧ List.replicate (32 : Nat) (0 : UInt8) = List.replicate (32 : Nat) (0 : UInt8) ∧ key.length = key.length ∧ key = key ∧ y_1 = y_1 ∧ y_4 = xorToK (54 : UInt8) y y_6 ∧ y_5 = xorToK (92 : UInt8) y_2 y_6 ∧ True) ∧ (decide ((↑x : Int) < Int.ofNat (64 : Nat)) = false → ls.length = ls.length ∧ ls.length < (4611686018427387904 : Nat) ∧ ls.flatten.length ≤ (4294967296 : Nat) ∧ ∀ (y_3 : List UInt8), y_3 = ls.flatten → (0 : Nat) + ls.flatten.length ≤ ls.flatten.length ∧ [xorToK (54 : UInt8) y x, List.take ls.flatten.length (dropL (dropL y_3 (0 : Nat)) (0 : Nat))].length = (2 : Nat) ∧ (2 : Nat) < (4611686018427387904 : Nat) ∧ [xorToK (54 : UInt8) y x, List.take ls.flatten.length (dropL (dropL y_3 (0 : Nat)) (0 : Nat))].flatten.length ≤ (4294966000 : Nat) ∧ ∀ (y_4 : List UInt8), y_4 = sumL (32 : Int) [] [xorToK (54 : UInt8) y x, List.take ls.flatten.length (dropL (dropL y_3 (0 : Nat)) (0 : Nat))].flatten → ∀ (y : List UInt8), y = y_4 → [xorToK (92 : UInt8) y_2 x, y].length = (2 : Nat) ∧ (2 : Nat) < (4611686018427387904 : Nat) ∧ [xorToK (92 : UInt8) y_2 x, y].flatten.length ≤ (4294966000 : Nat) ∧ ∀ (y_5 : List UInt8), y_5 = sumL (32 : Int) [] [xorToK (92 : UInt8) y_2 x, y].flatten → ∀ (y : List UInt8), y = y_5 → y = hmacL key ls.flatten ∧ True)) ∧ (decide (Int.ofNat (64 : Nat) < y) = false → (0 : Nat) + (List.take (64 : Nat) key).length ≤ (64 : Nat) ∧ ∀ (y : List UInt8), y = over (List.replicate (64 : Nat) (0 : UInt8)) (0 : Nat) (List.take (64 : Nat) key) → (0 : Nat) + (List.take (64 : Nat) key).length ≤ (64 : Nat) ∧ ∀ (y_1 : List UInt8), y_1 = over (List.replicate (64 : Nat) (0 : UInt8)) (0 : Nat) (List.take (64 : Nat) key) → (∃ (x : Nat), x ≤ (64 : Nat) ∧ key.length = key.length ∧ key = key ∧ ls.length = ls.length ∧ ls = ls ∧ Int.ofNat (0 : Nat) = (↑x : Int) ∧ List.replicate (32 : Nat) (0 : UInt8) = List.replicate (32 : Nat) (0 : UInt8) ∧ y = xorToK (54 : UInt8) y x ∧ y_1 = xorToK (92 : UInt8) y_1 x ∧ True) ∧ ∀ (x : Nat), x ≤ (64 : Nat) → (decide ((↑x : Int) < Int.ofNat (64 : Nat)) = true → ∀ (y_2 : Int), y_2 = (↑x : Int) → ((0 : Int) ≤ y_2 ∧ y_2 < (↑(64 : Nat) : Int)) ∧ (0 : Nat) + y_2.toNat < (64 : Nat) ∧ ((0 : Int) ≤ y_2 ∧ y_2 < (↑(64 : Nat) : Int)) ∧ (0 : Nat) + y_2.toNat < (64 : Nat) ∧ ∀ (y_3 : List UInt8), y_3 = (xorToK (54 : UInt8) y x).set ((0 : Nat) + y_2.toNat) ((xorToK (54 : UInt8) y x).getD ((0 : Nat) + y_2.toNat) (0 : UInt8) ^^^ UInt8.ofNat (nat_lit 54)) → ((0 : Int) ≤ y_2 ∧ y_2 < (↑(64 : Nat) : Int)) ∧ (0 : Nat) + y_2.toNat < (64 : Nat) ∧ ((0 : Int) ≤ y_2 ∧ y_2 < (↑(64 : Nat) : Int)) ∧ (0 : Nat) + y_2.toNat < (64 : Nat) ∧ ∀ (y_4 : List UInt8), y_4 = (xorToK (92 : UInt8) y_1 x).set ((0 : Nat) + y_2.toNat) ((xorToK (92 : UInt8) y_1 x).getD ((0 : Nat) + y_2.toNat) (0 : UInt8) ^^^ UInt8.ofNat (nat_lit 92)) → InI ((↑x : Int) + Int.ofNat (1 : Nat)) ∧ ∃ (y_5 : Nat), y_5 ≤ (64 : Nat) ∧ (64 : Nat) - y_5 < (64 : Nat) - x ∧ key.length = key.length ∧ key = key ∧ ls.length = ls.length ∧ ls = ls ∧ (↑x : Int) + Int.ofNat (1 : Nat) = (↑y_5 : Int) ∧ List.replicate (32 : Nat) (0 : UInt8) = List.replicate (32 : Nat) (0 : UInt8) ∧ y_3 = xorToK (54 : UInt8) y y_5 ∧ y_4 = xorToK (92 : UInt8) y_1 y_5 ∧ True) ∧ (decide ((↑x : Int) < Int.ofNat (64 : Nat)) = false → ls.length = ls.length ∧ ls.length < (4611686018427387904 : Nat) ∧ ls.flatten.length ≤ (4294967296 : Nat) ∧ ∀ (y_2 : List UInt8), y_2 = ls.flatten → (0 : Nat) + ls.flatten.length ≤ ls.flatten.length ∧ [xorToK (54 : UInt8) y x, List.take ls.flatten.length (dropL (dropL y_2 (0 : Nat)) (0 : Nat))].length = (2 : Nat) ∧ (2 : Nat) < (4611686018427387904 : Nat) ∧ [xorToK (54 : UInt8) y x, List.take ls.flatten.length (dropL (dropL y_2 (0 : Nat)) (0 : Nat))].flatten.length ≤ (4294966000 : Nat) ∧ ∀ (y_3 : List UInt8), y_3 = sumL (32 : Int) [] [xorToK (54 : UInt8) y x, List.take ls.flatten.length (dropL (dropL y_2 (0 : Nat)) (0 : Nat))].flatten → ∀ (y : List UInt8), y = y_3 → [xorToK (92 : UInt8) y_1 x, y].length = (2 : Nat) ∧ (2 : Nat) < (4611686018427387904 : Nat) ∧ [xorToK (92 : UInt8) y_1 x, y].flatten.length ≤ (4294966000 : Nat) ∧ ∀ (y_4 : List UInt8), y_4 = sumL (32 : Int) [] [xorToK (92 : UInt8) y_1 x, y].flatten → ∀ (y : List UInt8), y = y_4 → y = hmacL key ls.flatten ∧ True))) := by kernel_rfl
set_option maxRecDepth 100000 in
theorem vcExpand (key input : List UInt8) (n : Int) : (vcFn KEe 200 27 [.s (.xs 1 (.s key.length) (.u8 key)), .s (.xs 1 (.s input.length) (.u8 input)), .s (.i64 n)] (.w (.s (.xs 32 (.s (expandN n)) (.u8 (expandL key input n)))))) =
  ((decide (n < Int.ofNat (1 : Nat)) = true → expandN n = (0 : Nat) ∧ (expandL key input n).length = (0 : Nat) ∧ True) ∧ (decide (n < Int.ofNat (1 : Nat)) = false → (decide (Int.ofNat (255 : Nat) < n) = true → expandN n = (0 : Nat) ∧ (expandL key input n).length = (0 : Nat) ∧ True) ∧ (decide (Int.ofNat (255 : Nat) < n) = false → key.length = key.length ∧ key.length ≤ (4294960000 : Nat) ∧ [input].length = (1 : Nat) ∧ (1 : Nat) < (4611686018427387904 : Nat) ∧ [input].flatten.length ≤ (4294960000 : Nat) ∧ ∀ (y : List UInt8), y = hmacL key [input].flatten → ∀ (y_1 : List UInt8), y_1 = y → (∃ (x : Nat), (↑x : Int) ≤ n ∧ n = n ∧ x = (0 : Nat) ∧ (keyN y_1 x).length = (0 : Nat) ∧ n = n ∧ Int.ofNat (0 : Nat) = (↑(x + (0 : Nat)) : Int) ∧ input.length = input.length ∧ input = input ∧ y_1 = y_1 ∧ x * (32 : Nat) = (0 : Nat) ∧ (keysF y_1 x).length = (0 : Nat) ∧ (keyN y_1 x).length = (0 : Nat) ∧ (keyN y_1 x).length = (0 : Nat) ∧ True) ∧ ∀ (x : Nat), (↑x : Int) ≤ n → (decide ((↑(x + (0 : Nat)) : Int) < n) = true → ∀ (y : Int), y = (↑(x + (0 : Nat)) : Int) → InI (y + Int.ofNat (1 : Nat)) ∧ (0 : Nat) + (keyN y_1 x).length ≤ (keyN y_1 x).length ∧ y_1.length = y_1.length ∧ y_1.length ≤ (4294960000 : Nat) ∧ [List.take (keyN y_1 x).length (dropL (dropL (keyN y_1 x) (0 : Nat)) (0 : Nat)), [to8 (y + Int.ofNat (1 : Nat))]].length = (2 : Nat) ∧ (2 : Nat) < (4611686018427387904 : Nat) ∧ [List.take (keyN y_1 x).length (dropL (dropL (keyN y_1 x) (0 : Nat)) (0 : Nat)), [to8 (y + Int.ofNat (1 : Nat))]].flatten.length ≤ (4294960000 : Nat) ∧ ∀ (y_2 : List UInt8), y_2 = hmacL y_1 [List.take (keyN y_1 x).length (dropL (dropL (keyN y_1 x) (0 : Nat)) (0 : Nat)), [to8 (y + Int.ofNat (1 : Nat))]].flatten → ∀ (y : List UInt8), y = y_2 → x * (32 : Nat) = x * (32 : Nat) ∧ x + (1 : Nat) ≤ (4294967296 : Nat) ∧ ∀ (y_3 : List UInt8), y_3 = keysF y_1 x ++ y → InI ((↑(x + (0 : Nat)) : Int) + Int.ofNat (1 : Nat)) ∧ ∃ (y_4 : Nat), (↑y_4 : Int) ≤ n ∧ n.toNat - y_4 < n.toNat - x ∧ n = n ∧ x + (1 : Nat) = y_4 ∧ (32 : Nat) = (keyN y_1 y_4).length ∧ n = n ∧ (↑(x + (0 : Nat)) : Int) + Int.ofNat (1 : Nat) = (↑(y_4 + (0 : Nat)) : Int) ∧ input.length = input.length ∧ input = input ∧ y_1 = y_1 ∧ x * (32 : Nat) + (32 : Nat) = y_4 * (32 : Nat) ∧ y_3 = keysF y_1 y_4 ∧ (32 : Nat) = (keyN y_1 y_4).length ∧ y = keyN y_1 y_4 ∧ True) ∧ (decide ((↑(x + (0 : Nat)) : Int) < n) = false → (0 : Nat) + x * (32 : Nat) ≤ x * (32 : Nat) ∧ x = expandN n ∧ List.take (x * (32 : Nat)) (dropL (dropL (keysF y_1 x) (0 : Nat)) (0 : Nat)) = expandL key input n ∧ True)))) := by kernel_rfl
set_option maxRecDepth 100000 in
theorem vcHmacR (key : List UInt8) (ls : List (List UInt8)) : (vcFn KEhr 200 35 [.s (.xs 1 (.s key.length) (.u8 key)), .s (.xs 1 (.s ls.length) (.sl ls))] (.w (.agg [.vec (.n 32) (.u8 (hmacL key ls.flatten))]))) =
  (∀ (y : Int), y = (↑key.length : Int) → (decide (Int.ofNat (64 : Nat) < y) = true → [key].length = (1 : Nat) ∧ (1 : Nat) < (4611686018427387904 : Nat) ∧ [key].flatten.length ≤ (4294966000 : Nat) ∧ ∀ (y : List UInt8), y = sumL (32 : Int) [] [key].flatten → ∀ (y_1 : List UInt8), y_1 = y → (∃ (x : Nat), x ≤ (64 : Nat) ∧ ls.length = ls.length ∧ ls = ls ∧ x = (0 : Nat) ∧ x = (0 : Nat) ∧ Int.ofNat (0 : Nat) = (↑x : Int) ∧ List.replicate (32 : Nat) (0 : UInt8) = List.replicate (32 : Nat) (0 : UInt8) ∧ key.length = key.length ∧ key = key ∧ y_1 = y_1 ∧ x = (0 : Nat) ∧ (List.take x (padX (54 : UInt8) y_1)).length = (0 : Nat) ∧ x = (0 : Nat) ∧ (List.take x (padX (92 : UInt8) y_1)).length = (0 : Nat) ∧ True) ∧ ∀ (x : Nat), x ≤ (64 : Nat) → (decide ((↑x : Int) < Int.ofNat (64 : Nat)) = true → ∀ (y : UInt8), y = UInt8.ofNat (nat_lit 0) → (decide ((↑x : Int) < Int.ofNat (32 : Nat)) = true → ((0 : Int) ≤ (↑x : Int) ∧ (↑x : Int) < (↑(32 : Nat) : Int)) ∧ (0 : Nat) + (↑x : Int).toNat < (32 : Nat) ∧ ∀ (y : UInt8), y = y_1.getD ((0 : Nat) + (↑x : Int).toNat) (0 : UInt8) → x = x ∧ x + (1 : Nat) ≤ (4294967296 : Nat) ∧ ∀ (y_2 : List UInt8), y_2 = List.take x (padX (54 : UInt8) y_1) ++ [y ^^^ UInt8.ofNat (nat_lit 54)] → x = x ∧ x + (1 : Nat) ≤ (4294967296 : Nat) ∧ ∀ (y_3 : List UInt8), y_3 = List.take x (padX (92 : UInt8) y_1) ++ [y ^^^ UInt8.ofNat (nat_lit 92)] → InI ((↑x : Int) + Int.ofNat (1 : Nat)) ∧ ∀ (y : Int), y = (↑x : Int) + Int.ofNat (1 : Nat) → ∃ (y_4 : Nat), y_4 ≤ (64 : Nat) ∧ (64 : Nat) - y_4 < (64 : Nat) - x ∧ ls.length = ls.length ∧ ls = ls ∧ x + (1 : Nat) = y_4 ∧ x + (1 : Nat) = y_4 ∧ y = (↑y_4 : Int) ∧ List.replicate (32 : Nat) (0 : UInt8) = List.replicate (32 : Nat) (0 : UInt8) ∧ key.length = key.length ∧ key = key ∧ y_1 = y_1 ∧ x + (1 : Nat) = y_4 ∧ y_2 = List.take y_4 (padX (54 : UInt8) y_1) ∧ x + (1 : Nat) = y_4 ∧ y_3 = List.take y_4 (padX (92 : UInt8) y_1) ∧ True) ∧ (decide ((↑x : Int) < Int.ofNat (32 : Nat)) = false → x = x ∧ x + (1 : Nat) ≤ (4294967296 : Nat) ∧ ∀ (y_2 : List UInt8), y_2 = List.take x (padX (54 : UInt8) y_1) ++ [y ^^^ UInt8.ofNat (nat_lit 54)] → x = x ∧ x + (1 : Nat) ≤ (4294967296 : Nat) ∧ ∀ (y_3 : List UInt8), y_3 = List.take x (padX (92 : UInt8) y_1) ++ [y ^^^ UInt8.ofNat (nat_lit 92)] → InI ((↑x : Int) + Int.ofNat (1 : Nat)) ∧ ∀ (y : Int), y = (↑x : Int) + Int.ofNat (1 : Nat) → ∃ (y_4 : Nat), y_4 ≤ (64 : Nat) ∧ (64 : Nat) - y_4 < (64 : Nat) - x ∧ ls.length = ls.length ∧ ls = ls ∧ x + (1 : Nat) = y_4 ∧ x + (1 : Nat) = y_4 ∧ y = (↑y_4 : Int) ∧ List.replicate (32 : Nat) (0 : UInt8) = List.replicate (32 : Nat) (0 : UInt8) ∧ key.length = key.length ∧ key = key ∧ y_1 = y_1 ∧ x + (1 : Nat) = y_4 ∧ y_2 = List.take y_4 (padX (54 : UInt8) y_1) ∧ x + (1 : Nat) = y_4 ∧ y_3 = List.take y_4 (padX (92 : UInt8) y_1) ∧ True)) ∧ (decide ((↑x : Int) < Int.ofNat (64 : Nat)) = false → ls.length = ls.length ∧ ls.length < (4611686018427387904 : Nat) ∧ ls.flatten.length ≤ (4294967296 : Nat) ∧ ∀ (y : List UInt8), y = ls.flatten → (0 : Nat) + x ≤ x ∧ (0 : Nat) + ls.flatten.length ≤ ls.flatten.length ∧ [List.take x (dropL (dropL (List.take x (padX (54 : UInt8) y_1)) (0 : Nat)) (0 : Nat)), List.take ls.flatten.length (dropL (dropL y (0 : Nat)) (0 : Nat))].length = (2 : Nat) ∧ (2 : Nat) < (4611686018427387904 : Nat) ∧ [List.take x (dropL (dropL (List.take x (padX (54 : UInt8) y_1)) (0 : Nat)) (0 : Nat)), List.take ls.flatten.length (dropL (dropL y (0 : Nat)) (0 : Nat))].flatten.length ≤ (4294966000 : Nat) ∧ ∀ (y_2 : List UInt8), y_2 = sumL (32 : Int) [] [List.take x (dropL (dropL (List.take x (padX (54 : UInt8) y_1)) (0 : Nat)) (0 : Nat)), List.take ls.flatten.length (dropL (dropL y (0 : Nat)) (0 : Nat))].flatten → ∀ (y : List UInt8), y = y_2 → (0 : Nat) + x ≤ x ∧ [List.take x (dropL (dropL (List.take x (padX (92 : UInt8) y_1)) (0 : Nat)) (0 : Nat)), y].length = (2 : Nat) ∧ (2 : Nat) < (4611686018427387904 : Nat) ∧ [List.take x (dropL (dropL (List.take x (padX (92 : UInt8) y_1)) (0 : Nat)) (0 : Nat)), y].flatten.length ≤ (4294966000 : Nat) ∧ ∀ (y_3 : List UInt8), y_3 = sumL (32 : Int) [] [List.take x (dropL (dropL (List.take x (padX (92 : UInt8) y_1)) (0 : Nat)) (0 : Nat)), y].flatten → ∀ (y : List UInt8), y = y_3 → y = hmacL key ls.flatten ∧ True)) ∧ (decide (Int.ofNat (64 : Nat) < y) = false → (∃ (x : Nat), x ≤ (64 : Nat) ∧ key.length = key.length ∧ key = key ∧ ls.length = ls.length ∧ ls = ls ∧ x = (0 : Nat) ∧ x = (0 : Nat) ∧ Int.ofNat (0 : Nat) = (↑x : Int) ∧ List.replicate (32 : Nat) (0 : UInt8) = List.replicate (32 : Nat) (0 : UInt8) ∧ x = (0 : Nat) ∧ (List.take x (padX (54 : UInt8) key)).length = (0 : Nat) ∧ x = (0 : Nat) ∧ (List.take x (padX (92 : UInt8) key)).length = (0 : Nat) ∧ True) ∧ ∀ (x : Nat), x ≤ (64 : Nat) → (decide ((↑x : Int) < Int.ofNat (64 : Nat)) = true → ∀ (y : UInt8), y = UInt8.ofNat (nat_lit 0) → ∀ (y_1 : Int), y_1 = (↑key.length : Int) → (decide ((↑x : Int) < y_1) = true → ((0 : Int) ≤ (↑x : Int) ∧ (↑x : Int) < (↑key.length : Int)) ∧ (↑x : Int).toNat < key.length ∧ ∀ (y : UInt8), y = key.getD (↑x : Int).toNat (0 : UInt8) → x = x ∧ x + (1 : Nat) ≤ (4294967296 : Nat) ∧ ∀ (y_2 : List UInt8), y_2 = List.take x (padX (54 : UInt8) key) ++ [y ^^^ UInt8.ofNat (nat_lit 54)] → x = x ∧ x + (1 : Nat) ≤ (4294967296 : Nat) ∧ ∀ (y_3 : List UInt8), y_3 = List.take x (padX (92 : UInt8) key) ++ [y ^^^ UInt8.ofNat (nat_lit 92)] → InI ((↑x : Int) + Int.ofNat (1 : Nat)) ∧ ∀ (y : Int), y = (↑x : Int) + Int.ofNat (1 : Nat) → ∃ (y_4 : Nat), y_4 ≤ (64 : Nat) ∧ (64 : Nat) - y_4 < (64 : Nat) - x ∧ key.length = key.length ∧ key = key ∧ ls.length = ls.length ∧ ls = ls ∧ x + (1 : Nat) = y_4 ∧ x + (1 : Nat) = y_4 ∧ y = (↑y_4 : Int) ∧ List.replicate (32 : Nat) (0 : UInt8) = List.replicate (32 : Nat) (0 : UInt8) ∧ x + (1 : Nat) = y_4 ∧ y_2 = List.take y_4 (padX (54 : UInt8) key) ∧ x + (1 : Nat) = y_4 ∧ y_3 = List.take y_4 (padX (92 : UInt8) key) ∧ True) ∧ (decide ((↑x : Int) < y_1) = false → x = x ∧ x + (1 : Nat) ≤ (4294967296 : Nat) ∧ ∀ (y_2 : List UInt8), y_2 = List.take x (padX (54 : UInt8) key) ++ [y ^^^ UInt8.ofNat (nat_lit 54)] → x = x ∧ x + (1 : Nat) ≤ (4294967296 : Nat) ∧ ∀ (y_3 : List UInt8), y_3 = List.take x (padX (92 : UInt8) key) ++ [y ^^^ UInt8.ofNat (nat_lit 92)] → InI ((↑x : Int) + Int.ofNat (1 : Nat)) ∧ ∀ (y : Int), y = (↑x : Int) + Int.ofNat (1 : Nat) → ∃ (y_4 : Nat), y_4 ≤ (64 : Nat) ∧ (64 : Nat) - y_4 < (64 : Nat) - x ∧ key.length = key.length ∧ key = key ∧ ls.length = ls.length ∧ ls = ls ∧ x + (1 : Nat) = y_4 ∧ x + (1 : Nat) = y_4 ∧ y = (↑y_4 : Int) ∧ List.replicate (32 : Nat) (0 : UInt8) = List.replicate (32 : Nat) (0 : UInt8) ∧ x + (1 : Nat) = y_4 ∧ y_2 = List.take y_4 (padX (54 : UInt8) key) ∧ x + (1 : Nat) = y_4 ∧ y_3 = List.take y_4 (padX (92 : UInt8) key) ∧ True)) ∧ (decide ((↑x : Int) < Int.ofNat (64 : Nat)) = false → ls.length = ls.length ∧ ls.length < (4611686018427387904 : Nat) ∧ ls.flatten.length ≤ (4294967296 : Nat) ∧ ∀ (y : List UInt8), y = ls.flatten → (0 : Nat) + x ≤ x ∧ (0 : Nat) + ls.flatten.length ≤ ls.flatten.length ∧ [List.take x (dropL (dropL (List.take x (padX (54 : UInt8) key)) (0 : Nat)) (0 : Nat)), List.take ls.flatten.length (dropL (dropL y (0 : Nat)) (0 : Nat))].length = (2 : Nat) ∧ (2 : Nat) < (4611686018427387904 : Nat) ∧ [List.take x (dropL (dropL (List.take x (padX (54 : UInt8) key)) (0 : Nat)) (0 : Nat)), List.take ls.flatten.length (dropL (dropL y (0 : Nat)) (0 : Nat))].flatten.length ≤ (4294966000 : Nat) ∧ ∀ (y_1 : List UInt8), y_1 = sumL (32 : Int) [] [List.take x (dropL (dropL (List.take x (padX (54 : UInt8) key)) (0 : Nat)) (0 : Nat)), List.take ls.flatten.length (dropL (dropL y (0 : Nat)) (0 : Nat))].flatten → ∀ (y : List UInt8), y = y_1 → (0 : Nat) + x ≤ x ∧ [List.take x (dropL (dropL (List.take x (padX (92 : UInt8) key)) (0 : Nat)) (0 : Nat)), y].length = (2 : Nat) ∧ (2 : Nat) < (4611686018427387904 : Nat) ∧ [List.take x (dropL (dropL (List.take x (padX (92 : UInt8) key)) (0 : Nat)) (0 : Nat)), y].flatten.length ≤ (4294966000 : Nat) ∧ ∀ (y_2 : List UInt8), y_2 = sumL (32 : Int) [] [List.take x (dropL (dropL (List.take x (padX (92 : UInt8) key)) (0 : Nat)) (0 : Nat)), y].flatten → ∀ (y : List UInt8), y = y_2 → y = hmacL key ls.flatten ∧ True))) := by kernel_rfl
set_option maxRecDepth 100000 in
theorem vcExpandR (key input : List UInt8) (n : Int) : (vcFn KEer 200 25 [.s (.xs 1 (.s key.length) (.u8 key)), .s (.xs 1 (.s input.length) (.u8 input)), .s (.i64 n)] (.w (.s (.xs 32 (.s (expandN n)) (.u8 (expandL key input n)))))) =
  ((decide (n < Int.ofNat (1 : Nat)) = true → expandN n = (0 : Nat) ∧ (expandL key input n).length = (0 : Nat) ∧ True) ∧ (decide (n < Int.ofNat (1 : Nat)) = false → (decide (Int.ofNat (255 : Nat) < n) = true → expandN n = (0 : Nat) ∧ (expandL key input n).length = (0 : Nat) ∧ True) ∧ (decide (Int.ofNat (255 : Nat) < n) = false → key.length = key.length ∧ key.length ≤ (4294960000 : Nat) ∧ [input].length = (1 : Nat) ∧ (1 : Nat) < (4611686018427387904 : Nat) ∧ [input].flatten.length ≤ (4294960000 : Nat) ∧ ∀ (y : List UInt8), y = hmacL key [input].flatten → ∀ (y_1 : List UInt8), y_1 = y → (∃ (x : Nat), (↑x : Int) ≤ n ∧ n = n ∧ x = (0 : Nat) ∧ (keyN y_1 x).length = (0 : Nat) ∧ Int.ofNat (1 : Nat) = (↑(x + (1 : Nat)) : Int) ∧ input.length = input.length ∧ input = input ∧ y_1 = y_1 ∧ x * (32 : Nat) = (0 : Nat) ∧ (keysF y_1 x).length = (0 : Nat) ∧ (keyN y_1 x).length = (0 : Nat) ∧ (keyN y_1 x).length = (0 : Nat) ∧ True) ∧ ∀ (x : Nat), (↑x : Int) ≤ n → (decide ((↑(x + (1 : Nat)) : Int) ≤ n) = true → (0 : Nat) + (keyN y_1 x).length ≤ (keyN y_1 x).length ∧ y_1.length = y_1.length ∧ y_1.length ≤ (4294960000 : Nat) ∧ [List.take (keyN y_1 x).length (dropL (dropL (keyN y_1 x) (0 : Nat)) (0 : Nat)), [to8 (↑(x + (1 : Nat)) : Int)]].length = (2 : Nat) ∧ (2 : Nat) < (4611686018427387904 : Nat) ∧ [List.take (keyN y_1 x).length (dropL (dropL (keyN y_1 x) (0 : Nat)) (0 : Nat)), [to8 (↑(x + (1 : Nat)) : Int)]].flatten.length ≤ (4294960000 : Nat) ∧ ∀ (y : List UInt8), y = hmacL y_1 [List.take (keyN y_1 x).length (dropL (dropL (keyN y_1 x) (0 : Nat)) (0 : Nat)), [to8 (↑(x + (1 : Nat)) : Int)]].flatten → ∀ (y_2 : List UInt8), y_2 = y → x * (32 : Nat) = x * (32 : Nat) ∧ x + (1 : Nat) ≤ (4294967296 : Nat) ∧ ∀ (y : List UInt8), y = keysF y_1 x ++ y_2 → InI ((↑(x + (1 : Nat)) : Int) + Int.ofNat (1 : Nat)) ∧ ∀ (y_3 : Int), y_3 = (↑(x + (1 : Nat)) : Int) + Int.ofNat (1 : Nat) → ∃ (y_4 : Nat), (↑y_4 : Int) ≤ n ∧ n.toNat - y_4 < n.toNat - x ∧ n = n ∧ x + (1 : Nat) = y_4 ∧ (32 : Nat) = (keyN y_1 y_4).length ∧ y_3 = (↑(y_4 + (1 : Nat)) : Int) ∧ input.length = input.length ∧ input = input ∧ y_1 = y_1 ∧ x * (32 : Nat) + (32 : Nat) = y_4 * (32 : Nat) ∧ y = keysF y_1 y_4 ∧ (32 : Nat) = (keyN y_1 y_4).length ∧ y_2 = keyN y_1 y_4 ∧ True) ∧ (decide ((↑(x + (1 : Nat)) : Int) ≤ n) = false → (0 : Nat) + x * (32 : Nat) ≤ x * (32 : Nat) ∧ x = expandN n ∧ List.take (x * (32 : Nat)) (dropL (dropL (keysF y_1 x) (0 : Nat)) (0 : Nat)) = expandL key input n ∧ True)))) := by kernel_rfl
end Go.Proofs.Ytbgnjipdecekoaa

/- A step towards NoiseAgreesSaid: no conditions. -/
namespace Go.Proofs.Ytbgnjipdecekoaa
open Go Go.Eng Go.Cod Go.Cha Go.Bla Go.Kdf
theorem sum32_len (d : List UInt8) : (sumL 32 [] d).length = 32 := sumL_len 32 [] d (by decide)
theorem hmacL_len (key d : List UInt8) : (hmacL key d).length = 32 := sum32_len _
theorem keyN_len (t : List UInt8) (i : Nat) : (keyN t (i + 1)).length = 32 := hmacL_len _ _
theorem keyN_le (t : List UInt8) : ∀ i, (keyN t i).length ≤ 32
  | 0 => Nat.zero_le _
  | i + 1 => by rw [keyN_len]; exact Nat.le_refl _
theorem keysF_len (t : List UInt8) : ∀ i, (keysF t i).length = i * 32
  | 0 => rfl
  | i + 1 => by
    show (keysF t i ++ keyN t (i + 1)).length = _
    rw [List.length_append, keysF_len t i, keyN_len]; omega
theorem keyK_len {key : List UInt8} : (keyK key).length ≤ 64 := by
  unfold keyK
  split
  · rw [sum32_len]; decide
  · omega
theorem xorToK_zero (c : UInt8) (p : List UInt8) : xorToK c p 0 = p := rfl
theorem xorToK_len (c : UInt8) (p : List UInt8) (i : Nat) : (xorToK c p i).length = p.length := by
  unfold xorToK
  rw [List.length_append, List.length_map, List.length_take, List.length_drop]
  omega
theorem xorToK_get (c : UInt8) (p : List UInt8) (i : Nat) (j : Nat) : (xorToK c p i)[j]? = if j < i then p[j]?.map (· ^^^ c) else p[j]? := by
  unfold xorToK
  rw [List.getElem?_append]
  simp only [List.length_map, List.length_take, List.getElem?_map, List.getElem?_take, List.getElem?_drop]
  by_cases h1 : j < i
  · by_cases h2 : j < p.length
    · rw [if_pos (by omega), if_pos h1, if_pos h1]
    · rw [if_neg (by omega), if_pos h1, List.getElem?_eq_none (by omega), List.getElem?_eq_none (by omega)]; rfl
  · rw [if_neg (by omega), if_neg h1]
    by_cases h2 : i ≤ p.length
    · congr 1; omega
    · rw [List.getElem?_eq_none (by omega), List.getElem?_eq_none (by omega)]
theorem xorToK_step (c : UInt8) (p : List UInt8) (i : Nat) (h : i < p.length) : (xorToK c p i).set i ((xorToK c p i).getD i 0 ^^^ c) = xorToK c p (i + 1) := by
  apply List.ext_getElem?
  intro j
  rw [List.getElem?_set, xorToK_get, xorToK_get, List.getD_eq_getElem?_getD, xorToK_get, if_neg (Nat.lt_irrefl i), xorToK_len]
  by_cases e : i = j
  · subst e
    rw [if_pos rfl, if_pos h, if_pos (by omega), List.getElem?_eq_getElem h]
    rfl
  · rw [if_neg e]
    by_cases h1 : j < i
    · rw [if_pos h1, if_pos (by omega)]
    · rw [if_neg h1, if_neg (by omega)]
theorem xorToK_all (c : UInt8) (p : List UInt8) (h : p.length = 64) : xorToK c p 64 = p.map (· ^^^ c) := by
  unfold xorToK
  rw [List.take_of_length_le (by omega), List.drop_of_length_le (by omega), List.append_nil]
theorem padZ_len {k : List UInt8} (h : k.length ≤ 64) : (padZ k).length = 64 := by
  unfold padZ
  rw [List.length_append, List.length_replicate]; omega
theorem over_padZ {k : List UInt8} (h : k.length ≤ 64) : over (List.replicate 64 (0 : UInt8)) 0 k = padZ k := by
  unfold over padZ
  rw [List.take_zero, List.nil_append, Nat.zero_add, List.drop_replicate]
theorem padX_len {c : UInt8} {k : List UInt8} (h : k.length ≤ 64) : (padX c k).length = 64 := by unfold padX; rw [List.length_map, padZ_len h]
theorem padX_step1 {c : UInt8} {k : List UInt8} {i : Nat} (hi : i < k.length) : List.take i (padX c k) ++ [k.getD i 0 ^^^ c] = List.take (i + 1) (padX c k) := by
  have e : (padX c k)[i]? = some (k.getD i 0 ^^^ c) := by
    unfold padX padZ
    rw [List.getElem?_map, List.getElem?_append_left hi, List.getD_eq_getElem?_getD, List.getElem?_eq_getElem hi]
    rfl
  rw [List.take_add_one, e]
  rfl
theorem padX_step2 {c : UInt8} {k : List UInt8} {i : Nat} (hi : ¬ i < k.length) (h64 : i < 64) : List.take i (padX c k) ++ [UInt8.ofNat 0 ^^^ c] = List.take (i + 1) (padX c k) := by
  have e : (padX c k)[i]? = some (UInt8.ofNat 0 ^^^ c) := by
    unfold padX padZ
    rw [List.getElem?_map, List.getElem?_append_right (by omega), List.getElem?_replicate, if_pos (by omega)]
    rfl
  rw [List.take_add_one, e]
  rfl
theorem hmac_eq (key d : List UInt8) (p q : List UInt8) (hp : p = padX 54 (keyK key)) (hq : q = padX 92 (keyK key)) : sumL 32 [] [q, sumL 32 [] [p, d].flatten].flatten = hmacL key d := by
  subst hp hq
  unfold hmacL
  simp only [List.flatten_cons, List.flatten_nil, List.append_nil]
set_option maxRecDepth 100000 in
set_option maxHeartbeats 4000000 in
theorem conHmac : Con Try.prog 36 gHmac := con_of_vcl fun args ps res h hp hlen => by
  unfold gHmac at h
  split at h <;> cases h
  rename_i m key n ls
  obtain ⟨rfl, hp2⟩ := all_cons.1 hp
  obtain ⟨hk, hp3⟩ := all_cons.1 hp2
  obtain ⟨rfl, hp4⟩ := all_cons.1 hp3
  obtain ⟨hl, hp5⟩ := all_cons.1 hp4
  have hf := (all_cons.1 hp5).1
  refine ⟨KEh, 200, rfl, eok (gs := [(38, gJoin), (28, gHash)]) ⟨conJoin, conHash, trivial⟩, ?_⟩
  rw [vcHmac key ls]
  simp only [forall_eq, true_and, and_true, io, decide_eq_true_eq, decide_eq_false_iff_not, dropL_zero, Nat.zero_add, Nat.sub_zero, forall_const, Int.toNat_natCast, List.take_length]
  have f1 : [key].flatten = key := by simp
  rw [f1]
  have main : ∀ (k : List UInt8), k.length ≤ 64 → keyK key = k →
      (∃ x : Nat, x ≤ 64 ∧ ((0 : Nat) : Int) = (x : Int) ∧ over (List.replicate 64 0) 0 k = xorToK 54 (over (List.replicate 64 0) 0 k) x ∧ over (List.replicate 64 0) 0 k = xorToK 92 (over (List.replicate 64 0) 0 k) x) ∧
      ∀ x : Nat, x ≤ 64 →
        (((x : Nat) : Int) < ((64 : Nat) : Int) → (0 ≤ (x : Int) ∧ (x : Int) < ((64 : Nat) : Int)) ∧ x < 64 ∧ (0 ≤ (x : Int) ∧ (x : Int) < ((64 : Nat) : Int)) ∧ x < 64 ∧ (0 ≤ (x : Int) ∧ (x : Int) < ((64 : Nat) : Int)) ∧ x < 64 ∧ (0 ≤ (x : Int) ∧ (x : Int) < ((64 : Nat) : Int)) ∧ x < 64 ∧
          InI ((x : Int) + ((1 : Nat) : Int)) ∧ ∃ y : Nat, y ≤ 64 ∧ 64 - y < 64 - x ∧ (x : Int) + ((1 : Nat) : Int) = (y : Int) ∧
            (xorToK 54 (over (List.replicate 64 0) 0 k) x).set x ((xorToK 54 (over (List.replicate 64 0) 0 k) x).getD x 0 ^^^ UInt8.ofNat 54) = xorToK 54 (over (List.replicate 64 0) 0 k) y ∧
            (xorToK 92 (over (List.replicate 64 0) 0 k) x).set x ((xorToK 92 (over (List.replicate 64 0) 0 k) x).getD x 0 ^^^ UInt8.ofNat 92) = xorToK 92 (over (List.replicate 64 0) 0 k) y) ∧
        (¬ ((x : Nat) : Int) < ((64 : Nat) : Int) → ls.length < 4611686018427387904 ∧ ls.flatten.length ≤ 4294967296 ∧ ls.flatten.length ≤ ls.flatten.length ∧
          [xorToK 54 (over (List.replicate 64 0) 0 k) x, ls.flatten].length = 2 ∧ 2 < 4611686018427387904 ∧ [xorToK 54 (over (List.replicate 64 0) 0 k) x, ls.flatten].flatten.length ≤ 4294966000 ∧
          [xorToK 92 (over (List.replicate 64 0) 0 k) x, sumL 32 [] [xorToK 54 (over (List.replicate 64 0) 0 k) x, ls.flatten].flatten].length = 2 ∧ 2 < 4611686018427387904 ∧
          [xorToK 92 (over (List.replicate 64 0) 0 k) x, sumL 32 [] [xorToK 54 (over (List.replicate 64 0) 0 k) x, ls.flatten].flatten].flatten.length ≤ 4294966000 ∧
          sumL 32 [] [xorToK 92 (over (List.replicate 64 0) 0 k) x, sumL 32 [] [xorToK 54 (over (List.replicate 64 0) 0 k) x, ls.flatten].flatten].flatten = hmacL key ls.flatten) := by
    intro k hk64 hkk
    rw [over_padZ hk64]
    have hz := padZ_len hk64
    refine ⟨⟨0, Nat.zero_le _, rfl, rfl, rfl⟩, fun x hx => ⟨fun hlt => ?_, fun hge => ?_⟩⟩
    · have hlt : x < 64 := by omega
      refine ⟨⟨by omega, by omega⟩, hlt, ⟨by omega, by omega⟩, hlt, ⟨by omega, by omega⟩, hlt, ⟨by omega, by omega⟩, hlt, inI_of (by omega) (by omega), x + 1, by omega, by omega, by omega, xorToK_step _ _ _ (by omega), xorToK_step _ _ _ (by omega)⟩
    · have hx64 : x = 64 := by omega
      subst hx64
      have l1 := xorToK_len 54 (padZ k) 64
      have l2 := xorToK_len 92 (padZ k) 64
      refine ⟨hl, by omega, Nat.le_refl _, rfl, by decide, ?_, rfl, by decide, ?_, hmac_eq _ _ _ _ ?_ ?_⟩
      · simp only [List.flatten_cons, List.flatten_nil, List.append_nil, List.length_append]; omega
      · simp only [List.flatten_cons, List.flatten_nil, List.append_nil, List.length_append, sum32_len]; omega
      · rw [xorToK_all _ _ hz, hkk]; rfl
      · rw [xorToK_all _ _ hz, hkk]; rfl
  refine ⟨fun hlong => ⟨rfl, by decide, by omega, by decide, by decide, ?_⟩, fun hshort => ?_⟩
  · exact main _ (by rw [sum32_len]; decide) (if_pos (by omega))
  · have hk64 : key.length ≤ 64 := by omega
    rw [List.take_of_length_le hk64]
    exact ⟨hk64, hk64, main key hk64 (if_neg (by omega))⟩
theorem expandN_in {n : Int} (h : 1 ≤ n ∧ n ≤ 255) : expandN n = n.toNat := if_pos h
theorem expandN_out {n : Int} (h : ¬(1 ≤ n ∧ n ≤ 255)) : expandN n = 0 := if_neg h
set_option maxRecDepth 100000 in
set_option maxHeartbeats 4000000 in
theorem conExpand : Con Try.prog 27 gExpand := con_of_vcl fun args ps res h hp hlen => by
  unfold gExpand at h
  split at h <;> cases h
  rename_i m key n input z
  obtain ⟨rfl, hp2⟩ := all_cons.1 hp
  obtain ⟨hk, hp3⟩ := all_cons.1 hp2
  obtain ⟨rfl, hp4⟩ := all_cons.1 hp3
  have hi := (all_cons.1 hp4).1
  refine ⟨KEe, 200, rfl, eok (gs := [(36, gHmac)]) ⟨conHmac, trivial⟩, ?_⟩
  rw [vcExpand key input z]
  simp only [forall_eq, true_and, and_true, io, decide_eq_true_eq, decide_eq_false_iff_not, dropL_zero, Nat.zero_add, Nat.add_zero, Nat.sub_zero, forall_const, Int.toNat_natCast, List.take_length]
  have f1 : [input].flatten = input := by simp
  rw [f1]
  have out : ¬(1 ≤ z ∧ z ≤ 255) → expandN z = 0 ∧ (expandL key input z).length = 0 := fun h => by
    unfold expandL
    rw [expandN_out h]
    exact ⟨rfl, rfl⟩
  refine ⟨fun _ => out (by omega), fun h1 => ⟨fun _ => out (by omega), fun h2 => ?_⟩⟩
  have hin : 1 ≤ z ∧ z ≤ 255 := by omega
  unfold expandL
  rw [expandN_in hin]
  generalize ht : hmacL key input = t
  have htl : t.length = 32 := by rw [← ht]; exact hmacL_len _ _
  have c1 : ∀ x : Nat, (x : Int) + ((1 : Nat) : Int) = ((x + 1 : Nat) : Int) := fun x => rfl
  refine ⟨hk, rfl, by decide, by omega, ⟨0, by omega, rfl, rfl, rfl, rfl, rfl, rfl, rfl⟩, fun x hx => ⟨fun hlt => ?_, fun hge => ?_⟩⟩
  · have l1 := keyN_le t x
    refine ⟨inI_of (by omega) (by omega), Nat.le_refl _, by omega, rfl, by decide, by simp; omega, by omega, inI_of (by omega) (by omega), x + 1, by omega, by omega, rfl, (keyN_len t x).symm, rfl, by omega, ?_, (keyN_len t x).symm, ?_⟩
    · show _ = keysF t x ++ keyN t (x + 1)
      simp [keyN]
    · simp [keyN]
  · have : x = z.toNat := by omega
    subst this
    exact ⟨Nat.le_refl _, rfl, List.take_of_length_le (by rw [keysF_len]; exact Nat.le_refl _)⟩
set_option maxRecDepth 100000 in
set_option maxHeartbeats 4000000 in
theorem conHmacR : Con Try.prog 35 gHmac := con_of_vcl fun args ps res h hp hlen => by
  unfold gHmac at h
  split at h <;> cases h
  rename_i m key n ls
  obtain ⟨rfl, hp2⟩ := all_cons.1 hp
  obtain ⟨hk, hp3⟩ := all_cons.1 hp2
  obtain ⟨rfl, hp4⟩ := all_cons.1 hp3
  obtain ⟨hl, hp5⟩ := all_cons.1 hp4
  have hf := (all_cons.1 hp5).1
  refine ⟨KEhr, 200, rfl, eok (gs := [(40, gJoin), (29, gHash)]) ⟨conJoinR, conHashR, trivial⟩, ?_⟩
  rw [vcHmacR key ls]
  simp only [forall_eq, true_and, and_true, io, decide_eq_true_eq, decide_eq_false_iff_not, dropL_zero, Nat.zero_add, Nat.sub_zero, forall_const, Int.toNat_natCast, List.take_length]
  have f1 : [key].flatten = key := by simp
  rw [f1]
  have fin : ∀ (k : List UInt8), k.length ≤ 64 → keyK key = k → ∀ x : Nat, x ≤ 64 → ¬ (x : Int) < ((64 : Nat) : Int) →
      ls.length < 4611686018427387904 ∧ ls.flatten.length ≤ 4294967296 ∧ x ≤ x ∧ ls.flatten.length ≤ ls.flatten.length ∧ [List.take x (List.take x (padX 54 k)), ls.flatten].length = 2 ∧ 2 < 4611686018427387904 ∧ [List.take x (List.take x (padX 54 k)), ls.flatten].flatten.length ≤ 4294966000 ∧
      x ≤ x ∧ [List.take x (List.take x (padX 92 k)), sumL 32 [] [List.take x (List.take x (padX 54 k)), ls.flatten].flatten].length = 2 ∧ 2 < 4611686018427387904 ∧
      [List.take x (List.take x (padX 92 k)), sumL 32 [] [List.take x (List.take x (padX 54 k)), ls.flatten].flatten].flatten.length ≤ 4294966000 ∧
      sumL 32 [] [List.take x (List.take x (padX 92 k)), sumL 32 [] [List.take x (List.take x (padX 54 k)), ls.flatten].flatten].flatten = hmacL key ls.flatten := by
    intro k hk64 hkk x hx hge
    have hx64 : x = 64 := by omega
    subst hx64
    have l1 := padX_len (c := 54) hk64
    have l2 := padX_len (c := 92) hk64
    rw [List.take_take, List.take_take, Nat.min_self, List.take_of_length_le (by omega), List.take_of_length_le (by omega)]
    refine ⟨hl, by omega, Nat.le_refl _, Nat.le_refl _, rfl, by decide, ?_, Nat.le_refl _, rfl, by decide, ?_, hmac_eq _ _ _ _ ?_ ?_⟩
    · simp only [List.flatten_cons, List.flatten_nil, List.append_nil, List.length_append]; omega
    · simp only [List.flatten_cons, List.flatten_nil, List.append_nil, List.length_append, sum32_len]; omega
    · rw [hkk]
    · rw [hkk]
  have l32 := sum32_len key
  refine ⟨fun hlong => ⟨rfl, by decide, by omega, ⟨0, by omega, rfl, rfl, rfl, rfl, by simp, rfl, by simp⟩, fun x hx => ⟨fun hlt => ⟨fun h32 => ?_, fun h32 => ?_⟩, fun hge => ?_⟩⟩, fun hshort => ⟨⟨0, by omega, rfl, rfl, rfl, rfl, by simp, rfl, by simp⟩, fun x hx => ⟨fun hlt => ⟨fun h32 => ?_, fun h32 => ?_⟩, fun hge => ?_⟩⟩⟩
  · refine ⟨⟨by omega, by omega⟩, by omega, by omega, by omega, inI_of (by omega) (by omega), x + 1, by omega, by omega, rfl, rfl, rfl, rfl, padX_step1 (by omega), rfl, padX_step1 (by omega)⟩
  · refine ⟨by omega, by omega, inI_of (by omega) (by omega), x + 1, by omega, by omega, rfl, rfl, rfl, rfl, padX_step2 (by omega) (by omega), rfl, padX_step2 (by omega) (by omega)⟩
  · exact fin _ (by omega) (if_pos (by omega)) x hx hge
  · refine ⟨⟨by omega, by omega⟩, by omega, by omega, by omega, inI_of (by omega) (by omega), x + 1, by omega, by omega, rfl, rfl, rfl, rfl, padX_step1 (by omega), rfl, padX_step1 (by omega)⟩
  · refine ⟨by omega, by omega, inI_of (by omega) (by omega), x + 1, by omega, by omega, rfl, rfl, rfl, rfl, padX_step2 (by omega) (by omega), rfl, padX_step2 (by omega) (by omega)⟩
  · exact fin _ (by omega) (if_neg (by omega)) x hx hge
set_option maxRecDepth 100000 in
set_option maxHeartbeats 4000000 in
theorem conExpandR : Con Try.prog 25 gExpand := con_of_vcl fun args ps res h hp hlen => by
  unfold gExpand at h
  split at h <;> cases h
  rename_i m key n input z
  obtain ⟨rfl, hp2⟩ := all_cons.1 hp
  obtain ⟨hk, hp3⟩ := all_cons.1 hp2
  obtain ⟨rfl, hp4⟩ := all_cons.1 hp3
  have hi := (all_cons.1 hp4).1
  refine ⟨KEer, 200, rfl, eok (gs := [(35, gHmac)]) ⟨conHmacR, trivial⟩, ?_⟩
  rw [vcExpandR key input z]
  simp only [forall_eq, true_and, and_true, io, decide_eq_true_eq, decide_eq_false_iff_not, dropL_zero, Nat.zero_add, Nat.add_zero, Nat.sub_zero, forall_const, Int.toNat_natCast, List.take_length]
  have f1 : [input].flatten = input := by simp
  rw [f1]
  have out : ¬(1 ≤ z ∧ z ≤ 255) → expandN z = 0 ∧ (expandL key input z).length = 0 := fun h => by
    unfold expandL
    rw [expandN_out h]
    exact ⟨rfl, rfl⟩
  refine ⟨fun _ => out (by omega), fun h1 => ⟨fun _ => out (by omega), fun h2 => ?_⟩⟩
  have hin : 1 ≤ z ∧ z ≤ 255 := by omega
  unfold expandL
  rw [expandN_in hin]
  generalize ht : hmacL key input = t
  have htl : t.length = 32 := by rw [← ht]; exact hmacL_len _ _
  refine ⟨hk, rfl, by decide, by omega, ⟨0, by omega, rfl, rfl, rfl, rfl, rfl, rfl, rfl⟩, fun x hx => ⟨fun hlt => ?_, fun hge => ?_⟩⟩
  · have l1 := keyN_le t x
    refine ⟨Nat.le_refl _, by omega, rfl, by decide, by simp; omega, by omega, inI_of (by omega) (by omega), x + 1, by omega, by omega, rfl, (keyN_len t x).symm, rfl, by omega, ?_, (keyN_len t x).symm, ?_⟩
    · show _ = keysF t x ++ keyN t (x + 1)
      simp [keyN]
    · simp [keyN]
  · have : x = z.toNat := by omega
    subst this
    exact ⟨Nat.le_refl _, rfl, List.take_of_length_le (by rw [keysF_len]; exact Nat.le_refl _)⟩
end Go.Proofs.Ytbgnjipdecekoaa

/- A step towards NoiseAgreesSaid: no conditions. -/
namespace Go.Proofs.Ytbgnjipdecekoaa
open Go Go.Eng Go.Cod Go.Cha Go.Pol Go.Aed Go.Bla Go.Kdf Go.Nos
theorem enoa : EnvOk NOa := eok (gs := [(28, gHash), (27, gExpandN), (30, gSeal), (33, gOpen), (31, gCounter)]) ⟨conHash, expandN_of conExpand, conSeal, conOpen, conCounter, trivial⟩
theorem enor : EnvOk NOr := eok (gs := [(29, gHash), (25, gExpandN), (32, gSeal), (34, gOpen)]) ⟨conHashR, expandN_of conExpandR, conSealR, conOpenR, trivial⟩
theorem t32 {l : List UInt8} {i : Nat} : List.take 32 (dropL l i) = (l.drop i).take 32 := by rw [dropL_eq]
theorem take32_le (l : List UInt8) : (List.take 32 l).length ≤ 32 := by rw [List.length_take]; omega
theorem nil12_eq : [(0 : UInt8), 0, 0, 0, 0, 0, 0, 0, 0, 0, 0, 0] = nil12 := by decide +kernel
theorem flat1 (a : List UInt8) : [a].flatten = a := by simp
theorem fl2_len (a b : List UInt8) : [a, b].flatten.length = a.length + b.length := by simp
theorem mix1 (h b : List UInt8) : sumL 32 [] [h, b].flatten = mixH h [b] := by unfold mixH; simp
theorem mixls (h : List UInt8) (ls : List (List UInt8)) : sumL 32 [] (h :: (ls ++ [])).flatten = mixH h ls := by unfold mixH; simp
theorem litC : [UInt8.ofNat 78, UInt8.ofNat 111, UInt8.ofNat 105, UInt8.ofNat 115, UInt8.ofNat 101, UInt8.ofNat 95, UInt8.ofNat 73, UInt8.ofNat 75, UInt8.ofNat 112, UInt8.ofNat 115, UInt8.ofNat 107, UInt8.ofNat 50, UInt8.ofNat 95, UInt8.ofNat 50, UInt8.ofNat 53, UInt8.ofNat 53, UInt8.ofNat 49, UInt8.ofNat 57, UInt8.ofNat 95, UInt8.ofNat 67, UInt8.ofNat 104, UInt8.ofNat 97, UInt8.ofNat 67, UInt8.ofNat 104, UInt8.ofNat 97, UInt8.ofNat 80, UInt8.ofNat 111, UInt8.ofNat 108, UInt8.ofNat 121, UInt8.ofNat 95, UInt8.ofNat 66, UInt8.ofNat 76, UInt8.ofNat 65, UInt8.ofNat 75, UInt8.ofNat 69, UInt8.ofNat 50, UInt8.ofNat 115] = constr := by decide +kernel
theorem litI : [UInt8.ofNat 87, UInt8.ofNat 105, UInt8.ofNat 114, UInt8.ofNat 101, UInt8.ofNat 71, UInt8.ofNat 117, UInt8.ofNat 97, UInt8.ofNat 114, UInt8.ofNat 100, UInt8.ofNat 32, UInt8.ofNat 118, UInt8.ofNat 49, UInt8.ofNat 32, UInt8.ofNat 122, UInt8.ofNat 120, UInt8.ofNat 50, UInt8.ofNat 99, UInt8.ofNat 52, UInt8.ofNat 32, UInt8.ofNat 74, UInt8.ofNat 97, UInt8.ofNat 115, UInt8.ofNat 111, UInt8.ofNat 110, UInt8.ofNat 64, UInt8.ofNat 122, UInt8.ofNat 120, UInt8.ofNat 50, UInt8.ofNat 99, UInt8.ofNat 52, UInt8.ofNat 46, UInt8.ofNat 99, UInt8.ofNat 111, UInt8.ofNat 109] = ident := by decide +kernel
theorem ex1 (c x : List UInt8) : expandL c x (Int.ofNat 1) = exI c x 1 0 := by
  have hl : (expandL c x (Int.ofNat 1)).length = 32 := by
    show (keysF _ 1).length = 32
    rw [keysF_len]
  unfold exI
  exact (List.take_of_length_le (Nat.le_of_eq hl)).symm
theorem nSealL_len (h k p : List UInt8) : (nSealL h k p).length = p.length + 16 := sealL_len ..
set_option maxRecDepth 100000 in
theorem conNMixHash : Con Try.prog 15 gMixHash := con_of_vcl fun args ps res hg hp hlen => by
  unfold gMixHash at hg
  split at hg <;> cases hg
  rename_i h c m ls
  obtain ⟨rfl, hp1⟩ := all_cons.1 hp
  obtain ⟨hn, hp2⟩ := all_cons.1 hp1
  have hx := (all_cons.1 hp2).1
  have hh : h.length = 32 := hlen.1.1
  have hc : c.length = 32 := hlen.1.2.1
  refine ⟨NOa, 200, rfl, enoa, ?_⟩
  refine Eq.mpr (vcNMixHash h c ls) ?_
  simp only [forall_eq, true_and, and_true, mixls]
  refine ⟨by omega, ?_, ?_⟩
  · simp; omega
  · simp; simp at hx; omega
set_option maxRecDepth 100000 in
theorem conNMixChain : Con Try.prog 17 gMixChain := con_of_vcl fun args ps res hg hp hlen => by
  unfold gMixChain at hg
  split at hg <;> cases hg
  rename_i h c m x
  obtain ⟨rfl, hp1⟩ := all_cons.1 hp
  have hx := (all_cons.1 hp1).1
  have hh : h.length = 32 := hlen.1.1
  have hc : c.length = 32 := hlen.1.2.1
  refine ⟨NOa, 200, rfl, enoa, ?_⟩
  refine Eq.mpr (vcNMixChain h c x) ?_
  simp only [forall_eq, true_and, and_true, t32, ex1]
  repeat' apply And.intro
  all_goals first | omega | exact trivial | rfl | decide
set_option maxRecDepth 100000 in
theorem conNMixKey : Con Try.prog 7 gMixKey := con_of_vcl fun args ps res hg hp hlen => by
  unfold gMixKey at hg
  split at hg <;> cases hg
  rename_i h c m x
  obtain ⟨rfl, hp1⟩ := all_cons.1 hp
  have hx := (all_cons.1 hp1).1
  have hh : h.length = 32 := hlen.1.1
  have hc : c.length = 32 := hlen.1.2.1
  refine ⟨NOa, 200, rfl, enoa, ?_⟩
  refine Eq.mpr (vcNMixKey h c x) ?_
  simp only [forall_eq, true_and, and_true, t32]
  repeat' apply And.intro
  all_goals first | omega | exact trivial | rfl | decide
set_option maxRecDepth 100000 in
theorem conNMixShared : Con Try.prog 9 gMixShared := con_of_vcl fun args ps res hg hp hlen => by
  unfold gMixShared at hg
  split at hg <;> cases hg
  rename_i h c x
  have hh : h.length = 32 := hlen.1.1
  have hc : c.length = 32 := hlen.1.2.1
  refine ⟨NOa, 200, rfl, enoa, ?_⟩
  refine Eq.mpr (vcNMixShared h c x) ?_
  have hx : x.length = 32 := hlen.2.1.1
  have hk := take32_le ((expandL c x (Int.ofNat 3)).drop 32)
  simp only [forall_eq, true_and, and_true, t32, mix1, fl2_len, flat1, List.length_cons, List.length_nil]
  repeat' apply And.intro
  all_goals first | omega | exact trivial | rfl | decide
set_option maxRecDepth 100000 in
theorem conNSplit : Con Try.prog 11 gSplit := con_of_vcl fun args ps res hg hp hlen => by
  unfold gSplit at hg
  split at hg <;> cases hg
  rename_i h c
  have hh : h.length = 32 := hlen.1.1
  have hc : c.length = 32 := hlen.1.2.1
  refine ⟨NOa, 200, rfl, enoa, ?_⟩
  refine Eq.mpr (vcNSplit h c) ?_
  simp only [forall_eq, true_and, and_true, t32]
  repeat' apply And.intro
  all_goals first | omega | exact trivial | rfl | decide
set_option maxRecDepth 100000 in
theorem conNStart : Con Try.prog 13 gStart := con_of_vcl fun args ps res hg hp hlen => by
  unfold gStart at hg
  split at hg <;> cases hg
  rename_i p
  refine ⟨NOa, 200, rfl, enoa, ?_⟩
  refine Eq.mpr (vcNStart p) ?_
  have hp3 : p.length = 32 := hlen.1.1
  have e1 : ∀ a : List UInt8, sumL (32 : Int) [] [a].flatten = sumL 32 [] a := fun a => by rw [flat1]
  have e2 : ∀ a b : List UInt8, sumL (32 : Int) [] [a, b].flatten = sumL 32 [] (a ++ b) := fun a b => by rw [flat2]
  have ls : ∀ a : List UInt8, (sumL 32 [] a).length ≤ 32 := fun a => by unfold sumL; rw [List.length_take]; exact Nat.min_le_left ..
  have l3 := ls constr
  have e5 : sumL 32 [] constr = startC := rfl
  have e6 : sumL 32 [] (sumL 32 [] (startC ++ ident) ++ p) = startH p := by unfold startH mixH; rw [flat1]
  have lc : constr.length = 37 := by decide +kernel
  have li : ident.length = 34 := by decide +kernel
  rw [e5] at l3
  simp only [forall_eq, true_and, and_true, e1, e2, fl2_len, litC, litI, e5, e6, flat1, lc, li]
  have l1 := ls constr
  have l2 := ls (startC ++ ident)
  repeat' apply And.intro
  all_goals first | exact trivial | decide | skip
  all_goals first | omega | exact rfl
set_option maxRecDepth 100000 in
theorem conNSeal : Con Try.prog 20 gNSeal := con_of_vcl fun args ps res hg hp hlen => by
  unfold gNSeal at hg
  split at hg <;> cases hg
  rename_i h c k m p
  obtain ⟨rfl, hp1⟩ := all_cons.1 hp
  have hx := (all_cons.1 hp1).1
  have hh : h.length = 32 := hlen.1.1
  have hc : c.length = 32 := hlen.1.2.1
  refine ⟨NOa, 200, rfl, enoa, ?_⟩
  refine Eq.mpr (vcNSeal h c k p) ?_
  have e : countL (UInt64.ofNat 0) = nil12 := rfl
  have e2 : sealL k nil12 p h = nSealL h k p := rfl
  have hl := nSealL_len h k p
  simp only [forall_eq, true_and, and_true, e, nil12_eq, e2, dropL_zero, Nat.zero_add, List.take_length, mix1, fl2_len, flat1, Nat.le_refl]
  repeat' apply And.intro
  all_goals first | omega | exact trivial | rfl | decide
set_option maxRecDepth 100000 in
theorem conNOpen : Con Try.prog 22 gNOpen := con_of_vcl fun args ps res hg hp hlen => by
  unfold gNOpen at hg
  split at hg <;> cases hg
  rename_i h c k m s
  obtain ⟨rfl, hp1⟩ := all_cons.1 hp
  have hx := (all_cons.1 hp1).1
  have hh : h.length = 32 := hlen.1.1
  have hc : c.length = 32 := hlen.1.2.1
  refine ⟨NOa, 200, rfl, enoa, ?_⟩
  refine Eq.mpr (vcNOpen h c k s) ?_
  have e : countL (UInt64.ofNat 0) = nil12 := rfl
  have e2 : openE k nil12 s h = nOpenE h k s := rfl
  have e3 : openL k nil12 s h = nOpenL h k s := rfl
  simp only [forall_eq, true_and, and_true, e, nil12_eq, e2, e3, dropL_zero, Nat.zero_add, List.take_length, mix1, fl2_len, flat1, Nat.le_refl]
  have g1 : nOpenE h k s ≠ 0 → opH h k s = List.replicate 32 0 ∧ opC h c k s = List.replicate 32 0 ∧ (nOpenL h k s).length = 0 := fun hne => ⟨if_neg hne, if_neg hne, by show (if nOpenE h k s = 0 then _ else ([] : List UInt8)).length = 0; rw [if_neg hne]; rfl⟩
  have g2 : nOpenE h k s = 0 → opH h k s = mixH h [s] ∧ opC h c k s = c := fun he => ⟨if_pos he, if_pos he⟩
  refine ⟨by omega, by omega, fun hd => ?_, fun hd => ?_⟩
  · obtain ⟨a, b, d⟩ := g1 (of_decide_eq_true hd)
    rw [a, b]
    exact ⟨rfl, rfl, d, d⟩
  · have h0 : nOpenE h k s = 0 := Decidable.not_not.1 (of_decide_eq_false hd)
    obtain ⟨a, b⟩ := g2 h0
    rw [a, b, h0]
    repeat' apply And.intro
    all_goals first | omega | exact trivial | rfl | decide
set_option maxRecDepth 100000 in
theorem conQMixHash : Con Try.prog 16 gMixHash := con_of_vcl fun args ps res hg hp hlen => by
  unfold gMixHash at hg
  split at hg <;> cases hg
  rename_i h c m ls
  obtain ⟨rfl, hp1⟩ := all_cons.1 hp
  obtain ⟨hn, hp2⟩ := all_cons.1 hp1
  have hx := (all_cons.1 hp2).1
  have hh : h.length = 32 := hlen.1.1
  have hc : c.length = 32 := hlen.1.2.1
  refine ⟨NOr, 200, rfl, enor, ?_⟩
  refine Eq.mpr (vcQMixHash h c ls) ?_
  simp only [forall_eq, true_and, and_true, mixls]
  refine ⟨by omega, ?_, ?_⟩
  · simp; omega
  · simp; simp at hx; omega
theorem enoq : EnvOk NOq := eok (gs := [(29, gHash), (25, gExpandN), (32, gSeal), (34, gOpen), (16, gMixHash)]) ⟨conHashR, expandN_of conExpandR, conSealR, conOpenR, conQMixHash, trivial⟩
set_option maxRecDepth 100000 in
theorem conQMixChain : Con Try.prog 18 gMixChain := con_of_vcl fun args ps res hg hp hlen => by
  unfold gMixChain at hg
  split at hg <;> cases hg
  rename_i h c m x
  obtain ⟨rfl, hp1⟩ := all_cons.1 hp
  have hx := (all_cons.1 hp1).1
  have hh : h.length = 32 := hlen.1.1
  have hc : c.length = 32 := hlen.1.2.1
  refine ⟨NOq, 200, rfl, enoq, ?_⟩
  refine Eq.mpr (vcQMixChain h c x) ?_
  simp only [forall_eq, true_and, and_true, t32, ex1]
  repeat' apply And.intro
  all_goals first | omega | exact trivial | rfl | decide
set_option maxRecDepth 100000 in
theorem conQMixKey : Con Try.prog 8 gMixKey := con_of_vcl fun args ps res hg hp hlen => by
  unfold gMixKey at hg
  split at hg <;> cases hg
  rename_i h c m x
  obtain ⟨rfl, hp1⟩ := all_cons.1 hp
  have hx := (all_cons.1 hp1).1
  have hh : h.length = 32 := hlen.1.1
  have hc : c.length = 32 := hlen.1.2.1
  refine ⟨NOq, 200, rfl, enoq, ?_⟩
  refine Eq.mpr (vcQMixKey h c x) ?_
  simp only [forall_eq, true_and, and_true, t32]
  repeat' apply And.intro
  all_goals first | omega | exact trivial | rfl | decide
set_option maxRecDepth 100000 in
theorem conQMixShared : Con Try.prog 10 gMixShared := con_of_vcl fun args ps res hg hp hlen => by
  unfold gMixShared at hg
  split at hg <;> cases hg
  rename_i h c x
  have hh : h.length = 32 := hlen.1.1
  have hc : c.length = 32 := hlen.1.2.1
  refine ⟨NOq, 200, rfl, enoq, ?_⟩
  refine Eq.mpr (vcQMixShared h c x) ?_
  have hx : x.length = 32 := hlen.2.1.1
  have hk := take32_le ((expandL c x (Int.ofNat 3)).drop 32)
  simp only [forall_eq, true_and, and_true, t32, mix1, fl2_len, flat1, List.length_cons, List.length_nil]
  repeat' apply And.intro
  all_goals first | omega | exact trivial | rfl | decide
set_option maxRecDepth 100000 in
theorem conQSplit : Con Try.prog 12 gSplit := con_of_vcl fun args ps res hg hp hlen => by
  unfold gSplit at hg
  split at hg <;> cases hg
  rename_i h c
  have hh : h.length = 32 := hlen.1.1
  have hc : c.length = 32 := hlen.1.2.1
  refine ⟨NOq, 200, rfl, enoq, ?_⟩
  refine Eq.mpr (vcQSplit h c) ?_
  simp only [forall_eq, true_and, and_true, t32]
  repeat' apply And.intro
  all_goals first | omega | exact trivial | rfl | decide
set_option maxRecDepth 100000 in
theorem conQStart : Con Try.prog 14 gStart := con_of_vcl fun args ps res hg hp hlen => by
  unfold gStart at hg
  split at hg <;> cases hg
  rename_i p
  refine ⟨NOq, 200, rfl, enoq, ?_⟩
  refine Eq.mpr (vcQStart p) ?_
  have hp3 : p.length = 32 := hlen.1.1
  have e1 : ∀ a : List UInt8, sumL (32 : Int) [] [a].flatten = sumL 32 [] a := fun a => by rw [flat1]
  have e2 : ∀ a b : List UInt8, sumL (32 : Int) [] [a, b].flatten = sumL 32 [] (a ++ b) := fun a b => by rw [flat2]
  have ls : ∀ a : List UInt8, (sumL 32 [] a).length ≤ 32 := fun a => by unfold sumL; rw [List.length_take]; exact Nat.min_le_left ..
  have l3 := ls constr
  have e5 : sumL 32 [] constr = startC := rfl
  have e6 : sumL 32 [] (sumL 32 [] (startC ++ ident) ++ p) = startH p := by unfold startH mixH; rw [flat1]
  have lc : constr.length = 37 := by decide +kernel
  have li : ident.length = 34 := by decide +kernel
  rw [e5] at l3
  simp only [forall_eq, true_and, and_true, e1, e2, fl2_len, litC, litI, e5, e6, flat1, lc, li]
  have l1 := ls constr
  have l2 := ls (startC ++ ident)
  repeat' apply And.intro
  all_goals first | exact trivial | decide | skip
  all_goals first | omega | exact rfl
set_option maxRecDepth 100000 in
theorem conQSeal : Con Try.prog 21 gNSeal := con_of_vcl fun args ps res hg hp hlen => by
  unfold gNSeal at hg
  split at hg <;> cases hg
  rename_i h c k m p
  obtain ⟨rfl, hp1⟩ := all_cons.1 hp
  have hx := (all_cons.1 hp1).1
  have hh : h.length = 32 := hlen.1.1
  have hc : c.length = 32 := hlen.1.2.1
  refine ⟨NOq, 200, rfl, enoq, ?_⟩
  refine Eq.mpr (vcQSeal h c k p) ?_
  have e : countL (UInt64.ofNat 0) = nil12 := rfl
  have e2 : sealL k nil12 p h = nSealL h k p := rfl
  have hl := nSealL_len h k p
  simp only [forall_eq, true_and, and_true, e, nil12_eq, e2, dropL_zero, Nat.zero_add, List.take_length, mix1, fl2_len, flat1, Nat.le_refl]
  repeat' apply And.intro
  all_goals first | omega | exact trivial | rfl | decide
set_option maxRecDepth 100000 in
theorem conQOpen : Con Try.prog 23 gNOpen := con_of_vcl fun args ps res hg hp hlen => by
  unfold gNOpen at hg
  split at hg <;> cases hg
  rename_i h c k m s
  obtain ⟨rfl, hp1⟩ := all_cons.1 hp
  have hx := (all_cons.1 hp1).1
  have hh : h.length = 32 := hlen.1.1
  have hc : c.length = 32 := hlen.1.2.1
  refine ⟨NOq, 200, rfl, enoq, ?_⟩
  refine Eq.mpr (vcQOpen h c k s) ?_
  have e : countL (UInt64.ofNat 0) = nil12 := rfl
  have e2 : openE k nil12 s h = nOpenE h k s := rfl
  have e3 : openL k nil12 s h = nOpenL h k s := rfl
  simp only [forall_eq, true_and, and_true, e, nil12_eq, e2, e3, dropL_zero, Nat.zero_add, List.take_length, mix1, fl2_len, flat1, Nat.le_refl]
  have g1 : nOpenE h k s ≠ 0 → opH h k s = List.replicate 32 0 ∧ opC h c k s = List.replicate 32 0 ∧ (nOpenL h k s).length = 0 := fun hne => ⟨if_neg hne, if_neg hne, by show (if nOpenE h k s = 0 then _ else ([] : List UInt8)).length = 0; rw [if_neg hne]; rfl⟩
  have g2 : nOpenE h k s = 0 → opH h k s = mixH h [s] ∧ opC h c k s = c := fun he => ⟨if_pos he, if_pos he⟩
  refine ⟨by omega, by omega, fun hd => ?_, fun hd => ?_⟩
  · obtain ⟨a, b, d⟩ := g1 (of_decide_eq_true hd)
    rw [a, b]
    exact ⟨rfl, rfl, d, d⟩
  · have h0 : nOpenE h k s = 0 := Decidable.not_not.1 (of_decide_eq_false hd)
    obtain ⟨a, b⟩ := g2 h0
    rw [a, b, h0]
    repeat' apply And.intro
    all_goals first | omega | exact trivial | rfl | decide
end Go.Proofs.Ytbgnjipdecekoaa
