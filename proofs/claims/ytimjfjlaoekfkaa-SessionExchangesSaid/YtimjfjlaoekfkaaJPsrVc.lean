/- Steps towards SessionExchangesSaid. -/
import Derived.Test.YtimjfjlaoekfkaaJAerVc
import Derived.Test.YtimjfjlaoekfkaaBase
import Derived.Test.YtimjfjlaoekfkaaJCodNum
import Derived.Test.YtimjfjlaoekfkaaJMdcVc
/- A step towards SessionExchangesSaid: no conditions. -/
namespace Go.Proofs.Ytimjfjlaoekfkaa
open Go Go.Eng Go.Cod Go.Pol
noncomputable def PRp : Env := mkE Try.prog [(66, gPlusD), (65, gTimesD), (67, gLeast)] [(0, JPadK 7 5 0 [1, 2, 4, 5, 6]), (2, JPolyR), (4, JPadD), (6, JPadK 12 11 16 [2, 4, 6, 11]), (8, JCutR)] 3 true
set_option maxRecDepth 100000 in
theorem vcPolyR (k d : List UInt8) : (vcFn PRp 200 57 [.agg [.vec (.n 32) (.u8 k)], .s (.xs 1 (.s d.length) (.u8 d))] (.w (.agg [.vec (.n 16) (.u8 (polyL k d))]))) =
  ((∃ (x : Nat), x ≤ (16 : Nat) ∧ d.length = d.length ∧ d = d ∧ Int.ofNat (0 : Nat) = (↑x : Int) ∧ k = k ∧ List.replicate (16 : Nat) (0 : UInt8) = List.replicate (16 : Nat) (0 : UInt8) ∧ List.replicate (17 : Nat) (0 : UInt32) = padD (List.drop (0 : Nat) k) x ∧ List.replicate (17 : Nat) (0 : UInt32) = List.replicate (17 : Nat) (0 : UInt32) ∧ True) ∧ ∀ (x : Nat), x ≤ (16 : Nat) → (decide ((↑x : Int) < Int.ofNat (16 : Nat)) = true → ((0 : Int) ≤ (↑x : Int) ∧ (↑x : Int) < (↑(32 : Nat) : Int)) ∧ (↑x : Int).toNat < (32 : Nat) ∧ ((0 : Int) ≤ (↑x : Int) ∧ (↑x : Int) < (↑(17 : Nat) : Int)) ∧ (↑x : Int).toNat < (17 : Nat) ∧ ∀ (y : List UInt32), y = (padD (List.drop (0 : Nat) k) x).set (↑x : Int).toNat (k.getD (↑x : Int).toNat (0 : UInt8)).toUInt32 → InI ((↑x : Int) + Int.ofNat (1 : Nat)) ∧ ∀ (y_1 : Int), y_1 = (↑x : Int) + Int.ofNat (1 : Nat) → ∃ (y_2 : Nat), y_2 ≤ (16 : Nat) ∧ (16 : Nat) - y_2 < (16 : Nat) - x ∧ d.length = d.length ∧ d = d ∧ y_1 = (↑y_2 : Int) ∧ k = k ∧ List.replicate (16 : Nat) (0 : UInt8) = List.replicate (16 : Nat) (0 : UInt8) ∧ y = padD (List.drop (0 : Nat) k) y_2 ∧ List.replicate (17 : Nat) (0 : UInt32) = List.replicate (17 : Nat) (0 : UInt32) ∧ True) ∧ (decide ((↑x : Int) < Int.ofNat (16 : Nat)) = false → ∀ (y : List UInt32), y = (padD (List.drop (0 : Nat) k) x).set (3 : Nat) ((padD (List.drop (0 : Nat) k) x).getD (3 : Nat) (0 : UInt32) &&& UInt32.ofNat (nat_lit 15)) → ∀ (y_1 : List UInt32), y_1 = y.set (4 : Nat) (y.getD (4 : Nat) (0 : UInt32) &&& UInt32.ofNat (nat_lit 252)) → ∀ (y : List UInt32), y = y_1.set (7 : Nat) (y_1.getD (7 : Nat) (0 : UInt32) &&& UInt32.ofNat (nat_lit 15)) → ∀ (y_2 : List UInt32), y_2 = y.set (8 : Nat) (y.getD (8 : Nat) (0 : UInt32) &&& UInt32.ofNat (nat_lit 252)) → ∀ (y : List UInt32), y = y_2.set (11 : Nat) (y_2.getD (11 : Nat) (0 : UInt32) &&& UInt32.ofNat (nat_lit 15)) → ∀ (y_3 : List UInt32), y_3 = y.set (12 : Nat) (y.getD (12 : Nat) (0 : UInt32) &&& UInt32.ofNat (nat_lit 252)) → ∀ (y : List UInt32), y = y_3.set (15 : Nat) (y_3.getD (15 : Nat) (0 : UInt32) &&& UInt32.ofNat (nat_lit 15)) → (∃ (x : Nat), x ≤ nbP d ∧ d.length = (List.drop ((16 : Nat) * x) d).length ∧ d = List.drop ((16 : Nat) * x) d ∧ k = k ∧ List.replicate (16 : Nat) (0 : UInt8) = List.replicate (16 : Nat) (0 : UInt8) ∧ y = y ∧ List.replicate (17 : Nat) (0 : UInt32) = d17 (vN y d x) ∧ True) ∧ ∀ (x : Nat), x ≤ nbP d → ∀ (y_4 : Int), y_4 = (↑(List.drop ((16 : Nat) * x) d).length : Int) → (decide (Int.ofNat (0 : Nat) < y_4) = true → ∀ (y_5 : Int), y_5 = (↑(List.drop ((16 : Nat) * x) d).length : Int) → ∀ (y_6 : Int), y_6 = min y_5 (Int.ofNat (16 : Nat)) → ∀ (y_7 : Int), y_7 = y_6 → (∃ (x_1 : Nat), x_1 ≤ min (List.drop ((16 : Nat) * x) d).length (16 : Nat) ∧ (List.drop ((16 : Nat) * x) d).length = (List.drop ((16 : Nat) * x) d).length ∧ List.drop ((16 : Nat) * x) d = List.drop ((16 : Nat) * x) d ∧ y_7 = y_7 ∧ Int.ofNat (0 : Nat) = (↑x_1 : Int) ∧ k = k ∧ List.replicate (16 : Nat) (0 : UInt8) = List.replicate (16 : Nat) (0 : UInt8) ∧ y = y ∧ d17 (vN y d x) = d17 (vN y d x) ∧ List.replicate (17 : Nat) (0 : UInt32) = padD (List.drop ((16 : Nat) * x) d) x_1 ∧ True) ∧ ∀ (x_1 : Nat), x_1 ≤ min (List.drop ((16 : Nat) * x) d).length (16 : Nat) → (decide ((↑x_1 : Int) < y_7) = true → ((0 : Int) ≤ (↑x_1 : Int) ∧ (↑x_1 : Int) < (↑(List.drop ((16 : Nat) * x) d).length : Int)) ∧ (↑x_1 : Int).toNat < (List.drop ((16 : Nat) * x) d).length ∧ ((0 : Int) ≤ (↑x_1 : Int) ∧ (↑x_1 : Int) < (↑(17 : Nat) : Int)) ∧ (↑x_1 : Int).toNat < (17 : Nat) ∧ ∀ (y_8 : List UInt32), y_8 = (padD (List.drop ((16 : Nat) * x) d) x_1).set (↑x_1 : Int).toNat ((List.drop ((16 : Nat) * x) d).getD (↑x_1 : Int).toNat (0 : UInt8)).toUInt32 → InI ((↑x_1 : Int) + Int.ofNat (1 : Nat)) ∧ ∀ (y_9 : Int), y_9 = (↑x_1 : Int) + Int.ofNat (1 : Nat) → ∃ (y_10 : Nat), y_10 ≤ min (List.drop ((16 : Nat) * x) d).length (16 : Nat) ∧ min (List.drop ((16 : Nat) * x) d).length (16 : Nat) - y_10 < min (List.drop ((16 : Nat) * x) d).length (16 : Nat) - x_1 ∧ (List.drop ((16 : Nat) * x) d).length = (List.drop ((16 : Nat) * x) d).length ∧ List.drop ((16 : Nat) * x) d = List.drop ((16 : Nat) * x) d ∧ y_7 = y_7 ∧ y_9 = (↑y_10 : Int) ∧ k = k ∧ List.replicate (16 : Nat) (0 : UInt8) = List.replicate (16 : Nat) (0 : UInt8) ∧ y = y ∧ d17 (vN y d x) = d17 (vN y d x) ∧ y_8 = padD (List.drop ((16 : Nat) * x) d) y_10 ∧ True) ∧ (decide ((↑x_1 : Int) < y_7) = false → ((0 : Int) ≤ y_7 ∧ y_7 < (↑(17 : Nat) : Int)) ∧ y_7.toNat < (17 : Nat) ∧ ∀ (y_8 : List UInt32), y_8 = (padD (List.drop ((16 : Nat) * x) d) x_1).set y_7.toNat (UInt32.ofNat (nat_lit 1)) → small (d17 (vN y d x)) (1048576 : Nat) ∧ small y_8 (1048576 : Nat) ∧ ∀ (y_9 : List UInt32), y_9 = d17 ((valD (d17 (vN y d x)) + valD y_8) % (87112285931760246646623899502532662132736 : Nat)) → small y_9 (256 : Nat) ∧ small y (256 : Nat) ∧ ∀ (y_10 : List UInt32), y_10 = d17 (red1 (red1 (timesV y_9 y))) → ∀ (y_11 : List UInt32), y_11 = y_10 → ((0 : Int) ≤ y_7 ∧ y_7 ≤ (↑(List.drop ((16 : Nat) * x) d).length : Int)) ∧ ∃ (y_12 : Nat), y_12 ≤ nbP d ∧ nbP d - y_12 < nbP d - x ∧ (List.drop ((16 : Nat) * x) d).length - y_7.toNat = (List.drop ((16 : Nat) * y_12) d).length ∧ List.drop y_7.toNat (List.drop ((16 : Nat) * x) d) = List.drop ((16 : Nat) * y_12) d ∧ k = k ∧ List.replicate (16 : Nat) (0 : UInt8) = List.replicate (16 : Nat) (0 : UInt8) ∧ y = y ∧ y_11 = d17 (vN y d y_12) ∧ True)) ∧ (decide (Int.ofNat (0 : Nat) < y_4) = false → small (d17 (vN y d x)) (256 : Nat) ∧ ∀ (y_5 : List UInt32), y_5 = d17 (lst (red1 (red1 (valD (d17 (vN y d x)))))) → ∀ (y_6 : List UInt32), y_6 = y_5 → (∃ (x : Nat), x ≤ (16 : Nat) ∧ Int.ofNat (0 : Nat) = (↑x : Int) ∧ k = k ∧ List.replicate (16 : Nat) (0 : UInt8) = List.replicate (16 : Nat) (0 : UInt8) ∧ y = y ∧ y_6 = y_6 ∧ List.replicate (17 : Nat) (0 : UInt32) = padD (List.drop (16 : Nat) k) x ∧ True) ∧ ∀ (x : Nat), x ≤ (16 : Nat) → (decide ((↑x : Int) < Int.ofNat (16 : Nat)) = true → InI (Int.ofNat (16 : Nat) + (↑x : Int)) ∧ ((0 : Int) ≤ Int.ofNat (16 : Nat) + (↑x : Int) ∧ Int.ofNat (16 : Nat) + (↑x : Int) < (↑(32 : Nat) : Int)) ∧ (Int.ofNat (16 : Nat) + (↑x : Int)).toNat < (32 : Nat) ∧ ((0 : Int) ≤ (↑x : Int) ∧ (↑x : Int) < (↑(17 : Nat) : Int)) ∧ (↑x : Int).toNat < (17 : Nat) ∧ ∀ (y_7 : List UInt32), y_7 = (padD (List.drop (16 : Nat) k) x).set (↑x : Int).toNat (k.getD (Int.ofNat (16 : Nat) + (↑x : Int)).toNat (0 : UInt8)).toUInt32 → InI ((↑x : Int) + Int.ofNat (1 : Nat)) ∧ ∀ (y_8 : Int), y_8 = (↑x : Int) + Int.ofNat (1 : Nat) → ∃ (y_9 : Nat), y_9 ≤ (16 : Nat) ∧ (16 : Nat) - y_9 < (16 : Nat) - x ∧ y_8 = (↑y_9 : Int) ∧ k = k ∧ List.replicate (16 : Nat) (0 : UInt8) = List.replicate (16 : Nat) (0 : UInt8) ∧ y = y ∧ y_6 = y_6 ∧ y_7 = padD (List.drop (16 : Nat) k) y_9 ∧ True) ∧ (decide ((↑x : Int) < Int.ofNat (16 : Nat)) = false → small y_6 (1048576 : Nat) ∧ small (padD (List.drop (16 : Nat) k) x) (1048576 : Nat) ∧ ∀ (y_7 : List UInt32), y_7 = d17 ((valD y_6 + valD (padD (List.drop (16 : Nat) k) x)) % (87112285931760246646623899502532662132736 : Nat)) → ∀ (y_8 : List UInt32), y_8 = y_7 → (∃ (x_1 : Nat), x_1 ≤ (16 : Nat) ∧ Int.ofNat (0 : Nat) = (↑x_1 : Int) ∧ k = k ∧ List.replicate (16 : Nat) (0 : UInt8) = List.replicate (16 : Nat) (0 : UInt8) ∧ y = y ∧ y_8 = y_8 ∧ padD (List.drop (16 : Nat) k) x = padD (List.drop (16 : Nat) k) x ∧ List.replicate (16 : Nat) (0 : UInt8) = cutD y_8 x_1 ∧ True) ∧ ∀ (x_1 : Nat), x_1 ≤ (16 : Nat) → (decide ((↑x_1 : Int) < Int.ofNat (16 : Nat)) = true → ∀ (y_9 : Int), y_9 = (↑x_1 : Int) → ((0 : Int) ≤ y_9 ∧ y_9 < (↑(17 : Nat) : Int)) ∧ y_9.toNat < (17 : Nat) ∧ ((0 : Int) ≤ y_9 ∧ y_9 < (↑(16 : Nat) : Int)) ∧ y_9.toNat < (16 : Nat) ∧ ∀ (y_10 : List UInt8), y_10 = (cutD y_8 x_1).set y_9.toNat (y_8.getD y_9.toNat (0 : UInt32)).toUInt8 → InI ((↑x_1 : Int) + Int.ofNat (1 : Nat)) ∧ ∃ (y_11 : Nat), y_11 ≤ (16 : Nat) ∧ (16 : Nat) - y_11 < (16 : Nat) - x_1 ∧ (↑x_1 : Int) + Int.ofNat (1 : Nat) = (↑y_11 : Int) ∧ k = k ∧ List.replicate (16 : Nat) (0 : UInt8) = List.replicate (16 : Nat) (0 : UInt8) ∧ y = y ∧ y_8 = y_8 ∧ padD (List.drop (16 : Nat) k) x = padD (List.drop (16 : Nat) k) x ∧ y_10 = cutD y_8 y_11 ∧ True) ∧ (decide ((↑x_1 : Int) < Int.ofNat (16 : Nat)) = false → ∀ (y : List UInt8), y = cutD y_8 x_1 → y = polyL k d ∧ True))))) := by kernel_rfl
end Go.Proofs.Ytimjfjlaoekfkaa

/- A step towards SessionExchangesSaid: no conditions. -/
namespace Go.Pol
open Go Go.Eng Go.Cod
theorem natL_inj2 : ∀ {a b : List UInt8}, a.length = b.length → natL a = natL b → a = b
  | [], [], _, _ => rfl
  | [], _ :: _, h, _ => by simp at h
  | _ :: _, [], h, _ => by simp at h
  | x :: a, y :: b, h, hn => by
    have hx := x.toNat_lt
    have hy := y.toNat_lt
    simp only [natL] at hn
    have e1 : x = y := UInt8.toNat_inj.1 (by omega)
    have e2 := natL_inj2 (a := a) (b := b) (by simpa using h) (by omega)
    rw [e1, e2]
theorem w32_nat (b : UInt8) : b.toUInt32.toNat = b.toNat := by rw [UInt8.toNat_toUInt32]
theorem valD_map : ∀ l : List UInt8, valD (l.map UInt8.toUInt32) = natL l
  | [] => rfl
  | b :: l => by rw [List.map_cons, valD, natL, w32_nat, valD_map l]
theorem small_map (l : List UInt8) : small (l.map UInt8.toUInt32) 256 := by
  intro x hx
  obtain ⟨b, _, rfl⟩ := List.mem_map.1 hx
  rw [w32_nat]; exact b.toNat_lt
theorem valD_zeros : ∀ n, valD (List.replicate n 0) = 0
  | 0 => rfl
  | n + 1 => by rw [List.replicate_succ, valD, valD_zeros n]; rfl
theorem small_zeros (n : Nat) : small (List.replicate n 0) 256 := by
  intro x hx
  rw [List.eq_of_mem_replicate hx]; decide
theorem small_app {a b : List UInt32} {B : Nat} (ha : small a B) (hb : small b B) : small (a ++ b) B := fun x hx => (List.mem_append.1 hx).elim (ha x) (hb x)
theorem padD_small (l : List UInt8) (j : Nat) : small (padD l j) 256 := small_app (small_map _) (small_zeros _)
theorem padD_zero (l : List UInt8) : padD l 0 = List.replicate 17 0 := by simp [padD]
theorem padD_step {l : List UInt8} {i : Nat} (h : i < l.length) (h2 : i < 17) : (padD l i).set i (l.getD i 0).toUInt32 = padD l (i + 1) := by
  have hl : ((l.take i).map UInt8.toUInt32).length = i := by rw [List.length_map, List.length_take]; omega
  unfold padD
  rw [List.set_append_right _ _ (by omega), hl, Nat.sub_self, show 17 - i = (17 - (i + 1)) + 1 by omega, List.replicate_succ, List.set_cons_zero, List.take_add_one, List.getElem?_eq_getElem h, List.map_append, List.getD_eq_getElem?_getD, List.getElem?_eq_getElem h]
  simp
theorem padD_val {l : List UInt8} {j : Nat} : valD (padD l j) = natL (l.take j) := by
  unfold padD
  rw [valD_append, valD_map, valD_zeros, Nat.mul_zero, Nat.add_zero]
theorem cN_small (l : List UInt8) : small (cN l) 256 := by
  intro x hx
  unfold cN at hx
  rcases List.mem_or_eq_of_mem_set hx with h | h
  · exact padD_small _ _ x h
  · rw [h]; decide
theorem cN_val (l : List UInt8) : valD (cN l) = natL (l.take 16) + 256 ^ (min 16 l.length) := by
  have hl : ((l.take (min l.length 16)).map UInt8.toUInt32).length = min l.length 16 := by rw [List.length_map, List.length_take]; omega
  unfold cN padD
  rw [List.set_append_right _ _ (by omega), hl, Nat.sub_self, show 17 - min l.length 16 = (16 - min l.length 16) + 1 by omega, List.replicate_succ, List.set_cons_zero, valD_append, valD_map, hl, valD, valD_zeros]
  have e : l.take (min l.length 16) = l.take 16 := by rw [List.take_eq_take_iff]; omega
  rw [e, Nat.min_comm]
  show _ + 256 ^ _ * (1 + 256 * 0) = _
  omega
theorem cutD_zero (l : List UInt32) : cutD l 0 = List.replicate 16 0 := by simp [cutD]
theorem cutD_step {l : List UInt32} {i : Nat} (h : i < l.length) (h2 : i < 16) : (cutD l i).set i (l.getD i 0).toUInt8 = cutD l (i + 1) := by
  have hl : ((l.take i).map UInt32.toUInt8).length = i := by rw [List.length_map, List.length_take]; omega
  unfold cutD
  rw [List.set_append_right _ _ (by omega), hl, Nat.sub_self, show 16 - i = (16 - (i + 1)) + 1 by omega, List.replicate_succ, List.set_cons_zero, List.take_add_one, List.getElem?_eq_getElem h, List.map_append, List.getD_eq_getElem?_getD, List.getElem?_eq_getElem h]
  simp
theorem natL_cut : ∀ {l : List UInt32}, small l 256 → natL (l.map UInt32.toUInt8) = valD l
  | [], _ => rfl
  | x :: l, h => by
    have hx := h x (List.mem_cons_self ..)
    rw [List.map_cons, natL, valD, natL_cut (l := l) (fun y hy => h y (List.mem_cons_of_mem _ hy)), UInt32.toNat_toUInt8, Nat.mod_eq_of_lt hx]
theorem cut_d17 (N : Nat) : natL (cutD (d17 N) 16) = N % 340282366920938463463374607431768211456 ∧ (cutD (d17 N) 16).length = 16 := by
  have e : (d17 N).take 16 = digs N 16 := by
    unfold d17
    rw [List.take_append_of_le_length (by rw [digs_len]; exact Nat.le_refl _), List.take_of_length_le (by rw [digs_len]; exact Nat.le_refl _)]
  unfold cutD
  rw [e, Nat.sub_self, List.replicate_zero, List.append_nil, natL_cut (digs_small N 16), digs_val, p16, List.length_map, digs_len]
  exact ⟨rfl, rfl⟩
/-! ### the product -/
def sm (f : Nat → Nat) : Nat → Nat
  | 0 => 0
  | n + 1 => sm f n + f n
theorem sm_add (f g : Nat → Nat) : ∀ n, sm (fun i => f i + g i) n = sm f n + sm g n
  | 0 => rfl
  | n + 1 => by rw [sm, sm, sm, sm_add f g n]; omega
theorem sm_mul (c : Nat) (f : Nat → Nat) : ∀ n, sm (fun i => c * f i) n = c * sm f n
  | 0 => rfl
  | n + 1 => by rw [sm, sm, sm_mul c f n, Nat.mul_add]
theorem sm_zero : ∀ n, sm (fun _ => 0) n = 0
  | 0 => rfl
  | n + 1 => by rw [sm, sm_zero n]
theorem sm_swap (f : Nat → Nat → Nat) (n : Nat) : ∀ m, sm (fun i => sm (fun j => f i j) m) n = sm (fun j => sm (fun i => f i j) n) m
  | 0 => sm_zero n
  | m + 1 => by
    rw [sm, ← sm_swap f n m]
    exact sm_add (fun i => sm (fun j => f i j) m) (fun i => f i m) n
theorem sm_congr {f g : Nat → Nat} : ∀ {n}, (∀ i, i < n → f i = g i) → sm f n = sm g n
  | 0, _ => rfl
  | n + 1, h => by rw [sm, sm, sm_congr (fun i hi => h i (by omega)), h n (by omega)]
theorem uS_sm (a b : List UInt32) (i : Nat) : ∀ n, uS a b i n = sm (fun j => term a b i j) n
  | 0 => rfl
  | n + 1 => by rw [uS, sm, uS_sm a b i n]
theorem pv_sm (l : List UInt32) : ∀ {n}, n ≤ l.length → pv l n = sm (fun i => 256 ^ i * (l.getD i 0).toNat) n
  | 0, _ => rfl
  | n + 1, h => by rw [pv_succ (by omega), sm, pv_sm l (by omega)]
/-- a column: what one digit of a brings to all digits -/
theorem col_lo (a b : List UInt32) {j : Nat} (hb : b.length = 17) : ∀ {n}, n ≤ j → j ≤ 17 → sm (fun i => 256 ^ i * term a b i j) n = 320 * (a.getD j 0).toNat * pv (b.drop (17 - j)) n
  | 0, _, _ => rfl
  | n + 1, h, h2 => by
    rw [sm, col_lo a b hb (by omega) h2, pv_succ (by rw [List.length_drop]; omega), term, if_neg (by omega), Nat.mul_add]
    have e : (b.drop (17 - j)).getD n 0 = b.getD (n + 17 - j) 0 := by
      rw [List.getD_eq_getElem?_getD, List.getElem?_drop, ← List.getD_eq_getElem?_getD]
      congr 1; omega
    rw [e]
    generalize (a.getD j 0).toNat = x
    generalize (b.getD (n + 17 - j) 0).toNat = y
    congr 1
    rw [Nat.mul_left_comm]
theorem col_hi (a b : List UInt32) {j : Nat} (hb : b.length = 17) (hj : j ≤ 17) : ∀ {n}, n ≤ 17 - j → sm (fun i => 256 ^ i * term a b i j) (j + n) = 320 * (a.getD j 0).toNat * pv (b.drop (17 - j)) j + 256 ^ j * (a.getD j 0).toNat * pv b n
  | 0, _ => by rw [Nat.add_zero, col_lo a b hb (Nat.le_refl _) hj, pv_zero, Nat.mul_zero, Nat.add_zero]
  | n + 1, h => by
    rw [← Nat.add_assoc, sm, col_hi a b hb hj (by omega), pv_succ (by omega), term, if_pos (by omega), Nat.add_sub_cancel_left, Nat.mul_add, Nat.pow_add]
    generalize (a.getD j 0).toNat = x
    generalize (b.getD n 0).toNat = y
    have : 256 ^ j * 256 ^ n * (x * y) = 256 ^ j * x * (256 ^ n * y) := by rw [Nat.mul_mul_mul_comm]
    omega
theorem col_all (a b : List UInt32) {j : Nat} (hb : b.length = 17) (hj : j < 17) : 256 ^ j * (a.getD j 0).toNat * valD b = sm (fun i => 256 ^ i * term a b i j) 17 + P130 * (64 * ((a.getD j 0).toNat * valD (b.drop (17 - j)))) := by
  have h := col_hi a b hb (j := j) (by omega) (n := 17 - j) (Nat.le_refl _)
  rw [show j + (17 - j) = 17 by omega] at h
  have hl : (b.drop (17 - j)).length = j := by rw [List.length_drop]; omega
  have h1 : pv (b.drop (17 - j)) j = valD (b.drop (17 - j)) := by have := pv_all (b.drop (17 - j)); rw [hl] at this; exact this
  have h2 : valD b = pv b (17 - j) + 256 ^ (17 - j) * valD (b.drop (17 - j)) := by
    have := valD_append (b.take (17 - j)) (b.drop (17 - j))
    rw [List.take_append_drop, List.length_take, Nat.min_eq_left (by omega)] at this
    exact this
  rw [h1] at h
  rw [h, h2]
  generalize (a.getD j 0).toNat = x
  generalize valD (b.drop (17 - j)) = D
  generalize pv b (17 - j) = L
  have e : 256 ^ j * x * (256 ^ (17 - j) * D) = 87112285931760246646623899502532662132736 * (x * D) := by
    rw [Nat.mul_mul_mul_comm, ← Nat.pow_add, show j + (17 - j) = 16 + 1 by omega, ← p17]
  rw [Nat.mul_add, e, Nat.mul_assoc 320 x D]
  generalize x * D = q
  simp only [P130]
  omega
theorem times_mod {a b : List UInt32} (ha : a.length = 17) (hb : b.length = 17) (hv : timesV a b = sm (fun i => 256 ^ i * uS a b i 17) 17) : timesV a b % P130 = valD a * valD b % P130 := by
  have h1 : valD a = sm (fun j => 256 ^ j * (a.getD j 0).toNat) 17 := by
    have h := pv_sm a (n := 17) (by omega)
    have := pv_all a
    rw [ha] at this
    rw [← h, this]
  have h2 : valD a * valD b = sm (fun j => sm (fun i => 256 ^ i * term a b i j) 17) 17 + P130 * sm (fun j => 64 * ((a.getD j 0).toNat * valD (b.drop (17 - j)))) 17 := by
    rw [h1, Nat.mul_comm, ← sm_mul, ← sm_mul, ← sm_add]
    exact sm_congr fun j hj => by rw [Nat.mul_comm, col_all a b hb hj]
  have h3 : timesV a b = sm (fun j => sm (fun i => 256 ^ i * term a b i j) 17) 17 := by
    rw [hv, ← sm_swap]
    exact sm_congr fun i _ => by rw [uS_sm, sm_mul]
  rw [h2, ← h3, Nat.add_mul_mod_self_left]
theorem red1_mod (x : Nat) : red1 x % P130 = x % P130 := by
  have e : x = red1 x + P130 * (x / 1361129467683753853853498429727072845824) := by
    unfold red1
    simp only [P130]
    omega
  conv => rhs; rw [e, Nat.add_mul_mod_self_left]
/-! ### the key -/
theorem read_and2 (a m : UInt8) (l p : List UInt8) : readL (a :: l) &&& readL (m :: p) = readL ((a &&& m) :: []) ||| shl64 (readL l &&& readL p) 8 := by
  show (shl64 (readL l) 8 ||| a.toUInt64) &&& (shl64 (readL p) 8 ||| m.toUInt64) = (shl64 (readL []) 8 ||| (a &&& m).toUInt64) ||| _
  rw [show shl64 (readL []) 8 = 0 from rfl]
  generalize readL l = x
  generalize readL p = y
  apply UInt64.toBitVec_inj.1
  show ((x.toBitVec <<< 8) ||| a.toBitVec.setWidth 64) &&& ((y.toBitVec <<< 8) ||| m.toBitVec.setWidth 64) = (0#64 ||| (a.toBitVec &&& m.toBitVec).setWidth 64) ||| ((x.toBitVec &&& y.toBitVec) <<< 8)
  generalize x.toBitVec = X
  generalize y.toBitVec = Y
  generalize a.toBitVec = A
  generalize m.toBitVec = M
  apply BitVec.eq_of_getLsbD_eq
  intro i hi
  simp only [BitVec.getLsbD_and, BitVec.getLsbD_or, BitVec.getLsbD_shiftLeft, BitVec.getLsbD_setWidth, hi, decide_true, Bool.true_and, BitVec.getLsbD_zero, Bool.false_or]
  by_cases h : i < 8
  · simp [h]
  · have ha : A.getLsbD i = false := BitVec.getLsbD_of_ge A i (by omega)
    have hm : M.getLsbD i = false := BitVec.getLsbD_of_ge M i (by omega)
    simp [h, ha, hm]
def andL : List UInt8 → List UInt8 → List UInt8
  | a :: l, m :: p => (a &&& m) :: andL l p
  | _, _ => []
theorem read_andL : ∀ {l p : List UInt8}, l.length = p.length → readL l &&& readL p = readL (andL l p)
  | [], [], _ => by decide
  | [], _ :: _, h => by simp at h
  | _ :: _, [], h => by simp at h
  | a :: l, m :: p, h => by
    rw [read_and2, read_andL (by simpa using h), andL]
    show (shl64 (readL []) 8 ||| (a &&& m).toUInt64) ||| shl64 (readL (andL l p)) 8 = shl64 (readL (andL l p)) 8 ||| (a &&& m).toUInt64
    rw [show shl64 (readL []) 8 = 0 from rfl, UInt64.zero_or, UInt64.or_comm]
theorem andL_len : ∀ (l p : List UInt8), (andL l p).length = min l.length p.length
  | [], p => by cases p <;> simp [andL]
  | _ :: _, [] => by simp [andL]
  | a :: l, m :: p => by rw [andL, List.length_cons, List.length_cons, List.length_cons, andL_len l p]; omega
theorem mask0b : UInt64.ofNat 1152921487695413247 = readL [255, 255, 255, 15, 252, 255, 255, 15] := by decide +kernel
theorem mask1b : UInt64.ofNat 1152921487695413244 = readL [252, 255, 255, 15, 252, 255, 255, 15] := by decide +kernel
def maskL : List UInt8 := [255, 255, 255, 15, 252, 255, 255, 15, 252, 255, 255, 15, 252, 255, 255, 15]
theorem len16 {l : List UInt8} (h : l.length = 16) : ∃ a0 a1 a2 a3 a4 a5 a6 a7 a8 a9 a10 a11 a12 a13 a14 a15, l = [a0, a1, a2, a3, a4, a5, a6, a7, a8, a9, a10, a11, a12, a13, a14, a15] := by
  match l, h with
  | [a0, a1, a2, a3, a4, a5, a6, a7, a8, a9, a10, a11, a12, a13, a14, a15], _ => exact ⟨a0, a1, a2, a3, a4, a5, a6, a7, a8, a9, a10, a11, a12, a13, a14, a15, rfl⟩
theorem r0_eq {l : List UInt8} (h : l.length = 8) : (readL l &&& UInt64.ofNat 1152921487695413247).toNat = natL (andL l [255, 255, 255, 15, 252, 255, 255, 15]) := by
  rw [mask0b, read_andL (by rw [h]; rfl), readL_nat _ (by rw [andL_len]; exact Nat.le_trans (Nat.min_le_right ..) (by decide))]
theorem r1_eq {l : List UInt8} (h : l.length = 8) : (readL l &&& UInt64.ofNat 1152921487695413244).toNat = natL (andL l [252, 255, 255, 15, 252, 255, 255, 15]) := by
  rw [mask1b, read_andL (by rw [h]; rfl), readL_nat _ (by rw [andL_len]; exact Nat.le_trans (Nat.min_le_right ..) (by decide))]
theorem andL_app : ∀ {a b c d : List UInt8}, a.length = c.length → andL (a ++ b) (c ++ d) = andL a c ++ andL b d
  | [], b, [], d, _ => by cases b <;> cases d <;> rfl
  | [], _, _ :: _, _, h => by simp at h
  | _ :: _, _, [], _, h => by simp at h
  | x :: a, b, y :: c, d, h => by
    rw [List.cons_append, List.cons_append, andL, andL, andL_app (by simpa using h), List.cons_append]
theorem rOf_eq {k : List UInt8} (hk : k.length = 32) : rOf k = natL (andL (k.take 16) maskL) := by
  have e : k.take 16 = k.take 8 ++ (k.drop 8).take 8 := by rw [← List.take_add]
  have l1 : (k.take 8).length = 8 := by rw [List.length_take]; omega
  have l2 : ((k.drop 8).take 8).length = 8 := by rw [List.length_take, List.length_drop]; omega
  unfold rOf r0 r1
  rw [e, show maskL = [255, 255, 255, 15, 252, 255, 255, 15] ++ [252, 255, 255, 15, 252, 255, 255, 15] from rfl, andL_app (by rw [l1]; rfl), natL_append, andL_len, l1, r0_eq l1, r1_eq l2]
  rfl
theorem and255b (b : UInt8) : b &&& 255 = b := by
  apply UInt8.toNat_inj.1
  rw [UInt8.toNat_and]
  have h := Nat.and_two_pow_sub_one_eq_mod b.toNat 8
  have := b.toNat_lt
  rw [Nat.mod_eq_of_lt this] at h
  exact h
theorem and_up (b m : UInt8) : b.toUInt32 &&& m.toUInt32 = (b &&& m).toUInt32 := by
  apply UInt32.toNat_inj.1
  rw [UInt32.toNat_and, w32_nat, w32_nat, w32_nat, UInt8.toNat_and]
/-- the masked key -/
theorem key_mask {k : List UInt8} (hk : k.length = 32) {y0 y1 y2 y3 y4 y5 y6 y7 : List UInt32} (h0 : y0 = padD (k.drop 0) 16)
    (h1 : y1 = y0.set 3 (y0.getD 3 0 &&& UInt32.ofNat 15)) (h2 : y2 = y1.set 4 (y1.getD 4 0 &&& UInt32.ofNat 252)) (h3 : y3 = y2.set 7 (y2.getD 7 0 &&& UInt32.ofNat 15))
    (h4 : y4 = y3.set 8 (y3.getD 8 0 &&& UInt32.ofNat 252)) (h5 : y5 = y4.set 11 (y4.getD 11 0 &&& UInt32.ofNat 15)) (h6 : y6 = y5.set 12 (y5.getD 12 0 &&& UInt32.ofNat 252)) (h7 : y7 = y6.set 15 (y6.getD 15 0 &&& UInt32.ofNat 15)) :
    y7 = (andL (k.take 16) maskL).map UInt8.toUInt32 ++ [0] := by
  obtain ⟨a0, a1, a2, a3, a4, a5, a6, a7, a8, a9, a10, a11, a12, a13, a14, a15, h⟩ := len16 (l := k.take 16) (by rw [List.length_take]; omega)
  unfold padD at h0
  rw [List.drop_zero, h] at h0
  rw [h]
  have e15 : UInt32.ofNat 15 = (15 : UInt8).toUInt32 := rfl
  have e252 : UInt32.ofNat 252 = (252 : UInt8).toUInt32 := rfl
  simp only [andL, maskL, and255b, List.map_cons, List.map_nil]
  rw [e15, e252] at *
  subst h0
  simp only [List.map_cons, List.map_nil, List.cons_append, List.set_cons_succ, List.set_cons_zero, List.getD_cons_succ, List.getD_cons_zero] at h1
  subst h1
  simp only [List.set_cons_succ, List.set_cons_zero, List.getD_cons_succ, List.getD_cons_zero] at h2
  subst h2
  simp only [List.set_cons_succ, List.set_cons_zero, List.getD_cons_succ, List.getD_cons_zero] at h3
  subst h3
  simp only [List.set_cons_succ, List.set_cons_zero, List.getD_cons_succ, List.getD_cons_zero] at h4
  subst h4
  simp only [List.set_cons_succ, List.set_cons_zero, List.getD_cons_succ, List.getD_cons_zero] at h5
  subst h5
  simp only [List.set_cons_succ, List.set_cons_zero, List.getD_cons_succ, List.getD_cons_zero] at h6
  subst h6
  simp only [List.set_cons_succ, List.set_cons_zero, List.getD_cons_succ, List.getD_cons_zero, and_up] at h7
  rw [h7]
  rfl
end Go.Pol

/- A step towards SessionExchangesSaid: no conditions. -/
namespace Go.Proofs.Ytimjfjlaoekfkaa
open Go Go.Eng Go.Cod Go.Pol
noncomputable def PFp : Env := mkE Try.prog [] [(0, JPlusD)] 2 true
noncomputable def PFr : Env := mkE Try.prog [] [(2, JCarry 5 4 1 [1, 2, 3]), (4, JCarry 6 4 1 [1, 2, 3])] 3 true
noncomputable def PFt : Env := mkE Try.prog [(74, gReducedD)] [(0, JOutD), (2, JInD)] 3 true
noncomputable def PFl : Env := mkE Try.prog [(74, gReducedD), (66, gPlusD)] [] 3 true
set_option maxRecDepth 100000 in
theorem vcPlusD (a b : List UInt32) : (vcFn PFp 200 66 [.agg [.vec (.n 17) (.u32 a)], .agg [.vec (.n 17) (.u32 b)]] (.w (.agg [.vec (.n 17) (.u32 (d17 ((valD a + valD b) % 87112285931760246646623899502532662132736)))]))) =
  (∀ (y : UInt32), y = UInt32.ofNat (nat_lit 0) → (∃ (x : Nat), x ≤ (17 : Nat) ∧ y = UInt32.ofNat ((pv a x + pv b x) / (256 : Nat) ^ x) ∧ Int.ofNat (0 : Nat) = (↑x : Int) ∧ a = digs (pv a x + pv b x) x ++ List.drop x a ∧ b = b ∧ List.replicate (17 : Nat) (0 : UInt32) = List.replicate (17 : Nat) (0 : UInt32) ∧ True) ∧ ∀ (x : Nat), x ≤ (17 : Nat) → (decide ((↑x : Int) < Int.ofNat (17 : Nat)) = true → ∀ (y : Int), y = (↑x : Int) → ((0 : Int) ≤ y ∧ y < (↑(17 : Nat) : Int)) ∧ y.toNat < (17 : Nat) ∧ ((0 : Int) ≤ y ∧ y < (↑(17 : Nat) : Int)) ∧ y.toNat < (17 : Nat) ∧ ∀ (y_1 : UInt32), y_1 = UInt32.ofNat ((pv a x + pv b x) / (256 : Nat) ^ x) + ((digs (pv a x + pv b x) x ++ List.drop x a).getD y.toNat (0 : UInt32) + b.getD y.toNat (0 : UInt32)) → ((0 : Int) ≤ y ∧ y < (↑(17 : Nat) : Int)) ∧ y.toNat < (17 : Nat) ∧ ∀ (y_2 : List UInt32), y_2 = (digs (pv a x + pv b x) x ++ List.drop x a).set y.toNat (y_1 &&& UInt32.ofNat (nat_lit 255)) → ∀ (y : UInt32), y = shr32 y_1 (8 : Nat) → InI ((↑x : Int) + Int.ofNat (1 : Nat)) ∧ ∃ (y_3 : Nat), y_3 ≤ (17 : Nat) ∧ (17 : Nat) - y_3 < (17 : Nat) - x ∧ y = UInt32.ofNat ((pv a y_3 + pv b y_3) / (256 : Nat) ^ y_3) ∧ (↑x : Int) + Int.ofNat (1 : Nat) = (↑y_3 : Int) ∧ y_2 = digs (pv a y_3 + pv b y_3) y_3 ++ List.drop y_3 a ∧ b = b ∧ List.replicate (17 : Nat) (0 : UInt32) = List.replicate (17 : Nat) (0 : UInt32) ∧ True) ∧ (decide ((↑x : Int) < Int.ofNat (17 : Nat)) = false → ∀ (y : List UInt32), y = digs (pv a x + pv b x) x ++ List.drop x a → y = d17 ((valD a + valD b) % (87112285931760246646623899502532662132736 : Nat)) ∧ True)) := by kernel_rfl
set_option maxRecDepth 100000 in
theorem vcReducedD (a : List UInt32) : (vcFn PFr 200 74 [.agg [.vec (.n 17) (.u32 a)]] (.w (.agg [.vec (.n 17) (.u32 (d17 (red1 (red1 (valD a)))))]))) =
  (∀ (y : UInt32), y = UInt32.ofNat (nat_lit 0) → (∃ (x : Nat), x ≤ (16 : Nat) ∧ Int.ofNat (0 : Nat) = Int.ofNat (0 : Nat) ∧ y = UInt32.ofNat ((y.toNat + pv a x) / (256 : Nat) ^ x) ∧ Int.ofNat (0 : Nat) = (↑x : Int) ∧ a = digs (y.toNat + pv a x) x ++ List.drop x a ∧ List.replicate (17 : Nat) (0 : UInt32) = List.replicate (17 : Nat) (0 : UInt32) ∧ True) ∧ ∀ (x : Nat), x ≤ (16 : Nat) → (decide ((↑x : Int) < Int.ofNat (16 : Nat)) = true → ((0 : Int) ≤ (↑x : Int) ∧ (↑x : Int) < (↑(17 : Nat) : Int)) ∧ (↑x : Int).toNat < (17 : Nat) ∧ ∀ (y_1 : UInt32), y_1 = UInt32.ofNat ((y.toNat + pv a x) / (256 : Nat) ^ x) + (digs (y.toNat + pv a x) x ++ List.drop x a).getD (↑x : Int).toNat (0 : UInt32) → ((0 : Int) ≤ (↑x : Int) ∧ (↑x : Int) < (↑(17 : Nat) : Int)) ∧ (↑x : Int).toNat < (17 : Nat) ∧ ∀ (y_2 : List UInt32), y_2 = (digs (y.toNat + pv a x) x ++ List.drop x a).set (↑x : Int).toNat (y_1 &&& UInt32.ofNat (nat_lit 255)) → ∀ (y_3 : UInt32), y_3 = shr32 y_1 (8 : Nat) → InI ((↑x : Int) + Int.ofNat (1 : Nat)) ∧ ∀ (y_4 : Int), y_4 = (↑x : Int) + Int.ofNat (1 : Nat) → ∃ (y_5 : Nat), y_5 ≤ (16 : Nat) ∧ (16 : Nat) - y_5 < (16 : Nat) - x ∧ Int.ofNat (0 : Nat) = Int.ofNat (0 : Nat) ∧ y_3 = UInt32.ofNat ((y.toNat + pv a y_5) / (256 : Nat) ^ y_5) ∧ y_4 = (↑y_5 : Int) ∧ y_2 = digs (y.toNat + pv a y_5) y_5 ++ List.drop y_5 a ∧ List.replicate (17 : Nat) (0 : UInt32) = List.replicate (17 : Nat) (0 : UInt32) ∧ True) ∧ (decide ((↑x : Int) < Int.ofNat (16 : Nat)) = false → ∀ (y_1 : UInt32), y_1 = UInt32.ofNat ((y.toNat + pv a x) / (256 : Nat) ^ x) + (digs (y.toNat + pv a x) x ++ List.drop x a).getD (16 : Nat) (0 : UInt32) → ∀ (y_2 : List UInt32), y_2 = (digs (y.toNat + pv a x) x ++ List.drop x a).set (16 : Nat) (y_1 &&& UInt32.ofNat (nat_lit 3)) → ∀ (y : UInt32), y = UInt32.ofNat (nat_lit 5) * shr32 y_1 (2 : Nat) → (∃ (x : Nat), x ≤ (16 : Nat) ∧ Int.ofNat (0 : Nat) = Int.ofNat (0 : Nat) ∧ y = UInt32.ofNat ((y.toNat + pv y_2 x) / (256 : Nat) ^ x) ∧ Int.ofNat (0 : Nat) = (↑x : Int) ∧ y_2 = digs (y.toNat + pv y_2 x) x ++ List.drop x y_2 ∧ List.replicate (17 : Nat) (0 : UInt32) = List.replicate (17 : Nat) (0 : UInt32) ∧ True) ∧ ∀ (x : Nat), x ≤ (16 : Nat) → (decide ((↑x : Int) < Int.ofNat (16 : Nat)) = true → ((0 : Int) ≤ (↑x : Int) ∧ (↑x : Int) < (↑(17 : Nat) : Int)) ∧ (↑x : Int).toNat < (17 : Nat) ∧ ∀ (y_3 : UInt32), y_3 = UInt32.ofNat ((y.toNat + pv y_2 x) / (256 : Nat) ^ x) + (digs (y.toNat + pv y_2 x) x ++ List.drop x y_2).getD (↑x : Int).toNat (0 : UInt32) → ((0 : Int) ≤ (↑x : Int) ∧ (↑x : Int) < (↑(17 : Nat) : Int)) ∧ (↑x : Int).toNat < (17 : Nat) ∧ ∀ (y_4 : List UInt32), y_4 = (digs (y.toNat + pv y_2 x) x ++ List.drop x y_2).set (↑x : Int).toNat (y_3 &&& UInt32.ofNat (nat_lit 255)) → ∀ (y_5 : UInt32), y_5 = shr32 y_3 (8 : Nat) → InI ((↑x : Int) + Int.ofNat (1 : Nat)) ∧ ∀ (y_6 : Int), y_6 = (↑x : Int) + Int.ofNat (1 : Nat) → ∃ (y_7 : Nat), y_7 ≤ (16 : Nat) ∧ (16 : Nat) - y_7 < (16 : Nat) - x ∧ Int.ofNat (0 : Nat) = Int.ofNat (0 : Nat) ∧ y_5 = UInt32.ofNat ((y.toNat + pv y_2 y_7) / (256 : Nat) ^ y_7) ∧ y_6 = (↑y_7 : Int) ∧ y_4 = digs (y.toNat + pv y_2 y_7) y_7 ++ List.drop y_7 y_2 ∧ List.replicate (17 : Nat) (0 : UInt32) = List.replicate (17 : Nat) (0 : UInt32) ∧ True) ∧ (decide ((↑x : Int) < Int.ofNat (16 : Nat)) = false → ∀ (y_3 : List UInt32), y_3 = (digs (y.toNat + pv y_2 x) x ++ List.drop x y_2).set (16 : Nat) ((digs (y.toNat + pv y_2 x) x ++ List.drop x y_2).getD (16 : Nat) (0 : UInt32) + UInt32.ofNat ((y.toNat + pv y_2 x) / (256 : Nat) ^ x)) → ∀ (y : UInt32), y = UInt32.ofNat (nat_lit 0) → (∃ (x : Nat), x ≤ (16 : Nat) ∧ Int.ofNat (1 : Nat) = Int.ofNat (1 : Nat) ∧ y = UInt32.ofNat ((y.toNat + pv y_3 x) / (256 : Nat) ^ x) ∧ Int.ofNat (0 : Nat) = (↑x : Int) ∧ y_3 = digs (y.toNat + pv y_3 x) x ++ List.drop x y_3 ∧ List.replicate (17 : Nat) (0 : UInt32) = List.replicate (17 : Nat) (0 : UInt32) ∧ True) ∧ ∀ (x : Nat), x ≤ (16 : Nat) → (decide ((↑x : Int) < Int.ofNat (16 : Nat)) = true → ((0 : Int) ≤ (↑x : Int) ∧ (↑x : Int) < (↑(17 : Nat) : Int)) ∧ (↑x : Int).toNat < (17 : Nat) ∧ ∀ (y_4 : UInt32), y_4 = UInt32.ofNat ((y.toNat + pv y_3 x) / (256 : Nat) ^ x) + (digs (y.toNat + pv y_3 x) x ++ List.drop x y_3).getD (↑x : Int).toNat (0 : UInt32) → ((0 : Int) ≤ (↑x : Int) ∧ (↑x : Int) < (↑(17 : Nat) : Int)) ∧ (↑x : Int).toNat < (17 : Nat) ∧ ∀ (y_5 : List UInt32), y_5 = (digs (y.toNat + pv y_3 x) x ++ List.drop x y_3).set (↑x : Int).toNat (y_4 &&& UInt32.ofNat (nat_lit 255)) → ∀ (y_6 : UInt32), y_6 = shr32 y_4 (8 : Nat) → InI ((↑x : Int) + Int.ofNat (1 : Nat)) ∧ ∀ (y_7 : Int), y_7 = (↑x : Int) + Int.ofNat (1 : Nat) → ∃ (y_8 : Nat), y_8 ≤ (16 : Nat) ∧ (16 : Nat) - y_8 < (16 : Nat) - x ∧ Int.ofNat (1 : Nat) = Int.ofNat (1 : Nat) ∧ y_6 = UInt32.ofNat ((y.toNat + pv y_3 y_8) / (256 : Nat) ^ y_8) ∧ y_7 = (↑y_8 : Int) ∧ y_5 = digs (y.toNat + pv y_3 y_8) y_8 ++ List.drop y_8 y_3 ∧ List.replicate (17 : Nat) (0 : UInt32) = List.replicate (17 : Nat) (0 : UInt32) ∧ True) ∧ (decide ((↑x : Int) < Int.ofNat (16 : Nat)) = false → ∀ (y_4 : UInt32), y_4 = UInt32.ofNat ((y.toNat + pv y_3 x) / (256 : Nat) ^ x) + (digs (y.toNat + pv y_3 x) x ++ List.drop x y_3).getD (16 : Nat) (0 : UInt32) → ∀ (y_5 : List UInt32), y_5 = (digs (y.toNat + pv y_3 x) x ++ List.drop x y_3).set (16 : Nat) (y_4 &&& UInt32.ofNat (nat_lit 3)) → ∀ (y : UInt32), y = UInt32.ofNat (nat_lit 5) * shr32 y_4 (2 : Nat) → (∃ (x : Nat), x ≤ (16 : Nat) ∧ Int.ofNat (1 : Nat) = Int.ofNat (1 : Nat) ∧ y = UInt32.ofNat ((y.toNat + pv y_5 x) / (256 : Nat) ^ x) ∧ Int.ofNat (0 : Nat) = (↑x : Int) ∧ y_5 = digs (y.toNat + pv y_5 x) x ++ List.drop x y_5 ∧ List.replicate (17 : Nat) (0 : UInt32) = List.replicate (17 : Nat) (0 : UInt32) ∧ True) ∧ ∀ (x : Nat), x ≤ (16 : Nat) → (decide ((↑x : Int) < Int.ofNat (16 : Nat)) = true → ((0 : Int) ≤ (↑x : Int) ∧ (↑x : Int) < (↑(17 : Nat) : Int)) ∧ (↑x : Int).toNat < (17 : Nat) ∧ ∀ (y_6 : UInt32), y_6 = UInt32.ofNat ((y.toNat + pv y_5 x) / (256 : Nat) ^ x) + (digs (y.toNat + pv y_5 x) x ++ List.drop x y_5).getD (↑x : Int).toNat (0 : UInt32) → ((0 : Int) ≤ (↑x : Int) ∧ (↑x : Int) < (↑(17 : Nat) : Int)) ∧ (↑x : Int).toNat < (17 : Nat) ∧ ∀ (y_7 : List UInt32), y_7 = (digs (y.toNat + pv y_5 x) x ++ List.drop x y_5).set (↑x : Int).toNat (y_6 &&& UInt32.ofNat (nat_lit 255)) → ∀ (y_8 : UInt32), y_8 = shr32 y_6 (8 : Nat) → InI ((↑x : Int) + Int.ofNat (1 : Nat)) ∧ ∀ (y_9 : Int), y_9 = (↑x : Int) + Int.ofNat (1 : Nat) → ∃ (y_10 : Nat), y_10 ≤ (16 : Nat) ∧ (16 : Nat) - y_10 < (16 : Nat) - x ∧ Int.ofNat (1 : Nat) = Int.ofNat (1 : Nat) ∧ y_8 = UInt32.ofNat ((y.toNat + pv y_5 y_10) / (256 : Nat) ^ y_10) ∧ y_9 = (↑y_10 : Int) ∧ y_7 = digs (y.toNat + pv y_5 y_10) y_10 ++ List.drop y_10 y_5 ∧ List.replicate (17 : Nat) (0 : UInt32) = List.replicate (17 : Nat) (0 : UInt32) ∧ True) ∧ (decide ((↑x : Int) < Int.ofNat (16 : Nat)) = false → ∀ (y_6 : List UInt32), y_6 = (digs (y.toNat + pv y_5 x) x ++ List.drop x y_5).set (16 : Nat) ((digs (y.toNat + pv y_5 x) x ++ List.drop x y_5).getD (16 : Nat) (0 : UInt32) + UInt32.ofNat ((y.toNat + pv y_5 x) / (256 : Nat) ^ x)) → ∀ (y : List UInt32), y = y_6 → y = d17 (red1 (red1 (valD a))) ∧ True))))) := by kernel_rfl
set_option maxRecDepth 100000 in
theorem vcTimesD (a b : List UInt32) : (vcFn PFt 200 65 [.agg [.vec (.n 17) (.u32 a)], .agg [.vec (.n 17) (.u32 b)]] (.w (.agg [.vec (.n 17) (.u32 (d17 (red1 (red1 (timesV a b)))))]))) =
  ((∃ (x : Nat), x ≤ (17 : Nat) ∧ Int.ofNat (0 : Nat) = (↑x : Int) ∧ a = a ∧ b = b ∧ List.replicate (17 : Nat) (0 : UInt32) = List.replicate (17 : Nat) (0 : UInt32) ∧ List.replicate (17 : Nat) (0 : UInt32) = outD a b x ++ List.replicate ((17 : Nat) - x) (0 : UInt32) ∧ True) ∧ ∀ (x : Nat), x ≤ (17 : Nat) → (decide ((↑x : Int) < Int.ofNat (17 : Nat)) = true → ∀ (y : UInt32), y = UInt32.ofNat (nat_lit 0) → (∃ (x_1 : Nat), x_1 ≤ (17 : Nat) ∧ (↑x : Int) = (↑x : Int) ∧ y = UInt32.ofNat (uS a b (↑x : Int).toNat x_1) ∧ Int.ofNat (0 : Nat) = (↑x_1 : Int) ∧ a = a ∧ b = b ∧ List.replicate (17 : Nat) (0 : UInt32) = List.replicate (17 : Nat) (0 : UInt32) ∧ outD a b x ++ List.replicate ((17 : Nat) - x) (0 : UInt32) = outD a b x ++ List.replicate ((17 : Nat) - x) (0 : UInt32) ∧ True) ∧ ∀ (x_1 : Nat), x_1 ≤ (17 : Nat) → (decide ((↑x_1 : Int) < Int.ofNat (17 : Nat)) = true → (decide ((↑x_1 : Int) ≤ (↑x : Int)) = true → ((0 : Int) ≤ (↑x_1 : Int) ∧ (↑x_1 : Int) < (↑(17 : Nat) : Int)) ∧ (↑x_1 : Int).toNat < (17 : Nat) ∧ InI ((↑x : Int) - (↑x_1 : Int)) ∧ ((0 : Int) ≤ (↑x : Int) - (↑x_1 : Int) ∧ (↑x : Int) - (↑x_1 : Int) < (↑(17 : Nat) : Int)) ∧ ((↑x : Int) - (↑x_1 : Int)).toNat < (17 : Nat) ∧ ∀ (y : UInt32), y = UInt32.ofNat (uS a b (↑x : Int).toNat x_1) + a.getD (↑x_1 : Int).toNat (0 : UInt32) * b.getD ((↑x : Int) - (↑x_1 : Int)).toNat (0 : UInt32) → InI ((↑x_1 : Int) + Int.ofNat (1 : Nat)) ∧ ∀ (y_1 : Int), y_1 = (↑x_1 : Int) + Int.ofNat (1 : Nat) → ∃ (y_2 : Nat), y_2 ≤ (17 : Nat) ∧ (17 : Nat) - y_2 < (17 : Nat) - x_1 ∧ (↑x : Int) = (↑x : Int) ∧ y = UInt32.ofNat (uS a b (↑x : Int).toNat y_2) ∧ y_1 = (↑y_2 : Int) ∧ a = a ∧ b = b ∧ List.replicate (17 : Nat) (0 : UInt32) = List.replicate (17 : Nat) (0 : UInt32) ∧ outD a b x ++ List.replicate ((17 : Nat) - x) (0 : UInt32) = outD a b x ++ List.replicate ((17 : Nat) - x) (0 : UInt32) ∧ True) ∧ (decide ((↑x_1 : Int) ≤ (↑x : Int)) = false → ((0 : Int) ≤ (↑x_1 : Int) ∧ (↑x_1 : Int) < (↑(17 : Nat) : Int)) ∧ (↑x_1 : Int).toNat < (17 : Nat) ∧ InI ((↑x : Int) + Int.ofNat (17 : Nat)) ∧ InI ((↑x : Int) + Int.ofNat (17 : Nat) - (↑x_1 : Int)) ∧ ((0 : Int) ≤ (↑x : Int) + Int.ofNat (17 : Nat) - (↑x_1 : Int) ∧ (↑x : Int) + Int.ofNat (17 : Nat) - (↑x_1 : Int) < (↑(17 : Nat) : Int)) ∧ ((↑x : Int) + Int.ofNat (17 : Nat) - (↑x_1 : Int)).toNat < (17 : Nat) ∧ ∀ (y : UInt32), y = UInt32.ofNat (uS a b (↑x : Int).toNat x_1) + UInt32.ofNat (nat_lit 320) * a.getD (↑x_1 : Int).toNat (0 : UInt32) * b.getD ((↑x : Int) + Int.ofNat (17 : Nat) - (↑x_1 : Int)).toNat (0 : UInt32) → InI ((↑x_1 : Int) + Int.ofNat (1 : Nat)) ∧ ∀ (y_1 : Int), y_1 = (↑x_1 : Int) + Int.ofNat (1 : Nat) → ∃ (y_2 : Nat), y_2 ≤ (17 : Nat) ∧ (17 : Nat) - y_2 < (17 : Nat) - x_1 ∧ (↑x : Int) = (↑x : Int) ∧ y = UInt32.ofNat (uS a b (↑x : Int).toNat y_2) ∧ y_1 = (↑y_2 : Int) ∧ a = a ∧ b = b ∧ List.replicate (17 : Nat) (0 : UInt32) = List.replicate (17 : Nat) (0 : UInt32) ∧ outD a b x ++ List.replicate ((17 : Nat) - x) (0 : UInt32) = outD a b x ++ List.replicate ((17 : Nat) - x) (0 : UInt32) ∧ True)) ∧ (decide ((↑x_1 : Int) < Int.ofNat (17 : Nat)) = false → ((0 : Int) ≤ (↑x : Int) ∧ (↑x : Int) < (↑(17 : Nat) : Int)) ∧ (↑x : Int).toNat < (17 : Nat) ∧ ∀ (y : List UInt32), y = (outD a b x ++ List.replicate ((17 : Nat) - x) (0 : UInt32)).set (↑x : Int).toNat (UInt32.ofNat (uS a b (↑x : Int).toNat x_1)) → InI ((↑x : Int) + Int.ofNat (1 : Nat)) ∧ ∀ (y_1 : Int), y_1 = (↑x : Int) + Int.ofNat (1 : Nat) → ∃ (y_2 : Nat), y_2 ≤ (17 : Nat) ∧ (17 : Nat) - y_2 < (17 : Nat) - x ∧ y_1 = (↑y_2 : Int) ∧ a = a ∧ b = b ∧ List.replicate (17 : Nat) (0 : UInt32) = List.replicate (17 : Nat) (0 : UInt32) ∧ y = outD a b y_2 ++ List.replicate ((17 : Nat) - y_2) (0 : UInt32) ∧ True)) ∧ (decide ((↑x : Int) < Int.ofNat (17 : Nat)) = false → small (outD a b x ++ List.replicate ((17 : Nat) - x) (0 : UInt32)) (536870912 : Nat) ∧ ∀ (y : List UInt32), y = d17 (red1 (red1 (valD (outD a b x ++ List.replicate ((17 : Nat) - x) (0 : UInt32))))) → ∀ (y_1 : List UInt32), y_1 = y → y_1 = d17 (red1 (red1 (timesV a b))) ∧ True)) := by kernel_rfl
set_option maxRecDepth 100000 in
theorem vcLeast (a : List UInt32) : (vcFn PFl 200 67 [.agg [.vec (.n 17) (.u32 a)]] (.w (.agg [.vec (.n 17) (.u32 (d17 (lst (red1 (red1 (valD a))))))]))) =
  (small a (536870912 : Nat) ∧ ∀ (y : List UInt32), y = d17 (red1 (red1 (valD a))) → ∀ (y_1 : List UInt32), y_1 = y → ∀ (y : List UInt32), y = [UInt32.ofNat (nat_lit 5), UInt32.ofNat (nat_lit 0), UInt32.ofNat (nat_lit 0), UInt32.ofNat (nat_lit 0), UInt32.ofNat (nat_lit 0), UInt32.ofNat (nat_lit 0), UInt32.ofNat (nat_lit 0), UInt32.ofNat (nat_lit 0), UInt32.ofNat (nat_lit 0), UInt32.ofNat (nat_lit 0), UInt32.ofNat (nat_lit 0), UInt32.ofNat (nat_lit 0), UInt32.ofNat (nat_lit 0), UInt32.ofNat (nat_lit 0), UInt32.ofNat (nat_lit 0), UInt32.ofNat (nat_lit 0), UInt32.ofNat (nat_lit 252)] → small y_1 (1048576 : Nat) ∧ small y (1048576 : Nat) ∧ ∀ (y_2 : List UInt32), y_2 = d17 ((valD y_1 + valD y) % (87112285931760246646623899502532662132736 : Nat)) → ∀ (y : List UInt32), y = y_2 → ((y.getD (16 : Nat) (0 : UInt32) &&& UInt32.ofNat (nat_lit 128) == UInt32.ofNat (nat_lit 0)) = true → ∀ (y_3 : List UInt32), y_3 = y.set (16 : Nat) (y.getD (16 : Nat) (0 : UInt32) &&& UInt32.ofNat (nat_lit 3)) → ∀ (y : List UInt32), y = y_3 → y = d17 (lst (red1 (red1 (valD a)))) ∧ True) ∧ ((y.getD (16 : Nat) (0 : UInt32) &&& UInt32.ofNat (nat_lit 128) == UInt32.ofNat (nat_lit 0)) = false → ∀ (y : List UInt32), y = y_1 → y = d17 (lst (red1 (red1 (valD a)))) ∧ True)) := by kernel_rfl
end Go.Proofs.Ytimjfjlaoekfkaa

/- A step towards SessionExchangesSaid: no conditions. -/
namespace Go.Proofs.Ytimjfjlaoekfkaa
open Go Go.Eng Go.Cod Go.Pol
open List
theorem digs17 (n : Nat) : digs n (16 + 1) = d17 (n % 256 ^ (16 + 1)) := by
  unfold d17
  rw [digs, show n % 256 ^ (16 + 1) / 256 ^ 16 = n / 256 ^ 16 % 256 by rw [Nat.pow_succ, Nat.mod_mul_right_div_self],
    digs_congr (n := n % 256 ^ (16 + 1)) (m := n) (j := 16) (by rw [Nat.pow_succ, Nat.mod_mul_right_mod])]
theorem succInt (x : Nat) : (x : Int) + Int.ofNat 1 = ((x + 1 : Nat) : Int) := rfl
theorem inI_succ {x : Nat} (h : x < 20) : InI ((x : Int) + Int.ofNat 1) := by
  rw [succInt]; unfold InI; omega
set_option maxRecDepth 100000 in
theorem conPlusD : Con Try.prog 66 gPlusD := con_of_vcl fun args ps res h hp hlen => by
  unfold gPlusD at h
  split at h <;> cases h
  rename_i a b
  have la : a.length = 17 := hlen.1.1
  have lb : b.length = 17 := hlen.2.1.1
  obtain ⟨sa, hp⟩ := all_cons.1 hp
  have sb := (all_cons.1 hp).1
  refine ⟨PFp, 200, rfl, eok (gs := []) trivial, ?_⟩
  rw [vcPlusD a b]
  intro y hy
  subst hy
  refine ⟨⟨0, by omega, ?_, rfl, rfl, rfl, rfl, trivial⟩, fun x hx => ⟨fun hd => ?_, fun hd => ?_⟩⟩
  · rw [pv_zero, pv_zero]
  · have hd := of_decide_eq_true hd
    have hx2 : x < 17 := by have : (x : Int) < 17 := hd; omega
    intro y hy
    subst hy
    obtain ⟨h1, h2⟩ := plus_step (a := a) (b := b) (j := x) sa sb (by omega) (by omega)
    refine ⟨by omega, by omega, by omega, by omega, fun y hy => ?_⟩
    subst hy
    rw [Int.toNat_natCast]
    refine ⟨by omega, by omega, fun y hy y2 hy2 => ?_⟩
    refine ⟨inI_succ (by omega), x + 1, by omega, by omega, ?_, rfl, ?_, rfl, rfl, trivial⟩
    · rw [hy2, h1]
    · rw [hy, h2]
  · have hd := of_decide_eq_false hd
    have hx2 : x = 17 := by have : ¬ (x : Int) < 17 := hd; omega
    subst hx2
    intro y hy
    refine ⟨?_, trivial⟩
    rw [hy, List.drop_of_length_le (by omega), List.append_nil, ← p17]
    refine (digs17 _).trans ?_
    have e1 : pv a 17 = valD a := by have := pv_all a; rw [la] at this; exact this
    have e2 : pv b 17 = valD b := by have := pv_all b; rw [lb] at this; exact this
    rw [e1, e2]
theorem cInit {c : UInt32} {l : List UInt32} {k : Int} {r : List UInt32} : (∃ (x : Nat), x ≤ 16 ∧ k = k ∧ c = UInt32.ofNat ((c.toNat + pv l x) / 256 ^ x) ∧ Int.ofNat 0 = (x : Int) ∧ l = digs (c.toNat + pv l x) x ++ drop x l ∧ r = r ∧ True) :=
  ⟨0, by omega, rfl, by rw [pv_zero, Nat.pow_zero, Nat.div_one, Nat.add_zero]; exact UInt32.toNat_inj.1 (ofNat_lt (lt32 c)).symm, rfl, rfl, rfl, trivial⟩
theorem cBody {c : UInt32} {l : List UInt32} {k : Int} {r : List UInt32} {x B : Nat} (hl : l.length = 17) (hs : small l B) (hB : 0 < B) (hb : c.toNat + 2 * B ≤ 4294967296) (hd : decide ((x : Int) < Int.ofNat 16) = true) :
    ((0 : Int) ≤ (x : Int) ∧ (x : Int) < (17 : Int)) ∧ (x : Int).toNat < 17 ∧ ∀ (y_1 : UInt32), y_1 = UInt32.ofNat ((c.toNat + pv l x) / 256 ^ x) + (digs (c.toNat + pv l x) x ++ drop x l).getD (x : Int).toNat (0 : UInt32) → ((0 : Int) ≤ (x : Int) ∧ (x : Int) < (17 : Int)) ∧ (x : Int).toNat < 17 ∧ ∀ (y_2 : List UInt32), y_2 = (digs (c.toNat + pv l x) x ++ drop x l).set (x : Int).toNat (y_1 &&& UInt32.ofNat 255) → ∀ (y_3 : UInt32), y_3 = shr32 y_1 8 → InI ((x : Int) + Int.ofNat 1) ∧ ∀ (y_4 : Int), y_4 = (x : Int) + Int.ofNat 1 → ∃ (y_5 : Nat), y_5 ≤ 16 ∧ 16 - y_5 < 16 - x ∧ k = k ∧ y_3 = UInt32.ofNat ((c.toNat + pv l y_5) / 256 ^ y_5) ∧ y_4 = (y_5 : Int) ∧ y_2 = digs (c.toNat + pv l y_5) y_5 ++ drop y_5 l ∧ r = r ∧ True := by
  have hd := of_decide_eq_true hd
  have hx2 : x < 16 := by have : (x : Int) < 16 := hd; omega
  obtain ⟨h1, h2⟩ := carry_step (c := c) (l := l) (j := x) hs hB (by omega) hb
  rw [Int.toNat_natCast]
  refine ⟨by omega, by omega, fun y hy => ⟨by omega, by omega, fun y2 hy2 y3 hy3 => ⟨inI_succ (by omega), fun y4 hy4 => ?_⟩⟩⟩
  subst hy
  exact ⟨x + 1, by omega, by omega, rfl, by rw [hy3, h1], by rw [hy4]; rfl, by rw [hy2, h2], rfl, trivial⟩
theorem x16 {x : Nat} (hx : x ≤ 16) (hd : decide ((x : Int) < Int.ofNat 16) = false) : x = 16 := by
  have hd := of_decide_eq_false hd
  have : ¬ (x : Int) < 16 := hd
  omega
theorem red1_ltD {n : Nat} (h : n / 256 ^ 16 < 1073741825) : red1 n < 1361129467683753853853498429727072845824 + 1342177285 := by
  rw [p16] at h
  unfold red1
  omega
/-- one round: both passes -/
theorem roundD {l y2 : List UInt32} {y1 c : UInt32} (hl : l.length = 17) (hs : small l 536870912)
    (h1 : y1 = UInt32.ofNat (((UInt32.ofNat 0).toNat + pv l 16) / 256 ^ 16) + (digs ((UInt32.ofNat 0).toNat + pv l 16) 16 ++ drop 16 l).getD 16 0)
    (h2 : y2 = (digs ((UInt32.ofNat 0).toNat + pv l 16) 16 ++ drop 16 l).set 16 (y1 &&& UInt32.ofNat 3))
    (hc : c = UInt32.ofNat 5 * shr32 y1 2) :
    y2.length = 17 ∧ small y2 536870912 ∧ c.toNat + 2 * 1024 ≤ 4294967296 ∧ small y2 1024 ∧
    ∀ y3, (y3 = (digs (c.toNat + pv y2 16) 16 ++ drop 16 y2).set 16 ((digs (c.toNat + pv y2 16) 16 ++ drop 16 y2).getD 16 0 + UInt32.ofNat ((c.toNat + pv y2 16) / 256 ^ 16)) → y3 = d17 (red1 (valD l)) ∧ red1 (valD l) < 1361129467683753853853498429727072845824 + 1342177285) := by
  obtain ⟨t1, t2, t3⟩ := top_eq hl hs
  have e0 : (UInt32.ofNat 0).toNat = 0 := rfl
  rw [e0] at h1 h2
  rw [← h1] at t1
  rw [set16 hl, t3] at h2
  obtain ⟨f1, f2, f3, f4, f5⟩ := round_fin t1 t2 h2
  have hsm : small y2 1024 := by
    intro x hx
    rw [h2] at hx
    rcases List.mem_append.1 hx with g | g
    · exact Nat.lt_of_lt_of_le (digs_small _ 16 x g) (by decide)
    · rw [List.mem_singleton] at g
      rw [g, and3d]; omega
  rw [hc, f1]
  refine ⟨f2, f3, by omega, hsm, fun y3 h3 => ⟨by rw [h3, f4], red1_ltD t2⟩⟩
set_option maxRecDepth 100000 in
theorem conReducedD : Con Try.prog 74 gReducedD := con_of_vcl fun args ps res h hp hlen => by
  unfold gReducedD at h
  split at h <;> cases h
  rename_i a
  have la : a.length = 17 := hlen.1.1
  have sa := (all_cons.1 hp).1
  refine ⟨PFr, 200, rfl, eok (gs := []) trivial, ?_⟩
  rw [vcReducedD a]
  intro y hy
  refine ⟨cInit, fun x hx => ⟨fun hd => cBody la sa (by decide) (by rw [hy]; decide) hd, fun hd => ?_⟩⟩
  obtain rfl := x16 hx hd
  intro y1 h1 y2 h2 c hc
  subst hy
  obtain ⟨g1, g2, g3, g4, g5⟩ := roundD la sa h1 h2 hc
  refine ⟨cInit, fun x hx => ⟨fun hd => cBody g1 g4 (by decide) g3 hd, fun hd => ?_⟩⟩
  obtain rfl := x16 hx hd
  intro y3 h3 z hz
  obtain ⟨k1, k2⟩ := g5 _ h3
  have l3 : y3.length = 17 := by rw [k1, d17_len]
  have s3 : small y3 536870912 := by rw [k1]; exact small_mono (d17_small (by omega)) (by decide)
  have v3 : valD y3 = red1 (valD a) := by rw [k1, d17_val (by omega)]
  refine ⟨cInit, fun x hx => ⟨fun hd => cBody l3 s3 (by decide) (by rw [hz]; decide) hd, fun hd => ?_⟩⟩
  obtain rfl := x16 hx hd
  intro y4 h4 y5 h5 c2 hc2
  subst hz
  obtain ⟨m1, m2, m3, m4, m5⟩ := roundD l3 s3 h4 h5 hc2
  refine ⟨cInit, fun x hx => ⟨fun hd => cBody m1 m4 (by decide) m3 hd, fun hd => ?_⟩⟩
  obtain rfl := x16 hx hd
  intro y6 h6 y7 h7
  obtain ⟨n1, n2⟩ := m5 _ h6
  exact ⟨by rw [h7, n1, v3], trivial⟩
end Go.Proofs.Ytimjfjlaoekfkaa
