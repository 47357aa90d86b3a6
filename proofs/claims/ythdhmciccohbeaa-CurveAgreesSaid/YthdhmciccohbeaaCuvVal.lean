/- A step towards CurveAgreesSaid: no conditions. -/
import Derived.Test.YthdhmciccohbeaaCubSpec
/-! what the limbs mean -/
namespace Go.Cur
open Go Go.Eng Go.Cod Go.Pol
abbrev PP : Nat := 57896044618658097711785492504343953926634992332820282019728792003956564819949
abbrev X1 : Nat := 2251799813685248
abbrev X2 : Nat := 5070602400912917605986812821504
abbrev X3 : Nat := 11417981541647679048466287755595961091061972992
abbrev X4 : Nat := 25711008708143844408671393477458601640355247900524685364822016
def nn (a : List UInt64) (i : Nat) : Nat := (g a i).toNat
theorem nn_eq (a : List UInt64) (i : Nat) : (g a i).toNat = nn a i := rfl
theorem nn_lt (a : List UInt64) (i : Nat) : nn a i < 18446744073709551616 := (g a i).toNat_lt
def val (a : List UInt64) : Nat := nn a 0 + X1 * nn a 1 + X2 * nn a 2 + X3 * nn a 3 + X4 * nn a 4
/-- limbs below a bound -/
def Lt (m : Nat) (a : List UInt64) : Prop := nn a 0 < m ∧ nn a 1 < m ∧ nn a 2 < m ∧ nn a 3 < m ∧ nn a 4 < m
abbrev Small := Lt 2251799813750784
abbrev Mid := Lt 9007199254740992
theorem and51 (x : UInt64) : (x &&& UInt64.ofNat 2251799813685247).toNat = x.toNat % 2251799813685248 := by
  rw [UInt64.toNat_and]
  exact Nat.and_two_pow_sub_one_eq_mod x.toNat 51
theorem shr51 (x : UInt64) : (shr64 x 51).toNat = x.toNat / 2251799813685248 := by rw [Cod.shr64_toNat]
theorem t5 (a0 a1 a2 a3 a4 b0 b1 b2 b3 b4 : Nat) : (a0 + X1 * a1 + X2 * a2 + X3 * a3 + X4 * a4) * (b0 + X1 * b1 + X2 * b2 + X3 * b3 + X4 * b4) =
    (a0 * b0 + 19 * (a1 * b4) + 19 * (a2 * b3) + 19 * (a3 * b2) + 19 * (a4 * b1)) + X1 * (a0 * b1 + a1 * b0 + 19 * (a2 * b4) + 19 * (a3 * b3) + 19 * (a4 * b2)) + X2 * (a0 * b2 + a1 * b1 + a2 * b0 + 19 * (a3 * b4) + 19 * (a4 * b3)) +
      X3 * (a0 * b3 + a1 * b2 + a2 * b1 + a3 * b0 + 19 * (a4 * b4)) + X4 * (a0 * b4 + a1 * b3 + a2 * b2 + a3 * b1 + a4 * b0) +
      PP * ((a1 * b4 + a2 * b3 + a3 * b2 + a4 * b1) + X1 * (a2 * b4 + a3 * b3 + a4 * b2) + X2 * (a3 * b4 + a4 * b3) + X3 * (a4 * b4)) := by
  simp only [X1, X2, X3, X4, PP]
  grind
theorem car_nn {a : List UInt64} (hb : nn a 4 / X1 ≤ 3000) : nn (carL a) 0 = nn a 0 % X1 + 19 * (nn a 4 / X1) ∧ nn (carL a) 1 = nn a 1 % X1 + nn a 0 / X1 ∧ nn (carL a) 2 = nn a 2 % X1 + nn a 1 / X1 ∧ nn (carL a) 3 = nn a 3 % X1 + nn a 2 / X1 ∧ nn (carL a) 4 = nn a 4 % X1 + nn a 3 / X1 := by
  have l0 := nn_lt a 0
  have l1 := nn_lt a 1
  have l2 := nn_lt a 2
  have l3 := nn_lt a 3
  have c0 : nn (carL a) 0 = nn a 0 % X1 + 19 * (nn a 4 / X1) := by
    show ((g a 0 &&& UInt64.ofNat 2251799813685247) + UInt64.ofNat 19 * shr64 (g a 4) 51).toNat = _
    rw [UInt64.toNat_add, UInt64.toNat_mul, and51, shr51, show (UInt64.ofNat 19).toNat = 19 from rfl]
    simp only [X1, nn_eq] at *; omega
  have c1 : nn (carL a) 1 = nn a 1 % X1 + nn a 0 / X1 := by
    show ((g a 1 &&& UInt64.ofNat 2251799813685247) + shr64 (g a 0) 51).toNat = _
    rw [UInt64.toNat_add, and51, shr51]
    simp only [X1, nn_eq] at *; omega
  have c2 : nn (carL a) 2 = nn a 2 % X1 + nn a 1 / X1 := by
    show ((g a 2 &&& UInt64.ofNat 2251799813685247) + shr64 (g a 1) 51).toNat = _
    rw [UInt64.toNat_add, and51, shr51]
    simp only [X1, nn_eq] at *; omega
  have c3 : nn (carL a) 3 = nn a 3 % X1 + nn a 2 / X1 := by
    show ((g a 3 &&& UInt64.ofNat 2251799813685247) + shr64 (g a 2) 51).toNat = _
    rw [UInt64.toNat_add, and51, shr51]
    simp only [X1, nn_eq] at *; omega
  have c4 : nn (carL a) 4 = nn a 4 % X1 + nn a 3 / X1 := by
    show ((g a 4 &&& UInt64.ofNat 2251799813685247) + shr64 (g a 3) 51).toNat = _
    rw [UInt64.toNat_add, and51, shr51]
    simp only [X1, nn_eq] at *; omega
  exact ⟨c0, c1, c2, c3, c4⟩
/-- carrying keeps the number, and makes the limbs small -/
theorem car_val {a : List UInt64} (hb : nn a 4 / X1 ≤ 3000) :
    Small (carL a) ∧ val a = val (carL a) + PP * (nn a 4 / X1) := by
  have l0 := nn_lt a 0
  have l1 := nn_lt a 1
  have l2 := nn_lt a 2
  have l3 := nn_lt a 3
  obtain ⟨c0, c1, c2, c3, c4⟩ := car_nn hb
  refine ⟨?_, ?_⟩
  · refine ⟨?_, ?_, ?_, ?_, ?_⟩ <;> simp only [c0, c1, c2, c3, c4, X1] at * <;> omega
  · unfold val
    rw [c0, c1, c2, c3, c4]
    simp only [X1, X2, X3, X4, PP] at *
    omega
theorem lo51_nat (n : Nat) : (lo51 n).toNat = n % 2251799813685248 := by
  unfold lo51
  rw [and51, u_nat]
  simp only [D64]; omega
theorem hi51_nat {n : Nat} (h : n < 41538374868278621028243970633760768) : (hi51 n).toNat = n / 2251799813685248 := by
  unfold hi51
  rw [UInt64.toNat_or, Cod.shl64_toNat, shr51, u_nat, u_nat]
  simp only [D64]
  have e1 : n / 18446744073709551616 % 18446744073709551616 * 2 ^ 13 % 18446744073709551616 = (n / 18446744073709551616) * 2 ^ 13 := by omega
  have e2 : n % 18446744073709551616 / 2251799813685248 < 2 ^ 13 := by omega
  rw [e1]
  have := Nat.shiftLeft_add_eq_or_of_lt (a := n / 18446744073709551616) e2
  rw [Nat.shiftLeft_eq] at this
  rw [← this]
  omega
theorem mulb {x y m n : Nat} (h1 : x < m) (h2 : y < n) : x * y < m * n := Nat.mul_lt_mul'' h1 h2
theorem mul19 {a : List UInt64} {i : Nat} (h : nn a i < 9007199254740992) : (UInt64.ofNat 19 * g a i).toNat = 19 * nn a i := by
  rw [UInt64.toNat_mul, show (UInt64.ofNat 19).toNat = 19 from rfl, nn_eq]; omega
theorem mul_val {a b : List UInt64} (ha : Mid a) (hb : Mid b) : Small (mulL a b) ∧ val (mulL a b) % PP = val a * val b % PP := by
  obtain ⟨a0, a1, a2, a3, a4⟩ := ha
  obtain ⟨b0, b1, b2, b3, b4⟩ := hb
  have m : ∀ {i j : Nat}, nn a i < 9007199254740992 → nn b j < 9007199254740992 → nn a i * nn b j < 81129638414606681695789005144064 := fun h1 h2 => mulb h1 h2
  have e0 : s0 a b = nn a 0 * nn b 0 + 19 * (nn a 1 * nn b 4) + 19 * (nn a 2 * nn b 3) + 19 * (nn a 3 * nn b 2) + 19 * (nn a 4 * nn b 1) := by
    unfold s0 pr pn; rw [mul19 a1, mul19 a2, mul19 a3, mul19 a4]; simp only [nn_eq, Nat.mul_assoc, Nat.add_assoc]
  have e1 : s1 a b = nn a 0 * nn b 1 + nn a 1 * nn b 0 + 19 * (nn a 2 * nn b 4) + 19 * (nn a 3 * nn b 3) + 19 * (nn a 4 * nn b 2) := by
    unfold s1 pr pn; rw [mul19 a2, mul19 a3, mul19 a4]; simp only [nn_eq, Nat.mul_assoc, Nat.add_assoc]
  have e2 : s2 a b = nn a 0 * nn b 2 + nn a 1 * nn b 1 + nn a 2 * nn b 0 + 19 * (nn a 3 * nn b 4) + 19 * (nn a 4 * nn b 3) := by
    unfold s2 pr pn; rw [mul19 a3, mul19 a4]; simp only [nn_eq, Nat.mul_assoc, Nat.add_assoc]
  have e3 : s3 a b = nn a 0 * nn b 3 + nn a 1 * nn b 2 + nn a 2 * nn b 1 + nn a 3 * nn b 0 + 19 * (nn a 4 * nn b 4) := by
    unfold s3 pr pn; rw [mul19 a4]; simp only [nn_eq, Nat.mul_assoc, Nat.add_assoc]
  have e4 : s4 a b = nn a 0 * nn b 4 + nn a 1 * nn b 3 + nn a 2 * nn b 2 + nn a 3 * nn b 1 + nn a 4 * nn b 0 := by
    unfold s4 pr; simp only [nn_eq, Nat.add_assoc]
  have key := t5 (nn a 0) (nn a 1) (nn a 2) (nn a 3) (nn a 4) (nn b 0) (nn b 1) (nn b 2) (nn b 3) (nn b 4)
  rw [← e0, ← e1, ← e2, ← e3, ← e4] at key
  generalize hq : (nn a 1 * nn b 4 + nn a 2 * nn b 3 + nn a 3 * nn b 2 + nn a 4 * nn b 1) + X1 * (nn a 2 * nn b 4 + nn a 3 * nn b 3 + nn a 4 * nn b 2) + X2 * (nn a 3 * nn b 4 + nn a 4 * nn b 3) + X3 * (nn a 4 * nn b 4) = q at key
  have f0 : s0 a b < 7000000000000000000000000000000000 := by
    rw [e0]; have := m a0 b0; have := m a1 b4; have := m a2 b3; have := m a3 b2; have := m a4 b1; omega
  have f1 : s1 a b < 7000000000000000000000000000000000 := by
    rw [e1]; have := m a0 b1; have := m a1 b0; have := m a2 b4; have := m a3 b3; have := m a4 b2; omega
  have f2 : s2 a b < 7000000000000000000000000000000000 := by
    rw [e2]; have := m a0 b2; have := m a1 b1; have := m a2 b0; have := m a3 b4; have := m a4 b3; omega
  have f3 : s3 a b < 3000000000000000000000000000000000 := by
    rw [e3]; have := m a0 b3; have := m a1 b2; have := m a2 b1; have := m a3 b0; have := m a4 b4; omega
  have f4 : s4 a b < 500000000000000000000000000000000 := by
    rw [e4]; have := m a0 b4; have := m a1 b3; have := m a2 b2; have := m a3 b1; have := m a4 b0; omega
  clear e0 e1 e2 e3 e4 hq
  generalize hw : [lo51 (s0 a b) + UInt64.ofNat 19 * hi51 (s4 a b), lo51 (s1 a b) + hi51 (s0 a b), lo51 (s2 a b) + hi51 (s1 a b), lo51 (s3 a b) + hi51 (s2 a b), lo51 (s4 a b) + hi51 (s3 a b)] = w
  have hm : mulL a b = carL w := by rw [← hw]; rfl
  have w0 : nn w 0 = s0 a b % X1 + 19 * (s4 a b / X1) := by
    rw [← hw]
    show (lo51 (s0 a b) + UInt64.ofNat 19 * hi51 (s4 a b)).toNat = _
    rw [UInt64.toNat_add, UInt64.toNat_mul, lo51_nat, hi51_nat (by omega), show (UInt64.ofNat 19).toNat = 19 from rfl]
    simp only [X1]; omega
  have w1 : nn w 1 = s1 a b % X1 + s0 a b / X1 := by
    rw [← hw]
    show (lo51 (s1 a b) + hi51 (s0 a b)).toNat = _
    rw [UInt64.toNat_add, lo51_nat, hi51_nat (by omega)]
    simp only [X1]; omega
  have w2 : nn w 2 = s2 a b % X1 + s1 a b / X1 := by
    rw [← hw]
    show (lo51 (s2 a b) + hi51 (s1 a b)).toNat = _
    rw [UInt64.toNat_add, lo51_nat, hi51_nat (by omega)]
    simp only [X1]; omega
  have w3 : nn w 3 = s3 a b % X1 + s2 a b / X1 := by
    rw [← hw]
    show (lo51 (s3 a b) + hi51 (s2 a b)).toNat = _
    rw [UInt64.toNat_add, lo51_nat, hi51_nat (by omega)]
    simp only [X1]; omega
  have w4 : nn w 4 = s4 a b % X1 + s3 a b / X1 := by
    rw [← hw]
    show (lo51 (s4 a b) + hi51 (s3 a b)).toNat = _
    rw [UInt64.toNat_add, lo51_nat, hi51_nat (by omega)]
    simp only [X1]; omega
  have hv : s0 a b + X1 * s1 a b + X2 * s2 a b + X3 * s3 a b + X4 * s4 a b = val w + PP * (s4 a b / X1) := by
    unfold val
    rw [w0, w1, w2, w3, w4]
    simp only [X1, X2, X3, X4, PP]
    omega
  obtain ⟨k1, k2⟩ := car_val (a := w) (by rw [w4]; simp only [X1]; omega)
  rw [hm]
  refine ⟨k1, ?_⟩
  show _ = (nn a 0 + X1 * nn a 1 + X2 * nn a 2 + X3 * nn a 3 + X4 * nn a 4) * (nn b 0 + X1 * nn b 1 + X2 * nn b 2 + X3 * nn b 3 + X4 * nn b 4) % PP
  rw [key, hv, k2, Nat.add_assoc, Nat.add_assoc, ← Nat.mul_add, ← Nat.mul_add, Nat.add_mul_mod_self_left]
theorem add_val {a b : List UInt64} (ha : Small a) (hb : Small b) : Mid (addL a b) ∧ val (addL a b) = val a + val b := by
  obtain ⟨a0, a1, a2, a3, a4⟩ := ha
  obtain ⟨b0, b1, b2, b3, b4⟩ := hb
  have c : ∀ i, nn a i < 2251799813750784 → nn b i < 2251799813750784 → (g a i + g b i).toNat = nn a i + nn b i := fun i h1 h2 => by
    rw [UInt64.toNat_add, nn_eq, nn_eq]; omega
  have c0 := c 0 a0 b0
  have c1 := c 1 a1 b1
  have c2 := c 2 a2 b2
  have c3 := c 3 a3 b3
  have c4 := c 4 a4 b4
  have d0 : nn (addL a b) 0 = nn a 0 + nn b 0 := c0
  have d1 : nn (addL a b) 1 = nn a 1 + nn b 1 := c1
  have d2 : nn (addL a b) 2 = nn a 2 + nn b 2 := c2
  have d3 : nn (addL a b) 3 = nn a 3 + nn b 3 := c3
  have d4 : nn (addL a b) 4 = nn a 4 + nn b 4 := c4
  refine ⟨⟨by omega, by omega, by omega, by omega, by omega⟩, ?_⟩
  unfold val
  rw [d0, d1, d2, d3, d4]
  simp only [X1, X2, X3, X4]
  omega
theorem sub_val {a b : List UInt64} (ha : Small a) (hb : Small b) : Mid (subL a b) ∧ val (subL a b) + val b = val a + 2 * PP := by
  obtain ⟨a0, a1, a2, a3, a4⟩ := ha
  obtain ⟨b0, b1, b2, b3, b4⟩ := hb
  have c : ∀ i m, m = 4503599627370458 ∨ m = 4503599627370494 → nn a i < 2251799813750784 → nn b i < 2251799813750784 → (g a i + (UInt64.ofNat m - g b i)).toNat = nn a i + (m - nn b i) := fun i m hm h1 h2 => by
    have e : (UInt64.ofNat m).toNat = m := by rw [UInt64.toNat_ofNat']; rcases hm with rfl | rfl <;> rfl
    rw [UInt64.toNat_add, UInt64.toNat_sub, e, nn_eq, nn_eq]; omega
  have d0 : nn (subL a b) 0 = nn a 0 + (4503599627370458 - nn b 0) := c 0 _ (.inl rfl) a0 b0
  have d1 : nn (subL a b) 1 = nn a 1 + (4503599627370494 - nn b 1) := c 1 _ (.inr rfl) a1 b1
  have d2 : nn (subL a b) 2 = nn a 2 + (4503599627370494 - nn b 2) := c 2 _ (.inr rfl) a2 b2
  have d3 : nn (subL a b) 3 = nn a 3 + (4503599627370494 - nn b 3) := c 3 _ (.inr rfl) a3 b3
  have d4 : nn (subL a b) 4 = nn a 4 + (4503599627370494 - nn b 4) := c 4 _ (.inr rfl) a4 b4
  refine ⟨⟨by omega, by omega, by omega, by omega, by omega⟩, ?_⟩
  unfold val
  rw [d0, d1, d2, d3, d4]
  simp only [X1, X2, X3, X4, PP]
  omega
theorem Small.mid {a : List UInt64} (h : Small a) : Mid a := by
  obtain ⟨a0, a1, a2, a3, a4⟩ := h
  exact ⟨by omega, by omega, by omega, by omega, by omega⟩
end Go.Cur
