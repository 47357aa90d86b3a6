/- Steps towards HandshakeAgreesSaid. -/
import Derived.Test.YtiogdokekibeiaaJKdfSpec
import Derived.Test.YtiogdokekibeiaaJCufSpec
/- A step towards HandshakeAgreesSaid: no conditions. -/

/-! what the limbs mean -/
namespace Go.Cur
open Go Go.Eng Go.Cod Go.Pol
abbrev PP : Nat := 57896044618658097711785492504343953926634992332820282019728792003956564819949
abbrev X1 : Nat := 2251799813685248
abbrev X2 : Nat := 5070602400912917605986812821504
abbrev X3 : Nat := 11417981541647679048466287755595961091061972992
abbrev X4 : Nat := 25711008708143844408671393477458601640355247900524685364822016
def nn (a : List UInt64) (i : Nat) : Nat := (g a i).toNat
theorem nn_eq (a : List UInt64) (i : Nat) : (g a i).toNat = nn a i := rfl
theorem nn_lt (a : List UInt64) (i : Nat) : nn a i < 18446744073709551616 := (g a i).toNat_lt
def val (a : List UInt64) : Nat := nn a 0 + X1 * nn a 1 + X2 * nn a 2 + X3 * nn a 3 + X4 * nn a 4
/-- limbs below a bound -/
def Lt (m : Nat) (a : List UInt64) : Prop := nn a 0 < m ∧ nn a 1 < m ∧ nn a 2 < m ∧ nn a 3 < m ∧ nn a 4 < m
abbrev Small := Lt 2251799813750784
abbrev Mid := Lt 9007199254740992
theorem and51 (x : UInt64) : (x &&& UInt64.ofNat 2251799813685247).toNat = x.toNat % 2251799813685248 := by
  rw [UInt64.toNat_and]
  exact Nat.and_two_pow_sub_one_eq_mod x.toNat 51
theorem shr51 (x : UInt64) : (shr64 x 51).toNat = x.toNat / 2251799813685248 := by rw [Cod.shr64_toNat]
theorem t5 (a0 a1 a2 a3 a4 b0 b1 b2 b3 b4 : Nat) : (a0 + X1 * a1 + X2 * a2 + X3 * a3 + X4 * a4) * (b0 + X1 * b1 + X2 * b2 + X3 * b3 + X4 * b4) =
    (a0 * b0 + 19 * (a1 * b4) + 19 * (a2 * b3) + 19 * (a3 * b2) + 19 * (a4 * b1)) + X1 * (a0 * b1 + a1 * b0 + 19 * (a2 * b4) + 19 * (a3 * b3) + 19 * (a4 * b2)) + X2 * (a0 * b2 + a1 * b1 + a2 * b0 + 19 * (a3 * b4) + 19 * (a4 * b3)) +
      X3 * (a0 * b3 + a1 * b2 + a2 * b1 + a3 * b0 + 19 * (a4 * b4)) + X4 * (a0 * b4 + a1 * b3 + a2 * b2 + a3 * b1 + a4 * b0) +
      PP * ((a1 * b4 + a2 * b3 + a3 * b2 + a4 * b1) + X1 * (a2 * b4 + a3 * b3 + a4 * b2) + X2 * (a3 * b4 + a4 * b3) + X3 * (a4 * b4)) := by
  simp only [X1, X2, X3, X4, PP]
  grind
theorem car_nn {a : List UInt64} (hb : nn a 4 / X1 ≤ 3000) : nn (carL a) 0 = nn a 0 % X1 + 19 * (nn a 4 / X1) ∧ nn (carL a) 1 = nn a 1 % X1 + nn a 0 / X1 ∧ nn (carL a) 2 = nn a 2 % X1 + nn a 1 / X1 ∧ nn (carL a) 3 = nn a 3 % X1 + nn a 2 / X1 ∧ nn (carL a) 4 = nn a 4 % X1 + nn a 3 / X1 := by
  have l0 := nn_lt a 0
  have l1 := nn_lt a 1
  have l2 := nn_lt a 2
  have l3 := nn_lt a 3
  have c0 : nn (carL a) 0 = nn a 0 % X1 + 19 * (nn a 4 / X1) := by
    show ((g a 0 &&& UInt64.ofNat 2251799813685247) + UInt64.ofNat 19 * shr64 (g a 4) 51).toNat = _
    rw [UInt64.toNat_add, UInt64.toNat_mul, and51, shr51, show (UInt64.ofNat 19).toNat = 19 from rfl]
    simp only [X1, nn_eq] at *; omega
  have c1 : nn (carL a) 1 = nn a 1 % X1 + nn a 0 / X1 := by
    show ((g a 1 &&& UInt64.ofNat 2251799813685247) + shr64 (g a 0) 51).toNat = _
    rw [UInt64.toNat_add, and51, shr51]
    simp only [X1, nn_eq] at *; omega
  have c2 : nn (carL a) 2 = nn a 2 % X1 + nn a 1 / X1 := by
    show ((g a 2 &&& UInt64.ofNat 2251799813685247) + shr64 (g a 1) 51).toNat = _
    rw [UInt64.toNat_add, and51, shr51]
    simp only [X1, nn_eq] at *; omega
  have c3 : nn (carL a) 3 = nn a 3 % X1 + nn a 2 / X1 := by
    show ((g a 3 &&& UInt64.ofNat 2251799813685247) + shr64 (g a 2) 51).toNat = _
    rw [UInt64.toNat_add, and51, shr51]
    simp only [X1, nn_eq] at *; omega
  have c4 : nn (carL a) 4 = nn a 4 % X1 + nn a 3 / X1 := by
    show ((g a 4 &&& UInt64.ofNat 2251799813685247) + shr64 (g a 3) 51).toNat = _
    rw [UInt64.toNat_add, and51, shr51]
    simp only [X1, nn_eq] at *; omega
  exact ⟨c0, c1, c2, c3, c4⟩
/-- carrying keeps the number, and makes the limbs small -/
theorem car_val {a : List UInt64} (hb : nn a 4 / X1 ≤ 3000) :
    Small (carL a) ∧ val a = val (carL a) + PP * (nn a 4 / X1) := by
  have l0 := nn_lt a 0
  have l1 := nn_lt a 1
  have l2 := nn_lt a 2
  have l3 := nn_lt a 3
  obtain ⟨c0, c1, c2, c3, c4⟩ := car_nn hb
  refine ⟨?_, ?_⟩
  · refine ⟨?_, ?_, ?_, ?_, ?_⟩ <;> simp only [c0, c1, c2, c3, c4, X1] at * <;> omega
  · unfold val
    rw [c0, c1, c2, c3, c4]
    simp only [X1, X2, X3, X4, PP] at *
    omega
theorem lo51_nat (n : Nat) : (lo51 n).toNat = n % 2251799813685248 := by
  unfold lo51
  rw [and51, u_nat]
  simp only [D64]; omega
theorem hi51_nat {n : Nat} (h : n < 41538374868278621028243970633760768) : (hi51 n).toNat = n / 2251799813685248 := by
  unfold hi51
  rw [UInt64.toNat_or, Cod.shl64_toNat, shr51, u_nat, u_nat]
  simp only [D64]
  have e1 : n / 18446744073709551616 % 18446744073709551616 * 2 ^ 13 % 18446744073709551616 = (n / 18446744073709551616) * 2 ^ 13 := by omega
  have e2 : n % 18446744073709551616 / 2251799813685248 < 2 ^ 13 := by omega
  rw [e1]
  have := Nat.shiftLeft_add_eq_or_of_lt (a := n / 18446744073709551616) e2
  rw [Nat.shiftLeft_eq] at this
  rw [← this]
  omega
theorem mulb {x y m n : Nat} (h1 : x < m) (h2 : y < n) : x * y < m * n := Nat.mul_lt_mul'' h1 h2
theorem mul19 {a : List UInt64} {i : Nat} (h : nn a i < 9007199254740992) : (UInt64.ofNat 19 * g a i).toNat = 19 * nn a i := by
  rw [UInt64.toNat_mul, show (UInt64.ofNat 19).toNat = 19 from rfl, nn_eq]; omega
theorem mul_val {a b : List UInt64} (ha : Mid a) (hb : Mid b) : Small (mulL a b) ∧ val (mulL a b) % PP = val a * val b % PP := by
  obtain ⟨a0, a1, a2, a3, a4⟩ := ha
  obtain ⟨b0, b1, b2, b3, b4⟩ := hb
  have m : ∀ {i j : Nat}, nn a i < 9007199254740992 → nn b j < 9007199254740992 → nn a i * nn b j < 81129638414606681695789005144064 := fun h1 h2 => mulb h1 h2
  have e0 : s0 a b = nn a 0 * nn b 0 + 19 * (nn a 1 * nn b 4) + 19 * (nn a 2 * nn b 3) + 19 * (nn a 3 * nn b 2) + 19 * (nn a 4 * nn b 1) := by
    unfold s0 pr pn; rw [mul19 a1, mul19 a2, mul19 a3, mul19 a4]; simp only [nn_eq, Nat.mul_assoc, Nat.add_assoc]
  have e1 : s1 a b = nn a 0 * nn b 1 + nn a 1 * nn b 0 + 19 * (nn a 2 * nn b 4) + 19 * (nn a 3 * nn b 3) + 19 * (nn a 4 * nn b 2) := by
    unfold s1 pr pn; rw [mul19 a2, mul19 a3, mul19 a4]; simp only [nn_eq, Nat.mul_assoc, Nat.add_assoc]
  have e2 : s2 a b = nn a 0 * nn b 2 + nn a 1 * nn b 1 + nn a 2 * nn b 0 + 19 * (nn a 3 * nn b 4) + 19 * (nn a 4 * nn b 3) := by
    unfold s2 pr pn; rw [mul19 a3, mul19 a4]; simp only [nn_eq, Nat.mul_assoc, Nat.add_assoc]
  have e3 : s3 a b = nn a 0 * nn b 3 + nn a 1 * nn b 2 + nn a 2 * nn b 1 + nn a 3 * nn b 0 + 19 * (nn a 4 * nn b 4) := by
    unfold s3 pr pn; rw [mul19 a4]; simp only [nn_eq, Nat.mul_assoc, Nat.add_assoc]
  have e4 : s4 a b = nn a 0 * nn b 4 + nn a 1 * nn b 3 + nn a 2 * nn b 2 + nn a 3 * nn b 1 + nn a 4 * nn b 0 := by
    unfold s4 pr; simp only [nn_eq, Nat.add_assoc]
  have key := t5 (nn a 0) (nn a 1) (nn a 2) (nn a 3) (nn a 4) (nn b 0) (nn b 1) (nn b 2) (nn b 3) (nn b 4)
  rw [← e0, ← e1, ← e2, ← e3, ← e4] at key
  generalize hq : (nn a 1 * nn b 4 + nn a 2 * nn b 3 + nn a 3 * nn b 2 + nn a 4 * nn b 1) + X1 * (nn a 2 * nn b 4 + nn a 3 * nn b 3 + nn a 4 * nn b 2) + X2 * (nn a 3 * nn b 4 + nn a 4 * nn b 3) + X3 * (nn a 4 * nn b 4) = q at key
  have f0 : s0 a b < 7000000000000000000000000000000000 := by
    rw [e0]; have := m a0 b0; have := m a1 b4; have := m a2 b3; have := m a3 b2; have := m a4 b1; omega
  have f1 : s1 a b < 7000000000000000000000000000000000 := by
    rw [e1]; have := m a0 b1; have := m a1 b0; have := m a2 b4; have := m a3 b3; have := m a4 b2; omega
  have f2 : s2 a b < 7000000000000000000000000000000000 := by
    rw [e2]; have := m a0 b2; have := m a1 b1; have := m a2 b0; have := m a3 b4; have := m a4 b3; omega
  have f3 : s3 a b < 3000000000000000000000000000000000 := by
    rw [e3]; have := m a0 b3; have := m a1 b2; have := m a2 b1; have := m a3 b0; have := m a4 b4; omega
  have f4 : s4 a b < 500000000000000000000000000000000 := by
    rw [e4]; have := m a0 b4; have := m a1 b3; have := m a2 b2; have := m a3 b1; have := m a4 b0; omega
  clear e0 e1 e2 e3 e4 hq
  generalize hw : [lo51 (s0 a b) + UInt64.ofNat 19 * hi51 (s4 a b), lo51 (s1 a b) + hi51 (s0 a b), lo51 (s2 a b) + hi51 (s1 a b), lo51 (s3 a b) + hi51 (s2 a b), lo51 (s4 a b) + hi51 (s3 a b)] = w
  have hm : mulL a b = carL w := by rw [← hw]; rfl
  have w0 : nn w 0 = s0 a b % X1 + 19 * (s4 a b / X1) := by
    rw [← hw]
    show (lo51 (s0 a b) + UInt64.ofNat 19 * hi51 (s4 a b)).toNat = _
    rw [UInt64.toNat_add, UInt64.toNat_mul, lo51_nat, hi51_nat (by omega), show (UInt64.ofNat 19).toNat = 19 from rfl]
    simp only [X1]; omega
  have w1 : nn w 1 = s1 a b % X1 + s0 a b / X1 := by
    rw [← hw]
    show (lo51 (s1 a b) + hi51 (s0 a b)).toNat = _
    rw [UInt64.toNat_add, lo51_nat, hi51_nat (by omega)]
    simp only [X1]; omega
  have w2 : nn w 2 = s2 a b % X1 + s1 a b / X1 := by
    rw [← hw]
    show (lo51 (s2 a b) + hi51 (s1 a b)).toNat = _
    rw [UInt64.toNat_add, lo51_nat, hi51_nat (by omega)]
    simp only [X1]; omega
  have w3 : nn w 3 = s3 a b % X1 + s2 a b / X1 := by
    rw [← hw]
    show (lo51 (s3 a b) + hi51 (s2 a b)).toNat = _
    rw [UInt64.toNat_add, lo51_nat, hi51_nat (by omega)]
    simp only [X1]; omega
  have w4 : nn w 4 = s4 a b % X1 + s3 a b / X1 := by
    rw [← hw]
    show (lo51 (s4 a b) + hi51 (s3 a b)).toNat = _
    rw [UInt64.toNat_add, lo51_nat, hi51_nat (by omega)]
    simp only [X1]; omega
  have hv : s0 a b + X1 * s1 a b + X2 * s2 a b + X3 * s3 a b + X4 * s4 a b = val w + PP * (s4 a b / X1) := by
    unfold val
    rw [w0, w1, w2, w3, w4]
    simp only [X1, X2, X3, X4, PP]
    omega
  obtain ⟨k1, k2⟩ := car_val (a := w) (by rw [w4]; simp only [X1]; omega)
  rw [hm]
  refine ⟨k1, ?_⟩
  show _ = (nn a 0 + X1 * nn a 1 + X2 * nn a 2 + X3 * nn a 3 + X4 * nn a 4) * (nn b 0 + X1 * nn b 1 + X2 * nn b 2 + X3 * nn b 3 + X4 * nn b 4) % PP
  rw [key, hv, k2, Nat.add_assoc, Nat.add_assoc, ← Nat.mul_add, ← Nat.mul_add, Nat.add_mul_mod_self_left]
theorem add_val {a b : List UInt64} (ha : Small a) (hb : Small b) : Mid (addL a b) ∧ val (addL a b) = val a + val b := by
  obtain ⟨a0, a1, a2, a3, a4⟩ := ha
  obtain ⟨b0, b1, b2, b3, b4⟩ := hb
  have c : ∀ i, nn a i < 2251799813750784 → nn b i < 2251799813750784 → (g a i + g b i).toNat = nn a i + nn b i := fun i h1 h2 => by
    rw [UInt64.toNat_add, nn_eq, nn_eq]; omega
  have c0 := c 0 a0 b0
  have c1 := c 1 a1 b1
  have c2 := c 2 a2 b2
  have c3 := c 3 a3 b3
  have c4 := c 4 a4 b4
  have d0 : nn (addL a b) 0 = nn a 0 + nn b 0 := c0
  have d1 : nn (addL a b) 1 = nn a 1 + nn b 1 := c1
  have d2 : nn (addL a b) 2 = nn a 2 + nn b 2 := c2
  have d3 : nn (addL a b) 3 = nn a 3 + nn b 3 := c3
  have d4 : nn (addL a b) 4 = nn a 4 + nn b 4 := c4
  refine ⟨⟨by omega, by omega, by omega, by omega, by omega⟩, ?_⟩
  unfold val
  rw [d0, d1, d2, d3, d4]
  simp only [X1, X2, X3, X4]
  omega
theorem sub_val {a b : List UInt64} (ha : Small a) (hb : Small b) : Mid (subL a b) ∧ val (subL a b) + val b = val a + 2 * PP := by
  obtain ⟨a0, a1, a2, a3, a4⟩ := ha
  obtain ⟨b0, b1, b2, b3, b4⟩ := hb
  have c : ∀ i m, m = 4503599627370458 ∨ m = 4503599627370494 → nn a i < 2251799813750784 → nn b i < 2251799813750784 → (g a i + (UInt64.ofNat m - g b i)).toNat = nn a i + (m - nn b i) := fun i m hm h1 h2 => by
    have e : (UInt64.ofNat m).toNat = m := by rw [UInt64.toNat_ofNat']; rcases hm with rfl | rfl <;> rfl
    rw [UInt64.toNat_add, UInt64.toNat_sub, e, nn_eq, nn_eq]; omega
  have d0 : nn (subL a b) 0 = nn a 0 + (4503599627370458 - nn b 0) := c 0 _ (.inl rfl) a0 b0
  have d1 : nn (subL a b) 1 = nn a 1 + (4503599627370494 - nn b 1) := c 1 _ (.inr rfl) a1 b1
  have d2 : nn (subL a b) 2 = nn a 2 + (4503599627370494 - nn b 2) := c 2 _ (.inr rfl) a2 b2
  have d3 : nn (subL a b) 3 = nn a 3 + (4503599627370494 - nn b 3) := c 3 _ (.inr rfl) a3 b3
  have d4 : nn (subL a b) 4 = nn a 4 + (4503599627370494 - nn b 4) := c 4 _ (.inr rfl) a4 b4
  refine ⟨⟨by omega, by omega, by omega, by omega, by omega⟩, ?_⟩
  unfold val
  rw [d0, d1, d2, d3, d4]
  simp only [X1, X2, X3, X4, PP]
  omega
theorem Small.mid {a : List UInt64} (h : Small a) : Mid a := by
  obtain ⟨a0, a1, a2, a3, a4⟩ := h
  exact ⟨by omega, by omega, by omega, by omega, by omega⟩
end Go.Cur

/- A step towards HandshakeAgreesSaid: no conditions. -/

namespace Go.Cur
open Go Go.Eng Go.Cod Go.Pol
/-! the ladder over numbers modulo 2^255 - 19 -/
def fm (x y : Nat) : Nat := x * y % PP
def fa (x y : Nat) : Nat := (x + y) % PP
def fs (x y : Nat) : Nat := (x + 2 * PP - y) % PP
structure LN where
  x2 : Nat
  z2 : Nat
  x3 : Nat
  z3 : Nat
  last : UInt8
def swN (k : UInt8) (l : LN) : LN := if k = l.last then l else ⟨l.x3, l.z3, l.x2, l.z2, l.last⟩
def stN (x1 : Nat) (k : UInt8) (l : LN) : LN :=
  ⟨fm (fm (fa l.x2 l.z2) (fa l.x2 l.z2)) (fm (fs l.x2 l.z2) (fs l.x2 l.z2)),
   fm (fa (fm (fs (fm (fa l.x2 l.z2) (fa l.x2 l.z2)) (fm (fs l.x2 l.z2) (fs l.x2 l.z2))) 121665) (fm (fa l.x2 l.z2) (fa l.x2 l.z2))) (fs (fm (fa l.x2 l.z2) (fa l.x2 l.z2)) (fm (fs l.x2 l.z2) (fs l.x2 l.z2))),
   fm (fa (fm (fs l.x3 l.z3) (fa l.x2 l.z2)) (fm (fa l.x3 l.z3) (fs l.x2 l.z2))) (fa (fm (fs l.x3 l.z3) (fa l.x2 l.z2)) (fm (fa l.x3 l.z3) (fs l.x2 l.z2))),
   fm (fm (fs (fm (fs l.x3 l.z3) (fa l.x2 l.z2)) (fm (fa l.x3 l.z3) (fs l.x2 l.z2))) (fs (fm (fs l.x3 l.z3) (fa l.x2 l.z2)) (fm (fa l.x3 l.z3) (fs l.x2 l.z2)))) x1,
   k⟩
def ladN (n : List UInt8) (x1 : Nat) : Nat → LN
  | 0 => ⟨1, 0, x1, 1, 0⟩
  | i + 1 => stN x1 (bitL n (254 - i)) (swN (bitL n (254 - i)) (ladN n x1 i))
def powN (a : Nat) : Nat → Nat
  | 0 => 1
  | n + 1 => if (254 - n = 2 ∨ 254 - n = 4) then fm (powN a n) (powN a n) else fm (fm (powN a n) (powN a n)) a
def endN (l : LN) : Nat := if l.last = UInt8.ofNat 1 then fm l.x3 (powN l.z3 255) else fm l.x2 (powN l.z2 255)
def keyN (s : List UInt8) (x : Nat) : Nat := endN (ladN (clampL s) x 255)
/-- a number of 32 bytes -/
def outN (n : Nat) : List UInt8 := littleL (u n) 8 ++ (littleL (u (n / D64)) 8 ++ (littleL (u (n / D128)) 8 ++ littleL (u (n / D192)) 8))

def RS (a : List UInt64) (n : Nat) : Prop := Small a ∧ val a % PP = n
def RM (a : List UInt64) (n : Nat) : Prop := Mid a ∧ val a % PP = n
theorem RS.mid {a : List UInt64} {n : Nat} (h : RS a n) : RM a n := ⟨h.1.mid, h.2⟩
theorem r_mul {a b : List UInt64} {x y : Nat} (ha : RM a x) (hb : RM b y) : RS (mulL a b) (fm x y) := by
  obtain ⟨h1, rfl⟩ := ha
  obtain ⟨h2, rfl⟩ := hb
  obtain ⟨k1, k2⟩ := mul_val h1 h2
  exact ⟨k1, by rw [k2]; unfold fm; rw [← Nat.mul_mod]⟩
theorem r_add {a b : List UInt64} {x y : Nat} (ha : RS a x) (hb : RS b y) : RM (addL a b) (fa x y) := by
  obtain ⟨h1, rfl⟩ := ha
  obtain ⟨h2, rfl⟩ := hb
  obtain ⟨k1, k2⟩ := add_val h1 h2
  exact ⟨k1, by rw [k2]; unfold fa; rw [← Nat.add_mod]⟩
theorem r_sub {a b : List UInt64} {x y : Nat} (ha : RS a x) (hb : RS b y) : RM (subL a b) (fs x y) := by
  obtain ⟨h1, rfl⟩ := ha
  obtain ⟨h2, rfl⟩ := hb
  obtain ⟨k1, k2⟩ := sub_val h1 h2
  refine ⟨k1, ?_⟩
  unfold fs
  simp only [PP] at *
  omega
theorem r_one : RS oneL 1 := by
  refine ⟨⟨?_, ?_, ?_, ?_, ?_⟩, ?_⟩ <;> decide
theorem r_zero : RS zeroL 0 := by
  refine ⟨⟨?_, ?_, ?_, ?_, ?_⟩, ?_⟩ <;> decide
theorem r_a24 : RM [UInt64.ofNat 121665, 0, 0, 0, 0] 121665 := by
  refine ⟨⟨?_, ?_, ?_, ?_, ?_⟩, ?_⟩ <;> decide
structure RL (l : Lad) (n : LN) : Prop where
  x2 : RS l.x2 n.x2
  z2 : RS l.z2 n.z2
  x3 : RS l.x3 n.x3
  z3 : RS l.z3 n.z3
  last : l.last = n.last
theorem r_sw {l : Lad} {n : LN} (h : RL l n) (k : UInt8) : RL (swL k l) (swN k n) := by
  unfold swL swN
  rw [h.last]
  split
  · exact h
  · exact ⟨h.x3, h.z3, h.x2, h.z2, rfl⟩
theorem r_st {l : Lad} {n : LN} {x1 : List UInt64} {x : Nat} (h : RL l n) (hx : RM x1 x) (k : UInt8) : RL (stL x1 k l) (stN x k n) := by
  have a := r_add h.x2 h.z2
  have b := r_sub h.x2 h.z2
  have aa := r_mul a a
  have bb := r_mul b b
  have e := r_sub aa bb
  have da := r_mul (r_sub h.x3 h.z3) a
  have cb := r_mul (r_add h.x3 h.z3) b
  have s := r_add da cb
  have t := r_sub da cb
  exact ⟨r_mul aa.mid bb.mid, r_mul (r_add (r_mul e r_a24) aa) e, r_mul s s, r_mul (r_mul t t).mid hx, rfl⟩
theorem r_lad {x1 : List UInt64} {x : Nat} (hx : RS x1 x) (n : List UInt8) : ∀ i, RL (ladL n x1 i) (ladN n x i)
  | 0 => ⟨r_one, r_zero, hx, r_one, rfl⟩
  | i + 1 => r_st (r_sw (r_lad hx n i) _) hx.mid _
theorem r_inv {a : List UInt64} {x : Nat} (ha : RM a x) : ∀ n, RS (invN a n) (powN x n)
  | 0 => r_one
  | n + 1 => by
    have ih := (r_inv ha n).mid
    show RS (if _ then _ else _) (if _ then _ else _)
    split
    · exact r_mul ih ih
    · exact r_mul (r_mul ih ih).mid ha
/-! bytes -/
theorem or_add {x y : UInt64} {s t : Nat} (ht : t < 64) (h : x.toNat / 2 ^ s < 2 ^ t) : (shr64 x s ||| shl64 y t).toNat = x.toNat / 2 ^ s + y.toNat % 2 ^ (64 - t) * 2 ^ t := by
  rw [UInt64.toNat_or, Cod.shr64_toNat, Cod.shl64_toNat, Nat.or_comm]
  have e : y.toNat * 2 ^ t % 18446744073709551616 = y.toNat % 2 ^ (64 - t) * 2 ^ t := by
    rw [show (18446744073709551616 : Nat) = 2 ^ (64 - t) * 2 ^ t by rw [← Nat.pow_add, Nat.sub_add_cancel (by omega)], Nat.mul_mod_mul_right]
  rw [e]
  have := Nat.shiftLeft_add_eq_or_of_lt (a := y.toNat % 2 ^ (64 - t)) h
  rw [Nat.shiftLeft_eq] at this
  rw [← this]
  omega
theorem or_add0 {x y : UInt64} {t : Nat} (ht : t < 64) (h : x.toNat < 2 ^ t) : (x ||| shl64 y t).toNat = x.toNat + y.toNat % 2 ^ (64 - t) * 2 ^ t := by
  have e := or_add (x := x) (y := y) (s := 0) ht (by rw [Nat.pow_zero, Nat.div_one]; exact h)
  rw [Nat.pow_zero, Nat.div_one] at e
  rw [← e, UInt64.toNat_or, UInt64.toNat_or, Cod.shr64_toNat, Nat.pow_zero, Nat.div_one]
theorem wd_nat {k : List UInt8} (h : k.length = 32) (i : Nat) (hi : i ≤ 3) : (wd k i).toNat = natL ((k.drop (8 * i)).take 8) := by
  unfold wd
  exact readL_nat _ (by rw [List.length_take]; omega)
theorem nat_split {k : List UInt8} (h : k.length = 32) : natL k = natL (k.take 8) + 18446744073709551616 * natL ((k.drop 8).take 8) + 340282366920938463463374607431768211456 * natL ((k.drop 16).take 8) + 6277101735386680763835789423207666416102355444464034512896 * natL ((k.drop 24).take 8) := by
  have e : k = k.take 8 ++ ((k.drop 8).take 8 ++ ((k.drop 16).take 8 ++ (k.drop 24).take 8)) := by
    have a1 : (k.drop 24).take 8 = k.drop 24 := List.take_of_length_le (by rw [List.length_drop]; omega)
    have a2 : (k.drop 16).take 8 ++ k.drop 24 = k.drop 16 := by
      have := List.take_append_drop 8 (k.drop 16); rw [List.drop_drop] at this; exact this
    have a3 : (k.drop 8).take 8 ++ k.drop 16 = k.drop 8 := by
      have := List.take_append_drop 8 (k.drop 8); rw [List.drop_drop] at this; exact this
    rw [a1, a2, a3, List.take_append_drop]
  have l1 : (k.take 8).length = 8 := by rw [List.length_take]; omega
  have l2 : ((k.drop 8).take 8).length = 8 := by rw [List.length_take, List.length_drop]; omega
  have l3 : ((k.drop 16).take 8).length = 8 := by rw [List.length_take, List.length_drop]; omega
  have p : (256 : Nat) ^ 8 = 18446744073709551616 := rfl
  conv => lhs; rw [e]
  rw [natL_append, natL_append, natL_append, l1, l2, l3, p]
  omega
theorem nat8 {k : List UInt8} (h : k.length = 32) (i : Nat) : natL ((k.drop i).take 8) < 18446744073709551616 := by
  have h1 := natL_lt ((k.drop i).take 8)
  have h2 : ((k.drop i).take 8).length ≤ 8 := by rw [List.length_take]; omega
  exact Nat.lt_of_lt_of_le h1 (pow256_8 h2)
theorem load_val {k : List UInt8} (h : k.length = 32) : Small (loadL k) ∧ val (loadL k) = natL k % 57896044618658097711785492504343953926634992332820282019728792003956564819968 := by
  have w0 := wd_nat h 0 (by decide)
  have w1 := wd_nat h 1 (by decide)
  have w2 := wd_nat h 2 (by decide)
  have w3 := wd_nat h 3 (by decide)
  have b0 := nat8 h 0
  have b1 := nat8 h 8
  have b2 := nat8 h 16
  have b3 := nat8 h 24
  have ns := nat_split h
  rw [show List.take 8 k = (k.drop 0).take 8 from rfl] at ns
  simp only [Nat.mul_zero, show 8 * 1 = 8 from rfl, show 8 * 2 = 16 from rfl, show 8 * 3 = 24 from rfl] at w0 w1 w2 w3
  have n0 : nn (loadL k) 0 = natL ((k.drop 0).take 8) % X1 := by
    show (wd k 0 &&& UInt64.ofNat 2251799813685247).toNat = _
    rw [and51, w0]
  have n1 : nn (loadL k) 1 = (natL ((k.drop 0).take 8) / 2251799813685248 + natL ((k.drop 8).take 8) % 2251799813685248 * 8192) % X1 := by
    show ((shr64 (wd k 0) 51 ||| shl64 (wd k 1) 13) &&& UInt64.ofNat 2251799813685247).toNat = _
    rw [and51, or_add (by decide) (by rw [w0]; omega), w0, w1]
  have n2 : nn (loadL k) 2 = (natL ((k.drop 8).take 8) / 274877906944 + natL ((k.drop 16).take 8) % 274877906944 * 67108864) % X1 := by
    show ((shr64 (wd k 1) 38 ||| shl64 (wd k 2) 26) &&& UInt64.ofNat 2251799813685247).toNat = _
    rw [and51, or_add (by decide) (by rw [w1]; omega), w1, w2]
  have n3 : nn (loadL k) 3 = (natL ((k.drop 16).take 8) / 33554432 + natL ((k.drop 24).take 8) % 33554432 * 549755813888) % X1 := by
    show ((shr64 (wd k 2) 25 ||| shl64 (wd k 3) 39) &&& UInt64.ofNat 2251799813685247).toNat = _
    rw [and51, or_add (by decide) (by rw [w2]; omega), w2, w3]
  have n4 : nn (loadL k) 4 = natL ((k.drop 24).take 8) / 4096 % X1 := by
    show (shr64 (wd k 3) 12 &&& UInt64.ofNat 2251799813685247).toNat = _
    rw [and51, Cod.shr64_toNat, w3]
  generalize natL ((k.drop 0).take 8) = y0 at *
  generalize natL ((k.drop 8).take 8) = y1 at *
  generalize natL ((k.drop 16).take 8) = y2 at *
  generalize natL ((k.drop 24).take 8) = y3 at *
  refine ⟨⟨?_, ?_, ?_, ?_, ?_⟩, ?_⟩
  · rw [n0]; simp only [X1]; omega
  · rw [n1]; simp only [X1]; omega
  · rw [n2]; simp only [X1]; omega
  · rw [n3]; simp only [X1]; omega
  · rw [n4]; simp only [X1]; omega
  · unfold val
    rw [n0, n1, n2, n3, n4, ns]
    simp only [X1, X2, X3, X4]
    omega
theorem mk_nat (x : UInt64) : (mk x).toNat = x.toNat % X1 := and51 x
/-- five limbs of 51 bits as four words -/
theorem words_out {d0 d1 d2 d3 d4 : UInt64} (h0 : d0.toNat < X1) (h1 : d1.toNat < X1) (h2 : d2.toNat < X1) (h3 : d3.toNat < X1) (h4 : d4.toNat < X1) :
    bytesW [d0 ||| shl64 d1 51, shr64 d1 13 ||| shl64 d2 38, shr64 d2 26 ||| shl64 d3 25, shr64 d3 39 ||| shl64 d4 12] = outN (d0.toNat + X1 * d1.toNat + X2 * d2.toNat + X3 * d3.toNat + X4 * d4.toNat) := by
  simp only [X1] at h0 h1 h2 h3 h4
  have e0 : d0 ||| shl64 d1 51 = u (d0.toNat + X1 * d1.toNat + X2 * d2.toNat + X3 * d3.toNat + X4 * d4.toNat) := u_eq (by
    rw [or_add0 (by decide) (by omega)]; simp only [X1, X2, X3, X4, D64]; omega)
  have e1 : shr64 d1 13 ||| shl64 d2 38 = u ((d0.toNat + X1 * d1.toNat + X2 * d2.toNat + X3 * d3.toNat + X4 * d4.toNat) / D64) := u_eq (by
    rw [or_add (by decide) (by omega)]; simp only [X1, X2, X3, X4, D64]; omega)
  have e2 : shr64 d2 26 ||| shl64 d3 25 = u ((d0.toNat + X1 * d1.toNat + X2 * d2.toNat + X3 * d3.toNat + X4 * d4.toNat) / D128) := u_eq (by
    rw [or_add (by decide) (by omega)]; simp only [X1, X2, X3, X4, D64, D128]; omega)
  have e3 : shr64 d3 39 ||| shl64 d4 12 = u ((d0.toNat + X1 * d1.toNat + X2 * d2.toNat + X3 * d3.toNat + X4 * d4.toNat) / D192) := u_eq (by
    rw [or_add (by decide) (by omega)]; simp only [X1, X2, X3, X4, D64, D192]; omega)
  rw [e0, e1, e2, e3]
  rfl
theorem add_nat {x y : UInt64} (h : x.toNat + y.toNat < 18446744073709551616) : (x + y).toNat = x.toNat + y.toNat := by
  rw [UInt64.toNat_add]; omega
theorem fin_mod {n : Nat} (h : n < 2 * PP) : (n + 19 * ((n + 19) / 57896044618658097711785492504343953926634992332820282019728792003956564819968)) % 57896044618658097711785492504343953926634992332820282019728792003956564819968 = n % PP := by
  simp only [PP] at *
  by_cases c : n + 19 < 57896044618658097711785492504343953926634992332820282019728792003956564819968
  · rw [Nat.div_eq_of_lt c, Nat.mul_zero, Nat.add_zero, Nat.mod_eq_of_lt (by omega), Nat.mod_eq_of_lt (by omega)]
  · have e : (n + 19) / 57896044618658097711785492504343953926634992332820282019728792003956564819968 = 1 := by omega
    rw [e]; omega
theorem bytes_val {a : List UInt64} (h : Small a) : bytesL a = outN (val a % PP) := by
  obtain ⟨a0, a1, a2, a3, a4⟩ := h
  have hb : nn a 4 / X1 ≤ 3000 := by simp only [X1]; omega
  obtain ⟨c0, c1, c2, c3, c4⟩ := car_nn hb
  obtain ⟨_, hv⟩ := car_val hb
  unfold bytesL
  generalize carL a = c at *
  have k0 : nn c 0 ≤ 2251799813685266 := by rw [c0]; simp only [X1]; omega
  have k1 : nn c 1 ≤ 2251799813685248 := by rw [c1]; simp only [X1]; omega
  have k2 : nn c 2 ≤ 2251799813685248 := by rw [c2]; simp only [X1]; omega
  have k3 : nn c 3 ≤ 2251799813685248 := by rw [c3]; simp only [X1]; omega
  have k4 : nn c 4 ≤ 2251799813685248 := by rw [c4]; simp only [X1]; omega
  have hq : val a % PP = val c % PP := by rw [hv, Nat.add_mul_mod_self_left]
  rw [hq]
  clear c0 c1 c2 c3 c4 hv hq a0 a1 a2 a3 a4 hb
  have q0 : (shr64 (g c 0 + UInt64.ofNat 19) 51).toNat = (nn c 0 + 19) / X1 := by
    rw [shr51, add_nat (by rw [nn_eq]; simp only [show (UInt64.ofNat 19).toNat = 19 from rfl]; omega), nn_eq]; rfl
  have q1 : (shr64 (g c 1 + shr64 (g c 0 + UInt64.ofNat 19) 51) 51).toNat = (nn c 1 + (nn c 0 + 19) / X1) / X1 := by
    rw [shr51, add_nat (by rw [nn_eq, q0]; simp only [X1]; omega), nn_eq, q0]
  have q2 : (shr64 (g c 2 + shr64 (g c 1 + shr64 (g c 0 + UInt64.ofNat 19) 51) 51) 51).toNat = (nn c 2 + (nn c 1 + (nn c 0 + 19) / X1) / X1) / X1 := by
    rw [shr51, add_nat (by rw [nn_eq, q1]; simp only [X1]; omega), nn_eq, q1]
  have q3 : (shr64 (g c 3 + shr64 (g c 2 + shr64 (g c 1 + shr64 (g c 0 + UInt64.ofNat 19) 51) 51) 51) 51).toNat = (nn c 3 + (nn c 2 + (nn c 1 + (nn c 0 + 19) / X1) / X1) / X1) / X1 := by
    rw [shr51, add_nat (by rw [nn_eq, q2]; simp only [X1]; omega), nn_eq, q2]
  have q4 : (qL c).toNat = (nn c 4 + (nn c 3 + (nn c 2 + (nn c 1 + (nn c 0 + 19) / X1) / X1) / X1) / X1) / X1 := by
    unfold qL
    rw [shr51, add_nat (by rw [nn_eq, q3]; simp only [X1]; omega), nn_eq, q3]
  have qv : (qL c).toNat = (val c + 19) / 57896044618658097711785492504343953926634992332820282019728792003956564819968 := by
    rw [q4]; unfold val; simp only [X1, X2, X3, X4]; omega
  have qle : (qL c).toNat ≤ 1 := by rw [qv]; unfold val; simp only [X1, X2, X3, X4]; omega
  have r0 : (b0 c).toNat = nn c 0 + 19 * (qL c).toNat := by
    clear qv q0 q1 q2 q3 q4
    have e : (UInt64.ofNat 19 * qL c).toNat = 19 * (qL c).toNat := by
      rw [UInt64.toNat_mul, show (UInt64.ofNat 19).toNat = 19 from rfl, Nat.mod_eq_of_lt (by omega)]
    unfold b0
    rw [add_nat (by rw [nn_eq, e]; omega), nn_eq, e]
  have r1 : (b1 c).toNat = nn c 1 + (b0 c).toNat / X1 := by
    unfold b1; rw [add_nat (by rw [nn_eq, shr51, r0]; omega), nn_eq, shr51]
  have r2 : (b2 c).toNat = nn c 2 + (b1 c).toNat / X1 := by
    unfold b2; rw [add_nat (by rw [nn_eq, shr51, r1, r0]; simp only [X1]; omega), nn_eq, shr51]
  have r3 : (b3 c).toNat = nn c 3 + (b2 c).toNat / X1 := by
    unfold b3; rw [add_nat (by rw [nn_eq, shr51, r2, r1, r0]; simp only [X1]; omega), nn_eq, shr51]
  have r4 : (b4 c).toNat = nn c 4 + (b3 c).toNat / X1 := by
    unfold b4; rw [add_nat (by rw [nn_eq, shr51, r3, r2, r1, r0]; simp only [X1]; omega), nn_eq, shr51]
  have hw := words_out (d0 := mk (b0 c)) (d1 := mk (b1 c)) (d2 := mk (b2 c)) (d3 := mk (b3 c)) (d4 := mk (b4 c)) (by rw [mk_nat]; exact Nat.mod_lt _ (by decide)) (by rw [mk_nat]; exact Nat.mod_lt _ (by decide)) (by rw [mk_nat]; exact Nat.mod_lt _ (by decide)) (by rw [mk_nat]; exact Nat.mod_lt _ (by decide)) (by rw [mk_nat]; exact Nat.mod_lt _ (by decide))
  refine hw.trans (congrArg outN ?_)
  rw [mk_nat, mk_nat, mk_nat, mk_nat, mk_nat]
  have hsum : (b0 c).toNat % X1 + X1 * ((b1 c).toNat % X1) + X2 * ((b2 c).toNat % X1) + X3 * ((b3 c).toNat % X1) + X4 * ((b4 c).toNat % X1) = (val c + 19 * (qL c).toNat) % 57896044618658097711785492504343953926634992332820282019728792003956564819968 := by
    unfold val
    simp only [X1, X2, X3, X4] at *
    omega
  have hv : val c < 2 * PP := by unfold val; simp only [X1, X2, X3, X4, PP]; omega
  rw [hsum, qv]
  exact fin_mod hv
theorem key_val {s p : List UInt8} (hp : p.length = 32) : keyL s p = outN (keyN s (natL p % 57896044618658097711785492504343953926634992332820282019728792003956564819968 % PP)) := by
  obtain ⟨l1, l2⟩ := load_val hp
  have hx : RS (loadL p) (natL p % 57896044618658097711785492504343953926634992332820282019728792003956564819968 % PP) := ⟨l1, by rw [l2]⟩
  have hl := r_lad hx (clampL s) 255
  unfold keyL keyN endL endN
  rw [hl.last]
  split
  · obtain ⟨m1, m2⟩ := r_mul hl.x3.mid (r_inv hl.z3.mid 255).mid
    rw [bytes_val m1, m2]
  · obtain ⟨m1, m2⟩ := r_mul hl.x2.mid (r_inv hl.z2.mid 255).mid
    rw [bytes_val m1, m2]
end Go.Cur

/- A step towards HandshakeAgreesSaid: no conditions. -/

namespace Go.Cur
open Go Go.Eng Go.Cod Go.Pol
/-! bits of signed numbers -/
theorem iand_nat (x : Int) (m : Nat) (hm : m < 9223372036854775808) : iand x (m : Int) = (((x % 18446744073709551616).toNat &&& m : Nat) : Int) := by
  unfold iand
  have h1 : (BitVec.ofInt 64 (m : Int)).toNat = m := by
    rw [BitVec.toNat_ofInt]
    show ((m : Int) % ((2 ^ 64 : Nat) : Int)).toNat = m
    omega
  have h2 : (BitVec.ofInt 64 x).toNat = (x % 18446744073709551616).toNat := by
    rw [BitVec.toNat_ofInt]; rfl
  have h3 : (BitVec.ofInt 64 x &&& BitVec.ofInt 64 (m : Int)).toNat = (x % 18446744073709551616).toNat &&& m := by
    rw [BitVec.toNat_and, h1, h2]
  have h4 : (x % 18446744073709551616).toNat &&& m ≤ m := Nat.and_le_right
  rw [BitVec.toInt_eq_toNat_of_lt (by rw [h3]; omega), h3]
theorem iand1 (x : Int) : iand x 1 = x % 2 := by
  have := iand_nat x 1 (by decide)
  rw [show ((1 : Nat) : Int) = 1 from rfl] at this
  rw [this, Nat.and_two_pow_sub_one_eq_mod _ 1]; omega
theorem iand16 (x : Int) : iand x 65535 = x % 65536 := by
  have := iand_nat x 65535 (by decide)
  rw [show ((65535 : Nat) : Int) = 65535 from rfl] at this
  rw [this, Nat.and_two_pow_sub_one_eq_mod _ 16]; omega
theorem iand15 (x : Int) : iand x 32767 = x % 32768 := by
  have := iand_nat x 32767 (by decide)
  rw [show ((32767 : Nat) : Int) = 32767 from rfl] at this
  rw [this, Nat.and_two_pow_sub_one_eq_mod _ 15]; omega
theorem ior8 (a b : Nat) (ha : a < 256) (hb : b < 256) : ior (a : Int) ((b : Int) * 2 ^ 8) = ((a + 256 * b : Nat) : Int) := by
  unfold ior
  have h1 : (BitVec.ofInt 64 (a : Int)).toNat = a := by
    rw [BitVec.toNat_ofInt]
    show ((a : Int) % ((2 ^ 64 : Nat) : Int)).toNat = a
    omega
  have h2 : (BitVec.ofInt 64 ((b : Int) * 2 ^ 8)).toNat = b * 256 := by
    rw [BitVec.toNat_ofInt]
    show (((b : Int) * 2 ^ 8) % ((2 ^ 64 : Nat) : Int)).toNat = b * 256
    omega
  have h3 : (BitVec.ofInt 64 (a : Int) ||| BitVec.ofInt 64 ((b : Int) * 2 ^ 8)).toNat = a + 256 * b := by
    rw [BitVec.toNat_or, h1, h2, Nat.or_comm]
    have := Nat.shiftLeft_add_eq_or_of_lt (a := b) (b := a) (i := 8) (by omega)
    rw [Nat.shiftLeft_eq] at this
    rw [← this]
    omega
  rw [BitVec.toInt_eq_toNat_of_lt (by rw [h3]; omega), h3]
/-! ranges -/
theorem ev_range : ∀ (l : List Int), (∀ j, 0 ≤ d l j ∧ d l j ≤ 65535) → 0 ≤ ev l ∧ ev l < 65536 ^ l.length
  | [], _ => by simp [ev]
  | x :: r, h => by
    have h0 := h 0
    have ih := ev_range r (fun j => h (j + 1))
    have e0 : d (x :: r) 0 = x := rfl
    rw [e0] at h0
    show 0 ≤ x + 65536 * ev r ∧ x + 65536 * ev r < 65536 ^ (r.length + 1)
    rw [Int.pow_succ]
    generalize (65536 : Int) ^ r.length = p at *
    omega
theorem ev_cons {f : List Int} {n : Nat} (hl : f.length = n + 1) : ev f = d f 0 + 65536 * ev (f.drop 1) := by
  match f, hl with
  | x :: r, _ => rfl
theorem d_drop {f : List Int} (n j : Nat) : d (f.drop n) j = d f (j + n) := by
  unfold d; rw [List.getD_eq_getElem?_getD, List.getElem?_drop, List.getD_eq_getElem?_getD, Nat.add_comm]
theorem tail_range {f : List Int} (hl : f.length = 16) (h : ∀ j, 1 ≤ j → 0 ≤ d f j ∧ d f j ≤ 65535) : 0 ≤ ev (f.drop 1) ∧ ev (f.drop 1) < 1766847064778384329583297500742918515827483896875618958121606201292619776 := by
  have := ev_range (f.drop 1) (fun j => by rw [d_drop]; exact h (j + 1) (by omega))
  rw [List.length_drop, hl] at this
  exact this
theorem Dg.nm {f : List Int} (h : Dg f) : Nm f := ⟨h.len, by have := h.all 0; omega, by have := h.all 0; omega, fun j _ => h.all j⟩
theorem Dg.range {f : List Int} (h : Dg f) : 0 ≤ ev f ∧ ev f < 115792089237316195423570985008687907853269984665640564039457584007913129639936 := by
  have := ev_range f h.all
  rw [h.len] at this
  exact this
/-- carrying once makes the digits true ones -/
theorem carR_dg {f : List Int} (h : Nm f) : Dg (carR f) ∧ ∃ c, ev (carR f) = ev f - P2 * c := by
  have h0 := h.lo
  have h1 := h.hi
  obtain ⟨n, hc⟩ := carR_nm h.len (by omega) h.rest
  obtain ⟨g1, r, g2, g3, g4⟩ := carR_dig h.len (m := B17) (by decide) h.bd
  have e := carR_ev h.len
  have t0 := tail_range h.len h.rest
  have t1 := tail_range n.len g1
  have v0 := ev_cons h.len
  have v1 := ev_cons n.len
  rw [g4] at v1
  generalize d (carI f 15) 15 / 2 ^ 16 = c at *
  refine ⟨⟨n.len, fun j => ?_⟩, c, e⟩
  by_cases hj : j = 0
  · subst hj
    rw [g4]
    simp only [P2] at e
    rcases hc with rfl | rfl | rfl <;> omega
  · exact g1 j (by omega)
/-! taking the modulus away -/
theorem onceI_len (f : List Int) : ∀ i, (onceI f i).length = f.length
  | 0 => by rw [onceI, List.length_set]
  | i + 1 => by rw [onceI, onceS, List.length_set, List.length_set, onceI_len f i]
theorem mod_b {x : Int} (h : -65536 ≤ x ∧ x ≤ 65535) : x % 65536 = x + 65536 * (x / 65536 % 2) ∧ (x / 65536 % 2 = 0 ∨ x / 65536 % 2 = 1) := by omega
theorem once_inv {f : List Int} (h : Dg f) : ∀ i, i ≤ 14 → (∀ j, j < i → 0 ≤ d (onceI f i) j ∧ d (onceI f i) j ≤ 65535) ∧ (-65536 ≤ d (onceI f i) i ∧ d (onceI f i) i ≤ 65535) ∧ (∀ j, i < j → d (onceI f i) j = d f j) ∧
    ev (onceI f i) = ev f + 19 - 65536 * 65536 ^ i
  | 0, _ => by
    have h0 := h.all 0
    have l := h.len
    refine ⟨fun j hj => by omega, ?_, fun j hj => ?_, ?_⟩
    · rw [onceI, d_set (by omega)]; omega
    · rw [onceI, d_ne (by omega)]
    · rw [onceI, ev_set _ _ _ (by omega), Int.pow_zero]; omega
  | i + 1, hi => by
    obtain ⟨h1, h2, h3, h4⟩ := once_inv h i (by omega)
    have l : (onceI f i).length = 16 := by rw [onceI_len, h.len]
    have hb := h.all (i + 1)
    have hn := h3 (i + 1) (by omega)
    have c1 := mod_b h2
    have e : onceI f (i + 1) = ((onceI f i).set (i + 1) (d f (i + 1) - (65535 + d (onceI f i) i / 65536 % 2))).set i (d (onceI f i) i % 65536) := by
      show onceS (onceI f i) i = _
      unfold onceS
      rw [d_ne (by omega), hn, iand1, iand16]; rfl
    rw [e]
    refine ⟨fun j hj => ?_, ?_, fun j hj => ?_, ?_⟩
    · by_cases hji : i = j
      · subst hji
        rw [d_set (by rw [List.length_set]; omega)]; omega
      · rw [d_ne hji, d_ne (by omega)]
        exact h1 j (by omega)
    · rw [d_ne (by omega), d_set (by omega)]; omega
    · rw [d_ne (by omega), d_ne (by omega)]
      exact h3 j (by omega)
    · rw [ev_set _ _ _ (by rw [List.length_set]; omega), ev_set _ _ _ (by omega), d_ne (by omega), h4, hn, c1.1]
      have p1 : (65536 : Int) ^ (i + 1) = 65536 ^ i * 65536 := Int.pow_succ ..
      rw [p1]
      generalize (65536 : Int) ^ i = p
      grind
theorem once_ok {f : List Int} (h : Dg f) : Dg (onceR f) ∧ ev (onceR f) = if ev f < 57896044618658097711785492504343953926634992332820282019728792003956564819949 then ev f else ev f - 57896044618658097711785492504343953926634992332820282019728792003956564819949 := by
  obtain ⟨h1, h2, h3, h4⟩ := once_inv h 14 (by omega)
  have l : (onceI f 14).length = 16 := by rw [onceI_len, h.len]
  have hb := h.all 15
  have hn := h3 15 (by omega)
  have c1 := mod_b h2
  have p14 : (65536 : Int) ^ 14 = 26959946667150639794667015087019630673637144422540572481103610249216 := rfl
  have p15 : (65536 : Int) ^ 15 = 1766847064778384329583297500742918515827483896875618958121606201292619776 := rfl
  have eT : onceT (onceI f 14) = (onceI f 14).set 15 (d f 15 - (32767 + d (onceI f 14) 14 / 65536 % 2)) := by
    unfold onceT
    rw [hn, iand1]; rfl
  have d15 : d (onceT (onceI f 14)) 15 = d f 15 - (32767 + d (onceI f 14) 14 / 65536 % 2) := by rw [eT, d_set (by omega)]
  have d14 : d (onceT (onceI f 14)) 14 = d (onceI f 14) 14 := by rw [eT, d_ne (by omega)]
  have eZ : (onceT (onceI f 14)).set 14 (iand (d (onceT (onceI f 14)) 14) 65535) = ((onceI f 14).set 15 (d f 15 - (32767 + d (onceI f 14) 14 / 65536 % 2))).set 14 (d (onceI f 14) 14 % 65536) := by
    rw [d14, iand16, eT]
  have vZ : ev ((onceT (onceI f 14)).set 14 (iand (d (onceT (onceI f 14)) 14) 65535)) = ev f - 57896044618658097711785492504343953926634992332820282019728792003956564819949 := by
    rw [eZ, ev_set _ _ _ (by rw [List.length_set]; omega), ev_set _ _ _ (by omega), d_ne (by omega), h4, hn, c1.1, p14, p15]
    omega
  have lZ : ((onceT (onceI f 14)).set 14 (iand (d (onceT (onceI f 14)) 14) 65535)).length = 16 := by rw [eZ, List.length_set, List.length_set, l]
  have rZ : ∀ j, j ≠ 15 → 0 ≤ d ((onceT (onceI f 14)).set 14 (iand (d (onceT (onceI f 14)) 14) 65535)) j ∧ d ((onceT (onceI f 14)).set 14 (iand (d (onceT (onceI f 14)) 14) 65535)) j ≤ 65535 := fun j hj => by
    rw [eZ]
    by_cases h14 : j = 14
    · subst h14
      rw [d_set (by rw [List.length_set]; omega)]; omega
    · rw [d_ne (by omega), d_ne (by omega)]
      by_cases hj2 : j < 14
      · exact h1 j hj2
      · rw [h3 j (by omega)]; exact h.all j
  have sZ : d ((onceT (onceI f 14)).set 14 (iand (d (onceT (onceI f 14)) 14) 65535)) 15 = d f 15 - (32767 + d (onceI f 14) 14 / 65536 % 2) := by
    rw [eZ, d_ne (by omega), d_set (by omega)]
  have tk := ev_take ((onceT (onceI f 14)).set 14 (iand (d (onceT (onceI f 14)) 14) 65535)) 15 (by omega)
  rw [List.take_of_length_le (by omega), sZ, p15, vZ] at tk
  have rt := ev_range (((onceT (onceI f 14)).set 14 (iand (d (onceT (onceI f 14)) 14) 65535)).take 15) (fun j => by
    have e : d (((onceT (onceI f 14)).set 14 (iand (d (onceT (onceI f 14)) 14) 65535)).take 15) j = if j < 15 then d ((onceT (onceI f 14)).set 14 (iand (d (onceT (onceI f 14)) 14) 65535)) j else 0 := by
      unfold d
      rw [List.getD_eq_getElem?_getD, List.getElem?_take, List.getD_eq_getElem?_getD]
      split <;> rfl
    rw [e]
    split
    · exact rZ j (by omega)
    · omega)
  rw [List.length_take, lZ, show min 15 16 = 15 from rfl, p15] at rt
  unfold onceR
  rw [iand1, d15]
  split
  · rename_i hneg
    have : ev f < 57896044618658097711785492504343953926634992332820282019728792003956564819949 := by omega
    exact ⟨h, by rw [if_pos this]⟩
  · rename_i hneg
    have : ¬ ev f < 57896044618658097711785492504343953926634992332820282019728792003956564819949 := by omega
    refine ⟨⟨lZ, fun j => ?_⟩, by rw [if_neg this]; exact vZ⟩
    by_cases hj : j = 15
    · subst hj
      rw [sZ]; omega
    · exact rZ j hj
end Go.Cur

/- A step towards HandshakeAgreesSaid: no conditions. -/

namespace Go.Cur
open Go Go.Eng Go.Cod Go.Pol
/-! reading -/
theorem readI_len (k : List UInt8) : ∀ i, (readI k i).length = 16
  | 0 => rfl
  | i + 1 => by rw [readI, List.length_set, readI_len k i]
def dig (k : List UInt8) (i : Nat) : Nat := (k.getD (2 * i) 0).toNat + 256 * (k.getD (2 * i + 1) 0).toNat
theorem dig_lt (k : List UInt8) (i : Nat) : dig k i < 65536 := by
  have h1 := (k.getD (2 * i) 0).toNat_lt
  have h2 := (k.getD (2 * i + 1) 0).toNat_lt
  unfold dig; omega
theorem ior_dig (k : List UInt8) (i : Nat) : ior (((k.getD (2 * i) 0).toNat : Nat) : Int) (((k.getD (2 * i + 1) 0).toNat : Nat) * 2 ^ 8) = (dig k i : Int) :=
  ior8 _ _ (k.getD (2 * i) 0).toNat_lt (k.getD (2 * i + 1) 0).toNat_lt
theorem readI_d {k : List UInt8} : ∀ i, i ≤ 16 → ∀ j, d (readI k i) j = if j < i then (dig k j : Int) else 0
  | 0, _, j => by rw [if_neg (by omega)]; exact rep16 j
  | i + 1, hi, j => by
    rw [readI, ior_dig]
    by_cases h : i = j
    · subst h
      rw [d_set (by rw [readI_len]; omega), if_pos (by omega)]
    · rw [d_ne h, readI_d i (by omega) j]
      by_cases h2 : j < i
      · rw [if_pos h2, if_pos (by omega)]
      · rw [if_neg h2, if_neg (by omega)]
theorem nat_take2 {k : List UInt8} {i : Nat} (h : 2 * i + 2 ≤ k.length) : natL (k.take (2 * i + 2)) = natL (k.take (2 * i)) + 65536 ^ i * dig k i := by
  have e1 : k.take (2 * i + 2) = (k.take (2 * i) ++ [k.getD (2 * i) 0]) ++ [k.getD (2 * i + 1) 0] := by
    rw [List.take_add_one, List.take_add_one, List.getElem?_eq_getElem (by omega), List.getElem?_eq_getElem (by omega), Option.toList_some, Option.toList_some]
    rw [List.getD_eq_getElem?_getD, List.getD_eq_getElem?_getD, List.getElem?_eq_getElem (by omega), List.getElem?_eq_getElem (by omega)]; rfl
  have l1 : (k.take (2 * i)).length = 2 * i := by rw [List.length_take]; omega
  rw [e1, natL_append, natL_append, List.length_append, l1]
  have p : (256 : Nat) ^ (2 * i) = 65536 ^ i := by rw [Nat.pow_mul]
  show natL (k.take (2 * i)) + 256 ^ (2 * i) * ((k.getD (2 * i) 0).toNat + 256 * 0) + 256 ^ (2 * i + 1) * ((k.getD (2 * i + 1) 0).toNat + 256 * 0) = _
  rw [Nat.pow_succ, p]
  unfold dig
  generalize (65536 : Nat) ^ i = q
  grind
theorem readI_ev {k : List UInt8} (h : k.length = 32) : ∀ i, i ≤ 16 → ev (readI k i) = (natL (k.take (2 * i)) : Int)
  | 0, _ => by show ev (List.replicate 16 0) = _; rw [ev_rep]; rfl
  | i + 1, hi => by
    have h0 : d (readI k i) i = 0 := by rw [readI_d i (by omega) i, if_neg (by omega)]
    rw [readI, ior_dig, ev_set _ _ _ (by rw [readI_len]; omega), readI_ev h i (by omega), h0, show 2 * (i + 1) = 2 * i + 2 by omega, nat_take2 (by omega)]
    rw [Int.natCast_add, Int.natCast_mul, Int.natCast_pow]
    rw [show ((65536 : Nat) : Int) = 65536 from rfl]
    generalize (65536 : Int) ^ i = q
    grind
theorem readR_dg {k : List UInt8} (h : k.length = 32) : Dg (readR k) ∧ ev (readR k) = ((natL k % 57896044618658097711785492504343953926634992332820282019728792003956564819968 : Nat) : Int) := by
  have l := readI_len k 16
  have e15 : d (readI k 16) 15 = (dig k 15 : Int) := by rw [readI_d 16 (by omega) 15, if_pos (by omega)]
  have er : readR k = (readI k 16).set 15 ((dig k 15 : Int) % 32768) := by unfold readR; rw [e15, iand15]
  have lr : (readR k).length = 16 := by rw [er, List.length_set, l]
  have hd : Dg (readR k) := ⟨lr, fun j => by
    rw [er]
    by_cases hj : 15 = j
    · subst hj; rw [d_set (by omega)]; omega
    · rw [d_ne hj, readI_d 16 (by omega) j]
      have := dig_lt k j
      split <;> omega⟩
  refine ⟨hd, ?_⟩
  have v := readI_ev h 16 (by omega)
  rw [List.take_of_length_le (by omega)] at v
  have e : ev (readR k) = (natL k : Int) - (dig k 15 / 32768 : Nat) * 57896044618658097711785492504343953926634992332820282019728792003956564819968 := by
    rw [er, ev_set _ _ _ (by omega), v, e15]
    have p15 : (65536 : Int) ^ 15 = 1766847064778384329583297500742918515827483896875618958121606201292619776 := rfl
    rw [p15]; omega
  have tk := ev_take (readR k) 15 (by omega)
  rw [List.take_of_length_le (by omega)] at tk
  have rt := ev_range ((readR k).take 15) (fun j => by
    have e : d ((readR k).take 15) j = if j < 15 then d (readR k) j else 0 := by
      unfold d
      rw [List.getD_eq_getElem?_getD, List.getElem?_take, List.getD_eq_getElem?_getD]
      split <;> rfl
    rw [e]
    split
    · exact hd.all j
    · omega)
  have p15 : (65536 : Int) ^ 15 = 1766847064778384329583297500742918515827483896875618958121606201292619776 := rfl
  rw [List.length_take, lr, show min 15 16 = 15 from rfl, p15] at rt
  have d15 : d (readR k) 15 = (dig k 15 : Int) % 32768 := by rw [er, d_set (by omega)]
  rw [d15, p15] at tk
  omega
/-! writing -/
theorem natL_set : ∀ (l : List UInt8) (i : Nat) (x : UInt8), i < l.length → natL (l.set i x) + (l.getD i 0).toNat * 256 ^ i = natL l + x.toNat * 256 ^ i
  | [], i, x, h => by simp at h
  | y :: r, 0, x, _ => by
    show x.toNat + 256 * natL r + y.toNat * 256 ^ 0 = y.toNat + 256 * natL r + x.toNat * 256 ^ 0
    rw [Nat.pow_zero]; omega
  | y :: r, i + 1, x, h => by
    have ih := natL_set r i x (by simpa using h)
    show y.toNat + 256 * natL (r.set i x) + (r.getD i 0).toNat * 256 ^ (i + 1) = y.toNat + 256 * natL r + x.toNat * 256 ^ (i + 1)
    rw [Nat.pow_succ]
    generalize (256 : Nat) ^ i = p at *
    grind
theorem writeI_len (f : List Int) : ∀ i, (writeI f i).length = 32
  | 0 => rfl
  | i + 1 => by rw [writeI, List.length_set, List.length_set, writeI_len f i]
theorem g_set_ne {l : List UInt8} {i j : Nat} {x : UInt8} (h : i ≠ j) : (l.set i x).getD j 0 = l.getD j 0 := by
  rw [List.getD_eq_getElem?_getD, List.getElem?_set_ne h, ← List.getD_eq_getElem?_getD]
theorem writeI_z (f : List Int) : ∀ i, i ≤ 16 → ∀ j, 2 * i ≤ j → (writeI f i).getD j 0 = 0
  | 0, _, j, _ => by
    show (List.replicate 32 0).getD j 0 = 0
    rw [List.getD_eq_getElem?_getD, List.getElem?_replicate]; split <;> rfl
  | i + 1, hi, j, hj => by
    rw [writeI, g_set_ne (by omega), g_set_ne (by omega)]
    exact writeI_z f i (by omega) j (by omega)
theorem to8_nat {x : Int} (h : 0 ≤ x) : (to8 x).toNat = (x % 256).toNat := by
  unfold to8
  show (BitVec.ofInt 8 x).toNat = _
  rw [BitVec.toNat_ofInt]; rfl
theorem natL_rep : ∀ n, natL (List.replicate n 0) = 0
  | 0 => rfl
  | n + 1 => by
    show 0 + 256 * natL (List.replicate n 0) = 0
    rw [natL_rep n]
theorem writeI_nat {f : List Int} (h : Dg f) : ∀ i, i ≤ 16 → (natL (writeI f i) : Int) = ev (f.take i)
  | 0, _ => by show ((natL (List.replicate 32 0) : Nat) : Int) = 0; rw [natL_rep]; rfl
  | i + 1, hi => by
    have ih := writeI_nat h i (by omega)
    have hd := h.all i
    have l := h.len
    have s1 := natL_set (writeI f i) (2 * i) (to8 (d f i)) (by rw [writeI_len]; omega)
    have s2 := natL_set ((writeI f i).set (2 * i) (to8 (d f i))) (2 * i + 1) (to8 (d f i / 2 ^ 8)) (by rw [List.length_set, writeI_len]; omega)
    rw [writeI_z f i (by omega) (2 * i) (by omega)] at s1
    rw [g_set_ne (by omega), writeI_z f i (by omega) (2 * i + 1) (by omega)] at s2
    rw [show (0 : UInt8).toNat = 0 from rfl, Nat.zero_mul, Nat.add_zero] at s1 s2
    rw [ev_take f i (by omega), ← ih]
    show ((natL (((writeI f i).set (2 * i) (to8 (d f i))).set (2 * i + 1) (to8 (d f i / 2 ^ 8))) : Nat) : Int) = _
    rw [s2, s1, to8_nat (by omega), to8_nat (by omega)]
    have p : (256 : Nat) ^ (2 * i) = 65536 ^ i := by rw [Nat.pow_mul]
    rw [Nat.pow_succ, p]
    have e : (d f i % 256).toNat + (d f i / 2 ^ 8 % 256).toNat * 256 = (d f i).toNat := by omega
    have e2 : natL (writeI f i) + (d f i % 256).toNat * 65536 ^ i + (d f i / 2 ^ 8 % 256).toNat * (65536 ^ i * 256) = natL (writeI f i) + (d f i).toNat * 65536 ^ i := by
      rw [← e]
      generalize (65536 : Nat) ^ i = q
      grind
    rw [e2, Int.natCast_add, Int.natCast_mul, Int.natCast_pow, Int.toNat_of_nonneg (by omega)]
    rfl
theorem natL_inj : ∀ {a b : List UInt8}, a.length = b.length → natL a = natL b → a = b
  | [], [], _, _ => rfl
  | x :: r, y :: s, hl, h => by
    have h1 := x.toNat_lt
    have h2 := y.toNat_lt
    have h : x.toNat + 256 * natL r = y.toNat + 256 * natL s := h
    have e1 : x.toNat = y.toNat := by omega
    have e2 : natL r = natL s := by omega
    rw [UInt8.toNat_inj.1 e1, natL_inj (by simpa using hl) e2]
theorem outN_nat {n : Nat} (h : n < 115792089237316195423570985008687907853269984665640564039457584007913129639936) : natL (outN n) = n := by
  have p : (256 : Nat) ^ 8 = 18446744073709551616 := rfl
  unfold outN
  rw [natL_append, natL_append, natL_append, littleL_len, littleL_len, littleL_len, natL_little, natL_little, natL_little, natL_little, p, u_nat, u_nat, u_nat, u_nat]
  simp only [D64, D128, D192]
  omega
theorem outN_len (n : Nat) : (outN n).length = 32 := by
  unfold outN; simp only [List.length_append, littleL_len]
theorem writeR_val {f : List Int} (h : Nm f) : writeR f = outN (ev f % 57896044618658097711785492504343953926634992332820282019728792003956564819949).toNat := by
  obtain ⟨h1, c1, e1⟩ := carR_dg h
  obtain ⟨h2, c2, e2⟩ := carR_dg h1.nm
  obtain ⟨h3, c3, e3⟩ := carR_dg h2.nm
  obtain ⟨o1, v1⟩ := once_ok h3
  obtain ⟨o2, v2⟩ := once_ok o1
  have hr := h3.range
  have hw := writeI_nat o2 16 (by omega)
  rw [List.take_of_length_le (by rw [o2.len]; omega)] at hw
  unfold writeR
  refine natL_inj (by rw [writeI_len, outN_len]) ?_
  rw [outN_nat (by omega)]
  have e4 : ev (carR (carR (carR f))) = ev f - P2 * (c1 + c2 + c3) := by rw [e3, e2, e1]; simp only [Int.mul_add]; omega
  have r1 : ev (onceR (onceR (carR (carR (carR f))))) = ev (carR (carR (carR f))) % 57896044618658097711785492504343953926634992332820282019728792003956564819949 := by
    by_cases c : ev (carR (carR (carR f))) < 57896044618658097711785492504343953926634992332820282019728792003956564819949
    · rw [if_pos c] at v1
      rw [v1, if_pos c] at v2
      omega
    · rw [if_neg c] at v1
      rw [v1] at v2
      by_cases c2 : ev (carR (carR (carR f))) - 57896044618658097711785492504343953926634992332820282019728792003956564819949 < 57896044618658097711785492504343953926634992332820282019728792003956564819949
      · rw [if_pos c2] at v2
        omega
      · rw [if_neg c2] at v2
        omega
  have r2 : ev (carR (carR (carR f))) % 57896044618658097711785492504343953926634992332820282019728792003956564819949 = ev f % 57896044618658097711785492504343953926634992332820282019728792003956564819949 := by
    rw [e4]; simp only [P2]; omega
  rw [r1, r2] at hw
  omega
/-! the ladder -/
def RI (f : List Int) (n : Nat) : Prop := Nm f ∧ (ev f % 57896044618658097711785492504343953926634992332820282019728792003956564819949).toNat = n
def RJ (f : List Int) (n : Nat) : Prop := (f.length = 16 ∧ Bd B18 f) ∧ (ev f % 57896044618658097711785492504343953926634992332820282019728792003956564819949).toNat = n
theorem Nm.b18 {f : List Int} (h : Nm f) : Bd B18 f := fun j => by have := h.bd j; simp only [B17, B18] at *; omega
theorem RI.mid {f : List Int} {n : Nat} (h : RI f n) : RJ f n := ⟨⟨h.1.len, h.1.b18⟩, h.2⟩
theorem i_mul {a b : List Int} {x y : Nat} (ha : RJ a x) (hb : RJ b y) : RI (mulR a b) (fm x y) := by
  obtain ⟨⟨la, ba⟩, rfl⟩ := ha
  obtain ⟨⟨lb, bb⟩, rfl⟩ := hb
  obtain ⟨n, q, hq⟩ := mulR_nm ba bb la lb
  refine ⟨n, ?_⟩
  rw [hq]
  unfold fm
  have e : (ev a * ev b - P2 * q) % 57896044618658097711785492504343953926634992332820282019728792003956564819949 = (ev a % 57896044618658097711785492504343953926634992332820282019728792003956564819949) * (ev b % 57896044618658097711785492504343953926634992332820282019728792003956564819949) % 57896044618658097711785492504343953926634992332820282019728792003956564819949 := by
    rw [← Int.mul_emod, show P2 * q = 57896044618658097711785492504343953926634992332820282019728792003956564819949 * (2 * q) by simp only [P2]; omega, Int.sub_mul_emod_self_left]
  rw [e]
  have p1 : 0 ≤ ev a % 57896044618658097711785492504343953926634992332820282019728792003956564819949 := by omega
  have p2 : 0 ≤ ev b % 57896044618658097711785492504343953926634992332820282019728792003956564819949 := by omega
  generalize ev a % 57896044618658097711785492504343953926634992332820282019728792003956564819949 = u at *
  generalize ev b % 57896044618658097711785492504343953926634992332820282019728792003956564819949 = v at *
  obtain ⟨u, rfl⟩ := Int.eq_ofNat_of_zero_le p1
  obtain ⟨v, rfl⟩ := Int.eq_ofNat_of_zero_le p2
  rw [Int.toNat_natCast, Int.toNat_natCast]
  rfl
theorem i_add {a b : List Int} {x y : Nat} (ha : RI a x) (hb : RI b y) : RJ (addR a b) (fa x y) := by
  obtain ⟨na, rfl⟩ := ha
  obtain ⟨nb, rfl⟩ := hb
  refine ⟨⟨by rw [addI_len, na.len], fun j => ?_⟩, ?_⟩
  · have h1 := na.bd j
    have h2 := nb.bd j
    simp only [addR, B17, B18] at *
    rw [addI_d na.len 16 (by omega) j]
    split <;> omega
  · simp only [addR]
    rw [addI_ev na.len nb.len 16 (by omega), List.take_of_length_le (by rw [nb.len]; omega)]
    unfold fa
    simp only [PP]
    omega
theorem i_sub {a b : List Int} {x y : Nat} (ha : RI a x) (hb : RI b y) : RJ (subR a b) (fs x y) := by
  obtain ⟨na, rfl⟩ := ha
  obtain ⟨nb, rfl⟩ := hb
  refine ⟨⟨by rw [subI_len, na.len], fun j => ?_⟩, ?_⟩
  · have h1 := na.bd j
    have h2 := nb.bd j
    simp only [subR, B17, B18] at *
    rw [subI_d na.len 16 (by omega) j]
    split <;> omega
  · simp only [subR]
    rw [subI_ev na.len nb.len 16 (by omega), List.take_of_length_le (by rw [nb.len]; omega)]
    unfold fs
    simp only [PP]
    omega
theorem nm_lit {f : List Int} (hl : f.length = 16) (h : ∀ j, j < 16 → 0 ≤ d f j ∧ d f j ≤ 65535) : Dg f := ⟨hl, fun j => by
  by_cases hj : j < 16
  · exact h j hj
  · rw [d_out (by omega)]; omega⟩
theorem i_one : RI oneR 1 := ⟨(nm_lit rfl (by decide)).nm, by decide +kernel⟩
theorem i_zero : RI zeroR 0 := ⟨(nm_lit rfl (by decide)).nm, by decide +kernel⟩
theorem i_a24 : RJ a24R 121665 := ⟨⟨rfl, (nm_lit (f := a24R) rfl (by decide)).nm.b18⟩, by decide +kernel⟩
theorem fm_comm (x y : Nat) : fm x y = fm y x := by unfold fm; rw [Nat.mul_comm]
theorem fa_comm (x y : Nat) : fa x y = fa y x := by unfold fa; rw [Nat.add_comm]
theorem i_mulc {a b : List Int} {x y : Nat} (ha : RJ a x) (hb : RJ b y) : RI (mulR a b) (fm y x) := by rw [fm_comm]; exact i_mul ha hb
theorem i_addc {a b : List Int} {x y : Nat} (ha : RI a x) (hb : RI b y) : RJ (addR a b) (fa y x) := by rw [fa_comm]; exact i_add ha hb
structure RLR (m : LM) (n : LN) : Prop where
  x2 : RI m.l.x2 n.x2
  z2 : RI m.l.z2 n.z2
  x3 : RI m.l.x3 n.x3
  z3 : RI m.l.z3 n.z3
  last : m.last = n.last
theorem i_st {l : LR} {n : LN} {x1 : List Int} {x : Nat} (h2 : RI l.x2 n.x2) (k2 : RI l.z2 n.z2) (h3 : RI l.x3 n.x3) (k3 : RI l.z3 n.z3) (hx : RI x1 x) (k : UInt8) : RLR ⟨stR l x1, k⟩ (stN x k n) := by
  have a := i_add h2 k2
  have b := i_sub h2 k2
  have aa := i_mul a a
  have bb := i_mul b b
  have e := i_sub aa bb
  have da := i_mul (i_sub h3 k3) a
  have cb := i_mul (i_add h3 k3) b
  have s := i_add da cb
  have t := i_sub da cb
  have u := i_mulc i_a24 e
  have v := i_addc aa u
  have w := i_mulc e v
  have y := (i_mul t t).mid
  have z := i_mulc hx.mid y
  have x := i_mul aa.mid bb.mid
  have r := i_mul s s
  refine ⟨?_, ?_, ?_, ?_, rfl⟩ <;> simp only [stR, stN]
  · exact x
  · exact w
  · exact r
  · exact z
theorem i_lad {x1 : List Int} {x : Nat} (hx : RI x1 x) (n : List UInt8) : ∀ i, RLR (ladR n x1 i) (ladN n x i)
  | 0 => ⟨i_one, i_zero, hx, i_one, rfl⟩
  | i + 1 => by
    have ih := i_lad hx n i
    show RLR (stepM x1 (bitL n (254 - i)) (ladR n x1 i)) (stN x (bitL n (254 - i)) (swN (bitL n (254 - i)) (ladN n x i)))
    unfold stepM swN
    rw [ih.last]
    split
    · exact i_st ih.x2 ih.z2 ih.x3 ih.z3 hx _
    · exact i_st ih.x3 ih.z3 ih.x2 ih.z2 hx _
theorem i_pow {a : List Int} {x : Nat} (ha : RI a x) : ∀ n, RI (powR a n) (powN x (n + 1))
  | 0 => by
    have hx : x < PP := by
      obtain ⟨_, rfl⟩ := ha
      simp only [PP]; omega
    have e : powN x 1 = x := by
      show fm (fm 1 1) x = x
      unfold fm
      rw [show 1 * 1 % PP = 1 from rfl, Nat.one_mul, Nat.mod_eq_of_lt hx]
    rw [e]; exact ha
  | n + 1 => by
    have ih := (i_pow ha n).mid
    show RI (if _ then _ else _) (if _ then _ else _)
    rw [show 254 - (n + 1) = 253 - n by omega]
    split
    · exact i_mul ih ih
    · exact i_mul (i_mul ih ih).mid ha.mid
theorem keyR_val {s p : List UInt8} (hp : p.length = 32) : keyR s p = outN (keyN s (natL p % 57896044618658097711785492504343953926634992332820282019728792003956564819968 % PP)) := by
  obtain ⟨l1, l2⟩ := readR_dg hp
  have hx : RI (readR p) (natL p % 57896044618658097711785492504343953926634992332820282019728792003956564819968 % PP) := ⟨l1.nm, by rw [l2]; simp only [PP]; omega⟩
  have hl := i_lad hx (clampL s) 255
  unfold keyR keyN endR endN
  rw [hl.last]
  split
  · obtain ⟨m1, m2⟩ := i_mul hl.x3.mid (i_pow hl.z3 254).mid
    rw [writeR_val m1, m2]
  · obtain ⟨m1, m2⟩ := i_mul hl.x2.mid (i_pow hl.z2 254).mid
    rw [writeR_val m1, m2]
theorem key_eq {s p : List UInt8} (hp : p.length = 32) : keyR s p = keyL s p := by rw [keyR_val hp, key_val hp]
end Go.Cur
