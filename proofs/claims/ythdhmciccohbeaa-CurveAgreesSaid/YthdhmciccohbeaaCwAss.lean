/- A step towards CurveAgreesSaid: no conditions. -/
import Derived.Test.YthdhmciccohbeaaCwEdw
/-! the addition is associative; multiples -/
namespace Go.Ed
open Go Go.Eng Go.Cur
theorem frac {a b m n i j : K} (hm : m * i = 1) (hn : n * j = 1) (h : a * n = b * m) : a * i = b * j := by
  have e1 : a * i = a * i * (n * j) := by rw [hn]; grind -lia -linarith
  have e2 : b * j = b * j * (m * i) := by rw [hm]; grind -lia -linarith
  rw [e1, e2]
  have : a * i * (n * j) = (a * n) * (i * j) := by grind -lia -linarith
  rw [this, h]; grind -lia -linarith
theorem ass_x (d x1 y1 x2 y2 x3 y3 : K) (h1 : x1 * x1 + y1 * y1 = 1 + d * (x1 * x1) * (y1 * y1)) (h2 : x2 * x2 + y2 * y2 = 1 + d * (x2 * x2) * (y2 * y2)) (h3 : x3 * x3 + y3 * y3 = 1 + d * (x3 * x3) * (y3 * y3)) :
    ((x1 * y2 + y1 * x2) * (1 - d * (x1 * x2) * (y1 * y2)) * y3 + (y1 * y2 - x1 * x2) * (1 + d * (x1 * x2) * (y1 * y2)) * x3) * ((1 + d * (x2 * x3) * (y2 * y3)) * (1 - d * (x2 * x3) * (y2 * y3)) + d * (x1 * (x2 * y3 + y2 * x3)) * (y1 * (y2 * y3 - x2 * x3)))
    = (x1 * (y2 * y3 - x2 * x3) * (1 + d * (x2 * x3) * (y2 * y3)) + y1 * (x2 * y3 + y2 * x3) * (1 - d * (x2 * x3) * (y2 * y3))) * ((1 + d * (x1 * x2) * (y1 * y2)) * (1 - d * (x1 * x2) * (y1 * y2)) + d * ((x1 * y2 + y1 * x2) * x3) * ((y1 * y2 - x1 * x2) * y3)) := by
  grind -lia -linarith
theorem ass_y (d x1 y1 x2 y2 x3 y3 : K) (h1 : x1 * x1 + y1 * y1 = 1 + d * (x1 * x1) * (y1 * y1)) (h2 : x2 * x2 + y2 * y2 = 1 + d * (x2 * x2) * (y2 * y2)) (h3 : x3 * x3 + y3 * y3 = 1 + d * (x3 * x3) * (y3 * y3)) :
    ((y1 * y2 - x1 * x2) * (1 + d * (x1 * x2) * (y1 * y2)) * y3 - (x1 * y2 + y1 * x2) * (1 - d * (x1 * x2) * (y1 * y2)) * x3) * ((1 + d * (x2 * x3) * (y2 * y3)) * (1 - d * (x2 * x3) * (y2 * y3)) - d * (x1 * (x2 * y3 + y2 * x3)) * (y1 * (y2 * y3 - x2 * x3)))
    = (y1 * (y2 * y3 - x2 * x3) * (1 + d * (x2 * x3) * (y2 * y3)) - x1 * (x2 * y3 + y2 * x3) * (1 - d * (x2 * x3) * (y2 * y3))) * ((1 + d * (x1 * x2) * (y1 * y2)) * (1 - d * (x1 * x2) * (y1 * y2)) - d * ((x1 * y2 + y1 * x2) * x3) * ((y1 * y2 - x1 * x2) * y3)) := by
  grind -lia -linarith
/-- a quotient of quotients -/
theorem quo {a b s t i j x3 y3 A B C : K} (hs : s * i = 1) (ht : t * j = 1) (hA : A = a * t * y3 + b * s * x3) (hB : B = s * t + C * (a * x3) * (b * y3)) :
    a * i * y3 + b * j * x3 = i * j * A ∧ 1 + C * (a * i * x3) * (b * j * y3) = i * j * B := by
  subst hA hB
  have e : i * j * (s * t) = 1 := by
    have : i * j * (s * t) = (s * i) * (t * j) := by grind -lia -linarith
    rw [this, hs, ht]; grind -lia -linarith
  refine ⟨?_, ?_⟩
  · have e1 : a * i * y3 = a * i * y3 * (t * j) := by rw [ht]; grind -lia -linarith
    have e2 : b * j * x3 = b * j * x3 * (s * i) := by rw [hs]; grind -lia -linarith
    rw [e1, e2]; grind -lia -linarith
  · have : i * j * (s * t + C * (a * x3) * (b * y3)) = i * j * (s * t) + i * j * (C * (a * x3) * (b * y3)) := by grind -lia -linarith
    rw [this, e]; grind -lia -linarith
theorem quo2 {a b s t i j x3 y3 A B C : K} (hs : s * i = 1) (ht : t * j = 1) (hA : A = b * s * y3 - a * t * x3) (hB : B = s * t - C * (a * x3) * (b * y3)) :
    b * j * y3 - a * i * x3 = i * j * A ∧ 1 - C * (a * i * x3) * (b * j * y3) = i * j * B := by
  subst hA hB
  have e : i * j * (s * t) = 1 := by
    have : i * j * (s * t) = (s * i) * (t * j) := by grind -lia -linarith
    rw [this, hs, ht]; grind -lia -linarith
  refine ⟨?_, ?_⟩
  · have e1 : a * i * x3 = a * i * x3 * (t * j) := by rw [ht]; grind -lia -linarith
    have e2 : b * j * y3 = b * j * y3 * (s * i) := by rw [hs]; grind -lia -linarith
    rw [e1, e2]; grind -lia -linarith
  · have : i * j * (s * t - C * (a * x3) * (b * y3)) = i * j * (s * t) - i * j * (C * (a * x3) * (b * y3)) := by grind -lia -linarith
    rw [this, e]; grind -lia -linarith
theorem frac2 {e f A B A' B' m n i j : K} (hm : m * i = 1) (hn : n * j = 1) (h1 : m = e * B) (h2 : n = f * B') (h : A * B' = A' * B) : (e * A) * i = (f * A') * j := by
  refine frac hm hn ?_
  rw [h1, h2]
  have : e * A * (f * B') = e * f * (A * B') := by grind -lia -linarith
  rw [this, h]; grind -lia -linarith
theorem sw1 (a b x y : K) : x * b + y * a = a * y + b * x := by grind -lia -linarith
theorem sw2 (a b x y : K) : y * b - x * a = b * y - a * x := by grind -lia -linarith
theorem sw3 (d a b x y : K) : d * (x * a) * (y * b) = d * (a * x) * (b * y) := by grind -lia -linarith
theorem sw4 (a b s t x y : K) : x * b * s + y * a * t = a * t * y + b * s * x := by grind -lia -linarith
theorem sw5 (a b s t x y : K) : y * b * s - x * a * t = b * s * y - a * t * x := by grind -lia -linarith
theorem add_assoc {p q r : Pt} (hp : On p) (hq : On q) (hr : On r) : add (add p q) r = add p (add q r) := by
  have s1 := iv_mul (cpl_add hp hq)
  have t1 := iv_mul (cpl_sub hp hq)
  have s2 := iv_mul (cpl_add hq hr)
  have t2 := iv_mul (cpl_sub hq hr)
  have m1 := iv_mul (cpl_add (on_add hp hq) hr)
  have m2 := iv_mul (cpl_sub (on_add hp hq) hr)
  have n1 := iv_mul (cpl_add hp (on_add hq hr))
  have n2 := iv_mul (cpl_sub hp (on_add hq hr))
  obtain ⟨x1, y1⟩ := p
  obtain ⟨x2, y2⟩ := q
  obtain ⟨x3, y3⟩ := r
  unfold On at hp hq hr
  unfold add tt at *
  simp only at *
  have kx := ass_x dd x1 y1 x2 y2 x3 y3 hp hq hr
  have ky := ass_y dd x1 y1 x2 y2 x3 y3 hp hq hr
  obtain ⟨a1, a2⟩ := quo (x3 := x3) (y3 := y3) (C := dd) s1 t1 (a := x1 * y2 + y1 * x2) (b := y1 * y2 - x1 * x2) rfl rfl
  obtain ⟨b1, b2⟩ := quo2 (x3 := x3) (y3 := y3) (C := dd) s1 t1 (a := x1 * y2 + y1 * x2) (b := y1 * y2 - x1 * x2) rfl rfl
  obtain ⟨c1, c2⟩ := quo (x3 := x1) (y3 := y1) (C := dd) s2 t2 (a := x2 * y3 + y2 * x3) (b := y2 * y3 - x2 * x3) rfl rfl
  obtain ⟨e1, e2⟩ := quo2 (x3 := x1) (y3 := y1) (C := dd) s2 t2 (a := x2 * y3 + y2 * x3) (b := y2 * y3 - x2 * x3) rfl rfl
  generalize iv (1 + dd * (x1 * x2) * (y1 * y2)) = i at *
  generalize iv (1 - dd * (x1 * x2) * (y1 * y2)) = j at *
  generalize iv (1 + dd * (x2 * x3) * (y2 * y3)) = i' at *
  generalize iv (1 - dd * (x2 * x3) * (y2 * y3)) = j' at *
  have sx : x1 * ((y2 * y3 - x2 * x3) * j') + y1 * ((x2 * y3 + y2 * x3) * i') = (x2 * y3 + y2 * x3) * i' * y1 + (y2 * y3 - x2 * x3) * j' * x1 := sw1 _ _ _ _
  have sy : y1 * ((y2 * y3 - x2 * x3) * j') - x1 * ((x2 * y3 + y2 * x3) * i') = (y2 * y3 - x2 * x3) * j' * y1 - (x2 * y3 + y2 * x3) * i' * x1 := sw2 _ _ _ _
  have sm : dd * (x1 * ((x2 * y3 + y2 * x3) * i')) * (y1 * ((y2 * y3 - x2 * x3) * j')) = dd * ((x2 * y3 + y2 * x3) * i' * x1) * ((y2 * y3 - x2 * x3) * j' * y1) := sw3 _ _ _ _ _
  rw [sm] at n1 n2
  rw [sx, sy, sm, a1, b1, c1, e1]
  refine pt_ext ?_ ?_
  · simp only
    refine frac2 m1 n1 a2 c2 ?_
    have u1 : x1 * (y2 * y3 - x2 * x3) * (1 + dd * (x2 * x3) * (y2 * y3)) + y1 * (x2 * y3 + y2 * x3) * (1 - dd * (x2 * x3) * (y2 * y3)) = (x2 * y3 + y2 * x3) * (1 - dd * (x2 * x3) * (y2 * y3)) * y1 + (y2 * y3 - x2 * x3) * (1 + dd * (x2 * x3) * (y2 * y3)) * x1 := sw4 _ _ _ _ _ _
    have u2 : dd * (x1 * (x2 * y3 + y2 * x3)) * (y1 * (y2 * y3 - x2 * x3)) = dd * ((x2 * y3 + y2 * x3) * x1) * ((y2 * y3 - x2 * x3) * y1) := sw3 _ _ _ _ _
    rw [u1, u2] at kx
    exact kx
  · simp only
    refine frac2 m2 n2 b2 e2 ?_
    have u1 : y1 * (y2 * y3 - x2 * x3) * (1 + dd * (x2 * x3) * (y2 * y3)) - x1 * (x2 * y3 + y2 * x3) * (1 - dd * (x2 * x3) * (y2 * y3)) = (y2 * y3 - x2 * x3) * (1 + dd * (x2 * x3) * (y2 * y3)) * y1 - (x2 * y3 + y2 * x3) * (1 - dd * (x2 * x3) * (y2 * y3)) * x1 := sw5 _ _ _ _ _ _
    have u2 : dd * (x1 * (x2 * y3 + y2 * x3)) * (y1 * (y2 * y3 - x2 * x3)) = dd * ((x2 * y3 + y2 * x3) * x1) * ((y2 * y3 - x2 * x3) * y1) := sw3 _ _ _ _ _
    rw [u1, u2] at ky
    exact ky
def O : Pt := ⟨0, 1⟩
theorem on_O : On O := by unfold On O; simp only; grind -lia -linarith
theorem iv_one : iv 1 = 1 := by
  have := iv_mul one_ne
  grind -lia -linarith
theorem O_add (p : Pt) : add O p = p := by
  have t : tt O p = 0 := by unfold tt O; simp only; grind -lia -linarith
  unfold add
  rw [t, show (1 : K) + 0 = 1 by grind -lia -linarith, show (1 : K) - 0 = 1 by grind -lia -linarith, iv_one]
  unfold O
  exact pt_ext (by simp only; grind -lia -linarith) (by simp only; grind -lia -linarith)
theorem add_O (p : Pt) : add p O = p := by rw [add_comm, O_add]
def neg (p : Pt) : Pt := ⟨0 - p.x, p.y⟩
theorem on_neg {p : Pt} (h : On p) : On (neg p) := by unfold On neg at *; simp only; grind -lia -linarith
theorem neg_add {p : Pt} (h : On p) : add (neg p) p = O := by
  have i1 := iv_mul (cpl_sub (on_neg h) h)
  unfold add O
  refine pt_ext ?_ ?_
  · simp only
    have : (neg p).x * p.y + (neg p).y * p.x = 0 := by unfold neg; simp only; grind -lia -linarith
    rw [this]; grind -lia -linarith
  · simp only
    have : (neg p).y * p.y - (neg p).x * p.x = 1 - tt (neg p) p := by unfold On at h; unfold tt neg; simp only; grind -lia -linarith
    rw [this]; exact i1
/-- multiples -/
noncomputable def mul (n : Nat) (p : Pt) : Pt := Nat.rec O (fun _ q => add q p) n
theorem mul_zero (p : Pt) : mul 0 p = O := rfl
theorem mul_succ (n : Nat) (p : Pt) : mul (n + 1) p = add (mul n p) p := rfl
theorem on_mul {p : Pt} (h : On p) : ∀ n, On (mul n p)
  | 0 => on_O
  | n + 1 => on_add (on_mul h n) h
theorem mul_add {p : Pt} (h : On p) (m : Nat) : ∀ n, mul (m + n) p = add (mul m p) (mul n p)
  | 0 => (add_O _).symm
  | n + 1 => by rw [← Nat.add_assoc, mul_succ, mul_add h m n, mul_succ, add_assoc (on_mul h m) (on_mul h n) h]
theorem mul_mul {p : Pt} (h : On p) (m : Nat) : ∀ n, mul (n * m) p = mul n (mul m p)
  | 0 => by rw [Nat.zero_mul]; rfl
  | n + 1 => by rw [Nat.add_mul, Nat.one_mul, mul_add h, mul_mul h m n, mul_succ]
theorem mul_comm {p : Pt} (h : On p) (m n : Nat) : mul m (mul n p) = mul n (mul m p) := by
  rw [← mul_mul h, ← mul_mul h, Nat.mul_comm]
end Go.Ed
