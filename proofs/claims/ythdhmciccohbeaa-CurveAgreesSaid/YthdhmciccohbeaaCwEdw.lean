/- A step towards CurveAgreesSaid: no conditions. -/
import Derived.Test.YthdhmciccohbeaaCwPrm
/-! points on the Edwards curve over the numbers modulo 2^255 - 19 -/
namespace Go.Ed
open Go Go.Eng Go.Cur
abbrev K := Fin 57896044618658097711785492504343953926634992332820282019728792003956564819949
theorem pos : 0 < 57896044618658097711785492504343953926634992332820282019728792003956564819949 := by decide
def mkK (n : Nat) : K := ⟨n % 57896044618658097711785492504343953926634992332820282019728792003956564819949, Nat.mod_lt _ pos⟩
def EX : Nat := 57896044618658097711785492504343953926634992332820282019728792003956564819947
theorem EX_pos : 0 < EX := by decide
theorem EX_succ : EX + 1 = 57896044618658097711785492504343953926634992332820282019728792003956564819949 - 1 := by decide +kernel
/-- the inverse -/
def iv (z : K) : K := mkK (z.val ^ EX)
theorem mkK_val (n : Nat) : (mkK n).val = n % 57896044618658097711785492504343953926634992332820282019728792003956564819949 := rfl
theorem val_mul (a b : K) : (a * b).val = a.val * b.val % 57896044618658097711785492504343953926634992332820282019728792003956564819949 := Fin.val_mul a b
theorem ne_dvd {z : K} (h : z ≠ 0) : ¬ 57896044618658097711785492504343953926634992332820282019728792003956564819949 ∣ z.val := by
  intro hd
  have h1 := Nat.eq_zero_of_dvd_of_lt hd z.isLt
  exact h (Fin.ext h1)
theorem iv_mul {z : K} (h : z ≠ 0) : z * iv z = 1 := by
  have f := pr_P.fermat (ne_dvd h)
  apply Fin.ext
  rw [val_mul, iv, mkK_val, Nat.mul_mod_mod, Nat.mul_comm, ← Nat.pow_succ, Nat.succ_eq_add_one, EX_succ, f]
  rfl
theorem iv_zero : iv 0 = 0 := by
  apply Fin.ext
  rw [iv, mkK_val, show ((0 : K)).val = 0 from rfl, Nat.zero_pow EX_pos]
theorem mul_zero_or {a b : K} (h : a * b = 0) : a = 0 ∨ b = 0 := by
  by_cases c : a = 0
  · exact .inl c
  · right
    have := iv_mul c
    grind -lia -linarith
theorem mul_ne {a b : K} (ha : a ≠ 0) (hb : b ≠ 0) : a * b ≠ 0 := fun h => (mul_zero_or h).elim ha hb
theorem iv_ne {z : K} (h : z ≠ 0) : iv z ≠ 0 := by
  intro e
  have := iv_mul h
  rw [e] at this
  have h2 : (0 : K) = 1 := by grind -lia -linarith
  exact absurd h2 (by decide +kernel)
theorem one_ne : (1 : K) ≠ 0 := by decide +kernel
theorem iv_prod (a b : K) : iv (a * b) = iv a * iv b := by
  by_cases ha : a = 0
  · subst ha
    rw [show (0 : K) * b = 0 by grind -lia -linarith, iv_zero]; grind -lia -linarith
  by_cases hb : b = 0
  · subst hb
    rw [show a * (0 : K) = 0 by grind -lia -linarith, iv_zero]; grind -lia -linarith
  have h1 := iv_mul ha
  have h2 := iv_mul hb
  have h3 := iv_mul (mul_ne ha hb)
  grind -lia -linarith
def dd : K := ⟨20800338683988658368647408995589388737092878452977063003340006470870624536394, by decide⟩
theorem dd_val : 121666 * dd = 121665 := by decide +kernel
theorem two_ne : (2 : K) ≠ 0 := by decide +kernel
theorem dd_half : Pw 57896044618658097711785492504343953926634992332820282019728792003956564819949 20800338683988658368647408995589388737092878452977063003340006470870624536394 28948022309329048855892746252171976963317496166410141009864396001978282409974 57896044618658097711785492504343953926634992332820282019728792003956564819948 := pw 255 (by decide +kernel) (by decide +kernel)
theorem hf_eq : 28948022309329048855892746252171976963317496166410141009864396001978282409974 + 28948022309329048855892746252171976963317496166410141009864396001978282409974 = 57896044618658097711785492504343953926634992332820282019728792003956564819949 - 1 := by decide +kernel
theorem two_pows {s n h c : Nat} (e : (s * s % n) ^ h % n = c) (f : s ^ (h + h) % n = 1) : c = 1 := by
  rw [← Nat.pow_mod, Nat.mul_pow, ← Nat.pow_add, f] at e
  exact e.symm
/-- no square is dd -/
theorem nonsq (s : K) : s * s ≠ dd := by
  intro h
  have hv : s.val * s.val % 57896044618658097711785492504343953926634992332820282019728792003956564819949 = 20800338683988658368647408995589388737092878452977063003340006470870624536394 := by
    rw [← val_mul, h]; rfl
  have hs : s ≠ 0 := by rintro rfl; revert hv; decide +kernel
  have f := pr_P.fermat (ne_dvd hs)
  obtain ⟨e⟩ := dd_half
  rw [← hv] at e
  rw [← hf_eq] at f
  exact absurd (two_pows e f) (by decide)
theorem sq_dd {u v : K} (h : u * u = dd * (v * v)) : v = 0 := by
  by_cases c : v = 0
  · exact c
  · exfalso
    have hi := iv_mul c
    refine nonsq (u * iv v) ?_
    have : u * iv v * (u * iv v) = dd * (v * iv v) * (v * iv v) := by grind -lia -linarith
    rw [this, hi]; grind -lia -linarith
/-! the group -/
structure Pt where
  x : K
  y : K
def On (p : Pt) : Prop := p.x * p.x + p.y * p.y = 1 + dd * (p.x * p.x) * (p.y * p.y)
def tt (p q : Pt) : K := dd * (p.x * q.x) * (p.y * q.y)
def add (p q : Pt) : Pt := ⟨(p.x * q.y + p.y * q.x) * iv (1 + tt p q), (p.y * q.y - p.x * q.x) * iv (1 - tt p q)⟩
theorem pt_ext {p q : Pt} (h1 : p.x = q.x) (h2 : p.y = q.y) : p = q := by
  cases p; cases q; cases h1; cases h2; rfl
/-- no denominator is zero -/
theorem complete {p q : Pt} (hp : On p) (hq : On q) : (1 : K) - tt p q * tt p q ≠ 0 := by
  intro h
  obtain ⟨x1, y1⟩ := p
  obtain ⟨x2, y2⟩ := q
  unfold On at hp hq
  unfold tt at h
  simp only at hp hq h
  have k1 : (x1 + dd * (x1 * x2) * (y1 * y2) * y1) * (x1 + dd * (x1 * x2) * (y1 * y2) * y1) = dd * ((x1 * y1 * (x2 + y2)) * (x1 * y1 * (x2 + y2))) := by grind -lia -linarith
  have k2 : (x1 - dd * (x1 * x2) * (y1 * y2) * y1) * (x1 - dd * (x1 * x2) * (y1 * y2) * y1) = dd * ((x1 * y1 * (x2 - y2)) * (x1 * y1 * (x2 - y2))) := by grind -lia -linarith
  have z1 := sq_dd k1
  have z2 := sq_dd k2
  have ne : x1 * y1 ≠ 0 := by
    intro e
    have : (0 : K) = 1 := by grind -lia -linarith
    exact absurd this (by decide +kernel)
  have s1 := (mul_zero_or z1).resolve_left ne
  have s2 := (mul_zero_or z2).resolve_left ne
  have d2 : (2 : K) * x2 = 0 := by grind -lia -linarith
  have e2 := (mul_zero_or d2).resolve_left two_ne
  subst e2
  have : (0 : K) = 1 := by grind -lia -linarith
  exact absurd this (by decide +kernel)
theorem cpl_add {p q : Pt} (hp : On p) (hq : On q) : (1 : K) + tt p q ≠ 0 := by
  intro h
  exact complete hp hq (by grind -lia -linarith)
theorem cpl_sub {p q : Pt} (hp : On p) (hq : On q) : (1 : K) - tt p q ≠ 0 := by
  intro h
  exact complete hp hq (by grind -lia -linarith)
theorem on_add {p q : Pt} (hp : On p) (hq : On q) : On (add p q) := by
  have i1 := iv_mul (cpl_add hp hq)
  have i2 := iv_mul (cpl_sub hp hq)
  unfold add On
  simp only
  obtain ⟨x1, y1⟩ := p
  obtain ⟨x2, y2⟩ := q
  unfold On at hp hq
  unfold tt at *
  simp only at *
  generalize iv (1 + dd * (x1 * x2) * (y1 * y2)) = i at *
  generalize iv (1 - dd * (x1 * x2) * (y1 * y2)) = j at *
  generalize dd = d at *
  have id : (x1 * y2 + y1 * x2) * (x1 * y2 + y1 * x2) * ((1 - d * (x1 * x2) * (y1 * y2)) * (1 - d * (x1 * x2) * (y1 * y2))) + (y1 * y2 - x1 * x2) * (y1 * y2 - x1 * x2) * ((1 + d * (x1 * x2) * (y1 * y2)) * (1 + d * (x1 * x2) * (y1 * y2))) = ((1 - d * (x1 * x2) * (y1 * y2)) * (1 - d * (x1 * x2) * (y1 * y2))) * ((1 + d * (x1 * x2) * (y1 * y2)) * (1 + d * (x1 * x2) * (y1 * y2))) + d * ((x1 * y2 + y1 * x2) * (x1 * y2 + y1 * x2)) * ((y1 * y2 - x1 * x2) * (y1 * y2 - x1 * x2)) := by grind -lia -linarith
  generalize 1 + d * (x1 * x2) * (y1 * y2) = s at *
  generalize 1 - d * (x1 * x2) * (y1 * y2) = t at *
  generalize x1 * y2 + y1 * x2 = a at *
  generalize y1 * y2 - x1 * x2 = b at *
  have : (a * i) * (a * i) * ((s * i) * (s * i) * ((t * j) * (t * j))) + 0 = (a * i) * (a * i) := by rw [i1, i2]; grind -lia -linarith
  have e1 : (a * i) * (a * i) + (b * j) * (b * j) = (i * i * (j * j)) * (a * a * (t * t) + b * b * (s * s)) := by
    have h1 : (a * i) * (a * i) = (a * i) * (a * i) * ((t * j) * (t * j)) := by rw [i2]; grind -lia -linarith
    have h2 : (b * j) * (b * j) = (b * j) * (b * j) * ((s * i) * (s * i)) := by rw [i1]; grind -lia -linarith
    rw [h1, h2]; grind -lia -linarith
  rw [e1, id]
  have e2 : (1 : K) = (s * i) * (s * i) * ((t * j) * (t * j)) := by rw [i1, i2]; grind -lia -linarith
  have e3 : 1 + d * ((a * i) * (a * i)) * ((b * j) * (b * j)) = (s * i) * (s * i) * ((t * j) * (t * j)) + d * ((a * i) * (a * i)) * ((b * j) * (b * j)) := by rw [← e2]
  refine Eq.trans ?_ e3.symm
  grind -lia -linarith
theorem add_comm (p q : Pt) : add p q = add q p := by
  unfold add tt
  have e1 : dd * (p.x * q.x) * (p.y * q.y) = dd * (q.x * p.x) * (q.y * p.y) := by grind -lia -linarith
  rw [e1]
  exact pt_ext (by simp only; congr 1; grind -lia -linarith) (by simp only; congr 1; grind -lia -linarith)
end Go.Ed
