/- A step towards CurveAgreesSaid: no conditions. -/
import Derived.Test.YthdhmciccohbeaaCwAss
import Derived.Test.YthdhmciccohbeaaCuvLad
/-! the ladder goes through the multiples of a point -/
namespace Go.Ed
open Go Go.Eng Go.Cod Go.Pol Go.Cur
/-- the number of a point -/
def U (p : Pt) : K := (1 + p.y) * iv (1 - p.y)
def Rep (X Z : K) (p : Pt) : Prop := ∃ c : K, c ≠ 0 ∧ X = c * (1 + p.y) ∧ Z = c * (1 - p.y)
theorem rep_end {X Z : K} {p : Pt} (h : Rep X Z p) : X * iv Z = U p := by
  obtain ⟨c, hc, rfl, rfl⟩ := h
  have i := iv_mul hc
  rw [iv_prod, U]
  have : c * (1 + p.y) * (iv c * iv (1 - p.y)) = (c * iv c) * ((1 + p.y) * iv (1 - p.y)) := by grind -lia -linarith
  rw [this, i]; grind -lia -linarith
theorem dd_sq (v : K) : (1 : K) - dd * (v * v) ≠ 0 := by
  intro h
  have h1 : (1 : K) * 1 = dd * (v * v) := by grind -lia -linarith
  have := sq_dd h1
  subst this
  have : (1 : K) = 0 := by grind -lia -linarith
  exact one_ne this
theorem cof_ne : (8 : K) * 121666 ≠ 0 := by decide +kernel
theorem dbl_id (d c x y : K) (hd : 121666 * d = 121665) (h : x * x + y * y = 1 + d * (x * x) * (y * y)) :
    8 * 121666 * (c * c * (c * c)) * (1 - d * (y * y)) * ((1 - d * (x * x) * (y * y)) + (y * y - x * x)) = ((c * (1 + y) + c * (1 - y)) * (c * (1 + y) + c * (1 - y))) * ((c * (1 + y) - c * (1 - y)) * (c * (1 + y) - c * (1 - y))) := by
  have e1 : (1 - d * (x * x) * (y * y)) + (y * y - x * x) = 2 * (1 - x * x) := by grind -lia -linarith
  have e2 : (1 - d * (y * y)) * (1 - x * x) = y * y * (1 - d) := by grind -lia -linarith
  rw [e1]
  have e3 : 8 * 121666 * (c * c * (c * c)) * (1 - d * (y * y)) * (2 * (1 - x * x)) = 16 * (c * c * (c * c)) * 121666 * ((1 - d * (y * y)) * (1 - x * x)) := by grind -lia -linarith
  rw [e3, e2]
  have e4 : 16 * (c * c * (c * c)) * 121666 * (y * y * (1 - d)) = 16 * (c * c * (c * c)) * (y * y) * (121666 - 121666 * d) := by grind -lia -linarith
  rw [e4, hd]; grind -lia -linarith
theorem dbl_id2 (d c x y : K) (hd : 121666 * d = 121665) (h : x * x + y * y = 1 + d * (x * x) * (y * y)) :
    8 * 121666 * (c * c * (c * c)) * (1 - d * (y * y)) * ((1 - d * (x * x) * (y * y)) - (y * y - x * x)) = ((((c * (1 + y) + c * (1 - y)) * (c * (1 + y) + c * (1 - y))) - ((c * (1 + y) - c * (1 - y)) * (c * (1 + y) - c * (1 - y)))) * 121665 + ((c * (1 + y) + c * (1 - y)) * (c * (1 + y) + c * (1 - y)))) * (((c * (1 + y) + c * (1 - y)) * (c * (1 + y) + c * (1 - y))) - ((c * (1 + y) - c * (1 - y)) * (c * (1 + y) - c * (1 - y)))) := by
  have e1 : (1 - d * (x * x) * (y * y)) - (y * y - x * x) = 2 * (1 - y * y) := by grind -lia -linarith
  rw [e1]
  have e2 : 8 * 121666 * (c * c * (c * c)) * (1 - d * (y * y)) * (2 * (1 - y * y)) = 16 * (c * c * (c * c)) * (121666 - 121666 * d * (y * y)) * (1 - y * y) := by grind -lia -linarith
  rw [e2, hd]; grind -lia -linarith
theorem rep_dbl {X Z : K} {p : Pt} (hp : On p) (h : Rep X Z p) :
    Rep ((X + Z) * (X + Z) * ((X - Z) * (X - Z))) ((((X + Z) * (X + Z) - (X - Z) * (X - Z)) * 121665 + (X + Z) * (X + Z)) * ((X + Z) * (X + Z) - (X - Z) * (X - Z))) (add p p) := by
  obtain ⟨c, hc, rfl, rfl⟩ := h
  have t0 := cpl_sub hp hp
  have i := iv_mul t0
  have k1 := dbl_id dd c p.x p.y dd_val hp
  have k2 := dbl_id2 dd c p.x p.y dd_val hp
  have n1 := dd_sq p.y
  have ht : tt p p = dd * (p.x * p.x) * (p.y * p.y) := rfl
  have hy : (add p p).y = (p.y * p.y - p.x * p.x) * iv (1 - tt p p) := rfl
  refine ⟨8 * 121666 * (c * c * (c * c)) * (1 - dd * (p.y * p.y)) * (1 - tt p p), ?_, ?_, ?_⟩
  · exact mul_ne (mul_ne (mul_ne cof_ne (mul_ne (mul_ne hc hc) (mul_ne hc hc))) n1) t0
  · rw [← k1, hy, ← ht]
    generalize 8 * 121666 * (c * c * (c * c)) * (1 - dd * (p.y * p.y)) = m
    generalize 1 - tt p p = t at *
    generalize p.y * p.y - p.x * p.x = b
    have : m * t * (1 + b * iv t) = m * t + m * b * (t * iv t) := by grind -lia -linarith
    rw [this, i]; grind -lia -linarith
  · rw [← k2, hy, ← ht]
    generalize 8 * 121666 * (c * c * (c * c)) * (1 - dd * (p.y * p.y)) = m
    generalize 1 - tt p p = t at *
    generalize p.y * p.y - p.x * p.x = b
    have : m * t * (1 - b * iv t) = m * t - m * b * (t * iv t) := by grind -lia -linarith
    rw [this, i]; grind -lia -linarith
theorem dif_id (d xa ya xb yb : K) (ha : xa * xa + ya * ya = 1 + d * (xa * xa) * (ya * ya)) (hb : xb * xb + yb * yb = 1 + d * (xb * xb) * (yb * yb)) :
    (ya + yb) * (ya + yb) * (1 - d * (xa * xb * (xa * xb))) = (1 + ya * yb + (d * (xa * xb) * (ya * yb) + xa * xb)) * (1 + ya * yb - (d * (xa * xb) * (ya * yb) + xa * xb)) := by
  grind -lia -linarith
theorem dif_id2 (d xa ya xb yb : K) (ha : xa * xa + ya * ya = 1 + d * (xa * xa) * (ya * ya)) (hb : xb * xb + yb * yb = 1 + d * (xb * xb) * (yb * yb)) :
    (yb - ya) * (yb - ya) * (1 - d * (xa * xb * (xa * xb))) = (1 - ya * yb + (d * (xa * xb) * (ya * yb) - xa * xb)) * (1 - ya * yb - (d * (xa * xb) * (ya * yb) - xa * xb)) := by
  grind -lia -linarith
theorem dif_k {e m n y1 y5 Y w i : K} (h1 : y1 * (1 + e) = m + n) (h5 : y5 * (1 - e) = m - n) (hY : Y * w = (1 + m + (e + n)) * (1 + m - (e + n))) (hw : w * i = 1) : Y = (1 - e * e) * i * ((1 + y1) * (1 + y5)) := by
  have e1 : (1 - e * e) * ((1 + y1) * (1 + y5)) = ((1 + e) + y1 * (1 + e)) * ((1 - e) + y5 * (1 - e)) := by grind -lia -linarith
  have e2 : Y = Y * w * i := by
    have : Y * w * i = Y * (w * i) := by grind -lia -linarith
    rw [this, hw]; grind -lia -linarith
  rw [e2, hY]
  have e3 : (1 - e * e) * i * ((1 + y1) * (1 + y5)) = (1 - e * e) * ((1 + y1) * (1 + y5)) * i := by grind -lia -linarith
  rw [e3, e1, h1, h5]; grind -lia -linarith
theorem dif_k2 {e m n y1 y5 Y w i : K} (h1 : y1 * (1 + e) = m + n) (h5 : y5 * (1 - e) = m - n) (hY : Y * w = (1 - m + (e - n)) * (1 - m - (e - n))) (hw : w * i = 1) : Y = (1 - e * e) * i * ((1 - y1) * (1 - y5)) := by
  have e1 : (1 - e * e) * ((1 - y1) * (1 - y5)) = ((1 + e) - y1 * (1 + e)) * ((1 - e) - y5 * (1 - e)) := by grind -lia -linarith
  have e2 : Y = Y * w * i := by
    have : Y * w * i = Y * (w * i) := by grind -lia -linarith
    rw [this, hw]; grind -lia -linarith
  rw [e2, hY]
  have e3 : (1 - e * e) * i * ((1 - y1) * (1 - y5)) = (1 - e * e) * ((1 - y1) * (1 - y5)) * i := by grind -lia -linarith
  rw [e3, e1, h1, h5]; grind -lia -linarith
theorem mv1 (s k v w : K) : s * (k * (v * w)) = s * k * v * w := by grind -lia -linarith
theorem mv2 (s k v w u : K) : s * (k * (v * w)) * u = s * k * (u * v) * w := by grind -lia -linarith
/-- a sum by the difference: b and a differ by q -/
theorem rep_dif {X Z X' Z' u : K} {a b q : Pt} (ha : On a) (hb : On b) (hq1 : q.y * (1 + tt a b) = a.y * b.y + a.x * b.x) (hu : u * (1 - q.y) = 1 + q.y) (hn : 1 + q.y ≠ 0) (h : Rep X Z a) (h' : Rep X' Z' b) :
    Rep (((X' - Z') * (X + Z) + (X' + Z') * (X - Z)) * ((X' - Z') * (X + Z) + (X' + Z') * (X - Z))) (((X' - Z') * (X + Z) - (X' + Z') * (X - Z)) * ((X' - Z') * (X + Z) - (X' + Z') * (X - Z)) * u) (add a b) := by
  obtain ⟨c, hc, rfl, rfl⟩ := h
  obtain ⟨d, hd, rfl, rfl⟩ := h'
  have t0 := cpl_sub ha hb
  have i5 := iv_mul t0
  have w0 := dd_sq (a.x * b.x)
  have iw := iv_mul w0
  have k1 := dif_id dd a.x a.y b.x b.y ha hb
  have k2 := dif_id2 dd a.x a.y b.x b.y ha hb
  have ht : tt a b = dd * (a.x * b.x) * (a.y * b.y) := rfl
  rw [← ht] at k1 k2
  have hy : (add a b).y = (a.y * b.y - a.x * b.x) * iv (1 - tt a b) := rfl
  have h5 : (add a b).y * (1 - tt a b) = a.y * b.y - a.x * b.x := by
    rw [hy]
    have : (a.y * b.y - a.x * b.x) * iv (1 - tt a b) * (1 - tt a b) = (a.y * b.y - a.x * b.x) * ((1 - tt a b) * iv (1 - tt a b)) := by grind -lia -linarith
    rw [this, i5]; grind -lia -linarith
  have L1 := dif_k hq1 h5 k1 iw
  have L2 := dif_k2 hq1 h5 k2 iw
  have nn := complete ha hb
  have ni := iv_ne w0
  generalize (1 - tt a b * tt a b) = g at *
  generalize iv (1 - dd * (a.x * b.x * (a.x * b.x))) = j at *
  refine ⟨16 * (c * c * (d * d)) * (g * j) * (1 + q.y), ?_, ?_, ?_⟩
  · exact mul_ne (mul_ne (mul_ne (by decide +kernel) (mul_ne (mul_ne hc hc) (mul_ne hd hd))) (mul_ne nn ni)) hn
  · have : ((d * (1 + b.y) - d * (1 - b.y)) * (c * (1 + a.y) + c * (1 - a.y)) + (d * (1 + b.y) + d * (1 - b.y)) * (c * (1 + a.y) - c * (1 - a.y))) * ((d * (1 + b.y) - d * (1 - b.y)) * (c * (1 + a.y) + c * (1 - a.y)) + (d * (1 + b.y) + d * (1 - b.y)) * (c * (1 + a.y) - c * (1 - a.y))) = 16 * (c * c * (d * d)) * ((a.y + b.y) * (a.y + b.y)) := by grind -lia -linarith
    rw [this, L1]
    exact mv1 _ _ _ _
  · have : ((d * (1 + b.y) - d * (1 - b.y)) * (c * (1 + a.y) + c * (1 - a.y)) - (d * (1 + b.y) + d * (1 - b.y)) * (c * (1 + a.y) - c * (1 - a.y))) * ((d * (1 + b.y) - d * (1 - b.y)) * (c * (1 + a.y) + c * (1 - a.y)) - (d * (1 + b.y) + d * (1 - b.y)) * (c * (1 + a.y) - c * (1 - a.y))) = 16 * (c * c * (d * d)) * ((b.y - a.y) * (b.y - a.y)) := by grind -lia -linarith
    rw [this, L2]
    exact (mv2 _ _ _ _ _).trans (by rw [hu])
end Go.Ed
