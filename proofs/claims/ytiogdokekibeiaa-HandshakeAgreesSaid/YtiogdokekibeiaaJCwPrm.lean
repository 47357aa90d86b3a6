/- Steps towards HandshakeAgreesSaid. -/
import Derived.Test.YtiogdokekibeiaaJHanCon
import Derived.Test.YtiogdokekibeiaaJCuvVal
/- A step towards HandshakeAgreesSaid: no conditions. -/
namespace Go.Cur
open Go Go.Eng
/-! 2^255 - 19 is prime -/
set_option maxRecDepth 100000
theorem pr_8574133 : Pr 8574133 := pr_small 8574133 2927 rfl (by decide +kernel) (by decide +kernel)
theorem pr_127 : Pr 127 := pr_small 127 10 rfl (by decide +kernel) (by decide +kernel)
theorem pr_q2 : Pr 1919519569386763 := by
  refine pr_pock 1919519569386763 2 1088914891 rfl (by decide +kernel) fun r hr hrn => ?_
  have h1 : Pw 1919519569386763 2 1919519569386762 1 := pw 51 (by decide +kernel) (by decide +kernel)
  have d0 : 8574133 ∣ r - 1 := pock (n := 1919519569386763) (a := 2) (e := 1919519569386762) (k := 223873314) (c := 1059928654987441) hr hrn pr_8574133 (by decide +kernel) (by decide +kernel) h1 (pw 51 (by decide +kernel) (by decide +kernel)) (by decide +kernel) (by decide +kernel)
  have d1 : 127 ∣ r - 1 := pock (n := 1919519569386763) (a := 2) (e := 1919519569386762) (k := 15114327318006) (c := 576774792492622) hr hrn pr_127 (by decide +kernel) (by decide +kernel) h1 (pw 51 (by decide +kernel) (by decide +kernel)) (by decide +kernel) (by decide +kernel)
  exact cop_mul d0 d1 (by decide +kernel)
theorem pr_569003 : Pr 569003 := pr_small 569003 753 rfl (by decide +kernel) (by decide +kernel)
theorem pr_2773320623 : Pr 2773320623 := by
  refine pr_pock 2773320623 2 569003 rfl (by decide +kernel) fun r hr hrn => ?_
  have h1 : Pw 2773320623 2 2773320622 1 := pw 32 (by decide +kernel) (by decide +kernel)
  have d0 : 569003 ∣ r - 1 := pock (n := 2773320623) (a := 2) (e := 2773320622) (k := 4874) (c := 2039232613) hr hrn pr_569003 (by decide +kernel) (by decide +kernel) h1 (pw 32 (by decide +kernel) (by decide +kernel)) (by decide +kernel) (by decide +kernel)
  exact d0
theorem pr_72106336199 : Pr 72106336199 := by
  refine pr_pock 72106336199 2 2773320623 rfl (by decide +kernel) fun r hr hrn => ?_
  have h1 : Pw 72106336199 2 72106336198 1 := pw 37 (by decide +kernel) (by decide +kernel)
  have d0 : 2773320623 ∣ r - 1 := pock (n := 72106336199) (a := 2) (e := 72106336198) (k := 26) (c := 67108864) hr hrn pr_2773320623 (by decide +kernel) (by decide +kernel) h1 (pw 37 (by decide +kernel) (by decide +kernel)) (by decide +kernel) (by decide +kernel)
  exact d0
theorem pr_q6 : Pr 75445702479781427272750846543864801 := by
  refine pr_pock 75445702479781427272750846543864801 2 138409523410761641138333837 rfl (by decide +kernel) fun r hr hrn => ?_
  have h1 : Pw 75445702479781427272750846543864801 2 75445702479781427272750846543864800 1 := pw 116 (by decide +kernel) (by decide +kernel)
  have d0 : 1919519569386763 ∣ r - 1 := pock (n := 75445702479781427272750846543864801) (a := 2) (e := 75445702479781427272750846543864800) (k := 39304471641247389600) (c := 56747016255153332959347766392083459) hr hrn pr_q2 (by decide +kernel) (by decide +kernel) h1 (pw 116 (by decide +kernel) (by decide +kernel)) (by decide +kernel) (by decide +kernel)
  have d1 : 72106336199 ∣ r - 1 := pock (n := 75445702479781427272750846543864801) (a := 2) (e := 75445702479781427272750846543864800) (k := 1046311689884858398375200) (c := 71619851993489548214160924360205394) hr hrn pr_72106336199 (by decide +kernel) (by decide +kernel) h1 (pw 116 (by decide +kernel) (by decide +kernel)) (by decide +kernel) (by decide +kernel)
  exact cop_mul d0 d1 (by decide +kernel)
theorem pr_430751 : Pr 430751 := pr_small 430751 655 rfl (by decide +kernel) (by decide +kernel)
theorem pr_4153 : Pr 4153 := pr_small 4153 63 rfl (by decide +kernel) (by decide +kernel)
theorem pr_q9 : Pr 31757755568855353 := by
  refine pr_pock 31757755568855353 2 1788908903 rfl (by decide +kernel) fun r hr hrn => ?_
  have h1 : Pw 31757755568855353 2 31757755568855352 1 := pw 55 (by decide +kernel) (by decide +kernel)
  have d0 : 430751 ∣ r - 1 := pock (n := 31757755568855353) (a := 2) (e := 31757755568855352) (k := 73726481352) (c := 15280470251845350) hr hrn pr_430751 (by decide +kernel) (by decide +kernel) h1 (pw 55 (by decide +kernel) (by decide +kernel)) (by decide +kernel) (by decide +kernel)
  have d1 : 4153 ∣ r - 1 := pock (n := 31757755568855353) (a := 2) (e := 31757755568855352) (k := 7646943310584) (c := 28256283979054930) hr hrn pr_4153 (by decide +kernel) (by decide +kernel) h1 (pw 55 (by decide +kernel) (by decide +kernel)) (by decide +kernel) (by decide +kernel)
  exact cop_mul d0 d1 (by decide +kernel)
theorem pr_q10 : Pr 74058212732561358302231226437062788676166966415465897661863160754340907 := by
  refine pr_pock 74058212732561358302231226437062788676166966415465897661863160754340907 2 2395986178073482737347378734667165195040796357129753 rfl (by decide +kernel) fun r hr hrn => ?_
  have h1 : Pw 74058212732561358302231226437062788676166966415465897661863160754340907 2 74058212732561358302231226437062788676166966415465897661863160754340906 1 := pw 236 (by decide +kernel) (by decide +kernel)
  have d0 : 75445702479781427272750846543864801 ∣ r - 1 := pock (n := 74058212732561358302231226437062788676166966415465897661863160754340907) (a := 2) (e := 74058212732561358302231226437062788676166966415465897661863160754340906) (k := 981609426360740691344999861639072106) (c := 69490809710348678725736597923071784769591275419387514694139338586948360) hr hrn pr_q6 (by decide +kernel) (by decide +kernel) h1 (pw 236 (by decide +kernel) (by decide +kernel)) (by decide +kernel) (by decide +kernel)
  have d1 : 31757755568855353 ∣ r - 1 := pock (n := 74058212732561358302231226437062788676166966415465897661863160754340907) (a := 2) (e := 74058212732561358302231226437062788676166966415465897661863160754340906) (k := 2331972502653487852620185443007392165117953542933313402) (c := 50366660687963342066214195241331738400016478712605795091965648721912165) hr hrn pr_q9 (by decide +kernel) (by decide +kernel) h1 (pw 236 (by decide +kernel) (by decide +kernel)) (by decide +kernel) (by decide +kernel)
  exact cop_mul d0 d1 (by decide +kernel)
theorem pr_P : Pr 57896044618658097711785492504343953926634992332820282019728792003956564819949 := by
  refine pr_pock 57896044618658097711785492504343953926634992332820282019728792003956564819949 2 74058212732561358302231226437062788676166966415465897661863160754340907 rfl (by decide +kernel) fun r hr hrn => ?_
  have h1 : Pw 57896044618658097711785492504343953926634992332820282019728792003956564819949 2 57896044618658097711785492504343953926634992332820282019728792003956564819948 1 := pw 255 (by decide +kernel) (by decide +kernel)
  have d0 : 74058212732561358302231226437062788676166966415465897661863160754340907 ∣ r - 1 := pock (n := 57896044618658097711785492504343953926634992332820282019728792003956564819949) (a := 2) (e := 57896044618658097711785492504343953926634992332820282019728792003956564819948) (k := 781764) (c := 427094198651976259540344842774561673889945192655078505504941250475370961481) hr hrn pr_q10 (by decide +kernel) (by decide +kernel) h1 (pw 255 (by decide +kernel) (by decide +kernel)) (by decide +kernel) (by decide +kernel)
  exact d0
end Go.Cur

/- A step towards HandshakeAgreesSaid: no conditions. -/
/-! points on the Edwards curve over the numbers modulo 2^255 - 19 -/
namespace Go.Ed
open Go Go.Eng Go.Cur
abbrev K := Fin 57896044618658097711785492504343953926634992332820282019728792003956564819949
theorem pos : 0 < 57896044618658097711785492504343953926634992332820282019728792003956564819949 := by decide
def mkK (n : Nat) : K := ⟨n % 57896044618658097711785492504343953926634992332820282019728792003956564819949, Nat.mod_lt _ pos⟩
def EX : Nat := 57896044618658097711785492504343953926634992332820282019728792003956564819947
theorem EX_pos : 0 < EX := by decide
theorem EX_succ : EX + 1 = 57896044618658097711785492504343953926634992332820282019728792003956564819949 - 1 := by decide +kernel
/-- the inverse -/
def iv (z : K) : K := mkK (z.val ^ EX)
theorem mkK_val (n : Nat) : (mkK n).val = n % 57896044618658097711785492504343953926634992332820282019728792003956564819949 := rfl
theorem val_mul (a b : K) : (a * b).val = a.val * b.val % 57896044618658097711785492504343953926634992332820282019728792003956564819949 := Fin.val_mul a b
theorem ne_dvd {z : K} (h : z ≠ 0) : ¬ 57896044618658097711785492504343953926634992332820282019728792003956564819949 ∣ z.val := by
  intro hd
  have h1 := Nat.eq_zero_of_dvd_of_lt hd z.isLt
  exact h (Fin.ext h1)
theorem iv_mul {z : K} (h : z ≠ 0) : z * iv z = 1 := by
  have f := pr_P.fermat (ne_dvd h)
  apply Fin.ext
  rw [val_mul, iv, mkK_val, Nat.mul_mod_mod, Nat.mul_comm, ← Nat.pow_succ, Nat.succ_eq_add_one, EX_succ, f]
  rfl
theorem iv_zero : iv 0 = 0 := by
  apply Fin.ext
  rw [iv, mkK_val, show ((0 : K)).val = 0 from rfl, Nat.zero_pow EX_pos]
theorem mul_zero_or {a b : K} (h : a * b = 0) : a = 0 ∨ b = 0 := by
  by_cases c : a = 0
  · exact .inl c
  · right
    have := iv_mul c
    grind -lia -linarith
theorem mul_ne {a b : K} (ha : a ≠ 0) (hb : b ≠ 0) : a * b ≠ 0 := fun h => (mul_zero_or h).elim ha hb
theorem iv_ne {z : K} (h : z ≠ 0) : iv z ≠ 0 := by
  intro e
  have := iv_mul h
  rw [e] at this
  have h2 : (0 : K) = 1 := by grind -lia -linarith
  exact absurd h2 (by decide +kernel)
theorem one_ne : (1 : K) ≠ 0 := by decide +kernel
theorem iv_prod (a b : K) : iv (a * b) = iv a * iv b := by
  by_cases ha : a = 0
  · subst ha
    rw [show (0 : K) * b = 0 by grind -lia -linarith, iv_zero]; grind -lia -linarith
  by_cases hb : b = 0
  · subst hb
    rw [show a * (0 : K) = 0 by grind -lia -linarith, iv_zero]; grind -lia -linarith
  have h1 := iv_mul ha
  have h2 := iv_mul hb
  have h3 := iv_mul (mul_ne ha hb)
  grind -lia -linarith
def dd : K := ⟨20800338683988658368647408995589388737092878452977063003340006470870624536394, by decide⟩
theorem dd_val : 121666 * dd = 121665 := by decide +kernel
theorem two_ne : (2 : K) ≠ 0 := by decide +kernel
theorem dd_half : Pw 57896044618658097711785492504343953926634992332820282019728792003956564819949 20800338683988658368647408995589388737092878452977063003340006470870624536394 28948022309329048855892746252171976963317496166410141009864396001978282409974 57896044618658097711785492504343953926634992332820282019728792003956564819948 := pw 255 (by decide +kernel) (by decide +kernel)
theorem hf_eq : 28948022309329048855892746252171976963317496166410141009864396001978282409974 + 28948022309329048855892746252171976963317496166410141009864396001978282409974 = 57896044618658097711785492504343953926634992332820282019728792003956564819949 - 1 := by decide +kernel
theorem two_pows {s n h c : Nat} (e : (s * s % n) ^ h % n = c) (f : s ^ (h + h) % n = 1) : c = 1 := by
  rw [← Nat.pow_mod, Nat.mul_pow, ← Nat.pow_add, f] at e
  exact e.symm
/-- no square is dd -/
theorem nonsq (s : K) : s * s ≠ dd := by
  intro h
  have hv : s.val * s.val % 57896044618658097711785492504343953926634992332820282019728792003956564819949 = 20800338683988658368647408995589388737092878452977063003340006470870624536394 := by
    rw [← val_mul, h]; rfl
  have hs : s ≠ 0 := by rintro rfl; revert hv; decide +kernel
  have f := pr_P.fermat (ne_dvd hs)
  obtain ⟨e⟩ := dd_half
  rw [← hv] at e
  rw [← hf_eq] at f
  exact absurd (two_pows e f) (by decide)
theorem sq_dd {u v : K} (h : u * u = dd * (v * v)) : v = 0 := by
  by_cases c : v = 0
  · exact c
  · exfalso
    have hi := iv_mul c
    refine nonsq (u * iv v) ?_
    have : u * iv v * (u * iv v) = dd * (v * iv v) * (v * iv v) := by grind -lia -linarith
    rw [this, hi]; grind -lia -linarith
/-! the group -/
structure Pt where
  x : K
  y : K
def On (p : Pt) : Prop := p.x * p.x + p.y * p.y = 1 + dd * (p.x * p.x) * (p.y * p.y)
def tt (p q : Pt) : K := dd * (p.x * q.x) * (p.y * q.y)
def add (p q : Pt) : Pt := ⟨(p.x * q.y + p.y * q.x) * iv (1 + tt p q), (p.y * q.y - p.x * q.x) * iv (1 - tt p q)⟩
theorem pt_ext {p q : Pt} (h1 : p.x = q.x) (h2 : p.y = q.y) : p = q := by
  cases p; cases q; cases h1; cases h2; rfl
/-- no denominator is zero -/
theorem complete {p q : Pt} (hp : On p) (hq : On q) : (1 : K) - tt p q * tt p q ≠ 0 := by
  intro h
  obtain ⟨x1, y1⟩ := p
  obtain ⟨x2, y2⟩ := q
  unfold On at hp hq
  unfold tt at h
  simp only at hp hq h
  have k1 : (x1 + dd * (x1 * x2) * (y1 * y2) * y1) * (x1 + dd * (x1 * x2) * (y1 * y2) * y1) = dd * ((x1 * y1 * (x2 + y2)) * (x1 * y1 * (x2 + y2))) := by grind -lia -linarith
  have k2 : (x1 - dd * (x1 * x2) * (y1 * y2) * y1) * (x1 - dd * (x1 * x2) * (y1 * y2) * y1) = dd * ((x1 * y1 * (x2 - y2)) * (x1 * y1 * (x2 - y2))) := by grind -lia -linarith
  have z1 := sq_dd k1
  have z2 := sq_dd k2
  have ne : x1 * y1 ≠ 0 := by
    intro e
    have : (0 : K) = 1 := by grind -lia -linarith
    exact absurd this (by decide +kernel)
  have s1 := (mul_zero_or z1).resolve_left ne
  have s2 := (mul_zero_or z2).resolve_left ne
  have d2 : (2 : K) * x2 = 0 := by grind -lia -linarith
  have e2 := (mul_zero_or d2).resolve_left two_ne
  subst e2
  have : (0 : K) = 1 := by grind -lia -linarith
  exact absurd this (by decide +kernel)
theorem cpl_add {p q : Pt} (hp : On p) (hq : On q) : (1 : K) + tt p q ≠ 0 := by
  intro h
  exact complete hp hq (by grind -lia -linarith)
theorem cpl_sub {p q : Pt} (hp : On p) (hq : On q) : (1 : K) - tt p q ≠ 0 := by
  intro h
  exact complete hp hq (by grind -lia -linarith)
theorem on_add {p q : Pt} (hp : On p) (hq : On q) : On (add p q) := by
  have i1 := iv_mul (cpl_add hp hq)
  have i2 := iv_mul (cpl_sub hp hq)
  unfold add On
  simp only
  obtain ⟨x1, y1⟩ := p
  obtain ⟨x2, y2⟩ := q
  unfold On at hp hq
  unfold tt at *
  simp only at *
  generalize iv (1 + dd * (x1 * x2) * (y1 * y2)) = i at *
  generalize iv (1 - dd * (x1 * x2) * (y1 * y2)) = j at *
  generalize dd = d at *
  have id : (x1 * y2 + y1 * x2) * (x1 * y2 + y1 * x2) * ((1 - d * (x1 * x2) * (y1 * y2)) * (1 - d * (x1 * x2) * (y1 * y2))) + (y1 * y2 - x1 * x2) * (y1 * y2 - x1 * x2) * ((1 + d * (x1 * x2) * (y1 * y2)) * (1 + d * (x1 * x2) * (y1 * y2))) = ((1 - d * (x1 * x2) * (y1 * y2)) * (1 - d * (x1 * x2) * (y1 * y2))) * ((1 + d * (x1 * x2) * (y1 * y2)) * (1 + d * (x1 * x2) * (y1 * y2))) + d * ((x1 * y2 + y1 * x2) * (x1 * y2 + y1 * x2)) * ((y1 * y2 - x1 * x2) * (y1 * y2 - x1 * x2)) := by grind -lia -linarith
  generalize 1 + d * (x1 * x2) * (y1 * y2) = s at *
  generalize 1 - d * (x1 * x2) * (y1 * y2) = t at *
  generalize x1 * y2 + y1 * x2 = a at *
  generalize y1 * y2 - x1 * x2 = b at *
  have : (a * i) * (a * i) * ((s * i) * (s * i) * ((t * j) * (t * j))) + 0 = (a * i) * (a * i) := by rw [i1, i2]; grind -lia -linarith
  have e1 : (a * i) * (a * i) + (b * j) * (b * j) = (i * i * (j * j)) * (a * a * (t * t) + b * b * (s * s)) := by
    have h1 : (a * i) * (a * i) = (a * i) * (a * i) * ((t * j) * (t * j)) := by rw [i2]; grind -lia -linarith
    have h2 : (b * j) * (b * j) = (b * j) * (b * j) * ((s * i) * (s * i)) := by rw [i1]; grind -lia -linarith
    rw [h1, h2]; grind -lia -linarith
  rw [e1, id]
  have e2 : (1 : K) = (s * i) * (s * i) * ((t * j) * (t * j)) := by rw [i1, i2]; grind -lia -linarith
  have e3 : 1 + d * ((a * i) * (a * i)) * ((b * j) * (b * j)) = (s * i) * (s * i) * ((t * j) * (t * j)) + d * ((a * i) * (a * i)) * ((b * j) * (b * j)) := by rw [← e2]
  refine Eq.trans ?_ e3.symm
  grind -lia -linarith
theorem add_comm (p q : Pt) : add p q = add q p := by
  unfold add tt
  have e1 : dd * (p.x * q.x) * (p.y * q.y) = dd * (q.x * p.x) * (q.y * p.y) := by grind -lia -linarith
  rw [e1]
  exact pt_ext (by simp only; congr 1; grind -lia -linarith) (by simp only; congr 1; grind -lia -linarith)
end Go.Ed

/- A step towards HandshakeAgreesSaid: no conditions. -/
/-! the addition is associative; multiples -/
namespace Go.Ed
open Go Go.Eng Go.Cur
theorem frac {a b m n i j : K} (hm : m * i = 1) (hn : n * j = 1) (h : a * n = b * m) : a * i = b * j := by
  have e1 : a * i = a * i * (n * j) := by rw [hn]; grind -lia -linarith
  have e2 : b * j = b * j * (m * i) := by rw [hm]; grind -lia -linarith
  rw [e1, e2]
  have : a * i * (n * j) = (a * n) * (i * j) := by grind -lia -linarith
  rw [this, h]; grind -lia -linarith
theorem ass_x (d x1 y1 x2 y2 x3 y3 : K) (h1 : x1 * x1 + y1 * y1 = 1 + d * (x1 * x1) * (y1 * y1)) (h2 : x2 * x2 + y2 * y2 = 1 + d * (x2 * x2) * (y2 * y2)) (h3 : x3 * x3 + y3 * y3 = 1 + d * (x3 * x3) * (y3 * y3)) :
    ((x1 * y2 + y1 * x2) * (1 - d * (x1 * x2) * (y1 * y2)) * y3 + (y1 * y2 - x1 * x2) * (1 + d * (x1 * x2) * (y1 * y2)) * x3) * ((1 + d * (x2 * x3) * (y2 * y3)) * (1 - d * (x2 * x3) * (y2 * y3)) + d * (x1 * (x2 * y3 + y2 * x3)) * (y1 * (y2 * y3 - x2 * x3)))
    = (x1 * (y2 * y3 - x2 * x3) * (1 + d * (x2 * x3) * (y2 * y3)) + y1 * (x2 * y3 + y2 * x3) * (1 - d * (x2 * x3) * (y2 * y3))) * ((1 + d * (x1 * x2) * (y1 * y2)) * (1 - d * (x1 * x2) * (y1 * y2)) + d * ((x1 * y2 + y1 * x2) * x3) * ((y1 * y2 - x1 * x2) * y3)) := by
  grind -lia -linarith
theorem ass_y (d x1 y1 x2 y2 x3 y3 : K) (h1 : x1 * x1 + y1 * y1 = 1 + d * (x1 * x1) * (y1 * y1)) (h2 : x2 * x2 + y2 * y2 = 1 + d * (x2 * x2) * (y2 * y2)) (h3 : x3 * x3 + y3 * y3 = 1 + d * (x3 * x3) * (y3 * y3)) :
    ((y1 * y2 - x1 * x2) * (1 + d * (x1 * x2) * (y1 * y2)) * y3 - (x1 * y2 + y1 * x2) * (1 - d * (x1 * x2) * (y1 * y2)) * x3) * ((1 + d * (x2 * x3) * (y2 * y3)) * (1 - d * (x2 * x3) * (y2 * y3)) - d * (x1 * (x2 * y3 + y2 * x3)) * (y1 * (y2 * y3 - x2 * x3)))
    = (y1 * (y2 * y3 - x2 * x3) * (1 + d * (x2 * x3) * (y2 * y3)) - x1 * (x2 * y3 + y2 * x3) * (1 - d * (x2 * x3) * (y2 * y3))) * ((1 + d * (x1 * x2) * (y1 * y2)) * (1 - d * (x1 * x2) * (y1 * y2)) - d * ((x1 * y2 + y1 * x2) * x3) * ((y1 * y2 - x1 * x2) * y3)) := by
  grind -lia -linarith
/-- a quotient of quotients -/
theorem quo {a b s t i j x3 y3 A B C : K} (hs : s * i = 1) (ht : t * j = 1) (hA : A = a * t * y3 + b * s * x3) (hB : B = s * t + C * (a * x3) * (b * y3)) :
    a * i * y3 + b * j * x3 = i * j * A ∧ 1 + C * (a * i * x3) * (b * j * y3) = i * j * B := by
  subst hA hB
  have e : i * j * (s * t) = 1 := by
    have : i * j * (s * t) = (s * i) * (t * j) := by grind -lia -linarith
    rw [this, hs, ht]; grind -lia -linarith
  refine ⟨?_, ?_⟩
  · have e1 : a * i * y3 = a * i * y3 * (t * j) := by rw [ht]; grind -lia -linarith
    have e2 : b * j * x3 = b * j * x3 * (s * i) := by rw [hs]; grind -lia -linarith
    rw [e1, e2]; grind -lia -linarith
  · have : i * j * (s * t + C * (a * x3) * (b * y3)) = i * j * (s * t) + i * j * (C * (a * x3) * (b * y3)) := by grind -lia -linarith
    rw [this, e]; grind -lia -linarith
theorem quo2 {a b s t i j x3 y3 A B C : K} (hs : s * i = 1) (ht : t * j = 1) (hA : A = b * s * y3 - a * t * x3) (hB : B = s * t - C * (a * x3) * (b * y3)) :
    b * j * y3 - a * i * x3 = i * j * A ∧ 1 - C * (a * i * x3) * (b * j * y3) = i * j * B := by
  subst hA hB
  have e : i * j * (s * t) = 1 := by
    have : i * j * (s * t) = (s * i) * (t * j) := by grind -lia -linarith
    rw [this, hs, ht]; grind -lia -linarith
  refine ⟨?_, ?_⟩
  · have e1 : a * i * x3 = a * i * x3 * (t * j) := by rw [ht]; grind -lia -linarith
    have e2 : b * j * y3 = b * j * y3 * (s * i) := by rw [hs]; grind -lia -linarith
    rw [e1, e2]; grind -lia -linarith
  · have : i * j * (s * t - C * (a * x3) * (b * y3)) = i * j * (s * t) - i * j * (C * (a * x3) * (b * y3)) := by grind -lia -linarith
    rw [this, e]; grind -lia -linarith
theorem frac2 {e f A B A' B' m n i j : K} (hm : m * i = 1) (hn : n * j = 1) (h1 : m = e * B) (h2 : n = f * B') (h : A * B' = A' * B) : (e * A) * i = (f * A') * j := by
  refine frac hm hn ?_
  rw [h1, h2]
  have : e * A * (f * B') = e * f * (A * B') := by grind -lia -linarith
  rw [this, h]; grind -lia -linarith
theorem sw1 (a b x y : K) : x * b + y * a = a * y + b * x := by grind -lia -linarith
theorem sw2 (a b x y : K) : y * b - x * a = b * y - a * x := by grind -lia -linarith
theorem sw3 (d a b x y : K) : d * (x * a) * (y * b) = d * (a * x) * (b * y) := by grind -lia -linarith
theorem sw4 (a b s t x y : K) : x * b * s + y * a * t = a * t * y + b * s * x := by grind -lia -linarith
theorem sw5 (a b s t x y : K) : y * b * s - x * a * t = b * s * y - a * t * x := by grind -lia -linarith
theorem add_assoc {p q r : Pt} (hp : On p) (hq : On q) (hr : On r) : add (add p q) r = add p (add q r) := by
  have s1 := iv_mul (cpl_add hp hq)
  have t1 := iv_mul (cpl_sub hp hq)
  have s2 := iv_mul (cpl_add hq hr)
  have t2 := iv_mul (cpl_sub hq hr)
  have m1 := iv_mul (cpl_add (on_add hp hq) hr)
  have m2 := iv_mul (cpl_sub (on_add hp hq) hr)
  have n1 := iv_mul (cpl_add hp (on_add hq hr))
  have n2 := iv_mul (cpl_sub hp (on_add hq hr))
  obtain ⟨x1, y1⟩ := p
  obtain ⟨x2, y2⟩ := q
  obtain ⟨x3, y3⟩ := r
  unfold On at hp hq hr
  unfold add tt at *
  simp only at *
  have kx := ass_x dd x1 y1 x2 y2 x3 y3 hp hq hr
  have ky := ass_y dd x1 y1 x2 y2 x3 y3 hp hq hr
  obtain ⟨a1, a2⟩ := quo (x3 := x3) (y3 := y3) (C := dd) s1 t1 (a := x1 * y2 + y1 * x2) (b := y1 * y2 - x1 * x2) rfl rfl
  obtain ⟨b1, b2⟩ := quo2 (x3 := x3) (y3 := y3) (C := dd) s1 t1 (a := x1 * y2 + y1 * x2) (b := y1 * y2 - x1 * x2) rfl rfl
  obtain ⟨c1, c2⟩ := quo (x3 := x1) (y3 := y1) (C := dd) s2 t2 (a := x2 * y3 + y2 * x3) (b := y2 * y3 - x2 * x3) rfl rfl
  obtain ⟨e1, e2⟩ := quo2 (x3 := x1) (y3 := y1) (C := dd) s2 t2 (a := x2 * y3 + y2 * x3) (b := y2 * y3 - x2 * x3) rfl rfl
  generalize iv (1 + dd * (x1 * x2) * (y1 * y2)) = i at *
  generalize iv (1 - dd * (x1 * x2) * (y1 * y2)) = j at *
  generalize iv (1 + dd * (x2 * x3) * (y2 * y3)) = i' at *
  generalize iv (1 - dd * (x2 * x3) * (y2 * y3)) = j' at *
  have sx : x1 * ((y2 * y3 - x2 * x3) * j') + y1 * ((x2 * y3 + y2 * x3) * i') = (x2 * y3 + y2 * x3) * i' * y1 + (y2 * y3 - x2 * x3) * j' * x1 := sw1 _ _ _ _
  have sy : y1 * ((y2 * y3 - x2 * x3) * j') - x1 * ((x2 * y3 + y2 * x3) * i') = (y2 * y3 - x2 * x3) * j' * y1 - (x2 * y3 + y2 * x3) * i' * x1 := sw2 _ _ _ _
  have sm : dd * (x1 * ((x2 * y3 + y2 * x3) * i')) * (y1 * ((y2 * y3 - x2 * x3) * j')) = dd * ((x2 * y3 + y2 * x3) * i' * x1) * ((y2 * y3 - x2 * x3) * j' * y1) := sw3 _ _ _ _ _
  rw [sm] at n1 n2
  rw [sx, sy, sm, a1, b1, c1, e1]
  refine pt_ext ?_ ?_
  · simp only
    refine frac2 m1 n1 a2 c2 ?_
    have u1 : x1 * (y2 * y3 - x2 * x3) * (1 + dd * (x2 * x3) * (y2 * y3)) + y1 * (x2 * y3 + y2 * x3) * (1 - dd * (x2 * x3) * (y2 * y3)) = (x2 * y3 + y2 * x3) * (1 - dd * (x2 * x3) * (y2 * y3)) * y1 + (y2 * y3 - x2 * x3) * (1 + dd * (x2 * x3) * (y2 * y3)) * x1 := sw4 _ _ _ _ _ _
    have u2 : dd * (x1 * (x2 * y3 + y2 * x3)) * (y1 * (y2 * y3 - x2 * x3)) = dd * ((x2 * y3 + y2 * x3) * x1) * ((y2 * y3 - x2 * x3) * y1) := sw3 _ _ _ _ _
    rw [u1, u2] at kx
    exact kx
  · simp only
    refine frac2 m2 n2 b2 e2 ?_
    have u1 : y1 * (y2 * y3 - x2 * x3) * (1 + dd * (x2 * x3) * (y2 * y3)) - x1 * (x2 * y3 + y2 * x3) * (1 - dd * (x2 * x3) * (y2 * y3)) = (y2 * y3 - x2 * x3) * (1 + dd * (x2 * x3) * (y2 * y3)) * y1 - (x2 * y3 + y2 * x3) * (1 - dd * (x2 * x3) * (y2 * y3)) * x1 := sw5 _ _ _ _ _ _
    have u2 : dd * (x1 * (x2 * y3 + y2 * x3)) * (y1 * (y2 * y3 - x2 * x3)) = dd * ((x2 * y3 + y2 * x3) * x1) * ((y2 * y3 - x2 * x3) * y1) := sw3 _ _ _ _ _
    rw [u1, u2] at ky
    exact ky
def O : Pt := ⟨0, 1⟩
theorem on_O : On O := by unfold On O; simp only; grind -lia -linarith
theorem iv_one : iv 1 = 1 := by
  have := iv_mul one_ne
  grind -lia -linarith
theorem O_add (p : Pt) : add O p = p := by
  have t : tt O p = 0 := by unfold tt O; simp only; grind -lia -linarith
  unfold add
  rw [t, show (1 : K) + 0 = 1 by grind -lia -linarith, show (1 : K) - 0 = 1 by grind -lia -linarith, iv_one]
  unfold O
  exact pt_ext (by simp only; grind -lia -linarith) (by simp only; grind -lia -linarith)
theorem add_O (p : Pt) : add p O = p := by rw [add_comm, O_add]
def neg (p : Pt) : Pt := ⟨0 - p.x, p.y⟩
theorem on_neg {p : Pt} (h : On p) : On (neg p) := by unfold On neg at *; simp only; grind -lia -linarith
theorem neg_add {p : Pt} (h : On p) : add (neg p) p = O := by
  have i1 := iv_mul (cpl_sub (on_neg h) h)
  unfold add O
  refine pt_ext ?_ ?_
  · simp only
    have : (neg p).x * p.y + (neg p).y * p.x = 0 := by unfold neg; simp only; grind -lia -linarith
    rw [this]; grind -lia -linarith
  · simp only
    have : (neg p).y * p.y - (neg p).x * p.x = 1 - tt (neg p) p := by unfold On at h; unfold tt neg; simp only; grind -lia -linarith
    rw [this]; exact i1
/-- multiples -/
noncomputable def mul (n : Nat) (p : Pt) : Pt := Nat.rec O (fun _ q => add q p) n
theorem mul_zero (p : Pt) : mul 0 p = O := rfl
theorem mul_succ (n : Nat) (p : Pt) : mul (n + 1) p = add (mul n p) p := rfl
theorem on_mul {p : Pt} (h : On p) : ∀ n, On (mul n p)
  | 0 => on_O
  | n + 1 => on_add (on_mul h n) h
theorem mul_add {p : Pt} (h : On p) (m : Nat) : ∀ n, mul (m + n) p = add (mul m p) (mul n p)
  | 0 => (add_O _).symm
  | n + 1 => by rw [← Nat.add_assoc, mul_succ, mul_add h m n, mul_succ, add_assoc (on_mul h m) (on_mul h n) h]
theorem mul_mul {p : Pt} (h : On p) (m : Nat) : ∀ n, mul (n * m) p = mul n (mul m p)
  | 0 => by rw [Nat.zero_mul]; rfl
  | n + 1 => by rw [Nat.add_mul, Nat.one_mul, mul_add h, mul_mul h m n, mul_succ]
theorem mul_comm {p : Pt} (h : On p) (m n : Nat) : mul m (mul n p) = mul n (mul m p) := by
  rw [← mul_mul h, ← mul_mul h, Nat.mul_comm]
end Go.Ed

/- A step towards HandshakeAgreesSaid: no conditions. -/
/-! the ladder goes through the multiples of a point -/
namespace Go.Ed
open Go Go.Eng Go.Cod Go.Pol Go.Cur
/-- the number of a point -/
def U (p : Pt) : K := (1 + p.y) * iv (1 - p.y)
def Rep (X Z : K) (p : Pt) : Prop := ∃ c : K, c ≠ 0 ∧ X = c * (1 + p.y) ∧ Z = c * (1 - p.y)
theorem rep_end {X Z : K} {p : Pt} (h : Rep X Z p) : X * iv Z = U p := by
  obtain ⟨c, hc, rfl, rfl⟩ := h
  have i := iv_mul hc
  rw [iv_prod, U]
  have : c * (1 + p.y) * (iv c * iv (1 - p.y)) = (c * iv c) * ((1 + p.y) * iv (1 - p.y)) := by grind -lia -linarith
  rw [this, i]; grind -lia -linarith
theorem dd_sq (v : K) : (1 : K) - dd * (v * v) ≠ 0 := by
  intro h
  have h1 : (1 : K) * 1 = dd * (v * v) := by grind -lia -linarith
  have := sq_dd h1
  subst this
  have : (1 : K) = 0 := by grind -lia -linarith
  exact one_ne this
theorem cof_ne : (8 : K) * 121666 ≠ 0 := by decide +kernel
theorem dbl_id (d c x y : K) (hd : 121666 * d = 121665) (h : x * x + y * y = 1 + d * (x * x) * (y * y)) :
    8 * 121666 * (c * c * (c * c)) * (1 - d * (y * y)) * ((1 - d * (x * x) * (y * y)) + (y * y - x * x)) = ((c * (1 + y) + c * (1 - y)) * (c * (1 + y) + c * (1 - y))) * ((c * (1 + y) - c * (1 - y)) * (c * (1 + y) - c * (1 - y))) := by
  have e1 : (1 - d * (x * x) * (y * y)) + (y * y - x * x) = 2 * (1 - x * x) := by grind -lia -linarith
  have e2 : (1 - d * (y * y)) * (1 - x * x) = y * y * (1 - d) := by grind -lia -linarith
  rw [e1]
  have e3 : 8 * 121666 * (c * c * (c * c)) * (1 - d * (y * y)) * (2 * (1 - x * x)) = 16 * (c * c * (c * c)) * 121666 * ((1 - d * (y * y)) * (1 - x * x)) := by grind -lia -linarith
  rw [e3, e2]
  have e4 : 16 * (c * c * (c * c)) * 121666 * (y * y * (1 - d)) = 16 * (c * c * (c * c)) * (y * y) * (121666 - 121666 * d) := by grind -lia -linarith
  rw [e4, hd]; grind -lia -linarith
theorem dbl_id2 (d c x y : K) (hd : 121666 * d = 121665) (h : x * x + y * y = 1 + d * (x * x) * (y * y)) :
    8 * 121666 * (c * c * (c * c)) * (1 - d * (y * y)) * ((1 - d * (x * x) * (y * y)) - (y * y - x * x)) = ((((c * (1 + y) + c * (1 - y)) * (c * (1 + y) + c * (1 - y))) - ((c * (1 + y) - c * (1 - y)) * (c * (1 + y) - c * (1 - y)))) * 121665 + ((c * (1 + y) + c * (1 - y)) * (c * (1 + y) + c * (1 - y)))) * (((c * (1 + y) + c * (1 - y)) * (c * (1 + y) + c * (1 - y))) - ((c * (1 + y) - c * (1 - y)) * (c * (1 + y) - c * (1 - y)))) := by
  have e1 : (1 - d * (x * x) * (y * y)) - (y * y - x * x) = 2 * (1 - y * y) := by grind -lia -linarith
  rw [e1]
  have e2 : 8 * 121666 * (c * c * (c * c)) * (1 - d * (y * y)) * (2 * (1 - y * y)) = 16 * (c * c * (c * c)) * (121666 - 121666 * d * (y * y)) * (1 - y * y) := by grind -lia -linarith
  rw [e2, hd]; grind -lia -linarith
theorem rep_dbl {X Z : K} {p : Pt} (hp : On p) (h : Rep X Z p) :
    Rep ((X + Z) * (X + Z) * ((X - Z) * (X - Z))) ((((X + Z) * (X + Z) - (X - Z) * (X - Z)) * 121665 + (X + Z) * (X + Z)) * ((X + Z) * (X + Z) - (X - Z) * (X - Z))) (add p p) := by
  obtain ⟨c, hc, rfl, rfl⟩ := h
  have t0 := cpl_sub hp hp
  have i := iv_mul t0
  have k1 := dbl_id dd c p.x p.y dd_val hp
  have k2 := dbl_id2 dd c p.x p.y dd_val hp
  have n1 := dd_sq p.y
  have ht : tt p p = dd * (p.x * p.x) * (p.y * p.y) := rfl
  have hy : (add p p).y = (p.y * p.y - p.x * p.x) * iv (1 - tt p p) := rfl
  refine ⟨8 * 121666 * (c * c * (c * c)) * (1 - dd * (p.y * p.y)) * (1 - tt p p), ?_, ?_, ?_⟩
  · exact mul_ne (mul_ne (mul_ne cof_ne (mul_ne (mul_ne hc hc) (mul_ne hc hc))) n1) t0
  · rw [← k1, hy, ← ht]
    generalize 8 * 121666 * (c * c * (c * c)) * (1 - dd * (p.y * p.y)) = m
    generalize 1 - tt p p = t at *
    generalize p.y * p.y - p.x * p.x = b
    have : m * t * (1 + b * iv t) = m * t + m * b * (t * iv t) := by grind -lia -linarith
    rw [this, i]; grind -lia -linarith
  · rw [← k2, hy, ← ht]
    generalize 8 * 121666 * (c * c * (c * c)) * (1 - dd * (p.y * p.y)) = m
    generalize 1 - tt p p = t at *
    generalize p.y * p.y - p.x * p.x = b
    have : m * t * (1 - b * iv t) = m * t - m * b * (t * iv t) := by grind -lia -linarith
    rw [this, i]; grind -lia -linarith
theorem dif_id (d xa ya xb yb : K) (ha : xa * xa + ya * ya = 1 + d * (xa * xa) * (ya * ya)) (hb : xb * xb + yb * yb = 1 + d * (xb * xb) * (yb * yb)) :
    (ya + yb) * (ya + yb) * (1 - d * (xa * xb * (xa * xb))) = (1 + ya * yb + (d * (xa * xb) * (ya * yb) + xa * xb)) * (1 + ya * yb - (d * (xa * xb) * (ya * yb) + xa * xb)) := by
  grind -lia -linarith
theorem dif_id2 (d xa ya xb yb : K) (ha : xa * xa + ya * ya = 1 + d * (xa * xa) * (ya * ya)) (hb : xb * xb + yb * yb = 1 + d * (xb * xb) * (yb * yb)) :
    (yb - ya) * (yb - ya) * (1 - d * (xa * xb * (xa * xb))) = (1 - ya * yb + (d * (xa * xb) * (ya * yb) - xa * xb)) * (1 - ya * yb - (d * (xa * xb) * (ya * yb) - xa * xb)) := by
  grind -lia -linarith
theorem dif_k {e m n y1 y5 Y w i : K} (h1 : y1 * (1 + e) = m + n) (h5 : y5 * (1 - e) = m - n) (hY : Y * w = (1 + m + (e + n)) * (1 + m - (e + n))) (hw : w * i = 1) : Y = (1 - e * e) * i * ((1 + y1) * (1 + y5)) := by
  have e1 : (1 - e * e) * ((1 + y1) * (1 + y5)) = ((1 + e) + y1 * (1 + e)) * ((1 - e) + y5 * (1 - e)) := by grind -lia -linarith
  have e2 : Y = Y * w * i := by
    have : Y * w * i = Y * (w * i) := by grind -lia -linarith
    rw [this, hw]; grind -lia -linarith
  rw [e2, hY]
  have e3 : (1 - e * e) * i * ((1 + y1) * (1 + y5)) = (1 - e * e) * ((1 + y1) * (1 + y5)) * i := by grind -lia -linarith
  rw [e3, e1, h1, h5]; grind -lia -linarith
theorem dif_k2 {e m n y1 y5 Y w i : K} (h1 : y1 * (1 + e) = m + n) (h5 : y5 * (1 - e) = m - n) (hY : Y * w = (1 - m + (e - n)) * (1 - m - (e - n))) (hw : w * i = 1) : Y = (1 - e * e) * i * ((1 - y1) * (1 - y5)) := by
  have e1 : (1 - e * e) * ((1 - y1) * (1 - y5)) = ((1 + e) - y1 * (1 + e)) * ((1 - e) - y5 * (1 - e)) := by grind -lia -linarith
  have e2 : Y = Y * w * i := by
    have : Y * w * i = Y * (w * i) := by grind -lia -linarith
    rw [this, hw]; grind -lia -linarith
  rw [e2, hY]
  have e3 : (1 - e * e) * i * ((1 - y1) * (1 - y5)) = (1 - e * e) * ((1 - y1) * (1 - y5)) * i := by grind -lia -linarith
  rw [e3, e1, h1, h5]; grind -lia -linarith
theorem mv1 (s k v w : K) : s * (k * (v * w)) = s * k * v * w := by grind -lia -linarith
theorem mv2 (s k v w u : K) : s * (k * (v * w)) * u = s * k * (u * v) * w := by grind -lia -linarith
/-- a sum by the difference: b and a differ by q -/
theorem rep_dif {X Z X' Z' u : K} {a b q : Pt} (ha : On a) (hb : On b) (hq1 : q.y * (1 + tt a b) = a.y * b.y + a.x * b.x) (hu : u * (1 - q.y) = 1 + q.y) (hn : 1 + q.y ≠ 0) (h : Rep X Z a) (h' : Rep X' Z' b) :
    Rep (((X' - Z') * (X + Z) + (X' + Z') * (X - Z)) * ((X' - Z') * (X + Z) + (X' + Z') * (X - Z))) (((X' - Z') * (X + Z) - (X' + Z') * (X - Z)) * ((X' - Z') * (X + Z) - (X' + Z') * (X - Z)) * u) (add a b) := by
  obtain ⟨c, hc, rfl, rfl⟩ := h
  obtain ⟨d, hd, rfl, rfl⟩ := h'
  have t0 := cpl_sub ha hb
  have i5 := iv_mul t0
  have w0 := dd_sq (a.x * b.x)
  have iw := iv_mul w0
  have k1 := dif_id dd a.x a.y b.x b.y ha hb
  have k2 := dif_id2 dd a.x a.y b.x b.y ha hb
  have ht : tt a b = dd * (a.x * b.x) * (a.y * b.y) := rfl
  rw [← ht] at k1 k2
  have hy : (add a b).y = (a.y * b.y - a.x * b.x) * iv (1 - tt a b) := rfl
  have h5 : (add a b).y * (1 - tt a b) = a.y * b.y - a.x * b.x := by
    rw [hy]
    have : (a.y * b.y - a.x * b.x) * iv (1 - tt a b) * (1 - tt a b) = (a.y * b.y - a.x * b.x) * ((1 - tt a b) * iv (1 - tt a b)) := by grind -lia -linarith
    rw [this, i5]; grind -lia -linarith
  have L1 := dif_k hq1 h5 k1 iw
  have L2 := dif_k2 hq1 h5 k2 iw
  have nn := complete ha hb
  have ni := iv_ne w0
  generalize (1 - tt a b * tt a b) = g at *
  generalize iv (1 - dd * (a.x * b.x * (a.x * b.x))) = j at *
  refine ⟨16 * (c * c * (d * d)) * (g * j) * (1 + q.y), ?_, ?_, ?_⟩
  · exact mul_ne (mul_ne (mul_ne (by decide +kernel) (mul_ne (mul_ne hc hc) (mul_ne hd hd))) (mul_ne nn ni)) hn
  · have : ((d * (1 + b.y) - d * (1 - b.y)) * (c * (1 + a.y) + c * (1 - a.y)) + (d * (1 + b.y) + d * (1 - b.y)) * (c * (1 + a.y) - c * (1 - a.y))) * ((d * (1 + b.y) - d * (1 - b.y)) * (c * (1 + a.y) + c * (1 - a.y)) + (d * (1 + b.y) + d * (1 - b.y)) * (c * (1 + a.y) - c * (1 - a.y))) = 16 * (c * c * (d * d)) * ((a.y + b.y) * (a.y + b.y)) := by grind -lia -linarith
    rw [this, L1]
    exact mv1 _ _ _ _
  · have : ((d * (1 + b.y) - d * (1 - b.y)) * (c * (1 + a.y) + c * (1 - a.y)) - (d * (1 + b.y) + d * (1 - b.y)) * (c * (1 + a.y) - c * (1 - a.y))) * ((d * (1 + b.y) - d * (1 - b.y)) * (c * (1 + a.y) + c * (1 - a.y)) - (d * (1 + b.y) + d * (1 - b.y)) * (c * (1 + a.y) - c * (1 - a.y))) = 16 * (c * c * (d * d)) * ((b.y - a.y) * (b.y - a.y)) := by grind -lia -linarith
    rw [this, L2]
    exact (mv2 _ _ _ _ _).trans (by rw [hu])
end Go.Ed
