/- A step towards CurveAgreesSaid: no conditions. -/
import Derived.Test.YthdhmciccohbeaaCugSpec
namespace Go.Cur
open Go Go.Eng Go.Cod Go.Pol
theorem d_set {l : List Int} {i : Nat} {x : Int} (h : i < l.length) : d (l.set i x) i = x := by
  unfold d; rw [List.getD_eq_getElem?_getD, List.getElem?_set_self h]; rfl
theorem d_ne {l : List Int} {i j : Nat} {x : Int} (h : i ≠ j) : d (l.set i x) j = d l j := by
  unfold d; rw [List.getD_eq_getElem?_getD, List.getElem?_set_ne h, ← List.getD_eq_getElem?_getD]
theorem d_out {l : List Int} {i : Nat} (h : l.length ≤ i) : d l i = 0 := by
  unfold d; rw [List.getD_eq_getElem?_getD, List.getElem?_eq_none h]; rfl
/-! the value -/
def ev : List Int → Int
  | [] => 0
  | x :: r => x + 65536 * ev r
theorem ev_set : ∀ (l : List Int) (i : Nat) (x : Int), i < l.length → ev (l.set i x) = ev l + (x - d l i) * 65536 ^ i
  | [], i, x, h => by simp at h
  | y :: r, 0, x, _ => by
    show x + 65536 * ev r = y + 65536 * ev r + (x - y) * 65536 ^ 0
    rw [Int.pow_zero]; omega
  | y :: r, i + 1, x, h => by
    show y + 65536 * ev (r.set i x) = y + 65536 * ev r + (x - d r i) * 65536 ^ (i + 1)
    rw [ev_set r i x (by simpa using h), Int.pow_succ]
    generalize (65536 : Int) ^ i = p
    grind
theorem ev_rep : ∀ n, ev (List.replicate n 0) = 0
  | 0 => rfl
  | n + 1 => by
    show 0 + 65536 * ev (List.replicate n 0) = 0
    rw [ev_rep n]; rfl
theorem ev_take : ∀ (l : List Int) (j : Nat), j < l.length → ev (l.take (j + 1)) = ev (l.take j) + d l j * 65536 ^ j
  | [], j, h => by simp at h
  | y :: r, 0, _ => by
    show y + 65536 * ev (r.take 0) = 0 + y * 65536 ^ 0
    rw [Int.pow_zero]; simp [ev]
  | y :: r, j + 1, h => by
    show y + 65536 * ev (r.take (j + 1)) = y + 65536 * ev (r.take j) + d r j * 65536 ^ (j + 1)
    rw [ev_take r j (by simpa using h), Int.pow_succ]
    generalize (65536 : Int) ^ j = p
    grind
/-! carrying -/
theorem carS_len (f : List Int) (i : Nat) : (carS f i).length = f.length := by
  unfold carS; split <;> simp
theorem carI_len (f : List Int) : ∀ i, (carI f i).length = f.length
  | 0 => rfl
  | i + 1 => by rw [carI, carS_len, carI_len f i]
/-- how the digits stand on the way -/
theorem car_inv {f : List Int} {m : Int} (hl : f.length = 16) (hm : m ≤ B60) (h : Bd m f) : ∀ i, i ≤ 15 →
    (∀ j, j < i → 0 ≤ d (carI f i) j ∧ d (carI f i) j ≤ 65535) ∧ (-m - 35184372088832 ≤ d (carI f i) i ∧ d (carI f i) i ≤ m + 35184372088832) ∧ (∀ j, i < j → d (carI f i) j = d f j)
  | 0, _ => ⟨fun j hj => by omega, ⟨by have := (h 0).1; show _ ≤ d f 0; omega, by have := (h 0).2; show d f 0 ≤ _; omega⟩, fun j _ => rfl⟩
  | i + 1, hi => by
    obtain ⟨h1, h2, h3⟩ := car_inv hl hm h i (by omega)
    have l1 : (carI f i).length = 16 := by rw [carI_len, hl]
    have e : carI f (i + 1) = ((carI f i).set i (d (carI f i) i - d (carI f i) i / 2 ^ 16 * 2 ^ 16)).set (i + 1) (d ((carI f i).set i (d (carI f i) i - d (carI f i) i / 2 ^ 16 * 2 ^ 16)) (i + 1) + d (carI f i) i / 2 ^ 16) := by
      show carS (carI f i) i = _
      unfold carS; rw [if_pos (by omega)]
    rw [d_ne (by omega), h3 (i + 1) (by omega)] at e
    rw [e]
    have hb := h (i + 1)
    refine ⟨fun j hj => ?_, ?_, fun j hj => ?_⟩
    · rw [d_ne (by omega)]
      by_cases hji : j = i
      · subst hji
        rw [d_set (by omega)]; omega
      · rw [d_ne (by omega)]
        exact h1 j (by omega)
    · rw [d_set (by rw [List.length_set]; omega)]
      simp only [B60] at hm
      omega
    · rw [d_ne (by omega), d_ne (by omega)]
      exact h3 j (by omega)
theorem car_step {f : List Int} (hl : f.length = 16) {i : Nat} (hi : i < 15) : ev (carI f (i + 1)) = ev (carI f i) := by
  have l1 : (carI f i).length = 16 := by rw [carI_len, hl]
  show ev (carS (carI f i) i) = _
  unfold carS
  have p1 : (65536 : Int) ^ (i + 1) = 65536 ^ i * 65536 := Int.pow_succ ..
  rw [if_pos hi, ev_set _ _ _ (by rw [List.length_set]; omega), ev_set _ _ _ (by omega), p1]
  generalize (65536 : Int) ^ i = p
  generalize d ((carI f i).set i (d (carI f i) i - d (carI f i) i / 2 ^ 16 * 2 ^ 16)) (i + 1) = y
  generalize d (carI f i) i / 2 ^ 16 = c
  generalize d (carI f i) i = x
  generalize ev (carI f i) = z
  have : (2 : Int) ^ 16 = 65536 := rfl
  rw [this]
  grind
theorem car_ev {f : List Int} (hl : f.length = 16) : ∀ i, i ≤ 15 → ev (carI f i) = ev f
  | 0, _ => rfl
  | i + 1, hi => by rw [car_step hl (by omega), car_ev hl i (by omega)]
abbrev P2 : Int := 115792089237316195423570985008687907853269984665640564039457584007913129639898
/-- the digits and the number behind a round of carrying -/
theorem carR_ev {f : List Int} (hl : f.length = 16) : ev (carR f) = ev f - P2 * (d (carI f 15) 15 / 2 ^ 16) := by
  have l1 : (carI f 15).length = 16 := by rw [carI_len, hl]
  show ev (carS (carI f 15) 15) = _
  unfold carS
  rw [if_neg (by omega), ev_set _ _ _ (by rw [List.length_set]; omega), ev_set _ _ _ (by omega), car_ev hl 15 (by omega)]
  generalize d ((carI f 15).set 15 (d (carI f 15) 15 - d (carI f 15) 15 / 2 ^ 16 * 2 ^ 16)) 0 = y
  generalize d (carI f 15) 15 / 2 ^ 16 = c
  generalize d (carI f 15) 15 = x
  generalize ev f = z
  have : (2 : Int) ^ 16 = 65536 := rfl
  have e15 : (65536 : Int) ^ 15 = 1766847064778384329583297500742918515827483896875618958121606201292619776 := rfl
  rw [this, e15, Int.pow_zero]
  simp only [P2]
  omega
theorem carR_dig {f : List Int} {m : Int} (hl : f.length = 16) (hm : m ≤ B60) (h : Bd m f) : (∀ j, 1 ≤ j → 0 ≤ d (carR f) j ∧ d (carR f) j ≤ 65535) ∧ ∃ r, 0 ≤ r ∧ r ≤ 65535 ∧ d (carR f) 0 = r + 38 * (d (carI f 15) 15 / 2 ^ 16) := by
  obtain ⟨h1, h2, h3⟩ := car_inv hl hm h 15 (by omega)
  have l1 : (carI f 15).length = 16 := by rw [carI_len, hl]
  have e : carR f = ((carI f 15).set 15 (d (carI f 15) 15 - d (carI f 15) 15 / 2 ^ 16 * 2 ^ 16)).set 0 (d (carI f 15) 0 + 38 * (d (carI f 15) 15 / 2 ^ 16)) := by
    show carS (carI f 15) 15 = _
    unfold carS
    rw [if_neg (by omega), d_ne (by omega)]
  rw [e]
  refine ⟨fun j hj => ?_, d (carI f 15) 0, (h1 0 (by omega)).1, (h1 0 (by omega)).2, ?_⟩
  · rw [d_ne (by omega)]
    by_cases h15 : j = 15
    · subst h15; rw [d_set (by omega)]; omega
    · rw [d_ne (by omega)]
      by_cases hj : j < 15
      · exact h1 j hj
      · rw [d_out (by omega)]; omega
  · rw [d_set (by rw [List.length_set]; omega)]
theorem carR_len (f : List Int) : (carR f).length = f.length := carI_len f 16
theorem carR_bd {f : List Int} {m : Int} (hl : f.length = 16) (hm : m ≤ B60) (h : Bd m f) (h0 : 0 ≤ m) : Bd (m / 1024 + 1099511627776) (carR f) := by
  obtain ⟨g1, r, g2, g3, g4⟩ := carR_dig hl hm h
  obtain ⟨_, h2, _⟩ := car_inv hl hm h 15 (by omega)
  intro j
  by_cases hj : j = 0
  · subst hj
    rw [g4]; omega
  · have := g1 j (by omega); omega
theorem Nm.bd {f : List Int} (h : Nm f) : Bd B17 f := fun i => by
  simp only [B17]
  by_cases hi : i = 0
  · subst hi; have := h.lo; have := h.hi; omega
  · have := h.rest i (by omega); omega
/-- carries die out -/
theorem car_small {f : List Int} (hl : f.length = 16) (h0 : -1099511627776 ≤ d f 0 ∧ d f 0 ≤ 1099511627776) (hr : ∀ j, 1 ≤ j → 0 ≤ d f j ∧ d f j ≤ 65535) : ∀ i, i + 3 ≤ 15 → -1 ≤ d (carI f (i + 3)) (i + 3) ∧ d (carI f (i + 3)) (i + 3) ≤ 65536 := by
  have hb : Bd 1099511627776 f := fun i => by
    by_cases hi : i = 0
    · subst hi; exact h0
    · have := hr i (by omega); omega
  have st : ∀ i, i < 15 → d (carI f (i + 1)) (i + 1) = d f (i + 1) + d (carI f i) i / 2 ^ 16 := fun i hi => by
    have l1 : (carI f i).length = 16 := by rw [carI_len, hl]
    show d (carS (carI f i) i) (i + 1) = _
    unfold carS
    rw [if_pos hi, d_set (by rw [List.length_set]; omega), d_ne (by omega), (car_inv hl (by decide) hb i (by omega)).2.2 (i + 1) (by omega)]
  have s1 : d (carI f 1) 1 = d f 1 + d f 0 / 2 ^ 16 := st 0 (by omega)
  have s2 : d (carI f 2) 2 = d f 2 + d (carI f 1) 1 / 2 ^ 16 := st 1 (by omega)
  have s3 : d (carI f 3) 3 = d f 3 + d (carI f 2) 2 / 2 ^ 16 := st 2 (by omega)
  intro i
  induction i with
  | zero =>
    intro _
    have r1 := hr 1 (by omega)
    have r2 := hr 2 (by omega)
    have r3 := hr 3 (by omega)
    show -1 ≤ d (carI f 3) 3 ∧ d (carI f 3) 3 ≤ 65536
    rw [s3, s2, s1]
    omega
  | succ i ih =>
    intro hi
    have ih := ih (by omega)
    have r := hr (i + 3 + 1) (by omega)
    have s := st (i + 3) (by omega)
    rw [show i + 1 + 3 = i + 3 + 1 by omega, s]
    omega
theorem carR_nm {f : List Int} (hl : f.length = 16) (h0 : -1099511627776 ≤ d f 0 ∧ d f 0 ≤ 1099511627776) (hr : ∀ j, 1 ≤ j → 0 ≤ d f j ∧ d f j ≤ 65535) : Nm (carR f) ∧ (d (carI f 15) 15 / 2 ^ 16 = -1 ∨ d (carI f 15) 15 / 2 ^ 16 = 0 ∨ d (carI f 15) 15 / 2 ^ 16 = 1) := by
  have hb : Bd 1099511627776 f := fun i => by
    by_cases hi : i = 0
    · subst hi; exact h0
    · have := hr i (by omega); omega
  have h15 := car_small hl h0 hr 12 (by omega)
  obtain ⟨g1, r, g2, g3, g4⟩ := carR_dig hl (by decide) hb
  have hc : d (carI f 15) 15 / 2 ^ 16 = -1 ∨ d (carI f 15) 15 / 2 ^ 16 = 0 ∨ d (carI f 15) 15 / 2 ^ 16 = 1 := by
    have : d (carI f (12 + 3)) (12 + 3) = d (carI f 15) 15 := rfl
    omega
  exact ⟨⟨by rw [carR_len, hl], by rw [g4]; omega, by rw [g4]; omega, g1⟩, hc⟩
/-! sums and differences -/
theorem addI_len (a b : List Int) : ∀ i, (addI a b i).length = a.length
  | 0 => rfl
  | i + 1 => by rw [addI, List.length_set, addI_len a b i]
theorem subI_len (a b : List Int) : ∀ i, (subI a b i).length = a.length
  | 0 => rfl
  | i + 1 => by rw [subI, List.length_set, subI_len a b i]
theorem addI_d {a b : List Int} (ha : a.length = 16) : ∀ i, i ≤ 16 → ∀ j, d (addI a b i) j = if j < i then d a j + d b j else d a j
  | 0, _, j => by rw [if_neg (by omega)]; rfl
  | i + 1, hi, j => by
    rw [addI]
    by_cases h : i = j
    · subst h
      rw [d_set (by rw [addI_len]; omega), addI_d ha i (by omega) i, if_neg (by omega), if_pos (by omega)]
    · rw [d_ne h, addI_d ha i (by omega) j]
      by_cases h2 : j < i
      · rw [if_pos h2, if_pos (by omega)]
      · rw [if_neg h2, if_neg (by omega)]
theorem subI_d {a b : List Int} (ha : a.length = 16) : ∀ i, i ≤ 16 → ∀ j, d (subI a b i) j = if j < i then d a j - d b j else d a j
  | 0, _, j => by rw [if_neg (by omega)]; rfl
  | i + 1, hi, j => by
    rw [subI]
    by_cases h : i = j
    · subst h
      rw [d_set (by rw [subI_len]; omega), subI_d ha i (by omega) i, if_neg (by omega), if_pos (by omega)]
    · rw [d_ne h, subI_d ha i (by omega) j]
      by_cases h2 : j < i
      · rw [if_pos h2, if_pos (by omega)]
      · rw [if_neg h2, if_neg (by omega)]
theorem addI_ev {a b : List Int} (ha : a.length = 16) (hb : b.length = 16) : ∀ i, i ≤ 16 → ev (addI a b i) = ev a + ev (b.take i)
  | 0, _ => by show ev a = ev a + ev []; simp [ev]
  | i + 1, hi => by
    rw [addI, ev_set _ _ _ (by rw [addI_len]; omega), addI_ev ha hb i (by omega), ev_take _ _ (by omega)]
    generalize (65536 : Int) ^ i = p
    grind
theorem subI_ev {a b : List Int} (ha : a.length = 16) (hb : b.length = 16) : ∀ i, i ≤ 16 → ev (subI a b i) = ev a - ev (b.take i)
  | 0, _ => by show ev a = ev a - ev []; simp [ev]
  | i + 1, hi => by
    rw [subI, ev_set _ _ _ (by rw [subI_len]; omega), subI_ev ha hb i (by omega), ev_take _ _ (by omega)]
    generalize (65536 : Int) ^ i = p
    grind
/-! products -/
theorem rowI_len (a b : List Int) (i : Nat) (t : List Int) : ∀ j, (rowI a b i t j).length = t.length
  | 0 => rfl
  | j + 1 => by rw [rowI, List.length_set, rowI_len a b i t j]
theorem prodI_len (a b : List Int) : ∀ i, (prodI a b i).length = 31
  | 0 => rfl
  | i + 1 => by rw [prodI, rowI_len, prodI_len a b i]
theorem pr_bd {x y : Int} (hx : -B18 ≤ x ∧ x ≤ B18) (hy : -B18 ≤ y ∧ y ≤ B18) : -68719476736 ≤ x * y ∧ x * y ≤ 68719476736 := by
  simp only [B18] at *
  have h1 : 0 ≤ (262144 - x) * (262144 + y) := Int.mul_nonneg (by omega) (by omega)
  have h2 : 0 ≤ (262144 + x) * (262144 - y) := Int.mul_nonneg (by omega) (by omega)
  have h3 : 0 ≤ (262144 - x) * (262144 - y) := Int.mul_nonneg (by omega) (by omega)
  have h4 : 0 ≤ (262144 + x) * (262144 + y) := Int.mul_nonneg (by omega) (by omega)
  simp only [Int.sub_mul, Int.add_mul, Int.mul_sub, Int.mul_add] at h1 h2 h3 h4
  omega
theorem rowI_bd {a b : List Int} (ha : Bd B18 a) (hb : Bd B18 b) (i : Nat) (hi : i ≤ 15) {t : List Int} (ht : t.length = 31) {m : Int} (h : Bd m t) : ∀ j : Nat, j ≤ 16 → Bd (m + (j : Int) * 68719476736) (rowI a b i t j)
  | 0, _ => fun k => by have := h k; show _ ≤ d t k ∧ d t k ≤ _; omega
  | j + 1, hj => fun k => by
    have ih := rowI_bd ha hb i hi ht h j (by omega)
    have hp := pr_bd (ha i) (hb j)
    rw [rowI]
    by_cases hk : i + j = k
    · subst hk
      rw [d_set (by rw [rowI_len]; omega)]
      have := ih (i + j)
      omega
    · rw [d_ne hk]
      have := ih k
      omega
theorem prodI_bd {a b : List Int} (ha : Bd B18 a) (hb : Bd B18 b) : ∀ i : Nat, i ≤ 16 → Bd ((i : Int) * 1099511627776) (prodI a b i)
  | 0, _ => fun k => by
    have : d (List.replicate 31 0) k = 0 := by
      by_cases hk : k < 31
      · unfold d; rw [List.getD_eq_getElem?_getD, List.getElem?_replicate, if_pos hk]; rfl
      · exact d_out (by rw [List.length_replicate]; omega)
    show _ ≤ d (List.replicate 31 0) k ∧ d (List.replicate 31 0) k ≤ _
    rw [this]; omega
  | i + 1, hi => fun k => by
    have := rowI_bd ha hb i (by omega) (prodI_len a b i) (prodI_bd ha hb i (by omega)) 16 (by omega) k
    show _ ≤ d (rowI a b i (prodI a b i) 16) k ∧ d (rowI a b i (prodI a b i) 16) k ≤ _
    omega
theorem rowI_ev {a b : List Int} (hb : b.length = 16) (i : Nat) (hi : i ≤ 15) {t : List Int} (ht : t.length = 31) : ∀ j, j ≤ 16 → ev (rowI a b i t j) = ev t + d a i * 65536 ^ i * ev (b.take j)
  | 0, _ => by show ev t = ev t + d a i * 65536 ^ i * ev []; simp [ev]
  | j + 1, hj => by
    rw [rowI, ev_set _ _ _ (by rw [rowI_len]; omega), rowI_ev hb i hi ht j (by omega), ev_take _ _ (by omega), Int.pow_add]
    generalize (65536 : Int) ^ i = p
    generalize (65536 : Int) ^ j = q
    grind
theorem prodI_ev {a b : List Int} (ha : a.length = 16) (hb : b.length = 16) : ∀ i, i ≤ 16 → ev (prodI a b i) = ev (a.take i) * ev b
  | 0, _ => by
    show ev (List.replicate 31 0) = ev [] * ev b
    rw [ev_rep]; simp [ev]
  | i + 1, hi => by
    rw [prodI, rowI_ev hb i (by omega) (prodI_len a b i) 16 (by omega), List.take_of_length_le (l := b) (by omega), prodI_ev ha hb i (by omega), ev_take a i (by omega)]
    generalize (65536 : Int) ^ i = p
    grind
theorem foldI_len (t : List Int) : ∀ i, (foldI t i).length = 16
  | 0 => rfl
  | i + 1 => by rw [foldI]; split <;> simp [foldI_len t i]
theorem rep16 (k : Nat) : d (List.replicate 16 0) k = 0 := by
  by_cases hk : k < 16
  · unfold d; rw [List.getD_eq_getElem?_getD, List.getElem?_replicate, if_pos hk]; rfl
  · exact d_out (by rw [List.length_replicate]; omega)
theorem foldI_d {t : List Int} : ∀ i, i ≤ 16 → ∀ j, d (foldI t i) j = if j < i then (if j < 15 then d t j + 38 * d t (j + 16) else d t j) else 0
  | 0, _, j => by rw [if_neg (by omega)]; exact rep16 j
  | i + 1, hi, j => by
    have ih := foldI_d (t := t) i (by omega) j
    rw [foldI]
    by_cases h15 : i < 15
    · rw [if_pos h15]
      by_cases h : i = j
      · subst h
        rw [d_set (by rw [List.length_set, foldI_len]; omega), d_set (by rw [foldI_len]; omega), if_pos (by omega), if_pos h15]
      · rw [d_ne h, d_ne h, ih]
        by_cases h2 : j < i
        · rw [if_pos h2, if_pos (show j < i + 1 by omega)]
        · rw [if_neg h2, if_neg (show ¬ j < i + 1 by omega)]
    · rw [if_neg h15]
      by_cases h : i = j
      · subst h
        rw [d_set (by rw [foldI_len]; omega), if_pos (by omega), if_neg h15]
      · rw [d_ne h, ih]
        by_cases h2 : j < i
        · rw [if_pos h2, if_pos (show j < i + 1 by omega)]
        · rw [if_neg h2, if_neg (show ¬ j < i + 1 by omega)]
theorem foldI_bd {t : List Int} (h : Bd 17592186044416 t) {i : Nat} (hi : i ≤ 16) : Bd 686095255732224 (foldI t i) := fun j => by
  rw [foldI_d i hi j]
  have h1 := h j
  have h2 := h (j + 16)
  split
  · split <;> omega
  · omega
theorem foldI_ev {t : List Int} (ht : t.length = 31) : ∀ i, i ≤ 15 → ev (foldI t i) = ev (t.take i) + 38 * ev ((t.drop 16).take i)
  | 0, _ => by
    show ev (List.replicate 16 0) = ev [] + 38 * ev []
    rw [ev_rep]; simp [ev]
  | i + 1, hi => by
    have hd : d (t.drop 16) i = d t (i + 16) := by
      unfold d; rw [List.getD_eq_getElem?_getD, List.getElem?_drop, List.getD_eq_getElem?_getD, Nat.add_comm]
    have h0 : d (foldI t i) i = 0 := by rw [foldI_d i (by omega) i, if_neg (by omega)]
    rw [foldI, if_pos (by omega), ev_set _ _ _ (by rw [List.length_set, foldI_len]; omega), ev_set _ _ _ (by rw [foldI_len]; omega), d_set (by rw [foldI_len]; omega), foldI_ev ht i (by omega), ev_take t i (by omega), ev_take (t.drop 16) i (by rw [List.length_drop]; omega), hd, h0]
    generalize (65536 : Int) ^ i = p
    grind
theorem ev_drop : ∀ (l : List Int) (n : Nat), n ≤ l.length → ev l = ev (l.take n) + 65536 ^ n * ev (l.drop n)
  | l, 0, _ => by rw [Int.pow_zero]; simp [ev]
  | [], n + 1, h => by simp at h
  | x :: r, n + 1, h => by
    show x + 65536 * ev r = x + 65536 * ev (r.take n) + 65536 ^ (n + 1) * ev (r.drop n)
    rw [ev_drop r n (by simpa using h), Int.pow_succ]
    generalize (65536 : Int) ^ n = p
    grind
theorem foldI_all {t : List Int} (ht : t.length = 31) : ev (foldI t 16) = ev t - P2 * ev (t.drop 16) := by
  have h0 : d (foldI t 15) 15 = 0 := by rw [foldI_d 15 (by omega) 15, if_neg (by omega)]
  have e1 := ev_drop t 16 (by omega)
  have e2 := ev_take t 15 (by omega)
  have e3 : (t.drop 16).take 15 = t.drop 16 := List.take_of_length_le (by rw [List.length_drop]; omega)
  rw [foldI, if_neg (by omega), ev_set _ _ _ (by rw [foldI_len]; omega), foldI_ev ht 15 (by omega), h0, e3]
  have p16 : (65536 : Int) ^ 16 = 115792089237316195423570985008687907853269984665640564039457584007913129639936 := rfl
  rw [p16] at e1
  rw [e1, e2]
  generalize (65536 : Int) ^ 15 = p
  simp only [P2]
  grind
theorem mulR_nm {a b : List Int} (ha : Bd B18 a) (hb : Bd B18 b) (la : a.length = 16) (lb : b.length = 16) : Nm (mulR a b) ∧ ∃ q, ev (mulR a b) = ev a * ev b - P2 * q := by
  have hp := prodI_bd ha hb 16 (by omega)
  have hf : Bd 686095255732224 (foldI (prodI a b 16) 16) := foldI_bd (fun j => by have := hp j; omega) (by omega)
  have hl := foldI_len (prodI a b 16) 16
  obtain ⟨g1, r, g2, g3, g4⟩ := carR_dig hl (by decide) hf
  obtain ⟨_, k2, _⟩ := car_inv hl (by decide) hf 15 (by omega)
  obtain ⟨n1, _⟩ := carR_nm (f := carR (foldI (prodI a b 16) 16)) (by rw [carR_len, hl]) (by rw [g4]; omega) g1
  refine ⟨n1, ?_⟩
  have e1 := carR_ev hl
  have e2 := carR_ev (f := carR (foldI (prodI a b 16) 16)) (by rw [carR_len, hl])
  have e3 := foldI_all (prodI_len a b 16)
  have e4 := prodI_ev la lb 16 (by omega)
  rw [List.take_of_length_le (by omega)] at e4
  unfold mulR
  rw [e2, e1, e3, e4]
  exact ⟨_, by rw [Int.sub_sub, Int.sub_sub, ← Int.mul_add, ← Int.mul_add]⟩
end Go.Cur
