/- A step towards CurveAgreesSaid: no conditions. -/
import Derived.Test.YthdhmciccohbeaaEngD
namespace Go.Cur
open Go Go.Eng
/-! Fermat's theorem and Pocklington's, for numbers -/
def Pr (q : Nat) : Prop := 1 < q ∧ ∀ m, m ∣ q → m = 1 ∨ m = q
theorem Pr.cop {q a : Nat} (h : Pr q) (ha : ¬ q ∣ a) : Nat.Coprime q a := by
  rcases h.2 (Nat.gcd q a) (Nat.gcd_dvd_left q a) with e | e
  · exact e
  · exact absurd (e ▸ Nat.gcd_dvd_right q a) ha
theorem Pr.dvd_mul {q a b : Nat} (h : Pr q) (hab : q ∣ a * b) : q ∣ a ∨ q ∣ b := by
  by_cases ha : q ∣ a
  · exact .inl ha
  · exact .inr ((h.cop ha).dvd_of_dvd_mul_left hab)
def ch : Nat → Nat → Nat
  | _, 0 => 1
  | 0, _ + 1 => 0
  | n + 1, k + 1 => ch n k + ch n (k + 1)
theorem ch_zero (n : Nat) : ch n 0 = 1 := by cases n <;> rfl
theorem ch_succ (n k : Nat) : ch (n + 1) (k + 1) = ch n k + ch n (k + 1) := rfl
theorem ch_big : ∀ n k, n < k → ch n k = 0
  | 0, k + 1, _ => rfl
  | n + 1, k + 1, h => by rw [ch_succ, ch_big n k (by omega), ch_big n (k + 1) (by omega)]
theorem ch_self : ∀ n, ch n n = 1
  | 0 => rfl
  | n + 1 => by rw [ch_succ, ch_self n, ch_big n (n + 1) (by omega)]
theorem ch_mul : ∀ n k, (k + 1) * ch (n + 1) (k + 1) = (n + 1) * ch n k
  | 0, 0 => rfl
  | 0, k + 1 => by rw [ch_succ, ch_big 0 (k + 1) (by omega), ch_big 0 (k + 2) (by omega)]; simp
  | n + 1, 0 => by
    have h := ch_mul n 0
    rw [ch_succ, ch_zero]
    rw [ch_zero] at h
    omega
  | n + 1, k + 1 => by
    have h1 := ch_mul n k
    have h2 := ch_mul n (k + 1)
    have e := ch_succ n k
    have e2 := ch_succ (n + 1) (k + 1)
    rw [e2]
    grind
def sm (a n : Nat) : Nat → Nat
  | 0 => 0
  | m + 1 => sm a n m + ch n m * a ^ m
theorem sm_succ (a n : Nat) : ∀ m, sm a (n + 1) (m + 1) = sm a n (m + 1) + a * sm a n m
  | 0 => by simp [sm, ch_zero]
  | m + 1 => by
    have ih := sm_succ a n m
    rw [sm, ih, ch_succ]
    have e1 : sm a n (m + 1 + 1) = sm a n (m + 1) + ch n (m + 1) * a ^ (m + 1) := rfl
    have e2 : sm a n (m + 1) = sm a n m + ch n m * a ^ m := rfl
    rw [e1]
    rw [Nat.pow_succ]
    grind
theorem bin (a : Nat) : ∀ n, (a + 1) ^ n = sm a n (n + 1)
  | 0 => by simp [sm, ch_zero]
  | n + 1 => by
    have ih := bin a n
    rw [sm_succ, Nat.pow_succ, ih]
    have e1 : sm a n (n + 1 + 1) = sm a n (n + 1) + ch n (n + 1) * a ^ (n + 1) := rfl
    rw [e1, ch_big n (n + 1) (by omega)]
    grind
theorem Pr.ch {q : Nat} (h : Pr q) : ∀ k, 0 < k → k < q → q ∣ ch q k := by
  intro k hk hq
  obtain ⟨n, rfl⟩ : ∃ n, q = n + 1 := ⟨q - 1, by omega⟩
  obtain ⟨j, rfl⟩ : ∃ j, k = j + 1 := ⟨k - 1, by omega⟩
  have e := ch_mul n j
  rcases h.dvd_mul (a := j + 1) (b := Cur.ch (n + 1) (j + 1)) ⟨_, e⟩ with d | d
  · have := Nat.le_of_dvd (by omega) d
    omega
  · exact d
theorem Pr.sm {q : Nat} (h : Pr q) (a : Nat) : ∀ m, m < q → sm a q (m + 1) % q = 1
  | 0, _ => by
    have := h.1
    simp only [Cur.sm, ch_zero]
    rw [Nat.pow_zero, Nat.mul_one, Nat.zero_add, Nat.mod_eq_of_lt this]
  | m + 1, hm => by
    have ih := Pr.sm h a m (by omega)
    rw [Cur.sm, Nat.add_mod, ih, Nat.mul_mod, Nat.mod_eq_zero_of_dvd (h.ch (m + 1) (by omega) hm), Nat.zero_mul, Nat.zero_mod, Nat.add_zero]
    exact Nat.mod_eq_of_lt h.1
theorem Pr.fermat0 {q : Nat} (h : Pr q) : ∀ a, a ^ q % q = a % q
  | 0 => by rw [Nat.zero_pow (by have := h.1; omega)]
  | a + 1 => by
    have ih := Pr.fermat0 h a
    obtain ⟨n, rfl⟩ : ∃ n, q = n + 1 := ⟨q - 1, by have := h.1; omega⟩
    rw [bin, Cur.sm, Nat.add_mod, h.sm a n (by omega), ch_self, Nat.one_mul, ih, Nat.add_mod_mod, Nat.add_comm]
theorem Pr.fermat {q a : Nat} (h : Pr q) (ha : ¬ q ∣ a) : a ^ (q - 1) % q = 1 := by
  obtain ⟨n, rfl⟩ : ∃ n, q = n + 1 := ⟨q - 1, by have := h.1; omega⟩
  have a0 : 0 < a := Nat.pos_of_ne_zero fun e => ha (e ▸ Nat.dvd_zero _)
  have h0 := h.fermat0 a
  have p : 0 < a ^ n := Nat.pow_pos a0
  have d : (n + 1) ∣ a * (a ^ n - 1) := by
    rw [Nat.mul_sub, Nat.mul_one, Nat.mul_comm, ← Nat.pow_succ]
    exact Nat.dvd_of_mod_eq_zero (Nat.sub_mod_eq_zero_of_mod_eq h0)
  rcases h.dvd_mul d with d | d
  · exact absurd d ha
  · show a ^ n % (n + 1) = 1
    obtain ⟨c, hc⟩ := d
    have e : a ^ n = 1 + (n + 1) * c := by omega
    rw [e, Nat.add_mul_mod_self_left]
    exact Nat.mod_eq_of_lt h.1

/-! powers by the bits of the exponent -/
theorem pow_mod_gcd {b r : Nat} (hr : 1 < r) : ∀ (m n : Nat), b ^ m % r = 1 → b ^ n % r = 1 → b ^ Nat.gcd m n % r = 1 := by
  intro m n
  refine Nat.gcd.induction (P := fun m n => b ^ m % r = 1 → b ^ n % r = 1 → b ^ Nat.gcd m n % r = 1) m n ?_ ?_
  · intro n _ h
    rw [Nat.gcd_zero_left]; exact h
  · intro m n hm ih h1 h2
    rw [Nat.gcd_rec]
    refine ih ?_ h1
    have e : b ^ n = (b ^ m) ^ (n / m) * b ^ (n % m) := by rw [← Nat.pow_mul, ← Nat.pow_add, Nat.div_add_mod]
    rw [e, Nat.mul_mod, Nat.pow_mod, h1, Nat.one_pow, Nat.mod_eq_of_lt hr, Nat.one_mul, Nat.mod_mod] at h2
    exact h2
/-- a power's residue -/
structure Pw (n a e c : Nat) : Prop where
  eq : a ^ e % n = c
theorem pock {n f a r e k c : Nat} (hr : Pr r) (hrn : r ∣ n) (hf : Pr f) (he : n = e + 1) (hk : e = f * k) (h1 : Pw n a e 1) (hc : Pw n a k c) (h2 : Nat.gcd (c - 1) n = 1) (e0 : 0 < e) : f ∣ r - 1 := by
  obtain ⟨h1⟩ := h1
  obtain ⟨hc⟩ := hc
  obtain rfl : e = n - 1 := by omega
  by_cases hd : f ∣ r - 1
  · exact hd
  exfalso
  have g := hf.cop hd
  have m1 : ∀ x, x % n = 1 → x % r = 1 := by
    intro x hx
    rw [← Nat.mod_mod_of_dvd x hrn, hx]
    exact Nat.mod_eq_of_lt hr.1
  have ra : ¬ r ∣ a := by
    intro hra
    have q := m1 _ h1
    have : r ∣ a ^ (n - 1) := Nat.dvd_trans hra (by
      obtain ⟨m, hm⟩ : ∃ m, n - 1 = m + 1 := ⟨n - 2, by omega⟩
      rw [hm, Nat.pow_succ]; exact Nat.dvd_mul_left _ _)
    rw [Nat.mod_eq_zero_of_dvd this] at q
    omega
  have b1 : (a ^ k) ^ f % r = 1 := by
    rw [← Nat.pow_mul, Nat.mul_comm, ← hk]; exact m1 _ h1
  have b2 : (a ^ k) ^ (r - 1) % r = 1 := by
    rw [← Nat.pow_mul, Nat.mul_comm, Nat.pow_mul, Nat.pow_mod, hr.fermat ra, Nat.one_pow]
    exact Nat.mod_eq_of_lt hr.1
  have b3 := pow_mod_gcd hr.1 f (r - 1) b1 b2
  rw [show Nat.gcd f (r - 1) = 1 from g, Nat.pow_one] at b3
  have b4 : c % r = 1 := by rw [← hc, Nat.mod_mod_of_dvd _ hrn]; exact b3
  have b5 : r ∣ c - 1 := Nat.dvd_of_mod_eq_zero (Nat.sub_mod_eq_zero_of_mod_eq (by rw [b4, Nat.mod_eq_of_lt hr.1]))
  have b6 := Nat.dvd_gcd b5 hrn
  rw [h2] at b6
  have := Nat.le_of_dvd (by omega) b6
  have := hr.1
  omega
/-- the least divisor above 1 -/
theorem low_div {n : Nat} (hn : 1 < n) : ∃ r, Pr r ∧ r ∣ n ∧ ∀ m, 1 < m → m ∣ n → r ≤ m := by
  have : ∀ d, (∃ m, 1 < m ∧ m ∣ n ∧ m ≤ d) → ∃ r, 1 < r ∧ r ∣ n ∧ ∀ m, 1 < m → m ∣ n → r ≤ m := by
    intro d
    induction d with
    | zero => rintro ⟨m, h, _, h'⟩; omega
    | succ d ih =>
      rintro ⟨m, h1, h2, h3⟩
      by_cases c : ∃ m, 1 < m ∧ m ∣ n ∧ m ≤ d
      · exact ih c
      · refine ⟨m, h1, h2, fun k k1 k2 => ?_⟩
        by_cases q : k ≤ d
        · exact absurd ⟨k, k1, k2, q⟩ c
        · omega
  obtain ⟨r, h1, h2, h3⟩ := this n ⟨n, hn, Nat.dvd_refl n, Nat.le_refl n⟩
  refine ⟨r, ⟨h1, fun m hm => ?_⟩, h2, h3⟩
  by_cases c : 1 < m
  · have := h3 m c (Nat.dvd_trans hm h2)
    have := Nat.le_of_dvd (by omega) hm
    omega
  · have : m ≠ 0 := by rintro rfl; have := Nat.eq_zero_of_zero_dvd hm; omega
    omega
/-- no divisor up to the root: prime -/
theorem pr_of {n s : Nat} (hn : 1 < n) (hs : n < s * s) (h : ∀ r, Pr r → r ∣ n → s ≤ r) : Pr n := by
  obtain ⟨r, hr, hrn, hl⟩ := low_div hn
  obtain ⟨c, hc⟩ := hrn
  by_cases e : c = 1
  · rw [e, Nat.mul_one] at hc; exact hc ▸ hr
  · exfalso
    have c0 : c ≠ 0 := by rintro rfl; omega
    have l1 := h r hr ⟨c, hc⟩
    have l2 := hl c (by omega) ⟨r, by rw [hc, Nat.mul_comm]⟩
    have := Nat.mul_le_mul l1 (Nat.le_trans l1 l2)
    omega
noncomputable def pwF {β : Type} (n a : Nat) (fuel : Nat) : Nat → (Nat → β) → β :=
  Nat.rec (motive := fun _ => Nat → (Nat → β) → β) (fun _ k => k (1 % n)) (fun _ ih e k => frcN (e / 2) fun e2 => ih e2 fun h => frcN (bif Nat.beq (e % 2) 1 then h * h % n * a % n else h * h % n) k) fuel
theorem pwF_succ {β : Type} (n a f e : Nat) (k : Nat → β) : pwF n a (f + 1) e k = frcN (e / 2) fun e2 => pwF n a f e2 fun h => frcN (bif Nat.beq (e % 2) 1 then h * h % n * a % n else h * h % n) k := rfl
theorem pwF_eq {β : Type} (n a : Nat) : ∀ (f e : Nat) (k : Nat → β), e < 2 ^ f → pwF n a f e k = k (a ^ e % n)
  | 0, e, k, h => by
    obtain rfl : e = 0 := by simpa using h
    rfl
  | f + 1, e, k, h => by
    rw [pwF_succ, frcN_eq, pwF_eq n a f (e / 2) _ (by rw [Nat.pow_succ] at h; omega), frcN_eq]
    refine congrArg k ?_
    have c : e % 2 = 0 ∨ e % 2 = 1 := by omega
    have d := Nat.div_add_mod e 2
    rcases c with c | c
    · rw [c] at d ⊢
      have : a ^ e = a ^ (e / 2) * a ^ (e / 2) := by rw [← Nat.pow_add]; congr 1; omega
      rw [this, Nat.mul_mod (a ^ (e / 2))]
      rfl
    · rw [c] at d ⊢
      have : a ^ e = a ^ (e / 2) * a ^ (e / 2) * a := by rw [← Nat.pow_add, ← Nat.pow_succ]; congr 1; omega
      rw [this, Nat.mul_mod (a ^ (e / 2) * a ^ (e / 2)), Nat.mul_mod (a ^ (e / 2))]
      show _ % n * a % n = _
      rw [Nat.mul_mod (_ % n) a, Nat.mod_mod]
theorem pw {n a e c : Nat} (f : Nat) (hf : Nat.ble (e + 1) (2 ^ f) = true) (h : pwF n a f e (fun x => Nat.beq x c) = true) : Pw n a e c := by
  refine ⟨?_⟩
  rw [pwF_eq n a f e _ (Nat.le_of_ble_eq_true hf)] at h
  exact Nat.eq_of_beq_eq_true h
/-- a table of trial divisions -/
noncomputable def noDiv (n : Nat) (k : Nat) : Bool := Nat.rec (motive := fun _ => Bool) true (fun k ih => (Nat.beq (n % (k + 2)) 0).rec ih false) k
theorem noDiv_spec (n : Nat) : ∀ k, noDiv n k = true → ∀ m, 1 < m → m < k + 2 → ¬ m ∣ n
  | 0, _, m, h1, h2, _ => by omega
  | k + 1, h, m, h1, h2, hd => by
    have e : noDiv n (k + 1) = (Nat.beq (n % (k + 2)) 0).rec (noDiv n k) false := rfl
    rw [e] at h
    cases c : Nat.beq (n % (k + 2)) 0 with
    | true => rw [c] at h; cases h
    | false =>
      rw [c] at h
      by_cases q : m = k + 2
      · subst q
        rw [Nat.mod_eq_zero_of_dvd hd] at c
        cases c
      · exact noDiv_spec n k h m h1 (by omega) hd
theorem pr_small (n s : Nat) (hn : Nat.ble 2 n = true) (hs : Nat.ble (n + 1) ((s + 2) * (s + 2)) = true) (h : noDiv n s = true) : Pr n :=
  pr_of (Nat.le_of_ble_eq_true hn) (Nat.le_of_ble_eq_true hs) fun r hr hrn => by
    by_cases c : s + 2 ≤ r
    · exact c
    · exact absurd hrn (noDiv_spec n s h r hr.1 (by omega))
theorem cop_mul {f g m : Nat} (hf : f ∣ m) (hg : g ∣ m) (h : Nat.gcd f g = 1) : f * g ∣ m := Nat.Coprime.mul_dvd_of_dvd_of_dvd h hf hg
/-- prime by the powers of one base -/
theorem pr_pock (n a F : Nat) (hn : Nat.ble 2 n = true) (hF : Nat.ble (n + 1) ((F + 1) * (F + 1)) = true) (h : ∀ r, Pr r → r ∣ n → F ∣ r - 1) : Pr n :=
  pr_of (s := F + 1) (Nat.le_of_ble_eq_true hn) (Nat.le_of_ble_eq_true hF) fun r hr hrn => by
    have h1 : 1 < r := hr.1
    have h2 : F ≤ r - 1 := Nat.le_of_dvd (by omega) (h r hr hrn)
    omega
end Go.Cur
