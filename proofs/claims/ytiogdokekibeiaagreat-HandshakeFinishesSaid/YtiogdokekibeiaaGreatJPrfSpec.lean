/- Steps towards HandshakeFinishesSaid. -/
import Derived.Test.YtiogdokekibeiaaGreatJPsmCon
import Derived.Test.YtiogdokekibeiaaGreatBase
/- A step towards HandshakeFinishesSaid: no conditions. -/
namespace Go.Pol
open Go Go.Eng Go.Cod
def valD : List UInt32 → Nat
  | [] => 0
  | b :: r => b.toNat + 256 * valD r
def digs (n : Nat) : Nat → List UInt32
  | 0 => []
  | j + 1 => digs n j ++ [UInt32.ofNat (n / 256 ^ j % 256)]
def d17 (n : Nat) : List UInt32 := digs n 16 ++ [UInt32.ofNat (n / 256 ^ 16)]
def pv (l : List UInt32) (j : Nat) : Nat := valD (l.take j)
def small (l : List UInt32) (b : Nat) : Prop := ∀ x ∈ l, x.toNat < b
def term (a b : List UInt32) (i j : Nat) : Nat := if j ≤ i then (a.getD j 0).toNat * (b.getD (i - j) 0).toNat else 320 * (a.getD j 0).toNat * (b.getD (i + 17 - j) 0).toNat
def uS (a b : List UInt32) (i : Nat) : Nat → Nat
  | 0 => 0
  | j + 1 => uS a b i j + term a b i j
def outD (a b : List UInt32) : Nat → List UInt32
  | 0 => []
  | i + 1 => outD a b i ++ [UInt32.ofNat (uS a b i 17)]
def timesV (a b : List UInt32) : Nat := valD (outD a b 17)
def lst (m : Nat) : Nat := if P130 ≤ m then m - P130 else m
def gPlusD : SpecF := fun args => match args with
  | [.w (.agg [.vec (.n 17) (.u32 a)]), .w (.agg [.vec (.n 17) (.u32 b)])] => some ([small a 1048576, small b 1048576], .w (.agg [.vec (.n 17) (.u32 (d17 ((valD a + valD b) % 87112285931760246646623899502532662132736)))]))
  | _ => none
def gReducedD : SpecF := fun args => match args with
  | [.w (.agg [.vec (.n 17) (.u32 a)])] => some ([small a 536870912], .w (.agg [.vec (.n 17) (.u32 (d17 (red1 (red1 (valD a)))))]))
  | _ => none
def gTimesD : SpecF := fun args => match args with
  | [.w (.agg [.vec (.n 17) (.u32 a)]), .w (.agg [.vec (.n 17) (.u32 b)])] => some ([small a 256, small b 256], .w (.agg [.vec (.n 17) (.u32 (d17 (red1 (red1 (timesV a b)))))]))
  | _ => none
def gLeast : SpecF := fun args => match args with
  | [.w (.agg [.vec (.n 17) (.u32 a)])] => some ([small a 256], .w (.agg [.vec (.n 17) (.u32 (d17 (lst (red1 (red1 (valD a))))))]))
  | _ => none
noncomputable def JCarry (sj su sb : Nat) (keep : List Nat) (σ : St) : Option Inv :=
  match names σ.fr sb, getF σ.fr su with
  | some kb, .w (.s (.u32 c)) => match getO σ.own kb with
    | some [.vec _ (.u32 l)] => some {
        α := Nat
        ok := fun j => j ≤ 16
        mu := fun j => 16 - j
        keep := keep
        slots := fun j => [(sj, .s (.i64 j)), (su, .s (.u32 (UInt32.ofNat ((c.toNat + pv l j) / 256 ^ j))))]
        own := fun j => [(kb, some [.vec (.n 17) (.u32 (digs (c.toNat + pv l j) j ++ l.drop j))])]
        ext := fun _ => [] }
    | _ => none
  | _, _ => none
noncomputable def JPlusD (σ : St) : Option Inv :=
  match names σ.fr 2, names σ.fr 3 with
  | some ka, some kb => match getO σ.own ka, getO σ.own kb with
    | some [.vec _ (.u32 a)], some [.vec _ (.u32 b)] => some {
        α := Nat
        ok := fun j => j ≤ 17
        mu := fun j => 17 - j
        keep := [2, 3, 4]
        slots := fun j => [(7, .s (.i64 j)), (5, .s (.u32 (UInt32.ofNat ((pv a j + pv b j) / 256 ^ j))))]
        own := fun j => [(ka, some [.vec (.n 17) (.u32 (digs (pv a j + pv b j) j ++ a.drop j))])]
        ext := fun _ => [] }
    | _, _ => none
  | _, _ => none
noncomputable def JOutD (σ : St) : Option Inv :=
  match names σ.fr 2, names σ.fr 3, names σ.fr 5 with
  | some ka, some kb, some ko => match getO σ.own ka, getO σ.own kb with
    | some [.vec _ (.u32 a)], some [.vec _ (.u32 b)] => some {
        α := Nat
        ok := fun i => i ≤ 17
        mu := fun i => 17 - i
        keep := [2, 3, 4, 5]
        slots := fun i => [(6, .s (.i64 i))]
        own := fun i => [(ko, some [.vec (.n 17) (.u32 (outD a b i ++ List.replicate (17 - i) 0))])]
        ext := fun _ => [] }
    | _, _ => none
  | _, _, _ => none
noncomputable def JInD (σ : St) : Option Inv :=
  match names σ.fr 2, names σ.fr 3, getF σ.fr 6 with
  | some ka, some kb, .w (.s (.i64 i)) => match getO σ.own ka, getO σ.own kb with
    | some [.vec _ (.u32 a)], some [.vec _ (.u32 b)] => some {
        α := Nat
        ok := fun j => j ≤ 17
        mu := fun j => 17 - j
        keep := [2, 3, 4, 5, 6]
        slots := fun j => [(8, .s (.i64 j)), (7, .s (.u32 (UInt32.ofNat (uS a b i.toNat j))))]
        own := fun _ => []
        ext := fun _ => [] }
    | _, _ => none
  | _, _, _ => none
end Go.Pol

/- A step towards HandshakeFinishesSaid: no conditions. -/
namespace Go.Pol
open Go Go.Eng Go.Cod
theorem lt32 (x : UInt32) : x.toNat < 4294967296 := x.toNat_lt
theorem valD_append : ∀ (a b : List UInt32), valD (a ++ b) = valD a + 256 ^ a.length * valD b
  | [], b => by simp [valD]
  | x :: a, b => by
    rw [List.cons_append, valD, valD_append a b, valD, List.length_cons, Nat.pow_succ, Nat.mul_add, Nat.mul_comm (256 ^ a.length) 256, Nat.mul_assoc]
    omega
theorem digs_len (n : Nat) : ∀ j, (digs n j).length = j
  | 0 => rfl
  | j + 1 => by simp [digs, digs_len n j]
theorem ofNat_dig (x : Nat) : (UInt32.ofNat (x % 256)).toNat = x % 256 := UInt32.toNat_ofNat_of_lt' (by have : UInt32.size = 4294967296 := rfl; omega)
theorem digs_val (n : Nat) : ∀ j, valD (digs n j) = n % 256 ^ j
  | 0 => by simp [digs, valD, Nat.mod_one]
  | j + 1 => by
    rw [digs, valD_append, digs_val n j, digs_len, valD, valD, ofNat_dig, Nat.mul_zero, Nat.add_zero]
    exact (Nat.mod_pow_succ).symm
theorem digs_small (n : Nat) : ∀ j, small (digs n j) 256
  | 0 => by intro x hx; cases hx
  | j + 1 => by
    intro x hx
    rcases List.mem_append.1 hx with h | h
    · exact digs_small n j x h
    · rw [List.mem_singleton] at h
      rw [h, ofNat_dig]
      exact Nat.mod_lt _ (by decide)
theorem digs_congr {n m : Nat} : ∀ {j : Nat}, n % 256 ^ j = m % 256 ^ j → digs n j = digs m j
  | 0, _ => rfl
  | j + 1, h => by
    have hp : 0 < 256 ^ j := Nat.pow_pos (by decide)
    have e : ∀ x : Nat, x % 256 ^ (j + 1) % 256 ^ j = x % 256 ^ j := fun x => by rw [Nat.pow_succ, Nat.mod_mul_right_mod]
    have f : ∀ x : Nat, x % 256 ^ (j + 1) / 256 ^ j = x / 256 ^ j % 256 := fun x => by rw [Nat.pow_succ, Nat.mod_mul_right_div_self]
    rw [digs, digs, digs_congr (j := j) ((e n).symm.trans ((congrArg (· % 256 ^ j) h).trans (e m))), (f n).symm.trans ((congrArg (· / 256 ^ j) h).trans (f m))]
theorem digs_add (n m j : Nat) : digs (n + 256 ^ j * m) j = digs n j := digs_congr (by rw [Nat.add_mul_mod_self_left])
theorem digs_mod (n j : Nat) : digs (n % 256 ^ j) j = digs n j := digs_congr (Nat.mod_mod _ _)
theorem pv_zero (l : List UInt32) : pv l 0 = 0 := rfl
theorem pv_succ {l : List UInt32} {j : Nat} (h : j < l.length) : pv l (j + 1) = pv l j + 256 ^ j * (l.getD j 0).toNat := by
  unfold pv
  rw [List.take_add_one, List.getElem?_eq_getElem h, Option.toList_some, valD_append, List.length_take, Nat.min_eq_left (by omega), valD, valD, Nat.mul_zero, Nat.add_zero, List.getD_eq_getElem?_getD, List.getElem?_eq_getElem h]
  rfl
theorem pv_all (l : List UInt32) : pv l l.length = valD l := by unfold pv; rw [List.take_length]
theorem small_get {l : List UInt32} {B : Nat} (h : small l B) (hB : 0 < B) (j : Nat) : (l.getD j 0).toNat < B := by
  rw [List.getD_eq_getElem?_getD]
  by_cases hj : j < l.length
  · rw [List.getElem?_eq_getElem hj]; exact h _ (List.getElem_mem hj)
  · rw [List.getElem?_eq_none (by omega)]; exact hB
theorem pv_lt {l : List UInt32} {B : Nat} (h : small l B) (hB : 0 < B) : ∀ {j : Nat}, j ≤ l.length → pv l j + B ≤ B * 256 ^ j
  | 0, _ => by rw [pv_zero]; omega
  | j + 1, hj => by
    have ih := pv_lt h hB (j := j) (by omega)
    have hs := small_get h hB j
    rw [pv_succ (by omega), Nat.pow_succ]
    have := Nat.mul_le_mul_left (256 ^ j) (show (l.getD j 0).toNat + 1 ≤ B by omega)
    rw [Nat.mul_add, Nat.mul_one] at this
    have hp : 1 ≤ 256 ^ j := Nat.one_le_pow _ _ (by decide)
    rw [← Nat.mul_assoc, Nat.mul_comm (256 ^ j) B] at *
    omega
theorem carry_lt {l : List UInt32} {B c : Nat} (h : small l B) (hB : 0 < B) {j : Nat} (hj : j ≤ l.length) : (c + pv l j) / 256 ^ j ≤ c + B := by
  have hp : 0 < 256 ^ j := Nat.pow_pos (by decide)
  have := pv_lt h hB hj
  have h1 : c + pv l j ≤ (c + B) * 256 ^ j := by
    rw [Nat.add_mul]
    have : c * 1 ≤ c * 256 ^ j := Nat.mul_le_mul_left c hp
    omega
  exact Nat.div_le_of_le_mul (by rw [Nat.mul_comm]; exact h1)
theorem getD_mid {n j : Nat} {l : List UInt32} : (digs n j ++ l.drop j).getD j 0 = l.getD j 0 := by
  rw [List.getD_eq_getElem?_getD, List.getElem?_append_right (by rw [digs_len]; exact Nat.le_refl _), digs_len, Nat.sub_self, List.getElem?_drop, Nat.add_zero, List.getD_eq_getElem?_getD]
theorem set_mid {n j : Nat} {l : List UInt32} (h : j < l.length) (x : UInt32) : (digs n j ++ l.drop j).set j x = (digs n j ++ [x]) ++ l.drop (j + 1) := by
  rw [List.set_append_right _ _ (by rw [digs_len]; exact Nat.le_refl _), digs_len, Nat.sub_self, List.drop_eq_getElem_cons h, List.set_cons_zero]
  simp
theorem and255 (x : UInt32) : (x &&& UInt32.ofNat 255).toNat = x.toNat % 256 := by
  rw [UInt32.toNat_and]
  exact Nat.and_two_pow_sub_one_eq_mod x.toNat 8
theorem and3d (x : UInt32) : (x &&& UInt32.ofNat 3).toNat = x.toNat % 4 := by
  rw [UInt32.toNat_and]
  exact Nat.and_two_pow_sub_one_eq_mod x.toNat 2
theorem ofNat_lt {n : Nat} (h : n < 4294967296) : (UInt32.ofNat n).toNat = n := UInt32.toNat_ofNat_of_lt' h
theorem step_gen {N t j : Nat} {v : UInt32} (hv : v.toNat = N / 256 ^ j + t) :
    shr32 v 8 = UInt32.ofNat ((N + 256 ^ j * t) / 256 ^ (j + 1)) ∧ digs N j ++ [v &&& UInt32.ofNat 255] = digs (N + 256 ^ j * t) (j + 1) := by
  have hp : 0 < 256 ^ j := Nat.pow_pos (by decide)
  have e : (N + 256 ^ j * t) / 256 ^ j = v.toNat := by rw [Nat.add_mul_div_left _ _ hp, hv]
  constructor
  · apply UInt32.toNat_inj.1
    rw [Nat.pow_succ, ← Nat.div_div_eq_div_mul, e, Cod.shr32_toNat, ofNat_lt (by have := lt32 v; omega)]
  · rw [digs, digs_add, e]
    congr 2
    apply UInt32.toNat_inj.1
    rw [and255, ofNat_dig]
theorem carry_step {c : UInt32} {l : List UInt32} {B j : Nat} (h : small l B) (hB : 0 < B) (hj : j < l.length) (hb : c.toNat + 2 * B ≤ 4294967296) :
    shr32 (UInt32.ofNat ((c.toNat + pv l j) / 256 ^ j) + (digs (c.toNat + pv l j) j ++ l.drop j).getD j 0) 8 = UInt32.ofNat ((c.toNat + pv l (j + 1)) / 256 ^ (j + 1)) ∧
    (digs (c.toNat + pv l j) j ++ l.drop j).set j ((UInt32.ofNat ((c.toNat + pv l j) / 256 ^ j) + (digs (c.toNat + pv l j) j ++ l.drop j).getD j 0) &&& UInt32.ofNat 255) = digs (c.toNat + pv l (j + 1)) (j + 1) ++ l.drop (j + 1) := by
  rw [getD_mid, set_mid hj, pv_succ hj, ← Nat.add_assoc]
  have h1 := carry_lt (c := c.toNat) h hB (j := j) (by omega)
  have h2 := small_get h hB j
  have hv : (UInt32.ofNat ((c.toNat + pv l j) / 256 ^ j) + l.getD j 0).toNat = (c.toNat + pv l j) / 256 ^ j + (l.getD j 0).toNat := by
    rw [UInt32.toNat_add, ofNat_lt (by omega), Nat.mod_eq_of_lt (by omega)]
  obtain ⟨g1, g2⟩ := step_gen (j := j) hv
  rw [g2]
  exact ⟨g1, rfl⟩
theorem plus_step {a b : List UInt32} {j : Nat} (ha : small a 1048576) (hb : small b 1048576) (hja : j < a.length) (hjb : j < b.length) :
    shr32 (UInt32.ofNat ((pv a j + pv b j) / 256 ^ j) + ((digs (pv a j + pv b j) j ++ a.drop j).getD j 0 + b.getD j 0)) 8 = UInt32.ofNat ((pv a (j + 1) + pv b (j + 1)) / 256 ^ (j + 1)) ∧
    (digs (pv a j + pv b j) j ++ a.drop j).set j ((UInt32.ofNat ((pv a j + pv b j) / 256 ^ j) + ((digs (pv a j + pv b j) j ++ a.drop j).getD j 0 + b.getD j 0)) &&& UInt32.ofNat 255) = digs (pv a (j + 1) + pv b (j + 1)) (j + 1) ++ a.drop (j + 1) := by
  rw [getD_mid, set_mid hja, pv_succ hja, pv_succ hjb]
  have h1 := pv_lt ha (by decide) (j := j) (by omega)
  have h2 := pv_lt hb (by decide) (j := j) (by omega)
  have h3 := small_get ha (by decide) j
  have h4 := small_get hb (by decide) j
  have hp : 0 < 256 ^ j := Nat.pow_pos (by decide)
  have hd : (pv a j + pv b j) / 256 ^ j ≤ 2097152 := Nat.div_le_of_le_mul (by rw [Nat.mul_comm]; omega)
  have hv : (UInt32.ofNat ((pv a j + pv b j) / 256 ^ j) + (a.getD j 0 + b.getD j 0)).toNat = (pv a j + pv b j) / 256 ^ j + ((a.getD j 0).toNat + (b.getD j 0).toNat) := by
    rw [UInt32.toNat_add, UInt32.toNat_add, ofNat_lt (by omega), Nat.mod_eq_of_lt (a := (a.getD j 0).toNat + _) (by omega), Nat.mod_eq_of_lt (by omega)]
  obtain ⟨g1, g2⟩ := step_gen (j := j) hv
  rw [g2]
  have e : pv a j + pv b j + 256 ^ j * ((a.getD j 0).toNat + (b.getD j 0).toNat) = pv a j + 256 ^ j * (a.getD j 0).toNat + (pv b j + 256 ^ j * (b.getD j 0).toNat) := by rw [Nat.mul_add]; omega
  rw [← e]
  exact ⟨g1, rfl⟩
theorem p16 : (256 : Nat) ^ 16 = 340282366920938463463374607431768211456 := rfl
theorem p17 : (256 : Nat) ^ 17 = 87112285931760246646623899502532662132736 := rfl
theorem d17_len (n : Nat) : (d17 n).length = 17 := by unfold d17; simp [digs_len]
theorem d17_val {n : Nat} (h : n < 1461501637330902918203684832716283019655932542976) : valD (d17 n) = n := by
  unfold d17
  rw [valD_append, digs_val, digs_len, valD, valD, p16, ofNat_lt (by omega)]
  omega
theorem d17_small {n : Nat} (h : n < 87112285931760246646623899502532662132736) : small (d17 n) 256 := by
  intro x hx
  unfold d17 at hx
  rcases List.mem_append.1 hx with h1 | h1
  · exact digs_small n 16 x h1
  · rw [List.mem_singleton] at h1
    rw [h1, p16, ofNat_lt (by omega)]
    omega
theorem small_mono {l : List UInt32} {B C : Nat} (h : small l B) (hBC : B ≤ C) : small l C := fun x hx => Nat.lt_of_lt_of_le (h x hx) hBC
theorem top_eq {l : List UInt32} (hl : l.length = 17) (hs : small l 536870912) :
    (UInt32.ofNat ((0 + pv l 16) / 256 ^ 16) + (digs (0 + pv l 16) 16 ++ l.drop 16).getD 16 0).toNat = valD l / 256 ^ 16 ∧ valD l / 256 ^ 16 < 1073741825 ∧ digs (0 + pv l 16) 16 = digs (valD l) 16 := by
  have hv : valD l = pv l 16 + 256 ^ 16 * (l.getD 16 0).toNat := by
    have h := pv_all l
    rw [hl, pv_succ (by omega)] at h
    exact h.symm
  have hp : 0 < 256 ^ 16 := by decide
  have h1 := carry_lt (c := 0) hs (by decide) (j := 16) (by omega)
  have h2 := small_get hs (by decide) 16
  rw [getD_mid, Nat.zero_add] at *
  refine ⟨?_, ?_, ?_⟩
  · rw [UInt32.toNat_add, ofNat_lt (by omega), hv, Nat.add_mul_div_left _ _ hp, Nat.mod_eq_of_lt (by omega)]
  · rw [hv, Nat.add_mul_div_left _ _ hp]; omega
  · rw [hv, digs_add]
theorem last_get {n : Nat} {l : List UInt32} (hl : l.length = 17) : (digs n 16 ++ l.drop 16).getD 16 0 = l.getD 16 0 := getD_mid
theorem set16 {n : Nat} {l : List UInt32} (hl : l.length = 17) (x : UInt32) : (digs n 16 ++ l.drop 16).set 16 x = digs n 16 ++ [x] := by
  rw [set_mid (by omega), List.drop_of_length_le (by omega), List.append_nil]
theorem round_fin {l : List UInt32} {U : UInt32} {n : Nat} (hU : U.toNat = n / 256 ^ 16) (hn : n / 256 ^ 16 < 1073741825) (hl : l = digs n 16 ++ [U &&& UInt32.ofNat 3]) :
    (UInt32.ofNat 5 * shr32 U 2).toNat = 5 * (n / 256 ^ 16 / 4) ∧ l.length = 17 ∧ small l 536870912 ∧
    (digs (5 * (n / 256 ^ 16 / 4) + pv l 16) 16 ++ l.drop 16).set 16 ((digs (5 * (n / 256 ^ 16 / 4) + pv l 16) 16 ++ l.drop 16).getD 16 0 + UInt32.ofNat ((5 * (n / 256 ^ 16 / 4) + pv l 16) / 256 ^ 16)) = d17 (red1 n) ∧ red1 n < 1461501637330902918203684832716283019655932542976 := by
  have hc : (UInt32.ofNat 5 * shr32 U 2).toNat = 5 * (n / 256 ^ 16 / 4) := by
    rw [UInt32.toNat_mul, Cod.shr32_toNat, hU]
    show 5 * (n / 256 ^ 16 / 2 ^ 2) % 2 ^ 32 = _
    omega
  have hll : l.length = 17 := by rw [hl]; simp [digs_len]
  have h3 : (U &&& UInt32.ofNat 3).toNat = n / 256 ^ 16 % 4 := by rw [and3d, hU]
  have hsm : small l 536870912 := by
    intro x hx
    rw [hl] at hx
    rcases List.mem_append.1 hx with h1 | h1
    · exact Nat.lt_of_lt_of_le (digs_small n 16 x h1) (by decide)
    · rw [List.mem_singleton] at h1
      rw [h1, h3]; omega
  have hpv : pv l 16 = n % 256 ^ 16 := by
    unfold pv
    rw [hl, List.take_append_of_le_length (by rw [digs_len]; exact Nat.le_refl _), List.take_of_length_le (by rw [digs_len]; exact Nat.le_refl _), digs_val]
  have hg : l.getD 16 0 = U &&& UInt32.ofNat 3 := by
    rw [hl, List.getD_eq_getElem?_getD, List.getElem?_append_right (by rw [digs_len]; exact Nat.le_refl _), digs_len]
    rfl
  refine ⟨hc, hll, hsm, ?_, ?_⟩
  · rw [set16 hll, last_get hll, hg, hpv]
    have e : red1 n = (5 * (n / 256 ^ 16 / 4) + n % 256 ^ 16) + 256 ^ 16 * (n / 256 ^ 16 % 4) := by
      unfold red1
      rw [p16]
      omega
    unfold d17
    rw [e, digs_add]
    congr 2
    apply UInt32.toNat_inj.1
    have hp : 0 < 256 ^ 16 := by decide
    rw [Nat.add_mul_div_left _ _ hp, UInt32.toNat_add, h3]
    have hb : (5 * (n / 256 ^ 16 / 4) + n % 256 ^ 16) / 256 ^ 16 < 1000 := by rw [p16] at *; omega
    rw [ofNat_lt (by omega), ofNat_lt (by omega), Nat.mod_eq_of_lt (by omega)]
    omega
  · unfold red1
    rw [p16] at hn
    omega
end Go.Pol

/- A step towards HandshakeFinishesSaid: no conditions. -/
namespace Go.Pol
open Go Go.Eng Go.Cod
def padD (l : List UInt8) (j : Nat) : List UInt32 := (l.take j).map UInt8.toUInt32 ++ List.replicate (17 - j) 0
def cutD (l : List UInt32) (j : Nat) : List UInt8 := (l.take j).map UInt32.toUInt8 ++ List.replicate (16 - j) 0
def cN (l : List UInt8) : List UInt32 := (padD l (min l.length 16)).set (min l.length 16) 1
def vN (rr : List UInt32) (d : List UInt8) : Nat → Nat
  | 0 => 0
  | j + 1 => red1 (red1 (timesV (d17 ((valD (d17 (vN rr d j)) + valD (cN (d.drop (16 * j)))) % 87112285931760246646623899502532662132736)) rr))
noncomputable def JPad (sj sb : Nat) (keep : List Nat) (l : List UInt8) (n : Nat) (σ : St) : Option Inv :=
  match names σ.fr sb with
  | some kb => some {
      α := Nat
      ok := fun j => j ≤ n
      mu := fun j => n - j
      keep := keep
      slots := fun j => [(sj, .s (.i64 j))]
      own := fun j => [(kb, some [.vec (.n 17) (.u32 (padD l j))])]
      ext := fun _ => [] }
  | _ => none
noncomputable def JPadK (sj sb : Nat) (off : Nat) (keep : List Nat) (σ : St) : Option Inv :=
  match names σ.fr 2 with
  | some kk => match getO σ.own kk with
    | some [.vec _ (.u8 k)] => JPad sj sb keep (k.drop off) 16 σ
    | _ => none
  | _ => none
noncomputable def JPadD (σ : St) : Option Inv :=
  match getF σ.fr 1 with
  | .w (.s (.xs _ _ (.u8 d))) => JPad 10 9 [1, 2, 4, 5, 6, 8, 9] d (min d.length 16) σ
  | _ => none
noncomputable def JPolyR (σ : St) : Option Inv :=
  match getF σ.fr 1, names σ.fr 5, names σ.fr 6 with
  | .w (.s (.xs _ _ (.u8 d))), some kr, some kh => match getO σ.own kr with
    | some [.vec _ (.u32 rr)] => some {
        α := Nat
        ok := fun j => j ≤ nbP d
        mu := fun j => nbP d - j
        keep := [2, 4, 5, 6]
        slots := fun j => [(1, .s (.xs 1 (.s (d.drop (16 * j)).length) (.u8 (d.drop (16 * j)))))]
        own := fun j => [(kh, some [.vec (.n 17) (.u32 (d17 (vN rr d j)))])]
        ext := fun _ => [] }
    | _ => none
  | _, _, _ => none
noncomputable def JCutR (σ : St) : Option Inv :=
  match names σ.fr 6, names σ.fr 13 with
  | some kh, some ko => match getO σ.own kh with
    | some [.vec _ (.u32 h)] => some {
        α := Nat
        ok := fun j => j ≤ 16
        mu := fun j => 16 - j
        keep := [4, 6, 13]
        slots := fun j => [(97, .s (.i64 j))]
        own := fun j => [(ko, some [.vec (.n 16) (.u8 (cutD h j))])]
        ext := fun _ => [] }
    | _ => none
  | _, _ => none
end Go.Pol

/- A step towards HandshakeFinishesSaid: no conditions. -/
namespace Go.Proofs.YtiogdokekibeiaaGreat
open Go Go.Eng Go.Cod Go.Pol
noncomputable def PRp : Env := mkE Tryz.prog [(114, gPlusD), (113, gTimesD), (115, gLeast)] [(0, JPadK 7 5 0 [1, 2, 4, 5, 6]), (2, JPolyR), (4, JPadD), (6, JPadK 12 11 16 [2, 4, 6, 11]), (8, JCutR)] 3 true
set_option maxRecDepth 100000 in
theorem vcPolyR (k d : List UInt8) : (vcFn PRp 200 98 [.agg [.vec (.n 32) (.u8 k)], .s (.xs 1 (.s d.length) (.u8 d))] (.w (.agg [.vec (.n 16) (.u8 (polyL k d))]))) =
  ((∃ (x : Nat), x ≤ (16 : Nat) ∧ d.length = d.length ∧ d = d ∧ Int.ofNat (0 : Nat) = (↑x : Int) ∧ k = k ∧ List.replicate (16 : Nat) (0 : UInt8) = List.replicate (16 : Nat) (0 : UInt8) ∧ List.replicate (17 : Nat) (0 : UInt32) = padD (List.drop (0 : Nat) k) x ∧ List.replicate (17 : Nat) (0 : UInt32) = List.replicate (17 : Nat) (0 : UInt32) ∧ True) ∧ ∀ (x : Nat), x ≤ (16 : Nat) → (decide ((↑x : Int) < Int.ofNat (16 : Nat)) = true → ((0 : Int) ≤ (↑x : Int) ∧ (↑x : Int) < (↑(32 : Nat) : Int)) ∧ (↑x : Int).toNat < (32 : Nat) ∧ ((0 : Int) ≤ (↑x : Int) ∧ (↑x : Int) < (↑(17 : Nat) : Int)) ∧ (↑x : Int).toNat < (17 : Nat) ∧ ∀ (y : List UInt32), y = (padD (List.drop (0 : Nat) k) x).set (↑x : Int).toNat (k.getD (↑x : Int).toNat (0 : UInt8)).toUInt32 → InI ((↑x : Int) + Int.ofNat (1 : Nat)) ∧ ∀ (y_1 : Int), y_1 = (↑x : Int) + Int.ofNat (1 : Nat) → ∃ (y_2 : Nat), y_2 ≤ (16 : Nat) ∧ (16 : Nat) - y_2 < (16 : Nat) - x ∧ d.length = d.length ∧ d = d ∧ y_1 = (↑y_2 : Int) ∧ k = k ∧ List.replicate (16 : Nat) (0 : UInt8) = List.replicate (16 : Nat) (0 : UInt8) ∧ y = padD (List.drop (0 : Nat) k) y_2 ∧ List.replicate (17 : Nat) (0 : UInt32) = List.replicate (17 : Nat) (0 : UInt32) ∧ True) ∧ (decide ((↑x : Int) < Int.ofNat (16 : Nat)) = false → ∀ (y : List UInt32), y = (padD (List.drop (0 : Nat) k) x).set (3 : Nat) ((padD (List.drop (0 : Nat) k) x).getD (3 : Nat) (0 : UInt32) &&& UInt32.ofNat (nat_lit 15)) → ∀ (y_1 : List UInt32), y_1 = y.set (4 : Nat) (y.getD (4 : Nat) (0 : UInt32) &&& UInt32.ofNat (nat_lit 252)) → ∀ (y : List UInt32), y = y_1.set (7 : Nat) (y_1.getD (7 : Nat) (0 : UInt32) &&& UInt32.ofNat (nat_lit 15)) → ∀ (y_2 : List UInt32), y_2 = y.set (8 : Nat) (y.getD (8 : Nat) (0 : UInt32) &&& UInt32.ofNat (nat_lit 252)) → ∀ (y : List UInt32), y = y_2.set (11 : Nat) (y_2.getD (11 : Nat) (0 : UInt32) &&& UInt32.ofNat (nat_lit 15)) → ∀ (y_3 : List UInt32), y_3 = y.set (12 : Nat) (y.getD (12 : Nat) (0 : UInt32) &&& UInt32.ofNat (nat_lit 252)) → ∀ (y : List UInt32), y = y_3.set (15 : Nat) (y_3.getD (15 : Nat) (0 : UInt32) &&& UInt32.ofNat (nat_lit 15)) → (∃ (x : Nat), x ≤ nbP d ∧ d.length = (List.drop ((16 : Nat) * x) d).length ∧ d = List.drop ((16 : Nat) * x) d ∧ k = k ∧ List.replicate (16 : Nat) (0 : UInt8) = List.replicate (16 : Nat) (0 : UInt8) ∧ y = y ∧ List.replicate (17 : Nat) (0 : UInt32) = d17 (vN y d x) ∧ True) ∧ ∀ (x : Nat), x ≤ nbP d → ∀ (y_4 : Int), y_4 = (↑(List.drop ((16 : Nat) * x) d).length : Int) → (decide (Int.ofNat (0 : Nat) < y_4) = true → ∀ (y_5 : Int), y_5 = (↑(List.drop ((16 : Nat) * x) d).length : Int) → ∀ (y_6 : Int), y_6 = min y_5 (Int.ofNat (16 : Nat)) → ∀ (y_7 : Int), y_7 = y_6 → (∃ (x_1 : Nat), x_1 ≤ min (List.drop ((16 : Nat) * x) d).length (16 : Nat) ∧ (List.drop ((16 : Nat) * x) d).length = (List.drop ((16 : Nat) * x) d).length ∧ List.drop ((16 : Nat) * x) d = List.drop ((16 : Nat) * x) d ∧ y_7 = y_7 ∧ Int.ofNat (0 : Nat) = (↑x_1 : Int) ∧ k = k ∧ List.replicate (16 : Nat) (0 : UInt8) = List.replicate (16 : Nat) (0 : UInt8) ∧ y = y ∧ d17 (vN y d x) = d17 (vN y d x) ∧ List.replicate (17 : Nat) (0 : UInt32) = padD (List.drop ((16 : Nat) * x) d) x_1 ∧ True) ∧ ∀ (x_1 : Nat), x_1 ≤ min (List.drop ((16 : Nat) * x) d).length (16 : Nat) → (decide ((↑x_1 : Int) < y_7) = true → ((0 : Int) ≤ (↑x_1 : Int) ∧ (↑x_1 : Int) < (↑(List.drop ((16 : Nat) * x) d).length : Int)) ∧ (↑x_1 : Int).toNat < (List.drop ((16 : Nat) * x) d).length ∧ ((0 : Int) ≤ (↑x_1 : Int) ∧ (↑x_1 : Int) < (↑(17 : Nat) : Int)) ∧ (↑x_1 : Int).toNat < (17 : Nat) ∧ ∀ (y_8 : List UInt32), y_8 = (padD (List.drop ((16 : Nat) * x) d) x_1).set (↑x_1 : Int).toNat ((List.drop ((16 : Nat) * x) d).getD (↑x_1 : Int).toNat (0 : UInt8)).toUInt32 → InI ((↑x_1 : Int) + Int.ofNat (1 : Nat)) ∧ ∀ (y_9 : Int), y_9 = (↑x_1 : Int) + Int.ofNat (1 : Nat) → ∃ (y_10 : Nat), y_10 ≤ min (List.drop ((16 : Nat) * x) d).length (16 : Nat) ∧ min (List.drop ((16 : Nat) * x) d).length (16 : Nat) - y_10 < min (List.drop ((16 : Nat) * x) d).length (16 : Nat) - x_1 ∧ (List.drop ((16 : Nat) * x) d).length = (List.drop ((16 : Nat) * x) d).length ∧ List.drop ((16 : Nat) * x) d = List.drop ((16 : Nat) * x) d ∧ y_7 = y_7 ∧ y_9 = (↑y_10 : Int) ∧ k = k ∧ List.replicate (16 : Nat) (0 : UInt8) = List.replicate (16 : Nat) (0 : UInt8) ∧ y = y ∧ d17 (vN y d x) = d17 (vN y d x) ∧ y_8 = padD (List.drop ((16 : Nat) * x) d) y_10 ∧ True) ∧ (decide ((↑x_1 : Int) < y_7) = false → ((0 : Int) ≤ y_7 ∧ y_7 < (↑(17 : Nat) : Int)) ∧ y_7.toNat < (17 : Nat) ∧ ∀ (y_8 : List UInt32), y_8 = (padD (List.drop ((16 : Nat) * x) d) x_1).set y_7.toNat (UInt32.ofNat (nat_lit 1)) → small (d17 (vN y d x)) (1048576 : Nat) ∧ small y_8 (1048576 : Nat) ∧ ∀ (y_9 : List UInt32), y_9 = d17 ((valD (d17 (vN y d x)) + valD y_8) % (87112285931760246646623899502532662132736 : Nat)) → small y_9 (256 : Nat) ∧ small y (256 : Nat) ∧ ∀ (y_10 : List UInt32), y_10 = d17 (red1 (red1 (timesV y_9 y))) → ∀ (y_11 : List UInt32), y_11 = y_10 → ((0 : Int) ≤ y_7 ∧ y_7 ≤ (↑(List.drop ((16 : Nat) * x) d).length : Int)) ∧ ∃ (y_12 : Nat), y_12 ≤ nbP d ∧ nbP d - y_12 < nbP d - x ∧ (List.drop ((16 : Nat) * x) d).length - y_7.toNat = (List.drop ((16 : Nat) * y_12) d).length ∧ List.drop y_7.toNat (List.drop ((16 : Nat) * x) d) = List.drop ((16 : Nat) * y_12) d ∧ k = k ∧ List.replicate (16 : Nat) (0 : UInt8) = List.replicate (16 : Nat) (0 : UInt8) ∧ y = y ∧ y_11 = d17 (vN y d y_12) ∧ True)) ∧ (decide (Int.ofNat (0 : Nat) < y_4) = false → small (d17 (vN y d x)) (256 : Nat) ∧ ∀ (y_5 : List UInt32), y_5 = d17 (lst (red1 (red1 (valD (d17 (vN y d x)))))) → ∀ (y_6 : List UInt32), y_6 = y_5 → (∃ (x : Nat), x ≤ (16 : Nat) ∧ Int.ofNat (0 : Nat) = (↑x : Int) ∧ k = k ∧ List.replicate (16 : Nat) (0 : UInt8) = List.replicate (16 : Nat) (0 : UInt8) ∧ y = y ∧ y_6 = y_6 ∧ List.replicate (17 : Nat) (0 : UInt32) = padD (List.drop (16 : Nat) k) x ∧ True) ∧ ∀ (x : Nat), x ≤ (16 : Nat) → (decide ((↑x : Int) < Int.ofNat (16 : Nat)) = true → InI (Int.ofNat (16 : Nat) + (↑x : Int)) ∧ ((0 : Int) ≤ Int.ofNat (16 : Nat) + (↑x : Int) ∧ Int.ofNat (16 : Nat) + (↑x : Int) < (↑(32 : Nat) : Int)) ∧ (Int.ofNat (16 : Nat) + (↑x : Int)).toNat < (32 : Nat) ∧ ((0 : Int) ≤ (↑x : Int) ∧ (↑x : Int) < (↑(17 : Nat) : Int)) ∧ (↑x : Int).toNat < (17 : Nat) ∧ ∀ (y_7 : List UInt32), y_7 = (padD (List.drop (16 : Nat) k) x).set (↑x : Int).toNat (k.getD (Int.ofNat (16 : Nat) + (↑x : Int)).toNat (0 : UInt8)).toUInt32 → InI ((↑x : Int) + Int.ofNat (1 : Nat)) ∧ ∀ (y_8 : Int), y_8 = (↑x : Int) + Int.ofNat (1 : Nat) → ∃ (y_9 : Nat), y_9 ≤ (16 : Nat) ∧ (16 : Nat) - y_9 < (16 : Nat) - x ∧ y_8 = (↑y_9 : Int) ∧ k = k ∧ List.replicate (16 : Nat) (0 : UInt8) = List.replicate (16 : Nat) (0 : UInt8) ∧ y = y ∧ y_6 = y_6 ∧ y_7 = padD (List.drop (16 : Nat) k) y_9 ∧ True) ∧ (decide ((↑x : Int) < Int.ofNat (16 : Nat)) = false → small y_6 (1048576 : Nat) ∧ small (padD (List.drop (16 : Nat) k) x) (1048576 : Nat) ∧ ∀ (y_7 : List UInt32), y_7 = d17 ((valD y_6 + valD (padD (List.drop (16 : Nat) k) x)) % (87112285931760246646623899502532662132736 : Nat)) → ∀ (y_8 : List UInt32), y_8 = y_7 → (∃ (x_1 : Nat), x_1 ≤ (16 : Nat) ∧ Int.ofNat (0 : Nat) = (↑x_1 : Int) ∧ k = k ∧ List.replicate (16 : Nat) (0 : UInt8) = List.replicate (16 : Nat) (0 : UInt8) ∧ y = y ∧ y_8 = y_8 ∧ padD (List.drop (16 : Nat) k) x = padD (List.drop (16 : Nat) k) x ∧ List.replicate (16 : Nat) (0 : UInt8) = cutD y_8 x_1 ∧ True) ∧ ∀ (x_1 : Nat), x_1 ≤ (16 : Nat) → (decide ((↑x_1 : Int) < Int.ofNat (16 : Nat)) = true → ∀ (y_9 : Int), y_9 = (↑x_1 : Int) → ((0 : Int) ≤ y_9 ∧ y_9 < (↑(17 : Nat) : Int)) ∧ y_9.toNat < (17 : Nat) ∧ ((0 : Int) ≤ y_9 ∧ y_9 < (↑(16 : Nat) : Int)) ∧ y_9.toNat < (16 : Nat) ∧ ∀ (y_10 : List UInt8), y_10 = (cutD y_8 x_1).set y_9.toNat (y_8.getD y_9.toNat (0 : UInt32)).toUInt8 → InI ((↑x_1 : Int) + Int.ofNat (1 : Nat)) ∧ ∃ (y_11 : Nat), y_11 ≤ (16 : Nat) ∧ (16 : Nat) - y_11 < (16 : Nat) - x_1 ∧ (↑x_1 : Int) + Int.ofNat (1 : Nat) = (↑y_11 : Int) ∧ k = k ∧ List.replicate (16 : Nat) (0 : UInt8) = List.replicate (16 : Nat) (0 : UInt8) ∧ y = y ∧ y_8 = y_8 ∧ padD (List.drop (16 : Nat) k) x = padD (List.drop (16 : Nat) k) x ∧ y_10 = cutD y_8 y_11 ∧ True) ∧ (decide ((↑x_1 : Int) < Int.ofNat (16 : Nat)) = false → ∀ (y : List UInt8), y = cutD y_8 x_1 → y = polyL k d ∧ True))))) := by kernel_rfl
end Go.Proofs.YtiogdokekibeiaaGreat
