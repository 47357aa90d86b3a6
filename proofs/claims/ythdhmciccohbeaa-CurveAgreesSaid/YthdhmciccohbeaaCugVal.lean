/- A step towards CurveAgreesSaid: no conditions. -/
import Derived.Test.YthdhmciccohbeaaCugLem
namespace Go.Cur
open Go Go.Eng Go.Cod Go.Pol
/-! reading -/
theorem readI_len (k : List UInt8) : ∀ i, (readI k i).length = 16
  | 0 => rfl
  | i + 1 => by rw [readI, List.length_set, readI_len k i]
def dig (k : List UInt8) (i : Nat) : Nat := (k.getD (2 * i) 0).toNat + 256 * (k.getD (2 * i + 1) 0).toNat
theorem dig_lt (k : List UInt8) (i : Nat) : dig k i < 65536 := by
  have h1 := (k.getD (2 * i) 0).toNat_lt
  have h2 := (k.getD (2 * i + 1) 0).toNat_lt
  unfold dig; omega
theorem ior_dig (k : List UInt8) (i : Nat) : ior (((k.getD (2 * i) 0).toNat : Nat) : Int) (((k.getD (2 * i + 1) 0).toNat : Nat) * 2 ^ 8) = (dig k i : Int) :=
  ior8 _ _ (k.getD (2 * i) 0).toNat_lt (k.getD (2 * i + 1) 0).toNat_lt
theorem readI_d {k : List UInt8} : ∀ i, i ≤ 16 → ∀ j, d (readI k i) j = if j < i then (dig k j : Int) else 0
  | 0, _, j => by rw [if_neg (by omega)]; exact rep16 j
  | i + 1, hi, j => by
    rw [readI, ior_dig]
    by_cases h : i = j
    · subst h
      rw [d_set (by rw [readI_len]; omega), if_pos (by omega)]
    · rw [d_ne h, readI_d i (by omega) j]
      by_cases h2 : j < i
      · rw [if_pos h2, if_pos (by omega)]
      · rw [if_neg h2, if_neg (by omega)]
theorem nat_take2 {k : List UInt8} {i : Nat} (h : 2 * i + 2 ≤ k.length) : natL (k.take (2 * i + 2)) = natL (k.take (2 * i)) + 65536 ^ i * dig k i := by
  have e1 : k.take (2 * i + 2) = (k.take (2 * i) ++ [k.getD (2 * i) 0]) ++ [k.getD (2 * i + 1) 0] := by
    rw [List.take_add_one, List.take_add_one, List.getElem?_eq_getElem (by omega), List.getElem?_eq_getElem (by omega), Option.toList_some, Option.toList_some]
    rw [List.getD_eq_getElem?_getD, List.getD_eq_getElem?_getD, List.getElem?_eq_getElem (by omega), List.getElem?_eq_getElem (by omega)]; rfl
  have l1 : (k.take (2 * i)).length = 2 * i := by rw [List.length_take]; omega
  rw [e1, natL_append, natL_append, List.length_append, l1]
  have p : (256 : Nat) ^ (2 * i) = 65536 ^ i := by rw [Nat.pow_mul]
  show natL (k.take (2 * i)) + 256 ^ (2 * i) * ((k.getD (2 * i) 0).toNat + 256 * 0) + 256 ^ (2 * i + 1) * ((k.getD (2 * i + 1) 0).toNat + 256 * 0) = _
  rw [Nat.pow_succ, p]
  unfold dig
  generalize (65536 : Nat) ^ i = q
  grind
theorem readI_ev {k : List UInt8} (h : k.length = 32) : ∀ i, i ≤ 16 → ev (readI k i) = (natL (k.take (2 * i)) : Int)
  | 0, _ => by show ev (List.replicate 16 0) = _; rw [ev_rep]; rfl
  | i + 1, hi => by
    have h0 : d (readI k i) i = 0 := by rw [readI_d i (by omega) i, if_neg (by omega)]
    rw [readI, ior_dig, ev_set _ _ _ (by rw [readI_len]; omega), readI_ev h i (by omega), h0, show 2 * (i + 1) = 2 * i + 2 by omega, nat_take2 (by omega)]
    rw [Int.natCast_add, Int.natCast_mul, Int.natCast_pow]
    rw [show ((65536 : Nat) : Int) = 65536 from rfl]
    generalize (65536 : Int) ^ i = q
    grind
theorem readR_dg {k : List UInt8} (h : k.length = 32) : Dg (readR k) ∧ ev (readR k) = ((natL k % 57896044618658097711785492504343953926634992332820282019728792003956564819968 : Nat) : Int) := by
  have l := readI_len k 16
  have e15 : d (readI k 16) 15 = (dig k 15 : Int) := by rw [readI_d 16 (by omega) 15, if_pos (by omega)]
  have er : readR k = (readI k 16).set 15 ((dig k 15 : Int) % 32768) := by unfold readR; rw [e15, iand15]
  have lr : (readR k).length = 16 := by rw [er, List.length_set, l]
  have hd : Dg (readR k) := ⟨lr, fun j => by
    rw [er]
    by_cases hj : 15 = j
    · subst hj; rw [d_set (by omega)]; omega
    · rw [d_ne hj, readI_d 16 (by omega) j]
      have := dig_lt k j
      split <;> omega⟩
  refine ⟨hd, ?_⟩
  have v := readI_ev h 16 (by omega)
  rw [List.take_of_length_le (by omega)] at v
  have e : ev (readR k) = (natL k : Int) - (dig k 15 / 32768 : Nat) * 57896044618658097711785492504343953926634992332820282019728792003956564819968 := by
    rw [er, ev_set _ _ _ (by omega), v, e15]
    have p15 : (65536 : Int) ^ 15 = 1766847064778384329583297500742918515827483896875618958121606201292619776 := rfl
    rw [p15]; omega
  have tk := ev_take (readR k) 15 (by omega)
  rw [List.take_of_length_le (by omega)] at tk
  have rt := ev_range ((readR k).take 15) (fun j => by
    have e : d ((readR k).take 15) j = if j < 15 then d (readR k) j else 0 := by
      unfold d
      rw [List.getD_eq_getElem?_getD, List.getElem?_take, List.getD_eq_getElem?_getD]
      split <;> rfl
    rw [e]
    split
    · exact hd.all j
    · omega)
  have p15 : (65536 : Int) ^ 15 = 1766847064778384329583297500742918515827483896875618958121606201292619776 := rfl
  rw [List.length_take, lr, show min 15 16 = 15 from rfl, p15] at rt
  have d15 : d (readR k) 15 = (dig k 15 : Int) % 32768 := by rw [er, d_set (by omega)]
  rw [d15, p15] at tk
  omega
/-! writing -/
theorem natL_set : ∀ (l : List UInt8) (i : Nat) (x : UInt8), i < l.length → natL (l.set i x) + (l.getD i 0).toNat * 256 ^ i = natL l + x.toNat * 256 ^ i
  | [], i, x, h => by simp at h
  | y :: r, 0, x, _ => by
    show x.toNat + 256 * natL r + y.toNat * 256 ^ 0 = y.toNat + 256 * natL r + x.toNat * 256 ^ 0
    rw [Nat.pow_zero]; omega
  | y :: r, i + 1, x, h => by
    have ih := natL_set r i x (by simpa using h)
    show y.toNat + 256 * natL (r.set i x) + (r.getD i 0).toNat * 256 ^ (i + 1) = y.toNat + 256 * natL r + x.toNat * 256 ^ (i + 1)
    rw [Nat.pow_succ]
    generalize (256 : Nat) ^ i = p at *
    grind
theorem writeI_len (f : List Int) : ∀ i, (writeI f i).length = 32
  | 0 => rfl
  | i + 1 => by rw [writeI, List.length_set, List.length_set, writeI_len f i]
theorem g_set_ne {l : List UInt8} {i j : Nat} {x : UInt8} (h : i ≠ j) : (l.set i x).getD j 0 = l.getD j 0 := by
  rw [List.getD_eq_getElem?_getD, List.getElem?_set_ne h, ← List.getD_eq_getElem?_getD]
theorem writeI_z (f : List Int) : ∀ i, i ≤ 16 → ∀ j, 2 * i ≤ j → (writeI f i).getD j 0 = 0
  | 0, _, j, _ => by
    show (List.replicate 32 0).getD j 0 = 0
    rw [List.getD_eq_getElem?_getD, List.getElem?_replicate]; split <;> rfl
  | i + 1, hi, j, hj => by
    rw [writeI, g_set_ne (by omega), g_set_ne (by omega)]
    exact writeI_z f i (by omega) j (by omega)
theorem to8_nat {x : Int} (h : 0 ≤ x) : (to8 x).toNat = (x % 256).toNat := by
  unfold to8
  show (BitVec.ofInt 8 x).toNat = _
  rw [BitVec.toNat_ofInt]; rfl
theorem natL_rep : ∀ n, natL (List.replicate n 0) = 0
  | 0 => rfl
  | n + 1 => by
    show 0 + 256 * natL (List.replicate n 0) = 0
    rw [natL_rep n]
theorem writeI_nat {f : List Int} (h : Dg f) : ∀ i, i ≤ 16 → (natL (writeI f i) : Int) = ev (f.take i)
  | 0, _ => by show ((natL (List.replicate 32 0) : Nat) : Int) = 0; rw [natL_rep]; rfl
  | i + 1, hi => by
    have ih := writeI_nat h i (by omega)
    have hd := h.all i
    have l := h.len
    have s1 := natL_set (writeI f i) (2 * i) (to8 (d f i)) (by rw [writeI_len]; omega)
    have s2 := natL_set ((writeI f i).set (2 * i) (to8 (d f i))) (2 * i + 1) (to8 (d f i / 2 ^ 8)) (by rw [List.length_set, writeI_len]; omega)
    rw [writeI_z f i (by omega) (2 * i) (by omega)] at s1
    rw [g_set_ne (by omega), writeI_z f i (by omega) (2 * i + 1) (by omega)] at s2
    rw [show (0 : UInt8).toNat = 0 from rfl, Nat.zero_mul, Nat.add_zero] at s1 s2
    rw [ev_take f i (by omega), ← ih]
    show ((natL (((writeI f i).set (2 * i) (to8 (d f i))).set (2 * i + 1) (to8 (d f i / 2 ^ 8))) : Nat) : Int) = _
    rw [s2, s1, to8_nat (by omega), to8_nat (by omega)]
    have p : (256 : Nat) ^ (2 * i) = 65536 ^ i := by rw [Nat.pow_mul]
    rw [Nat.pow_succ, p]
    have e : (d f i % 256).toNat + (d f i / 2 ^ 8 % 256).toNat * 256 = (d f i).toNat := by omega
    have e2 : natL (writeI f i) + (d f i % 256).toNat * 65536 ^ i + (d f i / 2 ^ 8 % 256).toNat * (65536 ^ i * 256) = natL (writeI f i) + (d f i).toNat * 65536 ^ i := by
      rw [← e]
      generalize (65536 : Nat) ^ i = q
      grind
    rw [e2, Int.natCast_add, Int.natCast_mul, Int.natCast_pow, Int.toNat_of_nonneg (by omega)]
    rfl
theorem natL_inj : ∀ {a b : List UInt8}, a.length = b.length → natL a = natL b → a = b
  | [], [], _, _ => rfl
  | x :: r, y :: s, hl, h => by
    have h1 := x.toNat_lt
    have h2 := y.toNat_lt
    have h : x.toNat + 256 * natL r = y.toNat + 256 * natL s := h
    have e1 : x.toNat = y.toNat := by omega
    have e2 : natL r = natL s := by omega
    rw [UInt8.toNat_inj.1 e1, natL_inj (by simpa using hl) e2]
theorem outN_nat {n : Nat} (h : n < 115792089237316195423570985008687907853269984665640564039457584007913129639936) : natL (outN n) = n := by
  have p : (256 : Nat) ^ 8 = 18446744073709551616 := rfl
  unfold outN
  rw [natL_append, natL_append, natL_append, littleL_len, littleL_len, littleL_len, natL_little, natL_little, natL_little, natL_little, p, u_nat, u_nat, u_nat, u_nat]
  simp only [D64, D128, D192]
  omega
theorem outN_len (n : Nat) : (outN n).length = 32 := by
  unfold outN; simp only [List.length_append, littleL_len]
theorem writeR_val {f : List Int} (h : Nm f) : writeR f = outN (ev f % 57896044618658097711785492504343953926634992332820282019728792003956564819949).toNat := by
  obtain ⟨h1, c1, e1⟩ := carR_dg h
  obtain ⟨h2, c2, e2⟩ := carR_dg h1.nm
  obtain ⟨h3, c3, e3⟩ := carR_dg h2.nm
  obtain ⟨o1, v1⟩ := once_ok h3
  obtain ⟨o2, v2⟩ := once_ok o1
  have hr := h3.range
  have hw := writeI_nat o2 16 (by omega)
  rw [List.take_of_length_le (by rw [o2.len]; omega)] at hw
  unfold writeR
  refine natL_inj (by rw [writeI_len, outN_len]) ?_
  rw [outN_nat (by omega)]
  have e4 : ev (carR (carR (carR f))) = ev f - P2 * (c1 + c2 + c3) := by rw [e3, e2, e1]; simp only [Int.mul_add]; omega
  have r1 : ev (onceR (onceR (carR (carR (carR f))))) = ev (carR (carR (carR f))) % 57896044618658097711785492504343953926634992332820282019728792003956564819949 := by
    by_cases c : ev (carR (carR (carR f))) < 57896044618658097711785492504343953926634992332820282019728792003956564819949
    · rw [if_pos c] at v1
      rw [v1, if_pos c] at v2
      omega
    · rw [if_neg c] at v1
      rw [v1] at v2
      by_cases c2 : ev (carR (carR (carR f))) - 57896044618658097711785492504343953926634992332820282019728792003956564819949 < 57896044618658097711785492504343953926634992332820282019728792003956564819949
      · rw [if_pos c2] at v2
        omega
      · rw [if_neg c2] at v2
        omega
  have r2 : ev (carR (carR (carR f))) % 57896044618658097711785492504343953926634992332820282019728792003956564819949 = ev f % 57896044618658097711785492504343953926634992332820282019728792003956564819949 := by
    rw [e4]; simp only [P2]; omega
  rw [r1, r2] at hw
  omega
/-! the ladder -/
def RI (f : List Int) (n : Nat) : Prop := Nm f ∧ (ev f % 57896044618658097711785492504343953926634992332820282019728792003956564819949).toNat = n
def RJ (f : List Int) (n : Nat) : Prop := (f.length = 16 ∧ Bd B18 f) ∧ (ev f % 57896044618658097711785492504343953926634992332820282019728792003956564819949).toNat = n
theorem Nm.b18 {f : List Int} (h : Nm f) : Bd B18 f := fun j => by have := h.bd j; simp only [B17, B18] at *; omega
theorem RI.mid {f : List Int} {n : Nat} (h : RI f n) : RJ f n := ⟨⟨h.1.len, h.1.b18⟩, h.2⟩
theorem i_mul {a b : List Int} {x y : Nat} (ha : RJ a x) (hb : RJ b y) : RI (mulR a b) (fm x y) := by
  obtain ⟨⟨la, ba⟩, rfl⟩ := ha
  obtain ⟨⟨lb, bb⟩, rfl⟩ := hb
  obtain ⟨n, q, hq⟩ := mulR_nm ba bb la lb
  refine ⟨n, ?_⟩
  rw [hq]
  unfold fm
  have e : (ev a * ev b - P2 * q) % 57896044618658097711785492504343953926634992332820282019728792003956564819949 = (ev a % 57896044618658097711785492504343953926634992332820282019728792003956564819949) * (ev b % 57896044618658097711785492504343953926634992332820282019728792003956564819949) % 57896044618658097711785492504343953926634992332820282019728792003956564819949 := by
    rw [← Int.mul_emod, show P2 * q = 57896044618658097711785492504343953926634992332820282019728792003956564819949 * (2 * q) by simp only [P2]; omega, Int.sub_mul_emod_self_left]
  rw [e]
  have p1 : 0 ≤ ev a % 57896044618658097711785492504343953926634992332820282019728792003956564819949 := by omega
  have p2 : 0 ≤ ev b % 57896044618658097711785492504343953926634992332820282019728792003956564819949 := by omega
  generalize ev a % 57896044618658097711785492504343953926634992332820282019728792003956564819949 = u at *
  generalize ev b % 57896044618658097711785492504343953926634992332820282019728792003956564819949 = v at *
  obtain ⟨u, rfl⟩ := Int.eq_ofNat_of_zero_le p1
  obtain ⟨v, rfl⟩ := Int.eq_ofNat_of_zero_le p2
  rw [Int.toNat_natCast, Int.toNat_natCast]
  rfl
theorem i_add {a b : List Int} {x y : Nat} (ha : RI a x) (hb : RI b y) : RJ (addR a b) (fa x y) := by
  obtain ⟨na, rfl⟩ := ha
  obtain ⟨nb, rfl⟩ := hb
  refine ⟨⟨by rw [addI_len, na.len], fun j => ?_⟩, ?_⟩
  · have h1 := na.bd j
    have h2 := nb.bd j
    simp only [addR, B17, B18] at *
    rw [addI_d na.len 16 (by omega) j]
    split <;> omega
  · simp only [addR]
    rw [addI_ev na.len nb.len 16 (by omega), List.take_of_length_le (by rw [nb.len]; omega)]
    unfold fa
    simp only [PP]
    omega
theorem i_sub {a b : List Int} {x y : Nat} (ha : RI a x) (hb : RI b y) : RJ (subR a b) (fs x y) := by
  obtain ⟨na, rfl⟩ := ha
  obtain ⟨nb, rfl⟩ := hb
  refine ⟨⟨by rw [subI_len, na.len], fun j => ?_⟩, ?_⟩
  · have h1 := na.bd j
    have h2 := nb.bd j
    simp only [subR, B17, B18] at *
    rw [subI_d na.len 16 (by omega) j]
    split <;> omega
  · simp only [subR]
    rw [subI_ev na.len nb.len 16 (by omega), List.take_of_length_le (by rw [nb.len]; omega)]
    unfold fs
    simp only [PP]
    omega
theorem nm_lit {f : List Int} (hl : f.length = 16) (h : ∀ j, j < 16 → 0 ≤ d f j ∧ d f j ≤ 65535) : Dg f := ⟨hl, fun j => by
  by_cases hj : j < 16
  · exact h j hj
  · rw [d_out (by omega)]; omega⟩
theorem i_one : RI oneR 1 := ⟨(nm_lit rfl (by decide)).nm, by decide +kernel⟩
theorem i_zero : RI zeroR 0 := ⟨(nm_lit rfl (by decide)).nm, by decide +kernel⟩
theorem i_a24 : RJ a24R 121665 := ⟨⟨rfl, (nm_lit (f := a24R) rfl (by decide)).nm.b18⟩, by decide +kernel⟩
theorem fm_comm (x y : Nat) : fm x y = fm y x := by unfold fm; rw [Nat.mul_comm]
theorem fa_comm (x y : Nat) : fa x y = fa y x := by unfold fa; rw [Nat.add_comm]
theorem i_mulc {a b : List Int} {x y : Nat} (ha : RJ a x) (hb : RJ b y) : RI (mulR a b) (fm y x) := by rw [fm_comm]; exact i_mul ha hb
theorem i_addc {a b : List Int} {x y : Nat} (ha : RI a x) (hb : RI b y) : RJ (addR a b) (fa y x) := by rw [fa_comm]; exact i_add ha hb
structure RLR (m : LM) (n : LN) : Prop where
  x2 : RI m.l.x2 n.x2
  z2 : RI m.l.z2 n.z2
  x3 : RI m.l.x3 n.x3
  z3 : RI m.l.z3 n.z3
  last : m.last = n.last
theorem i_st {l : LR} {n : LN} {x1 : List Int} {x : Nat} (h2 : RI l.x2 n.x2) (k2 : RI l.z2 n.z2) (h3 : RI l.x3 n.x3) (k3 : RI l.z3 n.z3) (hx : RI x1 x) (k : UInt8) : RLR ⟨stR l x1, k⟩ (stN x k n) := by
  have a := i_add h2 k2
  have b := i_sub h2 k2
  have aa := i_mul a a
  have bb := i_mul b b
  have e := i_sub aa bb
  have da := i_mul (i_sub h3 k3) a
  have cb := i_mul (i_add h3 k3) b
  have s := i_add da cb
  have t := i_sub da cb
  have u := i_mulc i_a24 e
  have v := i_addc aa u
  have w := i_mulc e v
  have y := (i_mul t t).mid
  have z := i_mulc hx.mid y
  have x := i_mul aa.mid bb.mid
  have r := i_mul s s
  refine ⟨?_, ?_, ?_, ?_, rfl⟩ <;> simp only [stR, stN]
  · exact x
  · exact w
  · exact r
  · exact z
theorem i_lad {x1 : List Int} {x : Nat} (hx : RI x1 x) (n : List UInt8) : ∀ i, RLR (ladR n x1 i) (ladN n x i)
  | 0 => ⟨i_one, i_zero, hx, i_one, rfl⟩
  | i + 1 => by
    have ih := i_lad hx n i
    show RLR (stepM x1 (bitL n (254 - i)) (ladR n x1 i)) (stN x (bitL n (254 - i)) (swN (bitL n (254 - i)) (ladN n x i)))
    unfold stepM swN
    rw [ih.last]
    split
    · exact i_st ih.x2 ih.z2 ih.x3 ih.z3 hx _
    · exact i_st ih.x3 ih.z3 ih.x2 ih.z2 hx _
theorem i_pow {a : List Int} {x : Nat} (ha : RI a x) : ∀ n, RI (powR a n) (powN x (n + 1))
  | 0 => by
    have hx : x < PP := by
      obtain ⟨_, rfl⟩ := ha
      simp only [PP]; omega
    have e : powN x 1 = x := by
      show fm (fm 1 1) x = x
      unfold fm
      rw [show 1 * 1 % PP = 1 from rfl, Nat.one_mul, Nat.mod_eq_of_lt hx]
    rw [e]; exact ha
  | n + 1 => by
    have ih := (i_pow ha n).mid
    show RI (if _ then _ else _) (if _ then _ else _)
    rw [show 254 - (n + 1) = 253 - n by omega]
    split
    · exact i_mul ih ih
    · exact i_mul (i_mul ih ih).mid ha.mid
theorem keyR_val {s p : List UInt8} (hp : p.length = 32) : keyR s p = outN (keyN s (natL p % 57896044618658097711785492504343953926634992332820282019728792003956564819968 % PP)) := by
  obtain ⟨l1, l2⟩ := readR_dg hp
  have hx : RI (readR p) (natL p % 57896044618658097711785492504343953926634992332820282019728792003956564819968 % PP) := ⟨l1.nm, by rw [l2]; simp only [PP]; omega⟩
  have hl := i_lad hx (clampL s) 255
  unfold keyR keyN endR endN
  rw [hl.last]
  split
  · obtain ⟨m1, m2⟩ := i_mul hl.x3.mid (i_pow hl.z3 254).mid
    rw [writeR_val m1, m2]
  · obtain ⟨m1, m2⟩ := i_mul hl.x2.mid (i_pow hl.z2 254).mid
    rw [writeR_val m1, m2]
theorem key_eq {s p : List UInt8} (hp : p.length = 32) : keyR s p = keyL s p := by rw [keyR_val hp, key_val hp]
end Go.Cur
