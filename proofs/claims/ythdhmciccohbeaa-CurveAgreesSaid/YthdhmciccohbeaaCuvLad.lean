/- A step towards CurveAgreesSaid: no conditions. -/
import Derived.Test.YthdhmciccohbeaaCuvVal
namespace Go.Cur
open Go Go.Eng Go.Cod Go.Pol
/-! the ladder over numbers modulo 2^255 - 19 -/
def fm (x y : Nat) : Nat := x * y % PP
def fa (x y : Nat) : Nat := (x + y) % PP
def fs (x y : Nat) : Nat := (x + 2 * PP - y) % PP
structure LN where
  x2 : Nat
  z2 : Nat
  x3 : Nat
  z3 : Nat
  last : UInt8
def swN (k : UInt8) (l : LN) : LN := if k = l.last then l else ⟨l.x3, l.z3, l.x2, l.z2, l.last⟩
def stN (x1 : Nat) (k : UInt8) (l : LN) : LN :=
  ⟨fm (fm (fa l.x2 l.z2) (fa l.x2 l.z2)) (fm (fs l.x2 l.z2) (fs l.x2 l.z2)),
   fm (fa (fm (fs (fm (fa l.x2 l.z2) (fa l.x2 l.z2)) (fm (fs l.x2 l.z2) (fs l.x2 l.z2))) 121665) (fm (fa l.x2 l.z2) (fa l.x2 l.z2))) (fs (fm (fa l.x2 l.z2) (fa l.x2 l.z2)) (fm (fs l.x2 l.z2) (fs l.x2 l.z2))),
   fm (fa (fm (fs l.x3 l.z3) (fa l.x2 l.z2)) (fm (fa l.x3 l.z3) (fs l.x2 l.z2))) (fa (fm (fs l.x3 l.z3) (fa l.x2 l.z2)) (fm (fa l.x3 l.z3) (fs l.x2 l.z2))),
   fm (fm (fs (fm (fs l.x3 l.z3) (fa l.x2 l.z2)) (fm (fa l.x3 l.z3) (fs l.x2 l.z2))) (fs (fm (fs l.x3 l.z3) (fa l.x2 l.z2)) (fm (fa l.x3 l.z3) (fs l.x2 l.z2)))) x1,
   k⟩
def ladN (n : List UInt8) (x1 : Nat) : Nat → LN
  | 0 => ⟨1, 0, x1, 1, 0⟩
  | i + 1 => stN x1 (bitL n (254 - i)) (swN (bitL n (254 - i)) (ladN n x1 i))
def powN (a : Nat) : Nat → Nat
  | 0 => 1
  | n + 1 => if (254 - n = 2 ∨ 254 - n = 4) then fm (powN a n) (powN a n) else fm (fm (powN a n) (powN a n)) a
def endN (l : LN) : Nat := if l.last = UInt8.ofNat 1 then fm l.x3 (powN l.z3 255) else fm l.x2 (powN l.z2 255)
def keyN (s : List UInt8) (x : Nat) : Nat := endN (ladN (clampL s) x 255)
/-- a number of 32 bytes -/
def outN (n : Nat) : List UInt8 := littleL (u n) 8 ++ (littleL (u (n / D64)) 8 ++ (littleL (u (n / D128)) 8 ++ littleL (u (n / D192)) 8))

def RS (a : List UInt64) (n : Nat) : Prop := Small a ∧ val a % PP = n
def RM (a : List UInt64) (n : Nat) : Prop := Mid a ∧ val a % PP = n
theorem RS.mid {a : List UInt64} {n : Nat} (h : RS a n) : RM a n := ⟨h.1.mid, h.2⟩
theorem r_mul {a b : List UInt64} {x y : Nat} (ha : RM a x) (hb : RM b y) : RS (mulL a b) (fm x y) := by
  obtain ⟨h1, rfl⟩ := ha
  obtain ⟨h2, rfl⟩ := hb
  obtain ⟨k1, k2⟩ := mul_val h1 h2
  exact ⟨k1, by rw [k2]; unfold fm; rw [← Nat.mul_mod]⟩
theorem r_add {a b : List UInt64} {x y : Nat} (ha : RS a x) (hb : RS b y) : RM (addL a b) (fa x y) := by
  obtain ⟨h1, rfl⟩ := ha
  obtain ⟨h2, rfl⟩ := hb
  obtain ⟨k1, k2⟩ := add_val h1 h2
  exact ⟨k1, by rw [k2]; unfold fa; rw [← Nat.add_mod]⟩
theorem r_sub {a b : List UInt64} {x y : Nat} (ha : RS a x) (hb : RS b y) : RM (subL a b) (fs x y) := by
  obtain ⟨h1, rfl⟩ := ha
  obtain ⟨h2, rfl⟩ := hb
  obtain ⟨k1, k2⟩ := sub_val h1 h2
  refine ⟨k1, ?_⟩
  unfold fs
  simp only [PP] at *
  omega
theorem r_one : RS oneL 1 := by
  refine ⟨⟨?_, ?_, ?_, ?_, ?_⟩, ?_⟩ <;> decide
theorem r_zero : RS zeroL 0 := by
  refine ⟨⟨?_, ?_, ?_, ?_, ?_⟩, ?_⟩ <;> decide
theorem r_a24 : RM [UInt64.ofNat 121665, 0, 0, 0, 0] 121665 := by
  refine ⟨⟨?_, ?_, ?_, ?_, ?_⟩, ?_⟩ <;> decide
structure RL (l : Lad) (n : LN) : Prop where
  x2 : RS l.x2 n.x2
  z2 : RS l.z2 n.z2
  x3 : RS l.x3 n.x3
  z3 : RS l.z3 n.z3
  last : l.last = n.last
theorem r_sw {l : Lad} {n : LN} (h : RL l n) (k : UInt8) : RL (swL k l) (swN k n) := by
  unfold swL swN
  rw [h.last]
  split
  · exact h
  · exact ⟨h.x3, h.z3, h.x2, h.z2, rfl⟩
theorem r_st {l : Lad} {n : LN} {x1 : List UInt64} {x : Nat} (h : RL l n) (hx : RM x1 x) (k : UInt8) : RL (stL x1 k l) (stN x k n) := by
  have a := r_add h.x2 h.z2
  have b := r_sub h.x2 h.z2
  have aa := r_mul a a
  have bb := r_mul b b
  have e := r_sub aa bb
  have da := r_mul (r_sub h.x3 h.z3) a
  have cb := r_mul (r_add h.x3 h.z3) b
  have s := r_add da cb
  have t := r_sub da cb
  exact ⟨r_mul aa.mid bb.mid, r_mul (r_add (r_mul e r_a24) aa) e, r_mul s s, r_mul (r_mul t t).mid hx, rfl⟩
theorem r_lad {x1 : List UInt64} {x : Nat} (hx : RS x1 x) (n : List UInt8) : ∀ i, RL (ladL n x1 i) (ladN n x i)
  | 0 => ⟨r_one, r_zero, hx, r_one, rfl⟩
  | i + 1 => r_st (r_sw (r_lad hx n i) _) hx.mid _
theorem r_inv {a : List UInt64} {x : Nat} (ha : RM a x) : ∀ n, RS (invN a n) (powN x n)
  | 0 => r_one
  | n + 1 => by
    have ih := (r_inv ha n).mid
    show RS (if _ then _ else _) (if _ then _ else _)
    split
    · exact r_mul ih ih
    · exact r_mul (r_mul ih ih).mid ha
/-! bytes -/
theorem or_add {x y : UInt64} {s t : Nat} (ht : t < 64) (h : x.toNat / 2 ^ s < 2 ^ t) : (shr64 x s ||| shl64 y t).toNat = x.toNat / 2 ^ s + y.toNat % 2 ^ (64 - t) * 2 ^ t := by
  rw [UInt64.toNat_or, Cod.shr64_toNat, Cod.shl64_toNat, Nat.or_comm]
  have e : y.toNat * 2 ^ t % 18446744073709551616 = y.toNat % 2 ^ (64 - t) * 2 ^ t := by
    rw [show (18446744073709551616 : Nat) = 2 ^ (64 - t) * 2 ^ t by rw [← Nat.pow_add, Nat.sub_add_cancel (by omega)], Nat.mul_mod_mul_right]
  rw [e]
  have := Nat.shiftLeft_add_eq_or_of_lt (a := y.toNat % 2 ^ (64 - t)) h
  rw [Nat.shiftLeft_eq] at this
  rw [← this]
  omega
theorem or_add0 {x y : UInt64} {t : Nat} (ht : t < 64) (h : x.toNat < 2 ^ t) : (x ||| shl64 y t).toNat = x.toNat + y.toNat % 2 ^ (64 - t) * 2 ^ t := by
  have e := or_add (x := x) (y := y) (s := 0) ht (by rw [Nat.pow_zero, Nat.div_one]; exact h)
  rw [Nat.pow_zero, Nat.div_one] at e
  rw [← e, UInt64.toNat_or, UInt64.toNat_or, Cod.shr64_toNat, Nat.pow_zero, Nat.div_one]
theorem wd_nat {k : List UInt8} (h : k.length = 32) (i : Nat) (hi : i ≤ 3) : (wd k i).toNat = natL ((k.drop (8 * i)).take 8) := by
  unfold wd
  exact readL_nat _ (by rw [List.length_take]; omega)
theorem nat_split {k : List UInt8} (h : k.length = 32) : natL k = natL (k.take 8) + 18446744073709551616 * natL ((k.drop 8).take 8) + 340282366920938463463374607431768211456 * natL ((k.drop 16).take 8) + 6277101735386680763835789423207666416102355444464034512896 * natL ((k.drop 24).take 8) := by
  have e : k = k.take 8 ++ ((k.drop 8).take 8 ++ ((k.drop 16).take 8 ++ (k.drop 24).take 8)) := by
    have a1 : (k.drop 24).take 8 = k.drop 24 := List.take_of_length_le (by rw [List.length_drop]; omega)
    have a2 : (k.drop 16).take 8 ++ k.drop 24 = k.drop 16 := by
      have := List.take_append_drop 8 (k.drop 16); rw [List.drop_drop] at this; exact this
    have a3 : (k.drop 8).take 8 ++ k.drop 16 = k.drop 8 := by
      have := List.take_append_drop 8 (k.drop 8); rw [List.drop_drop] at this; exact this
    rw [a1, a2, a3, List.take_append_drop]
  have l1 : (k.take 8).length = 8 := by rw [List.length_take]; omega
  have l2 : ((k.drop 8).take 8).length = 8 := by rw [List.length_take, List.length_drop]; omega
  have l3 : ((k.drop 16).take 8).length = 8 := by rw [List.length_take, List.length_drop]; omega
  have p : (256 : Nat) ^ 8 = 18446744073709551616 := rfl
  conv => lhs; rw [e]
  rw [natL_append, natL_append, natL_append, l1, l2, l3, p]
  omega
theorem nat8 {k : List UInt8} (h : k.length = 32) (i : Nat) : natL ((k.drop i).take 8) < 18446744073709551616 := by
  have h1 := natL_lt ((k.drop i).take 8)
  have h2 : ((k.drop i).take 8).length ≤ 8 := by rw [List.length_take]; omega
  exact Nat.lt_of_lt_of_le h1 (pow256_8 h2)
theorem load_val {k : List UInt8} (h : k.length = 32) : Small (loadL k) ∧ val (loadL k) = natL k % 57896044618658097711785492504343953926634992332820282019728792003956564819968 := by
  have w0 := wd_nat h 0 (by decide)
  have w1 := wd_nat h 1 (by decide)
  have w2 := wd_nat h 2 (by decide)
  have w3 := wd_nat h 3 (by decide)
  have b0 := nat8 h 0
  have b1 := nat8 h 8
  have b2 := nat8 h 16
  have b3 := nat8 h 24
  have ns := nat_split h
  rw [show List.take 8 k = (k.drop 0).take 8 from rfl] at ns
  simp only [Nat.mul_zero, show 8 * 1 = 8 from rfl, show 8 * 2 = 16 from rfl, show 8 * 3 = 24 from rfl] at w0 w1 w2 w3
  have n0 : nn (loadL k) 0 = natL ((k.drop 0).take 8) % X1 := by
    show (wd k 0 &&& UInt64.ofNat 2251799813685247).toNat = _
    rw [and51, w0]
  have n1 : nn (loadL k) 1 = (natL ((k.drop 0).take 8) / 2251799813685248 + natL ((k.drop 8).take 8) % 2251799813685248 * 8192) % X1 := by
    show ((shr64 (wd k 0) 51 ||| shl64 (wd k 1) 13) &&& UInt64.ofNat 2251799813685247).toNat = _
    rw [and51, or_add (by decide) (by rw [w0]; omega), w0, w1]
  have n2 : nn (loadL k) 2 = (natL ((k.drop 8).take 8) / 274877906944 + natL ((k.drop 16).take 8) % 274877906944 * 67108864) % X1 := by
    show ((shr64 (wd k 1) 38 ||| shl64 (wd k 2) 26) &&& UInt64.ofNat 2251799813685247).toNat = _
    rw [and51, or_add (by decide) (by rw [w1]; omega), w1, w2]
  have n3 : nn (loadL k) 3 = (natL ((k.drop 16).take 8) / 33554432 + natL ((k.drop 24).take 8) % 33554432 * 549755813888) % X1 := by
    show ((shr64 (wd k 2) 25 ||| shl64 (wd k 3) 39) &&& UInt64.ofNat 2251799813685247).toNat = _
    rw [and51, or_add (by decide) (by rw [w2]; omega), w2, w3]
  have n4 : nn (loadL k) 4 = natL ((k.drop 24).take 8) / 4096 % X1 := by
    show (shr64 (wd k 3) 12 &&& UInt64.ofNat 2251799813685247).toNat = _
    rw [and51, Cod.shr64_toNat, w3]
  generalize natL ((k.drop 0).take 8) = y0 at *
  generalize natL ((k.drop 8).take 8) = y1 at *
  generalize natL ((k.drop 16).take 8) = y2 at *
  generalize natL ((k.drop 24).take 8) = y3 at *
  refine ⟨⟨?_, ?_, ?_, ?_, ?_⟩, ?_⟩
  · rw [n0]; simp only [X1]; omega
  · rw [n1]; simp only [X1]; omega
  · rw [n2]; simp only [X1]; omega
  · rw [n3]; simp only [X1]; omega
  · rw [n4]; simp only [X1]; omega
  · unfold val
    rw [n0, n1, n2, n3, n4, ns]
    simp only [X1, X2, X3, X4]
    omega
theorem mk_nat (x : UInt64) : (mk x).toNat = x.toNat % X1 := and51 x
/-- five limbs of 51 bits as four words -/
theorem words_out {d0 d1 d2 d3 d4 : UInt64} (h0 : d0.toNat < X1) (h1 : d1.toNat < X1) (h2 : d2.toNat < X1) (h3 : d3.toNat < X1) (h4 : d4.toNat < X1) :
    bytesW [d0 ||| shl64 d1 51, shr64 d1 13 ||| shl64 d2 38, shr64 d2 26 ||| shl64 d3 25, shr64 d3 39 ||| shl64 d4 12] = outN (d0.toNat + X1 * d1.toNat + X2 * d2.toNat + X3 * d3.toNat + X4 * d4.toNat) := by
  simp only [X1] at h0 h1 h2 h3 h4
  have e0 : d0 ||| shl64 d1 51 = u (d0.toNat + X1 * d1.toNat + X2 * d2.toNat + X3 * d3.toNat + X4 * d4.toNat) := u_eq (by
    rw [or_add0 (by decide) (by omega)]; simp only [X1, X2, X3, X4, D64]; omega)
  have e1 : shr64 d1 13 ||| shl64 d2 38 = u ((d0.toNat + X1 * d1.toNat + X2 * d2.toNat + X3 * d3.toNat + X4 * d4.toNat) / D64) := u_eq (by
    rw [or_add (by decide) (by omega)]; simp only [X1, X2, X3, X4, D64]; omega)
  have e2 : shr64 d2 26 ||| shl64 d3 25 = u ((d0.toNat + X1 * d1.toNat + X2 * d2.toNat + X3 * d3.toNat + X4 * d4.toNat) / D128) := u_eq (by
    rw [or_add (by decide) (by omega)]; simp only [X1, X2, X3, X4, D64, D128]; omega)
  have e3 : shr64 d3 39 ||| shl64 d4 12 = u ((d0.toNat + X1 * d1.toNat + X2 * d2.toNat + X3 * d3.toNat + X4 * d4.toNat) / D192) := u_eq (by
    rw [or_add (by decide) (by omega)]; simp only [X1, X2, X3, X4, D64, D192]; omega)
  rw [e0, e1, e2, e3]
  rfl
theorem add_nat {x y : UInt64} (h : x.toNat + y.toNat < 18446744073709551616) : (x + y).toNat = x.toNat + y.toNat := by
  rw [UInt64.toNat_add]; omega
theorem fin_mod {n : Nat} (h : n < 2 * PP) : (n + 19 * ((n + 19) / 57896044618658097711785492504343953926634992332820282019728792003956564819968)) % 57896044618658097711785492504343953926634992332820282019728792003956564819968 = n % PP := by
  simp only [PP] at *
  by_cases c : n + 19 < 57896044618658097711785492504343953926634992332820282019728792003956564819968
  · rw [Nat.div_eq_of_lt c, Nat.mul_zero, Nat.add_zero, Nat.mod_eq_of_lt (by omega), Nat.mod_eq_of_lt (by omega)]
  · have e : (n + 19) / 57896044618658097711785492504343953926634992332820282019728792003956564819968 = 1 := by omega
    rw [e]; omega
theorem bytes_val {a : List UInt64} (h : Small a) : bytesL a = outN (val a % PP) := by
  obtain ⟨a0, a1, a2, a3, a4⟩ := h
  have hb : nn a 4 / X1 ≤ 3000 := by simp only [X1]; omega
  obtain ⟨c0, c1, c2, c3, c4⟩ := car_nn hb
  obtain ⟨_, hv⟩ := car_val hb
  unfold bytesL
  generalize carL a = c at *
  have k0 : nn c 0 ≤ 2251799813685266 := by rw [c0]; simp only [X1]; omega
  have k1 : nn c 1 ≤ 2251799813685248 := by rw [c1]; simp only [X1]; omega
  have k2 : nn c 2 ≤ 2251799813685248 := by rw [c2]; simp only [X1]; omega
  have k3 : nn c 3 ≤ 2251799813685248 := by rw [c3]; simp only [X1]; omega
  have k4 : nn c 4 ≤ 2251799813685248 := by rw [c4]; simp only [X1]; omega
  have hq : val a % PP = val c % PP := by rw [hv, Nat.add_mul_mod_self_left]
  rw [hq]
  clear c0 c1 c2 c3 c4 hv hq a0 a1 a2 a3 a4 hb
  have q0 : (shr64 (g c 0 + UInt64.ofNat 19) 51).toNat = (nn c 0 + 19) / X1 := by
    rw [shr51, add_nat (by rw [nn_eq]; simp only [show (UInt64.ofNat 19).toNat = 19 from rfl]; omega), nn_eq]; rfl
  have q1 : (shr64 (g c 1 + shr64 (g c 0 + UInt64.ofNat 19) 51) 51).toNat = (nn c 1 + (nn c 0 + 19) / X1) / X1 := by
    rw [shr51, add_nat (by rw [nn_eq, q0]; simp only [X1]; omega), nn_eq, q0]
  have q2 : (shr64 (g c 2 + shr64 (g c 1 + shr64 (g c 0 + UInt64.ofNat 19) 51) 51) 51).toNat = (nn c 2 + (nn c 1 + (nn c 0 + 19) / X1) / X1) / X1 := by
    rw [shr51, add_nat (by rw [nn_eq, q1]; simp only [X1]; omega), nn_eq, q1]
  have q3 : (shr64 (g c 3 + shr64 (g c 2 + shr64 (g c 1 + shr64 (g c 0 + UInt64.ofNat 19) 51) 51) 51) 51).toNat = (nn c 3 + (nn c 2 + (nn c 1 + (nn c 0 + 19) / X1) / X1) / X1) / X1 := by
    rw [shr51, add_nat (by rw [nn_eq, q2]; simp only [X1]; omega), nn_eq, q2]
  have q4 : (qL c).toNat = (nn c 4 + (nn c 3 + (nn c 2 + (nn c 1 + (nn c 0 + 19) / X1) / X1) / X1) / X1) / X1 := by
    unfold qL
    rw [shr51, add_nat (by rw [nn_eq, q3]; simp only [X1]; omega), nn_eq, q3]
  have qv : (qL c).toNat = (val c + 19) / 57896044618658097711785492504343953926634992332820282019728792003956564819968 := by
    rw [q4]; unfold val; simp only [X1, X2, X3, X4]; omega
  have qle : (qL c).toNat ≤ 1 := by rw [qv]; unfold val; simp only [X1, X2, X3, X4]; omega
  have r0 : (b0 c).toNat = nn c 0 + 19 * (qL c).toNat := by
    clear qv q0 q1 q2 q3 q4
    have e : (UInt64.ofNat 19 * qL c).toNat = 19 * (qL c).toNat := by
      rw [UInt64.toNat_mul, show (UInt64.ofNat 19).toNat = 19 from rfl, Nat.mod_eq_of_lt (by omega)]
    unfold b0
    rw [add_nat (by rw [nn_eq, e]; omega), nn_eq, e]
  have r1 : (b1 c).toNat = nn c 1 + (b0 c).toNat / X1 := by
    unfold b1; rw [add_nat (by rw [nn_eq, shr51, r0]; omega), nn_eq, shr51]
  have r2 : (b2 c).toNat = nn c 2 + (b1 c).toNat / X1 := by
    unfold b2; rw [add_nat (by rw [nn_eq, shr51, r1, r0]; simp only [X1]; omega), nn_eq, shr51]
  have r3 : (b3 c).toNat = nn c 3 + (b2 c).toNat / X1 := by
    unfold b3; rw [add_nat (by rw [nn_eq, shr51, r2, r1, r0]; simp only [X1]; omega), nn_eq, shr51]
  have r4 : (b4 c).toNat = nn c 4 + (b3 c).toNat / X1 := by
    unfold b4; rw [add_nat (by rw [nn_eq, shr51, r3, r2, r1, r0]; simp only [X1]; omega), nn_eq, shr51]
  have hw := words_out (d0 := mk (b0 c)) (d1 := mk (b1 c)) (d2 := mk (b2 c)) (d3 := mk (b3 c)) (d4 := mk (b4 c)) (by rw [mk_nat]; exact Nat.mod_lt _ (by decide)) (by rw [mk_nat]; exact Nat.mod_lt _ (by decide)) (by rw [mk_nat]; exact Nat.mod_lt _ (by decide)) (by rw [mk_nat]; exact Nat.mod_lt _ (by decide)) (by rw [mk_nat]; exact Nat.mod_lt _ (by decide))
  refine hw.trans (congrArg outN ?_)
  rw [mk_nat, mk_nat, mk_nat, mk_nat, mk_nat]
  have hsum : (b0 c).toNat % X1 + X1 * ((b1 c).toNat % X1) + X2 * ((b2 c).toNat % X1) + X3 * ((b3 c).toNat % X1) + X4 * ((b4 c).toNat % X1) = (val c + 19 * (qL c).toNat) % 57896044618658097711785492504343953926634992332820282019728792003956564819968 := by
    unfold val
    simp only [X1, X2, X3, X4] at *
    omega
  have hv : val c < 2 * PP := by unfold val; simp only [X1, X2, X3, X4, PP]; omega
  rw [hsum, qv]
  exact fin_mod hv
theorem key_val {s p : List UInt8} (hp : p.length = 32) : keyL s p = outN (keyN s (natL p % 57896044618658097711785492504343953926634992332820282019728792003956564819968 % PP)) := by
  obtain ⟨l1, l2⟩ := load_val hp
  have hx : RS (loadL p) (natL p % 57896044618658097711785492504343953926634992332820282019728792003956564819968 % PP) := ⟨l1, by rw [l2]⟩
  have hl := r_lad hx (clampL s) 255
  unfold keyL keyN endL endN
  rw [hl.last]
  split
  · obtain ⟨m1, m2⟩ := r_mul hl.x3.mid (r_inv hl.z3.mid 255).mid
    rw [bytes_val m1, m2]
  · obtain ⟨m1, m2⟩ := r_mul hl.x2.mid (r_inv hl.z2.mid 255).mid
    rw [bytes_val m1, m2]
end Go.Cur
