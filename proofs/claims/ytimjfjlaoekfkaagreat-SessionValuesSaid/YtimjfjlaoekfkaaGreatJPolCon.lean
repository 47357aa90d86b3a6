/- Steps towards SessionValuesSaid. -/
import Derived.Test.YtimjfjlaoekfkaaGreatJBlkCon
import Derived.Test.YtimjfjlaoekfkaaGreatJChaVc
import Derived.Laws.Externs
import GoSem.Extern.MathBitsCarry
import Derived.Test.YtimjfjlaoekfkaaGreatJDbcVc
import Derived.Test.YtimjfjlaoekfkaaGreatJDazCon
import Derived.Test.YtimjfjlaoekfkaaGreatBase
/- A step towards SessionValuesSaid: no conditions. -/

namespace Go.Proofs.YtimjfjlaoekfkaaGreat
open Go Go.Eng Go.Cod Go.Pol
theorem len3 {l : List UInt64} (h : l.length = 3) : ∃ a b c, l = [a, b, c] := by
  match l, h with
  | [a, b, c], _ => exact ⟨a, b, c, rfl⟩
theorem lt64 (x : UInt64) : x.toNat < 18446744073709551616 := x.toNat_lt
set_option maxRecDepth 100000 in
theorem extAdd64 : ConX Tryz.prog 97 gAdd64 := fun args ps res h hp w vals hv => by
  unfold gAdd64 at h
  split at h <;> cases h
  rename_i x y c
  have hc := (all_cons.1 hp).1
  obtain ⟨v1, r1, rfl, h1, v2, r2, rfl, h2, v3, r3, rfl, h3, rfl⟩ := hv
  have h1 : v1 = eu64 x := h1
  have h2 : v2 = eu64 y := h2
  have h3 : v3 = eu64 c := h3
  subst h1 h2 h3
  refine ⟨_, ?_, fun A => ⟨[eu64 (u (x.toNat + y.toNat + c.toNat)), eu64 (u ((x.toNat + y.toNat + c.toNat) / D64))], rfl, _, _, rfl, rfl, _, _, rfl, rfl, rfl⟩⟩
  rw [run_callFunc_extern Tryz.func97 (by kernel_rfl) (by kernel_rfl) (by kernel_rfl) (e := add64Entry) (by kernel_rfl)]
  show ((add64Entry #[.int .u64 (x.toNat : Int), .int .u64 (y.toNat : Int), .int .u64 (c.toNat : Int)]).run _ w).andThen _ = _
  rw [run_add64 _ _ _ (by omega) (by omega) (by omega) (by omega)]
  have hx := lt64 x
  have hy := lt64 y
  simp only [Result.andThen, eu64, u_nat, D64]
  congr 5
  rw [Nat.mod_eq_of_lt (by omega)]
  rfl
def subE : Array Value → Sem Value :=
  match Extern.MathBitsCarry.rows with
  | [_, (_, e)] => e
  | _ => fun _ => pure undef
theorem run_subE {P : Program} (x y b : Nat) (hb : b ≤ 1) (w : World) : (subE #[.int .u64 x, .int .u64 y, .int .u64 b]).run P w =
      .ok (.tuple #[.int .u64 (((x + 18446744073709551616 - y - b) % 18446744073709551616 : Nat) : Int), .int .u64 ((if x < y + b then 1 else 0 : Nat) : Int)]) w := by
  have : b = 0 ∨ b = 1 := by omega
  rcases this with rfl | rfl <;> rfl
set_option maxRecDepth 100000 in
theorem extSub64 : ConX Tryz.prog 100 gSub64 := fun args ps res h hp w vals hv => by
  unfold gSub64 at h
  split at h <;> cases h
  rename_i x y c
  have hc := (all_cons.1 hp).1
  obtain ⟨v1, r1, rfl, h1, v2, r2, rfl, h2, v3, r3, rfl, h3, rfl⟩ := hv
  have h1 : v1 = eu64 x := h1
  have h2 : v2 = eu64 y := h2
  have h3 : v3 = eu64 c := h3
  subst h1 h2 h3
  refine ⟨_, ?_, fun A => ⟨[eu64 (u (x.toNat + D64 - y.toNat - c.toNat)), eu64 (u (if x.toNat < y.toNat + c.toNat then 1 else 0))], rfl, _, _, rfl, rfl, _, _, rfl, rfl, rfl⟩⟩
  rw [run_callFunc_extern Tryz.func100 (by kernel_rfl) (by kernel_rfl) (by kernel_rfl) (e := subE) (by kernel_rfl)]
  show ((subE #[.int .u64 (x.toNat : Int), .int .u64 (y.toNat : Int), .int .u64 (c.toNat : Int)]).run _ w).andThen _ = _
  rw [run_subE _ _ _ hc]
  simp only [Result.andThen, eu64, u_nat, D64]
  congr 5
  split <;> rfl
theorem consX : ConsX Tryz.prog extB := ⟨extAdd64, extSub64, trivial⟩
theorem eokX {gs : List (Nat × SpecF)} {ls : List (Nat × (St → Option Inv))} {r : Nat} {b : Bool} (h : Cons Tryz.prog gs) : EnvOk (mkE Tryz.prog gs ls r b extB) := mkEX_ok namesOk mx h consX
theorem and32 (x : UInt64) : (x &&& UInt64.ofNat 4294967295).toNat = x.toNat % 4294967296 := by
  rw [UInt64.toNat_and]
  exact Nat.and_two_pow_sub_one_eq_mod x.toNat 32
theorem mul64_nat {x y : Nat} (hx : x < 18446744073709551616) (hy : y < 18446744073709551616) :
    ((x / 4294967296) * (y / 4294967296) + ((x / 4294967296) * (y % 4294967296) + (x % 4294967296) * (y % 4294967296) / 4294967296) / 4294967296 + (((x / 4294967296) * (y % 4294967296) + (x % 4294967296) * (y % 4294967296) / 4294967296) % 4294967296 + (x % 4294967296) * (y / 4294967296)) / 4294967296) = x * y / 18446744073709551616 ∧
    (x % 4294967296) * (y % 4294967296) < 18446744073709551616 ∧ (x / 4294967296) * (y % 4294967296) + (x % 4294967296) * (y % 4294967296) / 4294967296 < 18446744073709551616 ∧
    ((x / 4294967296) * (y % 4294967296) + (x % 4294967296) * (y % 4294967296) / 4294967296) % 4294967296 + (x % 4294967296) * (y / 4294967296) < 18446744073709551616 ∧ (x / 4294967296) * (y / 4294967296) < 18446744073709551616 ∧
    (x / 4294967296) * (y % 4294967296) < 18446744073709551616 ∧ (x % 4294967296) * (y / 4294967296) < 18446744073709551616 := by
  have hxx : x = 4294967296 * (x / 4294967296) + x % 4294967296 := (Nat.div_add_mod ..).symm
  have hyy : y = 4294967296 * (y / 4294967296) + y % 4294967296 := (Nat.div_add_mod ..).symm
  have a1 : x / 4294967296 ≤ 4294967295 := by omega
  have a2 : y / 4294967296 ≤ 4294967295 := by omega
  have a3 : x % 4294967296 ≤ 4294967295 := by omega
  have a4 : y % 4294967296 ≤ 4294967295 := by omega
  have e : x * y = 18446744073709551616 * ((x / 4294967296) * (y / 4294967296)) + 4294967296 * ((x / 4294967296) * (y % 4294967296)) + 4294967296 * ((x % 4294967296) * (y / 4294967296)) + (x % 4294967296) * (y % 4294967296) := by
    conv => lhs; rw [hxx, hyy]
    generalize x / 4294967296 = p
    generalize x % 4294967296 = q
    generalize y / 4294967296 = r
    generalize y % 4294967296 = s
    rw [Nat.add_mul, Nat.mul_add, Nat.mul_add]
    have : 4294967296 * p * (4294967296 * r) = 18446744073709551616 * (p * r) := by
      rw [Nat.mul_mul_mul_comm]
    have e2 : 4294967296 * p * s = 4294967296 * (p * s) := Nat.mul_assoc ..
    have e3 : q * (4294967296 * r) = 4294967296 * (q * r) := Nat.mul_left_comm ..
    omega
  rw [e]
  have b1 := Nat.mul_le_mul a1 a2
  have b2 := Nat.mul_le_mul a1 a4
  have b3 := Nat.mul_le_mul a3 a2
  have b4 := Nat.mul_le_mul a3 a4
  generalize (x / 4294967296) * (y / 4294967296) = A at *
  generalize (x / 4294967296) * (y % 4294967296) = B at *
  generalize (x % 4294967296) * (y / 4294967296) = C at *
  generalize (x % 4294967296) * (y % 4294967296) = D at *
  omega
set_option maxRecDepth 100000 in
theorem conMul64 : Con Tryz.prog 106 gMul64 := con_of_vcs fun args ps res h hp => by
  unfold gMul64 at h
  split at h <;> cases h
  rename_i x y
  refine ⟨PE0, 100, rfl, eok (gs := []) trivial, ?_⟩
  rw [vcMul64 x y]
  obtain ⟨h1, h2, h3, h4, h5, h6, h7⟩ := mul64_nat (lt64 x) (lt64 y)
  refine ⟨u_eq ?_, u_eq ?_, trivial⟩
  · have p32 : (2 : Nat) ^ 32 = 4294967296 := rfl
    have p64 : (2 : Nat) ^ 64 = 18446744073709551616 := rfl
    simp only [UInt64.toNat_add, UInt64.toNat_mul, Cod.shr64_toNat, and32, p32, p64]
    rw [Nat.mod_eq_of_lt h5, Nat.mod_eq_of_lt h6, Nat.mod_eq_of_lt h2, Nat.mod_eq_of_lt h3, Nat.mod_eq_of_lt h7, Nat.mod_eq_of_lt h4, ← h1]
    simp only [D64]
    omega
  · rw [UInt64.toNat_mul]
set_option maxRecDepth 100000 in
theorem conProd : Con Tryz.prog 98 gProd := con_of_vcs fun args ps res h hp => by
  unfold gProd at h
  split at h <;> cases h
  rename_i x y
  refine ⟨PE1, 100, rfl, eokX (gs := [(106, gMul64)]) ⟨conMul64, trivial⟩, ?_⟩
  rw [vcProd x y]
  simp only [forall_eq, and_self]
set_option maxRecDepth 100000 in
theorem conPlus : Con Tryz.prog 99 gPlus := con_of_vcs fun args ps res h hp => by
  unfold gPlus at h
  split at h <;> cases h
  rename_i a b c d
  refine ⟨PE1, 100, rfl, eokX (gs := [(106, gMul64)]) ⟨conMul64, trivial⟩, ?_⟩
  rw [vcPlus a b c d]
  simp only [forall_eq]
  have ha := lt64 a
  have hb := lt64 b
  have hc := lt64 c
  have hd := lt64 d
  simp only [u_nat, D64]
  refine ⟨by decide, by omega, u_eq ?_, u_eq ?_, trivial⟩ <;> simp only [u_nat, D64] <;> omega
set_option maxRecDepth 100000 in
theorem conAddN : Con Tryz.prog 89 gAddN := con_of_vcl fun args ps res h hp hlen => by
  unfold gAddN at h
  split at h <;> cases h
  rename_i l c d
  obtain ⟨x, y, z, rfl⟩ := len3 (l := l) hlen.1.1
  refine ⟨PE1, 100, rfl, eokX (gs := [(106, gMul64)]) ⟨conMul64, trivial⟩, ?_⟩
  rw [vcAddN _ c d]
  have hx := lt64 x
  have hy := lt64 y
  have hz := lt64 z
  have hc := lt64 c
  have hd := lt64 d
  simp only [forall_eq, List.getD_cons_zero, List.getD_cons_succ, List.set_cons_zero, List.set_cons_succ, u_nat, D64]
  refine ⟨by decide, by omega, ?_, trivial⟩
  unfold w3 val3
  simp only [List.getD_cons_zero, List.getD_cons_succ]
  congr 1
  · exact u_eq (by rw [u_nat]; simp only [D64, D128]; omega)
  congr 1
  · exact u_eq (by rw [u_nat]; simp only [D64, D128]; omega)
  congr 1
  · refine u_eq ?_
    rw [UInt64.toNat_add, u_nat]
    simp only [D64, D128]
    omega
theorem and3 (x : UInt64) : (x &&& UInt64.ofNat 3).toNat = x.toNat % 4 := by
  rw [UInt64.toNat_and]
  exact Nat.and_two_pow_sub_one_eq_mod x.toNat 2
theorem andn3 (x : UInt64) : (x &&& ~~~UInt64.ofNat 3).toNat = x.toNat / 4 * 4 := by
  have e : x &&& ~~~UInt64.ofNat 3 = shl64 (shr64 x 2) 2 := by
    apply UInt64.toBitVec_inj.1
    show x.toBitVec &&& ~~~(3#64) = (x.toBitVec >>> 2) <<< 2
    apply BitVec.eq_of_getLsbD_eq
    intro i hi
    simp only [BitVec.getLsbD_and, BitVec.getLsbD_not, BitVec.getLsbD_shiftLeft, BitVec.getLsbD_ushiftRight, hi, decide_true, Bool.true_and]
    rcases Nat.lt_or_ge i 2 with h | h
    · have : i = 0 ∨ i = 1 := by omega
      rcases this with rfl | rfl <;> simp <;> decide
    · have h3 : (3#64).getLsbD i = false := by
        rw [BitVec.getLsbD_ofNat]
        have : Nat.testBit 3 i = false := Nat.testBit_lt_two_pow (by
          calc 3 < 2 ^ 2 := by decide
            _ ≤ 2 ^ i := Nat.pow_le_pow_right (by decide) h)
        rw [this]; simp
      rw [h3]
      have : ¬ i < 2 := by omega
      simp [this, show 2 + (i - 2) = i by omega]
  rw [e, Cod.shl64_toNat, Cod.shr64_toNat]
  have := lt64 x
  omega
theorem orsh (t s : UInt64) : (shl64 s 62 ||| shr64 t 2).toNat = s.toNat % 4 * 4611686018427387904 + t.toNat / 4 := by
  have h1 := lt64 t
  have h2 := lt64 s
  rw [UInt64.toNat_or, Cod.shl64_toNat, Cod.shr64_toNat]
  have e1 : s.toNat * 2 ^ 62 % 18446744073709551616 = (s.toNat % 4) <<< 62 := by
    rw [Nat.shiftLeft_eq]
    omega
  have e2 : t.toNat / 2 ^ 2 < 2 ^ 62 := by omega
  rw [e1, ← Nat.shiftLeft_add_eq_or_of_lt e2, Nat.shiftLeft_eq]
theorem recomb {B : Nat} (h : B < 340282366920938463463374607431768211456) : B % 18446744073709551616 + 18446744073709551616 * (B / 18446744073709551616 % 18446744073709551616) = B := by omega
theorem times_nat {A B C D E F t1 c1 t2 c2 t3 : Nat} (hA : A < 21267647932558653966460912964485513216) (hB : B < 21267647932558653966460912964485513216) (hC : C < 21267647932558653966460912964485513216) (hD : D < 21267647932558653966460912964485513216) (hE : E < 21267647932558653966460912964485513216) (hF : F < 9223372036854775808)
    (e1 : t1 = ((B + C) % 18446744073709551616 + A / 18446744073709551616 % 18446744073709551616) % 18446744073709551616) (f1 : c1 = ((B + C) % 18446744073709551616 + A / 18446744073709551616 % 18446744073709551616) / 18446744073709551616 % 18446744073709551616)
    (e2 : t2 = ((D + E) % 18446744073709551616 + (B + C) / 18446744073709551616 % 18446744073709551616 + c1) % 18446744073709551616) (f2 : c2 = ((D + E) % 18446744073709551616 + (B + C) / 18446744073709551616 % 18446744073709551616 + c1) / 18446744073709551616 % 18446744073709551616)
    (e3 : t3 = (F % 18446744073709551616 + (D + E) / 18446744073709551616 % 18446744073709551616 + c2) % 18446744073709551616) :
    A % 18446744073709551616 + 18446744073709551616 * t1 + 340282366920938463463374607431768211456 * t2 + 6277101735386680763835789423207666416102355444464034512896 * t3 = A + 18446744073709551616 * (B + C) + 340282366920938463463374607431768211456 * (D + E) + 6277101735386680763835789423207666416102355444464034512896 * F ∧ c1 ≤ 1 ∧ c2 ≤ 1 := by
  generalize hq : (B + C) = Q at *
  generalize hr : (D + E) = R at *
  have q1 : Q < 42535295865117307932921825928971026432 := by omega
  have q2 : R < 42535295865117307932921825928971026432 := by omega
  clear hq hr hB hC hD hE
  omega
theorem expand (x y z r s : Nat) : (x + 18446744073709551616 * y + 340282366920938463463374607431768211456 * z) * (r + 18446744073709551616 * s) =
    x * r + 18446744073709551616 * (y * r + x * s) + 340282366920938463463374607431768211456 * (z * r + y * s) + 6277101735386680763835789423207666416102355444464034512896 * (z * s) := by
  rw [Nat.add_mul, Nat.add_mul, Nat.mul_add, Nat.mul_add, Nat.mul_add, Nat.mul_assoc, Nat.mul_assoc]
  have e1 : x * (18446744073709551616 * s) = 18446744073709551616 * (x * s) := Nat.mul_left_comm ..
  have e2 : 18446744073709551616 * (y * (18446744073709551616 * s)) = 340282366920938463463374607431768211456 * (y * s) := by rw [Nat.mul_left_comm y, ← Nat.mul_assoc]
  have e3 : 340282366920938463463374607431768211456 * (z * (18446744073709551616 * s)) = 6277101735386680763835789423207666416102355444464034512896 * (z * s) := by rw [Nat.mul_left_comm z, ← Nat.mul_assoc]
  have e4 : 340282366920938463463374607431768211456 * z * (18446744073709551616 * s) = 6277101735386680763835789423207666416102355444464034512896 * (z * s) := by rw [Nat.mul_assoc, e3]
  have e5 : 18446744073709551616 * y * (18446744073709551616 * s) = 340282366920938463463374607431768211456 * (y * s) := by rw [Nat.mul_assoc, e2]
  have e6 : 340282366920938463463374607431768211456 * z * r = 340282366920938463463374607431768211456 * (z * r) := Nat.mul_assoc ..
  omega
theorem val3_eq (a b c : UInt64) : val3 [a, b, c] = a.toNat + 18446744073709551616 * b.toNat + 340282366920938463463374607431768211456 * c.toNat := rfl
theorem fin_nat {t0 t1 t2 t3 T : Nat} (h0 : t0 < 18446744073709551616) (h1 : t1 < 18446744073709551616) (h2 : t2 < 18446744073709551616) (h3 : t3 < 18446744073709551616)
    (hT : t0 + 18446744073709551616 * t1 + 340282366920938463463374607431768211456 * t2 + 6277101735386680763835789423207666416102355444464034512896 * t3 = T) :
    t0 + 18446744073709551616 * t1 + 340282366920938463463374607431768211456 * (t2 % 4) + (t2 / 4 * 4 + 18446744073709551616 * t3) < 6277101735386680763835789423207666416102355444464034512896 ∧
    t0 + 18446744073709551616 * t1 + 340282366920938463463374607431768211456 * (t2 % 4) + (t2 / 4 * 4 + 18446744073709551616 * t3) + (t3 % 4 * 4611686018427387904 + t2 / 4 + 18446744073709551616 * (t3 / 4)) = red1 T := by
  unfold red1
  subst hT
  constructor
  · omega
  · have e : (t0 + 18446744073709551616 * t1 + 340282366920938463463374607431768211456 * t2 + 6277101735386680763835789423207666416102355444464034512896 * t3) / 1361129467683753853853498429727072845824 = (t2 + 18446744073709551616 * t3) / 4 := by omega
    have e2 : (t0 + 18446744073709551616 * t1 + 340282366920938463463374607431768211456 * t2 + 6277101735386680763835789423207666416102355444464034512896 * t3) % 1361129467683753853853498429727072845824 = t0 + 18446744073709551616 * t1 + 340282366920938463463374607431768211456 * (t2 % 4) := by omega
    rw [e, e2]
    omega
set_option maxRecDepth 100000 in
set_option maxHeartbeats 4000000 in
theorem conTimes : Con Tryz.prog 90 gTimes := con_of_vcl fun args ps res h hp hlen => by
  unfold gTimes at h
  split at h <;> cases h
  rename_i l r s
  obtain ⟨x, y, z, rfl⟩ := len3 (l := l) hlen.1.1
  obtain ⟨hv, hp2⟩ := all_cons.1 hp
  obtain ⟨hr, hp3⟩ := all_cons.1 hp2
  have hs := (all_cons.1 hp3).1
  refine ⟨PE2, 100, rfl, eokX (gs := [(98, gProd), (99, gPlus), (89, gAddN)]) ⟨conProd, conPlus, conAddN, trivial⟩, ?_⟩
  rw [vcTimes _ r s]
  rw [val3_eq] at hv
  have hx := lt64 x
  have hy := lt64 y
  have hz := lt64 z
  have hz8 : z.toNat ≤ 7 := by omega
  have bA := Nat.mul_le_mul (show x.toNat ≤ 18446744073709551615 by omega) (show r.toNat ≤ 1152921504606846975 by omega)
  have bB := Nat.mul_le_mul (show y.toNat ≤ 18446744073709551615 by omega) (show r.toNat ≤ 1152921504606846975 by omega)
  have bC := Nat.mul_le_mul (show x.toNat ≤ 18446744073709551615 by omega) (show s.toNat ≤ 1152921504606846975 by omega)
  have bD := Nat.mul_le_mul hz8 (show r.toNat ≤ 1152921504606846975 by omega)
  have bE := Nat.mul_le_mul (show y.toNat ≤ 18446744073709551615 by omega) (show s.toNat ≤ 1152921504606846975 by omega)
  have bF := Nat.mul_le_mul hz8 (show s.toNat ≤ 1152921504606846975 by omega)
  have hT := expand x.toNat y.toNat z.toNat r.toNat s.toNat
  simp only [forall_eq, List.getD_cons_zero, List.getD_cons_succ, D64, Nat.add_zero, val3_eq, and3, andn3, orsh, Cod.shr64_toNat, u_nat]
  rw [hT]
  clear hT hv hr hs
  generalize x.toNat * r.toNat = A at *
  generalize y.toNat * r.toNat = B at *
  generalize x.toNat * s.toNat = C at *
  generalize z.toNat * r.toNat = D at *
  generalize y.toNat * s.toNat = E at *
  generalize z.toNat * s.toNat = F at *
  rw [recomb (B := B) (by omega), recomb (B := C) (by omega), recomb (B := D) (by omega), recomb (B := E) (by omega)]
  generalize ht1 : ((B + C) % 18446744073709551616 + A / 18446744073709551616 % 18446744073709551616) % 18446744073709551616 = t1 at *
  generalize hc1 : ((B + C) % 18446744073709551616 + A / 18446744073709551616 % 18446744073709551616) / 18446744073709551616 % 18446744073709551616 = c1 at *
  generalize ht2 : ((D + E) % 18446744073709551616 + (B + C) / 18446744073709551616 % 18446744073709551616 + c1) % 18446744073709551616 = t2 at *
  generalize hc2 : ((D + E) % 18446744073709551616 + (B + C) / 18446744073709551616 % 18446744073709551616 + c1) / 18446744073709551616 % 18446744073709551616 = c2 at *
  generalize ht3 : (F % 18446744073709551616 + (D + E) / 18446744073709551616 % 18446744073709551616 + c2) % 18446744073709551616 = t3 at *
  obtain ⟨k1, k2, k3⟩ := times_nat (by omega) (by omega) (by omega) (by omega) (by omega) (by omega) ht1.symm hc1.symm ht2.symm hc2.symm ht3.symm
  obtain ⟨g1, g2⟩ := fin_nat (by omega) (by omega) (by omega) (by omega) k1
  refine ⟨by decide, k2, k3, ?_, trivial⟩
  rw [w3_val g1]
  exact congrArg w3 g2
theorem ite01 (c : Prop) [Decidable c] : ∃ b : Nat, (if c then 1 else 0) = b ∧ ((c ∧ b = 1) ∨ (¬c ∧ b = 0)) := by
  by_cases h : c
  · exact ⟨1, if_pos h, .inl ⟨h, rfl⟩⟩
  · exact ⟨0, if_neg h, .inr ⟨h, rfl⟩⟩
theorem w3_of (a b c : UInt64) : w3 (val3 [a, b, c]) = [a, b, c] := by
  have ha := lt64 a
  have hb := lt64 b
  have hc := lt64 c
  rw [val3_eq]
  unfold w3
  congr 1
  · exact (u_eq (by simp only [D64]; omega)).symm
  congr 1
  · exact (u_eq (by simp only [D64]; omega)).symm
  congr 1
  · exact (u_eq (by simp only [D64, D128]; omega)).symm
theorem w3_mk {n a b c : Nat} (h : a % 18446744073709551616 + 18446744073709551616 * (b % 18446744073709551616) + 340282366920938463463374607431768211456 * (c % 18446744073709551616) = n) : [u a, u b, u c] = w3 n := by
  subst h
  have := w3_of (u a) (u b) (u c)
  rw [val3_eq, u_nat, u_nat, u_nat] at this
  exact this.symm
theorem red_nat {x y z b1 b2 b3 : Nat} (hx : x < 18446744073709551616) (hy : y < 18446744073709551616) (hz : z < 18446744073709551616)
    (h1 : (x < 18446744073709551611 ∧ b1 = 1) ∨ (¬ x < 18446744073709551611 ∧ b1 = 0)) (h2 : (y < 18446744073709551615 + b1 ∧ b2 = 1) ∨ (¬ y < 18446744073709551615 + b1 ∧ b2 = 0)) (h3 : (z < 3 + b2 ∧ b3 = 1) ∨ (¬ z < 3 + b2 ∧ b3 = 0)) :
    (b3 = 1 → x + 18446744073709551616 * y + 340282366920938463463374607431768211456 * z < P130) ∧ (b3 = 0 → ¬ x + 18446744073709551616 * y + 340282366920938463463374607431768211456 * z < P130 ∧
      (x + 18446744073709551616 - 18446744073709551611) % 18446744073709551616 + 18446744073709551616 * ((y + 18446744073709551616 - 18446744073709551615 - b1) % 18446744073709551616) + 340282366920938463463374607431768211456 * ((z + 18446744073709551616 - 3 - b2) % 18446744073709551616) = x + 18446744073709551616 * y + 340282366920938463463374607431768211456 * z - P130) := by
  simp only [P130]
  refine ⟨fun h => ?_, fun h => ⟨?_, ?_⟩⟩ <;> omega
set_option maxRecDepth 100000 in
theorem conReduced : Con Tryz.prog 91 gReduced := con_of_vcl fun args ps res h hp hlen => by
  unfold gReduced at h
  split at h <;> cases h
  rename_i l
  obtain ⟨x, y, z, rfl⟩ := len3 (l := l) hlen.1.1
  refine ⟨PE1, 100, rfl, eokX (gs := [(106, gMul64)]) ⟨conMul64, trivial⟩, ?_⟩
  rw [vcReduced]
  have im : ∀ (c : Prop) [Decidable c], (if c then 1 else 0 : Nat) % 18446744073709551616 = if c then 1 else 0 := fun c _ => by split <;> rfl
  simp only [forall_eq, List.getD_cons_zero, List.getD_cons_succ, u_nat, D64, Nat.sub_zero, im, and_true]
  obtain ⟨b1, e1, f1⟩ := ite01 (x.toNat < 18446744073709551611)
  rw [e1]
  obtain ⟨b2, e2, f2⟩ := ite01 (y.toNat < 18446744073709551615 + b1)
  rw [e2]
  obtain ⟨b3, e3, f3⟩ := ite01 (z.toNat < 3 + b2)
  rw [e3]
  obtain ⟨g1, g2⟩ := red_nat (lt64 x) (lt64 y) (lt64 z) f1 f2 f3
  refine ⟨by decide, by omega, by omega, fun hb => ?_, fun hb => ?_⟩
  · have h3 : b3 = 1 := by
      rcases f3 with h | h
      · exact h.2
      · rw [h.2] at hb
        exact absurd hb (by decide)
    rw [val3_eq, if_pos (g1 h3), ← val3_eq, w3_of]
  · have h3 : b3 = 0 := by
      rcases f3 with h | h
      · rw [h.2] at hb
        exact absurd hb (by decide)
      · exact h.2
    obtain ⟨g3, g4⟩ := g2 h3
    rw [val3_eq, if_neg g3]
    exact w3_mk g4
end Go.Proofs.YtimjfjlaoekfkaaGreat

/- A step towards SessionValuesSaid: no conditions. -/

namespace Go.Proofs.YtimjfjlaoekfkaaGreat
open Go Go.Eng Go.Cod Go.Pol
theorem natL_zeros : ∀ n, natL (List.replicate n 0) = 0
  | 0 => rfl
  | n + 1 => by rw [List.replicate_succ, natL, natL_zeros n]; rfl
theorem piece_eq {part : List UInt8} {n : Nat} (hn : part.length = n) (h : n ≤ 16) : (over (List.replicate 24 (0 : UInt8)) 0 part).set n (UInt8.ofNat 1) = part ++ UInt8.ofNat 1 :: List.replicate (23 - n) 0 := by
  unfold over
  rw [List.take_zero, List.nil_append, Nat.zero_add, List.drop_replicate, hn, show 24 - n = (23 - n) + 1 by omega, List.replicate_succ, List.set_append_right _ _ (by omega), hn, Nat.sub_self, List.set_cons_zero]
theorem piece_nat {part : List UInt8} {n : Nat} (hn : part.length = n) (h : n ≤ 16) :
    natL ((over (List.replicate 24 (0 : UInt8)) 0 part).set n (UInt8.ofNat 1)) = natL part + 256 ^ n ∧ ((over (List.replicate 24 (0 : UInt8)) 0 part).set n (UInt8.ofNat 1)).length = 24 := by
  rw [piece_eq hn h]
  refine ⟨?_, ?_⟩
  · rw [natL_append, natL, natL_zeros, hn]
    show _ + 256 ^ n * (1 + 0) = _
    omega
  · simp only [List.length_append, List.length_cons, List.length_replicate]; omega
theorem split24 {q : List UInt8} (h : q.length = 24) : (readL (q.take 8)).toNat + 18446744073709551616 * (readL ((q.drop 8).take 8)).toNat + 340282366920938463463374607431768211456 * (readL ((q.drop 16).take 8)).toNat = natL q := by
  have l1 : (q.take 8).length = 8 := by rw [List.length_take]; omega
  have l2 : ((q.drop 8).take 8).length = 8 := by rw [List.length_take, List.length_drop]; omega
  rw [readL_nat _ (by omega), readL_nat _ (by omega), readL_nat _ (by rw [List.length_take]; omega)]
  have e : q = q.take 8 ++ ((q.drop 8).take 8 ++ (q.drop 16).take 8) := by
    have a : (q.drop 16).take 8 = (q.drop 8).drop 8 := by rw [List.drop_drop, List.take_of_length_le (by rw [List.length_drop]; omega)]
    rw [a, List.take_append_drop, List.take_append_drop]
  conv => rhs; rw [e]
  rw [natL_append, natL_append, l1, l2]
  have : (256 : Nat) ^ 8 = 18446744073709551616 := rfl
  rw [this, Nat.mul_add, ← Nat.mul_assoc]
  omega
theorem add3 {H lo hi : Nat} {top : UInt64} (hH : H < 1573805947009340393518107559371927977985) (h1 : lo < 18446744073709551616) (h2 : hi < 18446744073709551616) (ht : top.toNat ≤ 1) :
    (w3 (val3 (w3 H) + (lo + 18446744073709551616 * hi))).set 2 ((w3 (val3 (w3 H) + (lo + 18446744073709551616 * hi))).getD 2 0 + top) = w3 (H + (lo + 18446744073709551616 * hi + 340282366920938463463374607431768211456 * top.toNat)) := by
  rw [w3_val (by simp only [D192]; omega)]
  unfold w3
  simp only [List.getD_cons_zero, List.getD_cons_succ, List.set_cons_zero, List.set_cons_succ]
  congr 1
  · exact u_eq (by rw [u_nat]; simp only [D64]; omega)
  congr 1
  · exact u_eq (by rw [u_nat]; simp only [D64]; omega)
  congr 1
  · refine u_eq ?_
    rw [UInt64.toNat_add, u_nat]
    simp only [D64, D128]
    omega
theorem red1_lt {x : Nat} (h : x < 57896044618658097711785492504343953926634992332820282019728792003956564819968) : red1 x < 1573805947009340393518107559371927977985 := by
  unfold red1; omega
theorem blkP_lt (d : List UInt8) (j : Nat) : blkP d j < 680564733841876926926749214863536422912 := by
  unfold blkP
  have h1 := natL_lt ((d.drop (16 * j)).take 16)
  have h2 : ((d.drop (16 * j)).take 16).length = min 16 (d.length - 16 * j) := by rw [List.length_take, List.length_drop]
  rw [h2] at h1
  have h3 : 256 ^ (min 16 (d.length - 16 * j)) ≤ 256 ^ 16 := Nat.pow_le_pow_right (by decide) (Nat.min_le_left ..)
  have h4 : (256 : Nat) ^ 16 = 340282366920938463463374607431768211456 := rfl
  omega
theorem hN_lt {r : Nat} (d : List UInt8) (hr : r < 21267647932558653966460912964485513216) : ∀ j, hN r d j < 1573805947009340393518107559371927977985
  | 0 => by show 0 < _; decide
  | j + 1 => by
    have h1 := hN_lt d hr j
    have h2 := blkP_lt d j
    show red1 ((hN r d j + blkP d j) * r) < _
    refine red1_lt ?_
    have := Nat.mul_le_mul (show hN r d j + blkP d j ≤ 2722258935367507707706996859454145691647 by omega) (show r ≤ 21267647932558653966460912964485513215 by omega)
    omega
theorem r0_lt (x : UInt64) : (x &&& UInt64.ofNat 1152921487695413247).toNat < 1152921504606846976 := by
  have : (x &&& UInt64.ofNat 1152921487695413247).toNat ≤ 1152921487695413247 := by rw [UInt64.toNat_and]; exact Nat.and_le_right
  omega
theorem r1_lt (x : UInt64) : (x &&& UInt64.ofNat 1152921487695413244).toNat < 1152921504606846976 := by
  have : (x &&& UInt64.ofNat 1152921487695413244).toNat ≤ 1152921487695413244 := by rw [UInt64.toNat_and]; exact Nat.and_le_right
  omega
theorem hN0 (r : Nat) (d : List UInt8) : List.replicate 3 (0 : UInt64) = w3 (hN r d 0) := by
  show List.replicate 3 (0 : UInt64) = w3 0
  decide +kernel
set_option maxRecDepth 100000 in
set_option maxHeartbeats 4000000 in
theorem conPoly : Con Tryz.prog 77 gPoly := con_of_vcl fun args ps res h hp hlen => by
  unfold gPoly at h
  split at h <;> cases h
  rename_i k m d
  obtain ⟨rfl, hp2⟩ := all_cons.1 hp
  have hl := (all_cons.1 hp2).1
  have hk : k.length = 32 := hlen.1.1
  refine ⟨PEs, 200, rfl, eokX (gs := [(87, gReadL), (67, gLittleN), (66, gJoin), (89, gAddN), (90, gTimes), (91, gReduced)]) ⟨conReadL, conLittleN4, conJoin, conAddN, conTimes, conReduced, trivial⟩, ?_⟩
  rw [vcPoly k d]
  have t8 : ∀ l : List UInt8, (List.take 8 l).length < 4611686018427387904 := fun l => by rw [List.length_take]; omega
  have dd : ∀ (l : List UInt8) (i : Nat), dropL l i = l.drop i := fun l i => by cases i <;> rfl
  have minNN : ∀ a b : Nat, min (a : Int) (b : Int) = ((min a b : Nat) : Int) := fun a b => by omega
  simp only [forall_eq, true_and, and_true, io, decide_eq_true_eq, decide_eq_false_iff_not, dd, Nat.zero_add, forall_const, Int.toNat_natCast, minNN, t8]
  show _ ∧ _ ∧ (∃ x, _) ∧ _
  refine ⟨by decide, by decide, ⟨0, Nat.zero_le _, rfl, rfl, hN0 _ d⟩, fun j hj => ⟨fun hlt => ?_, fun hge => ?_⟩⟩
  · have hj' : 16 * j < d.length := by rw [List.length_drop] at hlt; omega
    have hmin : min (List.drop (16 * j) d).length 16 = min 16 (d.length - 16 * j) := by rw [List.length_drop, Nat.min_comm]
    have hpt : List.take 24 (List.take (min 16 (d.length - 16 * j)) (List.drop (16 * j) d)) = (d.drop (16 * j)).take 16 := by
      rw [List.take_take, List.take_eq_take_iff, List.length_drop]; omega
    have hpl : ((d.drop (16 * j)).take 16).length = min 16 (d.length - 16 * j) := by rw [List.length_take, List.length_drop]
    have hn16 : min 16 (d.length - 16 * j) ≤ 16 := Nat.min_le_left ..
    rw [hmin, hpt]
    obtain ⟨g1, g2⟩ := piece_nat hpl hn16
    have hsp := split24 g2
    have hR : (readL (List.take 8 k) &&& UInt64.ofNat 1152921487695413247).toNat + D64 * (readL (List.take 8 (List.drop 8 k)) &&& UInt64.ofNat 1152921487695413244).toNat < 21267647932558653966460912964485513216 := by
      have := r0_lt (readL (List.take 8 k))
      have := r1_lt (readL (List.take 8 (List.drop 8 k)))
      simp only [D64]
      omega
    have hb1 := r0_lt (readL (List.take 8 k))
    have hb2 := r1_lt (readL (List.take 8 (List.drop 8 k)))
    have hH := hN_lt d hR j
    have hB : natL ((over (List.replicate 24 (0 : UInt8)) 0 ((d.drop (16 * j)).take 16)).set (min 16 (d.length - 16 * j)) (UInt8.ofNat 1)) = blkP d j := g1
    rw [hB] at hsp
    have hbl := blkP_lt d j
    have hs1 := lt64 (readL (List.take 8 ((over (List.replicate 24 (0 : UInt8)) 0 ((d.drop (16 * j)).take 16)).set (min 16 (d.length - 16 * j)) (UInt8.ofNat 1))))
    have hs2 := lt64 (readL (List.take 8 (List.drop 8 ((over (List.replicate 24 (0 : UInt8)) 0 ((d.drop (16 * j)).take 16)).set (min 16 (d.length - 16 * j)) (UInt8.ofNat 1)))))
    have hadd := add3 (top := readL (List.take 8 (List.drop 16 ((over (List.replicate 24 (0 : UInt8)) 0 ((d.drop (16 * j)).take 16)).set (min 16 (d.length - 16 * j)) (UInt8.ofNat 1))))) hH hs1 hs2 (by omega)
    rw [hsp] at hadd
    simp only [D64] at hadd hH hR ⊢
    rw [hadd, w3_val (by simp only [D192]; omega)]
    refine ⟨⟨by omega, by rw [List.length_drop]; omega⟩, by rw [hpl]; omega, ⟨by omega, by omega⟩, by omega, ⟨by omega, by rw [List.length_drop]; omega⟩, by decide, by decide, by decide, by omega, hb1, hb2, j + 1, ?_, ?_, ?_, ?_, rfl⟩
    · unfold nbP; omega
    · unfold nbP; omega
    · rw [List.length_drop, List.length_drop]; omega
    · rw [List.drop_drop]
      by_cases hx : 16 ≤ d.length - 16 * j
      · rw [Nat.min_eq_left hx]; congr 1
      · rw [List.drop_of_length_le (by omega), List.drop_of_length_le (by omega)]
  · have hje : j = nbP d := by rw [List.length_drop] at hge; unfold nbP at hj ⊢; omega
    subst hje
    have hR : rOf k < 21267647932558653966460912964485513216 := by
      have := r0_lt (readL (List.take 8 k))
      have := r1_lt (readL (List.take 8 (List.drop 8 k)))
      unfold rOf r0 r1
      simp only [D64]
      omega
    have hH := hN_lt d hR (nbP d)
    have e0 : (readL (List.take 8 k) &&& UInt64.ofNat 1152921487695413247).toNat + D64 * (readL (List.take 8 (List.drop 8 k)) &&& UInt64.ofNat 1152921487695413244).toNat = rOf k := rfl
    rw [e0, w3_val (n := hN (rOf k) d (nbP d)) (by simp only [D192]; omega)]
    have e1 : (if hN (rOf k) d (nbP d) < P130 then hN (rOf k) d (nbP d) else hN (rOf k) d (nbP d) - P130) = redP (hN (rOf k) d (nbP d)) := rfl
    rw [e1]
    have hred : redP (hN (rOf k) d (nbP d)) < D192 := by unfold redP; simp only [P130, D192]; split <;> omega
    rw [w3_val hred]
    have e2 : redP (hN (rOf k) d (nbP d)) + ((readL (List.take 8 (List.drop 16 k))).toNat + D64 * (readL (List.take 8 (List.drop 24 k))).toNat) = polyN k d := rfl
    rw [e2]
    refine ⟨by decide, by decide, rfl, by decide, (show 16 ≤ 4294967296 by decide), Nat.le_refl 16, Nat.le_refl 16, by kernel_rfl⟩
end Go.Proofs.YtimjfjlaoekfkaaGreat

/- A step towards SessionValuesSaid: no conditions. -/

namespace Go.Proofs.YtimjfjlaoekfkaaGreat
open Go Go.Eng Go.Cod Go.Cha Go.Pol Go.Aed
theorem zp_int (n : Nat) : (Int.ofNat 16 - (n : Int).tmod (Int.ofNat 16)).tmod (Int.ofNat 16) = ((zp n : Nat) : Int) := by
  have e : Int.ofNat 16 - (n : Int).tmod (Int.ofNat 16) = ((16 - n % 16 : Nat) : Int) := by
    show (16 : Int) - ((n % 16 : Nat) : Int) = _
    omega
  rw [e]; rfl
theorem zp_le (n : Nat) : zp n ≤ 15 := by unfold zp; omega
theorem zerosL_len (n : Nat) : (zerosL n).length = zp n := List.length_replicate ..
set_option maxRecDepth 100000 in
theorem conFilled : Con Tryz.prog 78 gFilled := con_of_vcs fun args ps res h hp => by
  unfold gFilled at h
  split at h <;> cases h
  rename_i m b
  obtain ⟨rfl, hp⟩ := all_cons.1 hp
  refine ⟨AE0, 100, rfl, eok (gs := []) trivial, ?_⟩
  rw [vcFilled b]
  have hz := zp_le b.length
  have hi : InI (Int.ofNat 16 - (b.length : Int).tmod (Int.ofNat 16)) := by
    have e : Int.ofNat 16 - (b.length : Int).tmod (Int.ofNat 16) = ((16 - b.length % 16 : Nat) : Int) := by
      show (16 : Int) - ((b.length % 16 : Nat) : Int) = _
      omega
    rw [e]; unfold InI; omega
  rw [zp_int, Int.toNat_natCast, dropL_zero, dropL_zero]
  exact ⟨by decide, hi, by decide, by omega, by omega, rfl, by omega, rfl, List.take_of_length_le (by rw [List.length_replicate]; exact Nat.le_refl _), trivial⟩
theorem little8 (x : UInt64) : [(shr64 x 0).toUInt8, (shr64 x 8).toUInt8, (shr64 x 16).toUInt8, (shr64 x 24).toUInt8, (shr64 x 32).toUInt8, (shr64 x 40).toUInt8, (shr64 x 48).toUInt8, (shr64 x 56).toUInt8] = littleL x 8 := rfl
theorem flat6 (a b c d e f : List UInt8) : [a, b, c, d, e, f].flatten = a ++ (b ++ (c ++ (d ++ (e ++ f)))) := by simp
theorem flat2 (a b : List UInt8) : [a, b].flatten = a ++ b := by simp
theorem macL_len (c m : List UInt8) : (macL c m).length ≤ m.length + c.length + 46 := by
  have h1 := zp_le m.length
  have h2 := zp_le c.length
  unfold macL
  simp only [List.length_append, zerosL_len, littleL_len]
  omega
theorem polyL_len (k d : List UInt8) : (polyL k d).length = 16 := by unfold polyL; rw [List.length_append, littleL_len, littleL_len]
theorem tagL_len (k n c m : List UInt8) : (tagL k n c m).length = 16 := polyL_len ..
set_option maxRecDepth 100000 in
theorem conTag : Con Tryz.prog 65 gTag := con_of_vcs fun args ps res h hp => by
  unfold gTag at h
  split at h <;> cases h
  rename_i k n u c v m
  obtain ⟨rfl, hp1⟩ := all_cons.1 hp
  obtain ⟨rfl, hp2⟩ := all_cons.1 hp1
  obtain ⟨hc, hp3⟩ := all_cons.1 hp2
  have hm := (all_cons.1 hp3).1
  refine ⟨AEt, 200, rfl, eok (gs := [(76, gBlock), (78, gFilled), (67, gLittleN), (66, gJoin), (77, gPoly)]) ⟨conBlock, conFilled, conLittleN4, conJoin, conPoly, trivial⟩, ?_⟩
  rw [vcTag k n c m]
  have t : ∀ q, List.take (zp q) (zerosL q) = zerosL q := fun q => List.take_of_length_le (by rw [zerosL_len]; exact Nat.le_refl _)
  have hl := macL_len c m
  have e : m ++ (zerosL m.length ++ (c ++ (zerosL c.length ++ (littleL (to64 m.length) 8 ++ littleL (to64 c.length) 8)))) = macL c m := rfl
  simp only [forall_eq, true_and, and_true, dropL_zero, Nat.zero_add, little8, t, flat6, e, List.take_length, Nat.le_refl]
  refine ⟨by decide, by omega, by omega, rfl, by decide, by omega, by omega, rfl⟩
theorem sealL_len (k n p m : List UInt8) : (sealL k n p m).length = p.length + 16 := by unfold sealL; rw [List.length_append, tagL_len, xorL_len]
set_option maxRecDepth 100000 in
theorem conSeal : Con Tryz.prog 49 gSeal := con_of_vcs fun args ps res h hp => by
  unfold gSeal at h
  split at h <;> cases h
  rename_i k n u p v m
  obtain ⟨rfl, hp1⟩ := all_cons.1 hp
  obtain ⟨rfl, hp2⟩ := all_cons.1 hp1
  obtain ⟨hc, hp3⟩ := all_cons.1 hp2
  have hm := (all_cons.1 hp3).1
  refine ⟨AEs, 200, rfl, eok (gs := [(64, gXor), (65, gTag), (66, gJoin)]) ⟨conXor, conTag, conJoin, trivial⟩, ?_⟩
  rw [vcSeal k n p m]
  have t : List.take p.length (xorL k n (UInt32.ofNat 1) p) = xorL k n 1 p := List.take_of_length_le (by rw [xorL_len]; exact Nat.le_refl _)
  have e : xorL k n 1 p ++ tagL k n (xorL k n 1 p) m = sealL k n p m := rfl
  simp only [forall_eq, true_and, and_true, dropL_zero, Nat.zero_add, t, flat2, e, List.take_length, Nat.le_refl, xorL_len, sealL_len]
  refine ⟨by omega, hc, hm, rfl, by decide, by omega⟩
theorem countL_len (c : UInt64) : (countL c).length = 12 := by unfold countL; rw [List.length_append, littleL_len]; rfl
set_option maxRecDepth 100000 in
theorem conCounter : Con Tryz.prog 50 gCounter := con_of_vcs fun args ps res h hp => by
  unfold gCounter at h
  split at h <;> cases h
  rename_i c
  refine ⟨AEc, 200, rfl, eok (gs := [(67, gLittleN), (66, gJoin)]) ⟨conLittleN4, conJoin, trivial⟩, ?_⟩
  rw [vcCounter c]
  have e : List.replicate 4 0 ++ littleL c 8 = countL c := rfl
  simp only [forall_eq, true_and, and_true, little8, flat2, e, countL_len]
  exact ⟨rfl, by decide, by decide, Nat.le_refl _, Nat.le_refl _, List.take_of_length_le (by rw [countL_len]; exact Nat.le_refl _)⟩
end Go.Proofs.YtimjfjlaoekfkaaGreat

/- A step towards SessionValuesSaid: no conditions. -/

namespace Go.Proofs.YtimjfjlaoekfkaaGreat
open Go Go.Eng Go.Cod Go.Msg
noncomputable def EM : Env := mkE Tryz.prog [(67, gLittleN)] [] 10
set_option maxRecDepth 100000 in
theorem vcTran (r : UInt32) (c : UInt64) (b : List UInt8) : (vcFn EM 100 48 [.agg [.one (.u32 r), .one (.u64 c), .one (.xs 1 (.s b.length) (.u8 b))]] (.tup [.s (.xs 1 (.s (tranR r c b).length) (.u8 (tranR r c b))), .s (.i64 (tranE b))])) =
  ((decide ((↑b.length : Int) < Int.ofNat 16) = true → (tranR r c b).length = 0 ∧ (tranR r c b).length = 0 ∧ Int.ofNat 2 = tranE b ∧ True) ∧ (decide ((↑b.length : Int) < Int.ofNat 16) = false → (decide (Int.ofNat 2084 < (↑b.length : Int)) = true → (tranR r c b).length = 0 ∧ (tranR r c b).length = 0 ∧ Int.ofNat 3 = tranE b ∧ True) ∧ (decide (Int.ofNat 2084 < (↑b.length : Int)) = false → 8 ≤ 4294967296 ∧ 16 ≤ 4294967296 ∧ 16 + b.length ≤ 4294967296 ∧ 0 + (16 + b.length) ≤ 16 + b.length ∧ 16 + b.length = (tranR r c b).length ∧ List.take (16 + b.length) (dropL (dropL ([to8 (Int.ofNat 4), UInt8.ofNat (nat_lit 0), UInt8.ofNat (nat_lit 0), UInt8.ofNat (nat_lit 0), (shr64 r.toUInt64 0).toUInt8, (shr64 r.toUInt64 8).toUInt8, (shr64 r.toUInt64 16).toUInt8, (shr64 r.toUInt64 24).toUInt8, (shr64 c 0).toUInt8, (shr64 c 8).toUInt8, (shr64 c 16).toUInt8, (shr64 c 24).toUInt8, (shr64 c 32).toUInt8, (shr64 c 40).toUInt8, (shr64 c 48).toUInt8, (shr64 c 56).toUInt8] ++ b) 0) 0) = tranR r c b ∧ Int.ofNat 0 = tranE b ∧ True))) := by kernel_rfl
end Go.Proofs.YtimjfjlaoekfkaaGreat
