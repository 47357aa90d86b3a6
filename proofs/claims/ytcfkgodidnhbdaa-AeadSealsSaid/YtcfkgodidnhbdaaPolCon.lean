/- A step towards AeadSealsSaid: no conditions. -/
import Derived.Test.YtcfkgodidnhbdaaPolVc
import Derived.Test.YtcfkgodidnhbdaaCodCon
import Derived.Laws.Externs
import GoSem.Extern.MathBitsCarry
namespace Go.Proofs.Ytcfkgodidnhbdaa
open Go Go.Eng Go.Cod Go.Pol
theorem len3 {l : List UInt64} (h : l.length = 3) : ∃ a b c, l = [a, b, c] := by
  match l, h with
  | [a, b, c], _ => exact ⟨a, b, c, rfl⟩
theorem lt64 (x : UInt64) : x.toNat < 18446744073709551616 := x.toNat_lt
set_option maxRecDepth 100000 in
theorem extAdd64 : ConX Try.prog 43 gAdd64 := fun args ps res h hp w vals hv => by
  unfold gAdd64 at h
  split at h <;> cases h
  rename_i x y c
  have hc := (all_cons.1 hp).1
  obtain ⟨v1, r1, rfl, h1, v2, r2, rfl, h2, v3, r3, rfl, h3, rfl⟩ := hv
  have h1 : v1 = eu64 x := h1
  have h2 : v2 = eu64 y := h2
  have h3 : v3 = eu64 c := h3
  subst h1 h2 h3
  refine ⟨_, ?_, fun A => ⟨[eu64 (u (x.toNat + y.toNat + c.toNat)), eu64 (u ((x.toNat + y.toNat + c.toNat) / D64))], rfl, _, _, rfl, rfl, _, _, rfl, rfl, rfl⟩⟩
  rw [run_callFunc_extern Try.func43 (by kernel_rfl) (by kernel_rfl) (by kernel_rfl) (e := add64Entry) (by kernel_rfl)]
  show ((add64Entry #[.int .u64 (x.toNat : Int), .int .u64 (y.toNat : Int), .int .u64 (c.toNat : Int)]).run _ w).andThen _ = _
  rw [run_add64 _ _ _ (by omega) (by omega) (by omega) (by omega)]
  have hx := lt64 x
  have hy := lt64 y
  simp only [Result.andThen, eu64, u_nat, D64]
  congr 5
  rw [Nat.mod_eq_of_lt (by omega)]
  rfl
def subE : Array Value → Sem Value :=
  match Extern.MathBitsCarry.rows with
  | [_, (_, e)] => e
  | _ => fun _ => pure undef
theorem run_subE {P : Program} (x y b : Nat) (hb : b ≤ 1) (w : World) : (subE #[.int .u64 x, .int .u64 y, .int .u64 b]).run P w =
      .ok (.tuple #[.int .u64 (((x + 18446744073709551616 - y - b) % 18446744073709551616 : Nat) : Int), .int .u64 ((if x < y + b then 1 else 0 : Nat) : Int)]) w := by
  have : b = 0 ∨ b = 1 := by omega
  rcases this with rfl | rfl <;> rfl
set_option maxRecDepth 100000 in
theorem extSub64 : ConX Try.prog 46 gSub64 := fun args ps res h hp w vals hv => by
  unfold gSub64 at h
  split at h <;> cases h
  rename_i x y c
  have hc := (all_cons.1 hp).1
  obtain ⟨v1, r1, rfl, h1, v2, r2, rfl, h2, v3, r3, rfl, h3, rfl⟩ := hv
  have h1 : v1 = eu64 x := h1
  have h2 : v2 = eu64 y := h2
  have h3 : v3 = eu64 c := h3
  subst h1 h2 h3
  refine ⟨_, ?_, fun A => ⟨[eu64 (u (x.toNat + D64 - y.toNat - c.toNat)), eu64 (u (if x.toNat < y.toNat + c.toNat then 1 else 0))], rfl, _, _, rfl, rfl, _, _, rfl, rfl, rfl⟩⟩
  rw [run_callFunc_extern Try.func46 (by kernel_rfl) (by kernel_rfl) (by kernel_rfl) (e := subE) (by kernel_rfl)]
  show ((subE #[.int .u64 (x.toNat : Int), .int .u64 (y.toNat : Int), .int .u64 (c.toNat : Int)]).run _ w).andThen _ = _
  rw [run_subE _ _ _ hc]
  simp only [Result.andThen, eu64, u_nat, D64]
  congr 5
  split <;> rfl
theorem consX : ConsX Try.prog extB := ⟨extAdd64, extSub64, trivial⟩
theorem eokX {gs : List (Nat × SpecF)} {ls : List (Nat × (St → Option Inv))} {r : Nat} {b : Bool} (h : Cons Try.prog gs) : EnvOk (mkE Try.prog gs ls r b extB) := mkEX_ok namesOk mx h consX
theorem and32 (x : UInt64) : (x &&& UInt64.ofNat 4294967295).toNat = x.toNat % 4294967296 := by
  rw [UInt64.toNat_and]
  exact Nat.and_two_pow_sub_one_eq_mod x.toNat 32
theorem mul64_nat {x y : Nat} (hx : x < 18446744073709551616) (hy : y < 18446744073709551616) :
    ((x / 4294967296) * (y / 4294967296) + ((x / 4294967296) * (y % 4294967296) + (x % 4294967296) * (y % 4294967296) / 4294967296) / 4294967296 + (((x / 4294967296) * (y % 4294967296) + (x % 4294967296) * (y % 4294967296) / 4294967296) % 4294967296 + (x % 4294967296) * (y / 4294967296)) / 4294967296) = x * y / 18446744073709551616 ∧
    (x % 4294967296) * (y % 4294967296) < 18446744073709551616 ∧ (x / 4294967296) * (y % 4294967296) + (x % 4294967296) * (y % 4294967296) / 4294967296 < 18446744073709551616 ∧
    ((x / 4294967296) * (y % 4294967296) + (x % 4294967296) * (y % 4294967296) / 4294967296) % 4294967296 + (x % 4294967296) * (y / 4294967296) < 18446744073709551616 ∧ (x / 4294967296) * (y / 4294967296) < 18446744073709551616 ∧
    (x / 4294967296) * (y % 4294967296) < 18446744073709551616 ∧ (x % 4294967296) * (y / 4294967296) < 18446744073709551616 := by
  have hxx : x = 4294967296 * (x / 4294967296) + x % 4294967296 := (Nat.div_add_mod ..).symm
  have hyy : y = 4294967296 * (y / 4294967296) + y % 4294967296 := (Nat.div_add_mod ..).symm
  have a1 : x / 4294967296 ≤ 4294967295 := by omega
  have a2 : y / 4294967296 ≤ 4294967295 := by omega
  have a3 : x % 4294967296 ≤ 4294967295 := by omega
  have a4 : y % 4294967296 ≤ 4294967295 := by omega
  have e : x * y = 18446744073709551616 * ((x / 4294967296) * (y / 4294967296)) + 4294967296 * ((x / 4294967296) * (y % 4294967296)) + 4294967296 * ((x % 4294967296) * (y / 4294967296)) + (x % 4294967296) * (y % 4294967296) := by
    conv => lhs; rw [hxx, hyy]
    generalize x / 4294967296 = p
    generalize x % 4294967296 = q
    generalize y / 4294967296 = r
    generalize y % 4294967296 = s
    rw [Nat.add_mul, Nat.mul_add, Nat.mul_add]
    have : 4294967296 * p * (4294967296 * r) = 18446744073709551616 * (p * r) := by
      rw [Nat.mul_mul_mul_comm]
    have e2 : 4294967296 * p * s = 4294967296 * (p * s) := Nat.mul_assoc ..
    have e3 : q * (4294967296 * r) = 4294967296 * (q * r) := Nat.mul_left_comm ..
    omega
  rw [e]
  have b1 := Nat.mul_le_mul a1 a2
  have b2 := Nat.mul_le_mul a1 a4
  have b3 := Nat.mul_le_mul a3 a2
  have b4 := Nat.mul_le_mul a3 a4
  generalize (x / 4294967296) * (y / 4294967296) = A at *
  generalize (x / 4294967296) * (y % 4294967296) = B at *
  generalize (x % 4294967296) * (y / 4294967296) = C at *
  generalize (x % 4294967296) * (y % 4294967296) = D at *
  omega
set_option maxRecDepth 100000 in
theorem conMul64 : Con Try.prog 49 gMul64 := con_of_vcs fun args ps res h hp => by
  unfold gMul64 at h
  split at h <;> cases h
  rename_i x y
  refine ⟨PE0, 100, rfl, eok (gs := []) trivial, ?_⟩
  rw [vcMul64 x y]
  obtain ⟨h1, h2, h3, h4, h5, h6, h7⟩ := mul64_nat (lt64 x) (lt64 y)
  refine ⟨u_eq ?_, u_eq ?_, trivial⟩
  · have p32 : (2 : Nat) ^ 32 = 4294967296 := rfl
    have p64 : (2 : Nat) ^ 64 = 18446744073709551616 := rfl
    simp only [UInt64.toNat_add, UInt64.toNat_mul, Cod.shr64_toNat, and32, p32, p64]
    rw [Nat.mod_eq_of_lt h5, Nat.mod_eq_of_lt h6, Nat.mod_eq_of_lt h2, Nat.mod_eq_of_lt h3, Nat.mod_eq_of_lt h7, Nat.mod_eq_of_lt h4, ← h1]
    simp only [D64]
    omega
  · rw [UInt64.toNat_mul]
set_option maxRecDepth 100000 in
theorem conProd : Con Try.prog 44 gProd := con_of_vcs fun args ps res h hp => by
  unfold gProd at h
  split at h <;> cases h
  rename_i x y
  refine ⟨PE1, 100, rfl, eokX (gs := [(49, gMul64)]) ⟨conMul64, trivial⟩, ?_⟩
  rw [vcProd x y]
  simp only [forall_eq, and_self]
set_option maxRecDepth 100000 in
theorem conPlus : Con Try.prog 45 gPlus := con_of_vcs fun args ps res h hp => by
  unfold gPlus at h
  split at h <;> cases h
  rename_i a b c d
  refine ⟨PE1, 100, rfl, eokX (gs := [(49, gMul64)]) ⟨conMul64, trivial⟩, ?_⟩
  rw [vcPlus a b c d]
  simp only [forall_eq]
  have ha := lt64 a
  have hb := lt64 b
  have hc := lt64 c
  have hd := lt64 d
  simp only [u_nat, D64]
  refine ⟨by decide, by omega, u_eq ?_, u_eq ?_, trivial⟩ <;> simp only [u_nat, D64] <;> omega
set_option maxRecDepth 100000 in
theorem conAddN : Con Try.prog 36 gAddN := con_of_vcl fun args ps res h hp hlen => by
  unfold gAddN at h
  split at h <;> cases h
  rename_i l c d
  obtain ⟨x, y, z, rfl⟩ := len3 (l := l) hlen.1.1
  refine ⟨PE1, 100, rfl, eokX (gs := [(49, gMul64)]) ⟨conMul64, trivial⟩, ?_⟩
  rw [vcAddN _ c d]
  have hx := lt64 x
  have hy := lt64 y
  have hz := lt64 z
  have hc := lt64 c
  have hd := lt64 d
  simp only [forall_eq, List.getD_cons_zero, List.getD_cons_succ, List.set_cons_zero, List.set_cons_succ, u_nat, D64]
  refine ⟨by decide, by omega, ?_, trivial⟩
  unfold w3 val3
  simp only [List.getD_cons_zero, List.getD_cons_succ]
  congr 1
  · exact u_eq (by rw [u_nat]; simp only [D64, D128]; omega)
  congr 1
  · exact u_eq (by rw [u_nat]; simp only [D64, D128]; omega)
  congr 1
  · refine u_eq ?_
    rw [UInt64.toNat_add, u_nat]
    simp only [D64, D128]
    omega
theorem and3 (x : UInt64) : (x &&& UInt64.ofNat 3).toNat = x.toNat % 4 := by
  rw [UInt64.toNat_and]
  exact Nat.and_two_pow_sub_one_eq_mod x.toNat 2
theorem andn3 (x : UInt64) : (x &&& ~~~UInt64.ofNat 3).toNat = x.toNat / 4 * 4 := by
  have e : x &&& ~~~UInt64.ofNat 3 = shl64 (shr64 x 2) 2 := by
    apply UInt64.toBitVec_inj.1
    show x.toBitVec &&& ~~~(3#64) = (x.toBitVec >>> 2) <<< 2
    apply BitVec.eq_of_getLsbD_eq
    intro i hi
    simp only [BitVec.getLsbD_and, BitVec.getLsbD_not, BitVec.getLsbD_shiftLeft, BitVec.getLsbD_ushiftRight, hi, decide_true, Bool.true_and]
    rcases Nat.lt_or_ge i 2 with h | h
    · have : i = 0 ∨ i = 1 := by omega
      rcases this with rfl | rfl <;> simp <;> decide
    · have h3 : (3#64).getLsbD i = false := by
        rw [BitVec.getLsbD_ofNat]
        have : Nat.testBit 3 i = false := Nat.testBit_lt_two_pow (by
          calc 3 < 2 ^ 2 := by decide
            _ ≤ 2 ^ i := Nat.pow_le_pow_right (by decide) h)
        rw [this]; simp
      rw [h3]
      have : ¬ i < 2 := by omega
      simp [this, show 2 + (i - 2) = i by omega]
  rw [e, Cod.shl64_toNat, Cod.shr64_toNat]
  have := lt64 x
  omega
theorem orsh (t s : UInt64) : (shl64 s 62 ||| shr64 t 2).toNat = s.toNat % 4 * 4611686018427387904 + t.toNat / 4 := by
  have h1 := lt64 t
  have h2 := lt64 s
  rw [UInt64.toNat_or, Cod.shl64_toNat, Cod.shr64_toNat]
  have e1 : s.toNat * 2 ^ 62 % 18446744073709551616 = (s.toNat % 4) <<< 62 := by
    rw [Nat.shiftLeft_eq]
    omega
  have e2 : t.toNat / 2 ^ 2 < 2 ^ 62 := by omega
  rw [e1, ← Nat.shiftLeft_add_eq_or_of_lt e2, Nat.shiftLeft_eq]
theorem recomb {B : Nat} (h : B < 340282366920938463463374607431768211456) : B % 18446744073709551616 + 18446744073709551616 * (B / 18446744073709551616 % 18446744073709551616) = B := by omega
/-- what the limbs add up to -/
theorem times_nat {A B C D E F t1 c1 t2 c2 t3 : Nat} (hA : A < 21267647932558653966460912964485513216) (hB : B < 21267647932558653966460912964485513216) (hC : C < 21267647932558653966460912964485513216) (hD : D < 21267647932558653966460912964485513216) (hE : E < 21267647932558653966460912964485513216) (hF : F < 9223372036854775808)
    (e1 : t1 = ((B + C) % 18446744073709551616 + A / 18446744073709551616 % 18446744073709551616) % 18446744073709551616) (f1 : c1 = ((B + C) % 18446744073709551616 + A / 18446744073709551616 % 18446744073709551616) / 18446744073709551616 % 18446744073709551616)
    (e2 : t2 = ((D + E) % 18446744073709551616 + (B + C) / 18446744073709551616 % 18446744073709551616 + c1) % 18446744073709551616) (f2 : c2 = ((D + E) % 18446744073709551616 + (B + C) / 18446744073709551616 % 18446744073709551616 + c1) / 18446744073709551616 % 18446744073709551616)
    (e3 : t3 = (F % 18446744073709551616 + (D + E) / 18446744073709551616 % 18446744073709551616 + c2) % 18446744073709551616) :
    A % 18446744073709551616 + 18446744073709551616 * t1 + 340282366920938463463374607431768211456 * t2 + 6277101735386680763835789423207666416102355444464034512896 * t3 = A + 18446744073709551616 * (B + C) + 340282366920938463463374607431768211456 * (D + E) + 6277101735386680763835789423207666416102355444464034512896 * F ∧ c1 ≤ 1 ∧ c2 ≤ 1 := by
  generalize hq : (B + C) = Q at *
  generalize hr : (D + E) = R at *
  have q1 : Q < 42535295865117307932921825928971026432 := by omega
  have q2 : R < 42535295865117307932921825928971026432 := by omega
  clear hq hr hB hC hD hE
  omega
theorem expand (x y z r s : Nat) : (x + 18446744073709551616 * y + 340282366920938463463374607431768211456 * z) * (r + 18446744073709551616 * s) =
    x * r + 18446744073709551616 * (y * r + x * s) + 340282366920938463463374607431768211456 * (z * r + y * s) + 6277101735386680763835789423207666416102355444464034512896 * (z * s) := by
  rw [Nat.add_mul, Nat.add_mul, Nat.mul_add, Nat.mul_add, Nat.mul_add, Nat.mul_assoc, Nat.mul_assoc]
  have e1 : x * (18446744073709551616 * s) = 18446744073709551616 * (x * s) := Nat.mul_left_comm ..
  have e2 : 18446744073709551616 * (y * (18446744073709551616 * s)) = 340282366920938463463374607431768211456 * (y * s) := by rw [Nat.mul_left_comm y, ← Nat.mul_assoc]
  have e3 : 340282366920938463463374607431768211456 * (z * (18446744073709551616 * s)) = 6277101735386680763835789423207666416102355444464034512896 * (z * s) := by rw [Nat.mul_left_comm z, ← Nat.mul_assoc]
  have e4 : 340282366920938463463374607431768211456 * z * (18446744073709551616 * s) = 6277101735386680763835789423207666416102355444464034512896 * (z * s) := by rw [Nat.mul_assoc, e3]
  have e5 : 18446744073709551616 * y * (18446744073709551616 * s) = 340282366920938463463374607431768211456 * (y * s) := by rw [Nat.mul_assoc, e2]
  have e6 : 340282366920938463463374607431768211456 * z * r = 340282366920938463463374607431768211456 * (z * r) := Nat.mul_assoc ..
  omega
theorem val3_eq (a b c : UInt64) : val3 [a, b, c] = a.toNat + 18446744073709551616 * b.toNat + 340282366920938463463374607431768211456 * c.toNat := rfl
theorem fin_nat {t0 t1 t2 t3 T : Nat} (h0 : t0 < 18446744073709551616) (h1 : t1 < 18446744073709551616) (h2 : t2 < 18446744073709551616) (h3 : t3 < 18446744073709551616)
    (hT : t0 + 18446744073709551616 * t1 + 340282366920938463463374607431768211456 * t2 + 6277101735386680763835789423207666416102355444464034512896 * t3 = T) :
    t0 + 18446744073709551616 * t1 + 340282366920938463463374607431768211456 * (t2 % 4) + (t2 / 4 * 4 + 18446744073709551616 * t3) < 6277101735386680763835789423207666416102355444464034512896 ∧
    t0 + 18446744073709551616 * t1 + 340282366920938463463374607431768211456 * (t2 % 4) + (t2 / 4 * 4 + 18446744073709551616 * t3) + (t3 % 4 * 4611686018427387904 + t2 / 4 + 18446744073709551616 * (t3 / 4)) = red1 T := by
  unfold red1
  subst hT
  constructor
  · omega
  · have e : (t0 + 18446744073709551616 * t1 + 340282366920938463463374607431768211456 * t2 + 6277101735386680763835789423207666416102355444464034512896 * t3) / 1361129467683753853853498429727072845824 = (t2 + 18446744073709551616 * t3) / 4 := by omega
    have e2 : (t0 + 18446744073709551616 * t1 + 340282366920938463463374607431768211456 * t2 + 6277101735386680763835789423207666416102355444464034512896 * t3) % 1361129467683753853853498429727072845824 = t0 + 18446744073709551616 * t1 + 340282366920938463463374607431768211456 * (t2 % 4) := by omega
    rw [e, e2]
    omega
set_option maxRecDepth 100000 in
set_option maxHeartbeats 4000000 in
theorem conTimes : Con Try.prog 37 gTimes := con_of_vcl fun args ps res h hp hlen => by
  unfold gTimes at h
  split at h <;> cases h
  rename_i l r s
  obtain ⟨x, y, z, rfl⟩ := len3 (l := l) hlen.1.1
  obtain ⟨hv, hp2⟩ := all_cons.1 hp
  obtain ⟨hr, hp3⟩ := all_cons.1 hp2
  have hs := (all_cons.1 hp3).1
  refine ⟨PE2, 100, rfl, eokX (gs := [(44, gProd), (45, gPlus), (36, gAddN)]) ⟨conProd, conPlus, conAddN, trivial⟩, ?_⟩
  rw [vcTimes _ r s]
  rw [val3_eq] at hv
  have hx := lt64 x
  have hy := lt64 y
  have hz := lt64 z
  have hz8 : z.toNat ≤ 7 := by omega
  have bA := Nat.mul_le_mul (show x.toNat ≤ 18446744073709551615 by omega) (show r.toNat ≤ 1152921504606846975 by omega)
  have bB := Nat.mul_le_mul (show y.toNat ≤ 18446744073709551615 by omega) (show r.toNat ≤ 1152921504606846975 by omega)
  have bC := Nat.mul_le_mul (show x.toNat ≤ 18446744073709551615 by omega) (show s.toNat ≤ 1152921504606846975 by omega)
  have bD := Nat.mul_le_mul hz8 (show r.toNat ≤ 1152921504606846975 by omega)
  have bE := Nat.mul_le_mul (show y.toNat ≤ 18446744073709551615 by omega) (show s.toNat ≤ 1152921504606846975 by omega)
  have bF := Nat.mul_le_mul hz8 (show s.toNat ≤ 1152921504606846975 by omega)
  have hT := expand x.toNat y.toNat z.toNat r.toNat s.toNat
  simp only [forall_eq, List.getD_cons_zero, List.getD_cons_succ, D64, Nat.add_zero, val3_eq, and3, andn3, orsh, Cod.shr64_toNat, u_nat]
  rw [hT]
  clear hT hv hr hs
  generalize x.toNat * r.toNat = A at *
  generalize y.toNat * r.toNat = B at *
  generalize x.toNat * s.toNat = C at *
  generalize z.toNat * r.toNat = D at *
  generalize y.toNat * s.toNat = E at *
  generalize z.toNat * s.toNat = F at *
  rw [recomb (B := B) (by omega), recomb (B := C) (by omega), recomb (B := D) (by omega), recomb (B := E) (by omega)]
  generalize ht1 : ((B + C) % 18446744073709551616 + A / 18446744073709551616 % 18446744073709551616) % 18446744073709551616 = t1 at *
  generalize hc1 : ((B + C) % 18446744073709551616 + A / 18446744073709551616 % 18446744073709551616) / 18446744073709551616 % 18446744073709551616 = c1 at *
  generalize ht2 : ((D + E) % 18446744073709551616 + (B + C) / 18446744073709551616 % 18446744073709551616 + c1) % 18446744073709551616 = t2 at *
  generalize hc2 : ((D + E) % 18446744073709551616 + (B + C) / 18446744073709551616 % 18446744073709551616 + c1) / 18446744073709551616 % 18446744073709551616 = c2 at *
  generalize ht3 : (F % 18446744073709551616 + (D + E) / 18446744073709551616 % 18446744073709551616 + c2) % 18446744073709551616 = t3 at *
  obtain ⟨k1, k2, k3⟩ := times_nat (by omega) (by omega) (by omega) (by omega) (by omega) (by omega) ht1.symm hc1.symm ht2.symm hc2.symm ht3.symm
  obtain ⟨g1, g2⟩ := fin_nat (by omega) (by omega) (by omega) (by omega) k1
  refine ⟨by decide, k2, k3, ?_, trivial⟩
  rw [w3_val g1]
  exact congrArg w3 g2
theorem ite01 (c : Prop) [Decidable c] : ∃ b : Nat, (if c then 1 else 0) = b ∧ ((c ∧ b = 1) ∨ (¬c ∧ b = 0)) := by
  by_cases h : c
  · exact ⟨1, if_pos h, .inl ⟨h, rfl⟩⟩
  · exact ⟨0, if_neg h, .inr ⟨h, rfl⟩⟩
theorem w3_of (a b c : UInt64) : w3 (val3 [a, b, c]) = [a, b, c] := by
  have ha := lt64 a
  have hb := lt64 b
  have hc := lt64 c
  rw [val3_eq]
  unfold w3
  congr 1
  · exact (u_eq (by simp only [D64]; omega)).symm
  congr 1
  · exact (u_eq (by simp only [D64]; omega)).symm
  congr 1
  · exact (u_eq (by simp only [D64, D128]; omega)).symm
theorem w3_mk {n a b c : Nat} (h : a % 18446744073709551616 + 18446744073709551616 * (b % 18446744073709551616) + 340282366920938463463374607431768211456 * (c % 18446744073709551616) = n) : [u a, u b, u c] = w3 n := by
  subst h
  have := w3_of (u a) (u b) (u c)
  rw [val3_eq, u_nat, u_nat, u_nat] at this
  exact this.symm
theorem red_nat {x y z b1 b2 b3 : Nat} (hx : x < 18446744073709551616) (hy : y < 18446744073709551616) (hz : z < 18446744073709551616)
    (h1 : (x < 18446744073709551611 ∧ b1 = 1) ∨ (¬ x < 18446744073709551611 ∧ b1 = 0)) (h2 : (y < 18446744073709551615 + b1 ∧ b2 = 1) ∨ (¬ y < 18446744073709551615 + b1 ∧ b2 = 0)) (h3 : (z < 3 + b2 ∧ b3 = 1) ∨ (¬ z < 3 + b2 ∧ b3 = 0)) :
    (b3 = 1 → x + 18446744073709551616 * y + 340282366920938463463374607431768211456 * z < P130) ∧ (b3 = 0 → ¬ x + 18446744073709551616 * y + 340282366920938463463374607431768211456 * z < P130 ∧
      (x + 18446744073709551616 - 18446744073709551611) % 18446744073709551616 + 18446744073709551616 * ((y + 18446744073709551616 - 18446744073709551615 - b1) % 18446744073709551616) + 340282366920938463463374607431768211456 * ((z + 18446744073709551616 - 3 - b2) % 18446744073709551616) = x + 18446744073709551616 * y + 340282366920938463463374607431768211456 * z - P130) := by
  simp only [P130]
  refine ⟨fun h => ?_, fun h => ⟨?_, ?_⟩⟩ <;> omega
set_option maxRecDepth 100000 in
theorem conReduced : Con Try.prog 38 gReduced := con_of_vcl fun args ps res h hp hlen => by
  unfold gReduced at h
  split at h <;> cases h
  rename_i l
  obtain ⟨x, y, z, rfl⟩ := len3 (l := l) hlen.1.1
  refine ⟨PE1, 100, rfl, eokX (gs := [(49, gMul64)]) ⟨conMul64, trivial⟩, ?_⟩
  rw [vcReduced]
  have im : ∀ (c : Prop) [Decidable c], (if c then 1 else 0 : Nat) % 18446744073709551616 = if c then 1 else 0 := fun c _ => by split <;> rfl
  simp only [forall_eq, List.getD_cons_zero, List.getD_cons_succ, u_nat, D64, Nat.sub_zero, im, and_true]
  obtain ⟨b1, e1, f1⟩ := ite01 (x.toNat < 18446744073709551611)
  rw [e1]
  obtain ⟨b2, e2, f2⟩ := ite01 (y.toNat < 18446744073709551615 + b1)
  rw [e2]
  obtain ⟨b3, e3, f3⟩ := ite01 (z.toNat < 3 + b2)
  rw [e3]
  obtain ⟨g1, g2⟩ := red_nat (lt64 x) (lt64 y) (lt64 z) f1 f2 f3
  refine ⟨by decide, by omega, by omega, fun hb => ?_, fun hb => ?_⟩
  · have h3 : b3 = 1 := by
      rcases f3 with h | h
      · exact h.2
      · rw [h.2] at hb
        exact absurd hb (by decide)
    rw [val3_eq, if_pos (g1 h3), ← val3_eq, w3_of]
  · have h3 : b3 = 0 := by
      rcases f3 with h | h
      · rw [h.2] at hb
        exact absurd hb (by decide)
      · exact h.2
    obtain ⟨g3, g4⟩ := g2 h3
    rw [val3_eq, if_neg g3]
    exact w3_mk g4
end Go.Proofs.Ytcfkgodidnhbdaa
