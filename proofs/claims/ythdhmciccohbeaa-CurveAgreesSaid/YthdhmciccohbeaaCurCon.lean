/- A step towards CurveAgreesSaid: no conditions. -/
import Derived.Test.YthdhmciccohbeaaCurVc
import Derived.Test.YthdhmciccohbeaaCodCon
import Derived.Laws.Externs
import GoSem.Extern.MathBitsCarry
namespace Go.Proofs.Ythdhmciccohbeaa
open Go Go.Eng Go.Cod Go.Pol Go.Cur
theorem lt64 (x : UInt64) : x.toNat < 18446744073709551616 := x.toNat_lt
set_option maxRecDepth 100000 in
theorem extAdd64 : ConX Try.prog 40 gAdd64 := fun args ps res h hp w vals hv => by
  unfold gAdd64 at h
  split at h <;> cases h
  rename_i x y c
  have hc := (all_cons.1 hp).1
  obtain ⟨v1, r1, rfl, h1, v2, r2, rfl, h2, v3, r3, rfl, h3, rfl⟩ := hv
  have h1 : v1 = eu64 x := h1
  have h2 : v2 = eu64 y := h2
  have h3 : v3 = eu64 c := h3
  subst h1 h2 h3
  refine ⟨_, ?_, fun A => ⟨[eu64 (u (x.toNat + y.toNat + c.toNat)), eu64 (u ((x.toNat + y.toNat + c.toNat) / D64))], rfl, _, _, rfl, rfl, _, _, rfl, rfl, rfl⟩⟩
  rw [run_callFunc_extern Try.func40 (by kernel_rfl) (by kernel_rfl) (by kernel_rfl) (e := add64Entry) (by kernel_rfl)]
  show ((add64Entry #[.int .u64 (x.toNat : Int), .int .u64 (y.toNat : Int), .int .u64 (c.toNat : Int)]).run _ w).andThen _ = _
  rw [run_add64 _ _ _ (by omega) (by omega) (by omega) (by omega)]
  have hx := lt64 x
  have hy := lt64 y
  simp only [Result.andThen, eu64, u_nat, D64]
  congr 5
  rw [Nat.mod_eq_of_lt (by omega)]
  rfl
theorem and32 (x : UInt64) : (x &&& UInt64.ofNat 4294967295).toNat = x.toNat % 4294967296 := by
  rw [UInt64.toNat_and]
  exact Nat.and_two_pow_sub_one_eq_mod x.toNat 32
theorem mul64_nat {x y : Nat} (hx : x < 18446744073709551616) (hy : y < 18446744073709551616) :
    ((x / 4294967296) * (y / 4294967296) + ((x / 4294967296) * (y % 4294967296) + (x % 4294967296) * (y % 4294967296) / 4294967296) / 4294967296 + (((x / 4294967296) * (y % 4294967296) + (x % 4294967296) * (y % 4294967296) / 4294967296) % 4294967296 + (x % 4294967296) * (y / 4294967296)) / 4294967296) = x * y / 18446744073709551616 ∧
    (x % 4294967296) * (y % 4294967296) < 18446744073709551616 ∧ (x / 4294967296) * (y % 4294967296) + (x % 4294967296) * (y % 4294967296) / 4294967296 < 18446744073709551616 ∧
    ((x / 4294967296) * (y % 4294967296) + (x % 4294967296) * (y % 4294967296) / 4294967296) % 4294967296 + (x % 4294967296) * (y / 4294967296) < 18446744073709551616 ∧ (x / 4294967296) * (y / 4294967296) < 18446744073709551616 ∧
    (x / 4294967296) * (y % 4294967296) < 18446744073709551616 ∧ (x % 4294967296) * (y / 4294967296) < 18446744073709551616 := by
  have hxx : x = 4294967296 * (x / 4294967296) + x % 4294967296 := (Nat.div_add_mod ..).symm
  have hyy : y = 4294967296 * (y / 4294967296) + y % 4294967296 := (Nat.div_add_mod ..).symm
  have a1 : x / 4294967296 ≤ 4294967295 := by omega
  have a2 : y / 4294967296 ≤ 4294967295 := by omega
  have a3 : x % 4294967296 ≤ 4294967295 := by omega
  have a4 : y % 4294967296 ≤ 4294967295 := by omega
  have e : x * y = 18446744073709551616 * ((x / 4294967296) * (y / 4294967296)) + 4294967296 * ((x / 4294967296) * (y % 4294967296)) + 4294967296 * ((x % 4294967296) * (y / 4294967296)) + (x % 4294967296) * (y % 4294967296) := by
    conv => lhs; rw [hxx, hyy]
    generalize x / 4294967296 = p
    generalize x % 4294967296 = q
    generalize y / 4294967296 = r
    generalize y % 4294967296 = s
    rw [Nat.add_mul, Nat.mul_add, Nat.mul_add]
    have : 4294967296 * p * (4294967296 * r) = 18446744073709551616 * (p * r) := by
      rw [Nat.mul_mul_mul_comm]
    have e2 : 4294967296 * p * s = 4294967296 * (p * s) := Nat.mul_assoc ..
    have e3 : q * (4294967296 * r) = 4294967296 * (q * r) := Nat.mul_left_comm ..
    omega
  rw [e]
  have b1 := Nat.mul_le_mul a1 a2
  have b2 := Nat.mul_le_mul a1 a4
  have b3 := Nat.mul_le_mul a3 a2
  have b4 := Nat.mul_le_mul a3 a4
  generalize (x / 4294967296) * (y / 4294967296) = A at *
  generalize (x / 4294967296) * (y % 4294967296) = B at *
  generalize (x % 4294967296) * (y / 4294967296) = C at *
  generalize (x % 4294967296) * (y % 4294967296) = D at *
  omega
set_option maxRecDepth 100000 in
theorem conMul64 : Con Try.prog 39 gMul64 := con_of_vcs fun args ps res h hp => by
  unfold gMul64 at h
  split at h <;> cases h
  rename_i x y
  refine ⟨PE0, 100, rfl, eok (gs := []) trivial, ?_⟩
  rw [vcMul64 x y]
  obtain ⟨h1, h2, h3, h4, h5, h6, h7⟩ := mul64_nat (lt64 x) (lt64 y)
  refine ⟨u_eq ?_, u_eq ?_, trivial⟩
  · have p32 : (2 : Nat) ^ 32 = 4294967296 := rfl
    have p64 : (2 : Nat) ^ 64 = 18446744073709551616 := rfl
    simp only [UInt64.toNat_add, UInt64.toNat_mul, Cod.shr64_toNat, and32, p32, p64]
    rw [Nat.mod_eq_of_lt h5, Nat.mod_eq_of_lt h6, Nat.mod_eq_of_lt h2, Nat.mod_eq_of_lt h3, Nat.mod_eq_of_lt h7, Nat.mod_eq_of_lt h4, ← h1]
    simp only [D64]
    omega
  · rw [UInt64.toNat_mul]
theorem consXC : ConsX Try.prog extC := ⟨extAdd64, trivial⟩
theorem eokXC {gs : List (Nat × SpecF)} {ls : List (Nat × (St → Option Inv))} {r : Nat} {b : Bool} (h : Cons Try.prog gs) : EnvOk (mkE Try.prog gs ls r b extC) := mkEX_ok namesOk mx h consXC
theorem len5 {l : List UInt64} (h : l.length = 5) : ∃ a b c d e, l = [a, b, c, d, e] := by
  match l, h with
  | [a, b, c, d, e], _ => exact ⟨a, b, c, d, e, rfl⟩
set_option maxRecDepth 100000 in
theorem conWPlus : Con Try.prog 32 gWPlus := con_of_vcs fun args ps res h hp => by
  unfold gWPlus at h
  split at h <;> cases h
  rename_i a b x y
  refine ⟨CEp, 100, rfl, eokXC (gs := [(39, gMul64)]) ⟨conMul64, trivial⟩, ?_⟩
  rw [vcWPlus a b x y]
  simp only [forall_eq]
  have ha := lt64 a
  have hb := lt64 b
  have hx := lt64 x
  have hy := lt64 y
  have hxy : x.toNat * y.toNat < 18446744073709551616 * 18446744073709551616 := Nat.mul_lt_mul'' hx hy
  generalize x.toNat * y.toNat = p at *
  simp only [u_nat, D64]
  refine ⟨by decide, by omega, u_eq ?_, u_eq ?_, trivial⟩ <;> simp only [u_nat, D64] <;> omega
set_option maxRecDepth 100000 in
theorem conFCar : Con Try.prog 33 gCar := con_of_vcl fun args ps res h hp hlen => by
  unfold gCar at h
  split at h <;> cases h
  rename_i a
  refine ⟨CE0, 100, rfl, eok (gs := []) trivial, ?_⟩
  rw [vcFCar]
  simp only [forall_eq]
  exact ⟨rfl, trivial⟩
set_option maxRecDepth 100000 in
theorem conFAdd : Con Try.prog 20 gAdd := con_of_vcl fun args ps res h hp hlen => by
  unfold gAdd at h
  split at h <;> cases h
  rename_i a b
  obtain ⟨a0, a1, a2, a3, a4, rfl⟩ := len5 (l := a) hlen.1.1
  refine ⟨CE0, 100, rfl, eok (gs := []) trivial, ?_⟩
  rw [vcFAdd]
  simp only [forall_eq, List.getD_cons_zero, List.getD_cons_succ, List.set_cons_zero, List.set_cons_succ, addL, g, and_self]
set_option maxRecDepth 100000 in
theorem conFSub : Con Try.prog 21 gSub := con_of_vcl fun args ps res h hp hlen => by
  unfold gSub at h
  split at h <;> cases h
  rename_i a b
  obtain ⟨a0, a1, a2, a3, a4, rfl⟩ := len5 (l := a) hlen.1.1
  refine ⟨CE0, 100, rfl, eok (gs := []) trivial, ?_⟩
  rw [vcFSub]
  simp only [forall_eq, List.getD_cons_zero, List.getD_cons_succ, List.set_cons_zero, List.set_cons_succ, subL, g, and_self]
set_option maxRecDepth 100000 in
theorem conFLoad : Con Try.prog 19 gLoad := con_of_vcl fun args ps res h hp hlen => by
  unfold gLoad at h
  split at h <;> cases h
  rename_i k
  have h1 : k.length = 32 := hlen.1.1
  refine ⟨CEl, 200, rfl, eok (gs := [(31, gReadL)]) ⟨conReadL, trivial⟩, ?_⟩
  rw [vcFLoad]
  simp only [forall_eq]
  refine ⟨by decide, trivial, by rw [List.length_take]; omega, by decide, trivial, by rw [List.length_take]; omega, by decide, trivial, by rw [List.length_take]; omega, by decide, trivial, by rw [List.length_take]; omega, rfl, trivial⟩
theorem wp_lo (n p : Nat) : (u n).toNat + (D64 * (u (n / D64)).toNat + p) = n % D128 + p := by
  rw [u_nat, u_nat]; simp only [D64, D128]; omega
theorem wp_hi (n p : Nat) : u ((n % D128 + p) / D64) = u ((n + p) / D64) := by
  apply u_eq; rw [u_nat]; simp only [D64, D128]; omega
theorem wp_l2 (n p : Nat) : u (n % D128 + p) = u (n + p) := by
  apply u_eq; rw [u_nat]; simp only [D64, D128]; omega
set_option maxRecDepth 100000 in
set_option maxHeartbeats 4000000 in
theorem conFMul : Con Try.prog 22 gFMul := con_of_vcl fun args ps res h hp hlen => by
  unfold gFMul at h
  split at h <;> cases h
  rename_i a b
  refine ⟨CEm, 300, rfl, eok (gs := [(32, gWPlus), (33, gCar)]) ⟨conWPlus, conFCar, trivial⟩, ?_⟩
  rw [vcFMul]
  simp only [forall_eq, show (0 : UInt64).toNat = 0 from rfl, Nat.mul_zero, Nat.zero_add, Nat.add_assoc, wp_lo, wp_hi, wp_l2, List.getD_cons_zero, List.getD_cons_succ, List.set_cons_zero, List.set_cons_succ, mulL, s0, s1, s2, s3, s4, pr, pn, lo51, hi51, g]
  exact ⟨trivial, trivial⟩
set_option maxRecDepth 100000 in
theorem conClamp : Con Try.prog 11 gClamp := con_of_vcl fun args ps res h hp hlen => by
  unfold gClamp at h
  split at h <;> cases h
  rename_i k
  refine ⟨CE0, 100, rfl, eok (gs := []) trivial, ?_⟩
  rw [vcClamp]
  simp only [forall_eq]
  refine ⟨?_, trivial⟩
  unfold clampL
  have e : ∀ x : UInt8, (k.set 0 x).getD 31 0 = k.getD 31 0 := fun x => by
    rw [List.getD_eq_getElem?_getD, List.getElem?_set_ne (by decide), ← List.getD_eq_getElem?_getD]
  rw [e]
set_option maxRecDepth 100000 in
theorem conClampR : Con Try.prog 12 gClamp := con_of_vcl fun args ps res h hp hlen => by
  unfold gClamp at h
  split at h <;> cases h
  rename_i k
  refine ⟨CE0, 100, rfl, eok (gs := []) trivial, ?_⟩
  rw [vcClampR]
  simp only [forall_eq]
  refine ⟨?_, trivial⟩
  unfold clampL
  have e : ∀ x : UInt8, (k.set 0 x).getD 31 0 = k.getD 31 0 := fun x => by
    rw [List.getD_eq_getElem?_getD, List.getElem?_set_ne (by decide), ← List.getD_eq_getElem?_getD]
  rw [e]
theorem inv_step {a : List UInt64} {x : Nat} {b : List UInt64} (hx : x ≤ 254) (hb : b = invN a (x + 1)) :
    InI ((254 : Int) - (x : Int) - ((1 : Nat) : Int)) ∧ ∃ y : Nat, y ≤ 255 ∧ 255 - y < 255 - x ∧ (254 : Int) - (x : Int) - ((1 : Nat) : Int) = (254 : Int) - (y : Int) ∧ True ∧ True ∧ b = invN a y ∧ True :=
  ⟨by unfold InI; omega, x + 1, by omega, by omega, by omega, trivial, trivial, hb, trivial⟩
set_option maxRecDepth 100000 in
theorem conFInv : Con Try.prog 23 gInv := con_of_vcl fun args ps res h hp hlen => by
  unfold gInv at h
  split at h <;> cases h
  rename_i a
  refine ⟨CEi, 200, rfl, eok (gs := [(22, gFMul)]) ⟨conFMul, trivial⟩, ?_⟩
  rw [vcFInv]
  simp only [forall_eq, io]
  refine ⟨⟨0, by decide, by decide, trivial, trivial, rfl, trivial⟩, fun x hx => ⟨fun h => ?_, fun h => ?_⟩⟩
  · have h := of_decide_eq_true h
    have hx2 : x ≤ 254 := by omega
    refine ⟨fun h2 => ⟨fun h4 => inv_step hx2 ?_, fun h4 => inv_step hx2 ?_⟩, fun h2 => inv_step hx2 ?_⟩
    · have h2 := of_decide_eq_true h2
      have h4 := of_decide_eq_true h4
      show _ = if _ then _ else _
      rw [if_neg (by omega)]
    · have h4 := of_decide_eq_false h4
      show _ = if _ then _ else _
      rw [if_pos (by omega)]
    · have h2 := of_decide_eq_false h2
      show _ = if _ then _ else _
      rw [if_pos (by omega)]
  · have h := of_decide_eq_false h
    have : x = 255 := by omega
    subst this
    exact ⟨rfl, trivial⟩
end Go.Proofs.Ythdhmciccohbeaa
