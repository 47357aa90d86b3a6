/- A step towards CurveAgreesSaid: no conditions. -/
import Derived.Test.YthdhmciccohbeaaCufVc
import Derived.Test.YthdhmciccohbeaaCufLem
namespace Go.Proofs.Ythdhmciccohbeaa
open Go Go.Eng Go.Cod Go.Pol Go.Cur
theorem in16 {x : Nat} (h : x < 16) : (0 ≤ (x : Int) ∧ (x : Int) < ((16 : Nat) : Int)) := by omega
theorem inI60 {x : Int} (h : -4611686018427387904 ≤ x ∧ x ≤ 4611686018427387904) : InI x := by unfold InI; omega
theorem to_n (x : Nat) : ((x : Int) + ((1 : Nat) : Int)).toNat = x + 1 := by omega
theorem nx16 {n x : Nat} {p : Nat → Prop} (hx : x < n) (h : p (x + 1)) : ∃ y : Nat, y ≤ n ∧ n - y < n - x ∧ (x : Int) + ((1 : Nat) : Int) = (y : Int) ∧ p y := ⟨x + 1, by omega, by omega, by omega, h⟩
set_option maxRecDepth 100000 in
theorem conRCar : Con Try.prog 38 gCarR := con_of_vcl fun args ps res h hp hlen => by
  unfold gCarR at h
  split at h <;> cases h
  rename_i f
  have hl : f.length = 16 := hlen.1.1
  have hb := (all_cons.1 hp).1
  refine ⟨FEc, 100, rfl, eok (gs := []) trivial, ?_⟩
  rw [vcRCar]
  simp only [forall_eq, io, Int.toNat_natCast, to_n, d_eq]
  refine ⟨⟨0, by decide, rfl, rfl, trivial, trivial⟩, fun x hx => ⟨fun h => ?_, fun h => ?_⟩⟩
  · have h := of_decide_eq_true h
    have hx : x ≤ 15 := by omega
    obtain ⟨i1, i2, i3⟩ := car_inv hl (Int.le_refl _) hb x hx
    have l1 : (carI f x).length = 16 := by rw [carI_len, hl]
    simp only [B60] at i2
    have hI : InI (d (carI f x) x / 2 ^ 16 * 2 ^ 16) := inI60 (by omega)
    have hJ : InI (d (carI f x) x - d (carI f x) x / 2 ^ 16 * 2 ^ 16) := inI60 (by omega)
    refine ⟨by omega, by omega, by decide, by omega, by omega, ⟨by decide, hI⟩, hJ, by omega, by omega, fun h2 => ?_, fun h2 => ?_⟩
    · have h2 := of_decide_eq_true h2
      have e : d ((carI f x).set x (d (carI f x) x - d (carI f x) x / 2 ^ 16 * 2 ^ 16)) (x + 1) = d f (x + 1) := by rw [d_ne (by omega), i3 (x + 1) (by omega)]
      have b1 := hb (x + 1)
      simp only [B60] at b1
      refine ⟨inI60 (by omega), by omega, by omega, inI60 (by rw [e]; omega), by omega, by omega, inI60 (by omega), nx16 (by omega) ⟨?_, trivial, trivial⟩⟩
      show _ = carS (carI f x) x
      unfold carS
      rw [if_pos (by omega)]
    · have h2 := of_decide_eq_false h2
      have hx15 : x = 15 := by omega
      subst hx15
      have b1 := i1 0 (by omega)
      have e : d ((carI f 15).set 15 (d (carI f 15) 15 - d (carI f 15) 15 / 2 ^ 16 * 2 ^ 16)) 0 = d (carI f 15) 0 := by rw [d_ne (by omega)]
      refine ⟨inI60 (by omega), inI60 (by rw [e]; omega), inI60 (by omega), nx16 (by omega) ⟨?_, trivial, trivial⟩⟩
      show _ = carS (carI f 15) 15
      unfold carS
      rw [if_neg (by omega)]
      rfl
  · have h := of_decide_eq_false h
    have : x = 16 := by omega
    subst this
    exact ⟨rfl, trivial⟩
set_option maxRecDepth 100000 in
theorem conRAdd : Con Try.prog 35 gAddR := con_of_vcl fun args ps res h hp hlen => by
  unfold gAddR at h
  split at h <;> cases h
  rename_i a b
  have la : a.length = 16 := hlen.1.1
  obtain ⟨ha, hp2⟩ := all_cons.1 hp
  have hb := (all_cons.1 hp2).1
  refine ⟨FEa, 100, rfl, eok (gs := []) trivial, ?_⟩
  rw [vcRAdd]
  simp only [forall_eq, io, Int.toNat_natCast, d_eq]
  refine ⟨⟨0, by decide, rfl, rfl, trivial, trivial, trivial⟩, fun x hx => ⟨fun h => ?_, fun h => ?_⟩⟩
  · have h := of_decide_eq_true h
    have e := addI_d (b := b) la x hx x
    rw [if_neg (by omega)] at e
    have h1 := ha x
    have h2 := hb x
    simp only [B60] at h1 h2
    exact ⟨by omega, by omega, by omega, by omega, inI60 (by rw [e]; omega), by omega, by omega, inI60 (by omega), nx16 (by omega) ⟨rfl, trivial, trivial, trivial⟩⟩
  · have h := of_decide_eq_false h
    have : x = 16 := by omega
    subst this
    exact ⟨rfl, trivial⟩
set_option maxRecDepth 100000 in
theorem conRSub : Con Try.prog 36 gSubR := con_of_vcl fun args ps res h hp hlen => by
  unfold gSubR at h
  split at h <;> cases h
  rename_i a b
  have la : a.length = 16 := hlen.1.1
  obtain ⟨ha, hp2⟩ := all_cons.1 hp
  have hb := (all_cons.1 hp2).1
  refine ⟨FEs, 100, rfl, eok (gs := []) trivial, ?_⟩
  rw [vcRSub]
  simp only [forall_eq, io, Int.toNat_natCast, d_eq]
  refine ⟨⟨0, by decide, rfl, rfl, trivial, trivial, trivial⟩, fun x hx => ⟨fun h => ?_, fun h => ?_⟩⟩
  · have h := of_decide_eq_true h
    have e := subI_d (b := b) la x hx x
    rw [if_neg (by omega)] at e
    have h1 := ha x
    have h2 := hb x
    simp only [B60] at h1 h2
    exact ⟨by omega, by omega, by omega, by omega, inI60 (by rw [e]; omega), by omega, by omega, inI60 (by omega), nx16 (by omega) ⟨rfl, trivial, trivial, trivial⟩⟩
  · have h := of_decide_eq_false h
    have : x = 16 := by omega
    subst this
    exact ⟨rfl, trivial⟩
theorem to_nn (x y : Nat) : ((x : Int) + (y : Int)).toNat = x + y := by omega
theorem to_n16 (x : Nat) : ((x : Int) + ((16 : Nat) : Int)).toNat = x + 16 := by omega
set_option maxRecDepth 100000 in
theorem conRMul : Con Try.prog 29 gMulR := con_of_vcl fun args ps res h hp hlen => by
  unfold gMulR at h
  split at h <;> cases h
  rename_i a b
  have la : a.length = 16 := hlen.1.1
  have lb : b.length = 16 := hlen.2.1.1
  obtain ⟨ha, hp2⟩ := all_cons.1 hp
  have hb := (all_cons.1 hp2).1
  refine ⟨FEm, 200, rfl, eok (gs := [(38, gCarR)]) ⟨conRCar, trivial⟩, ?_⟩
  rw [vcRMul]
  simp only [forall_eq, io, Int.toNat_natCast, d_eq, to_nn]
  refine ⟨⟨0, by decide, rfl, trivial, trivial, trivial, rfl, trivial⟩, fun x hx => ⟨fun h => ?_, fun h => ?_⟩⟩
  · have h := of_decide_eq_true h
    refine ⟨⟨0, by decide, trivial, trivial, rfl, trivial, trivial, trivial, rfl, trivial⟩, fun y hy => ⟨fun h2 => ?_, fun h2 => ?_⟩⟩
    · have h2 := of_decide_eq_true h2
      have r := rowI_bd ha hb x (by omega) (prodI_len a b x) (prodI_bd ha hb x (by omega)) y (by omega) (x + y)
      have p := pr_bd (ha x) (hb y)
      exact ⟨inI60 (by omega), by omega, by omega, by omega, by omega, by omega, by omega, inI60 (by omega), inI60 (by omega), by omega, by omega, inI60 (by omega), ⟨y + 1, by omega, by omega, trivial, trivial, by omega, trivial, trivial, trivial, rfl, trivial⟩⟩
    · have h2 := of_decide_eq_false h2
      have : y = 16 := by omega
      subst this
      exact ⟨inI60 (by omega), nx16 (by omega) ⟨trivial, trivial, trivial, rfl, trivial⟩⟩
  · have h := of_decide_eq_false h
    have : x = 16 := by omega
    subst this
    have pb := prodI_bd ha hb 16 (by omega)
    have pb2 : Bd 17592186044416 (prodI a b 16) := fun j => by have := pb j; omega
    refine ⟨⟨0, by decide, rfl, trivial, trivial, trivial, trivial, rfl, trivial⟩, fun x hx => ⟨fun h => ?_, fun h => ?_⟩⟩
    · have h := of_decide_eq_true h
      have e0 : d (foldI (prodI a b 16) x) x = 0 := by rw [foldI_d x (by omega) x, if_neg (by omega)]
      have l0 := foldI_len (prodI a b 16) x
      have e1 : d ((foldI (prodI a b 16) x).set x (d (prodI a b 16) x)) x = d (prodI a b 16) x := d_set (by omega)
      have b1 := pb2 x
      have b2 := pb2 (x + 16)
      refine ⟨by omega, by omega, by omega, by omega, fun h2 => ?_, fun h2 => ?_⟩
      · have h2 := of_decide_eq_true h2
        refine ⟨by omega, by omega, inI60 (by omega), by omega, by omega, inI60 (by omega), inI60 (by rw [e1]; omega), by omega, by omega, inI60 (by omega), nx16 (by omega) ⟨trivial, trivial, trivial, trivial, ?_, trivial⟩⟩
        show _ = if _ then _ else _
        rw [if_pos (by omega)]
        rfl
      · have h2 := of_decide_eq_false h2
        refine ⟨inI60 (by omega), nx16 (by omega) ⟨trivial, trivial, trivial, trivial, ?_, trivial⟩⟩
        show _ = if _ then _ else _
        rw [if_neg (by omega)]
    · have h := of_decide_eq_false h
      have : x = 16 := by omega
      subst this
      have fb := foldI_bd pb2 (Nat.le_refl 16)
      have cb := carR_bd (foldI_len (prodI a b 16) 16) (by decide) fb (by decide)
      exact ⟨fun j => by have := fb j; simp only [B60]; omega, fun j => by have := cb j; simp only [B60]; omega, rfl, trivial⟩
theorem powR_nm {a : List Int} (ha : Bd B18 a) (la : a.length = 16) : ∀ n, Bd B18 (powR a n) ∧ (powR a n).length = 16
  | 0 => ⟨ha, la⟩
  | n + 1 => by
    obtain ⟨h1, h2⟩ := powR_nm ha la n
    obtain ⟨n1, _⟩ := mulR_nm h1 h1 h2 h2
    have b1 : Bd B18 (mulR (powR a n) (powR a n)) := fun j => by have := n1.bd j; simp only [B17, B18] at *; omega
    rw [powR]
    split
    · exact ⟨b1, n1.len⟩
    · obtain ⟨n2, _⟩ := mulR_nm b1 ha n1.len la
      exact ⟨fun j => by have := n2.bd j; simp only [B17, B18] at *; omega, n2.len⟩
theorem pow_step {a : List Int} {x : Nat} {b : List Int} (hx : x ≤ 253) (hb : b = powR a (x + 1)) :
    InI ((253 : Int) - (x : Int) - ((1 : Nat) : Int)) ∧ ∃ y : Nat, y ≤ 254 ∧ 254 - y < 254 - x ∧ (253 : Int) - (x : Int) - ((1 : Nat) : Int) = (253 : Int) - (y : Int) ∧ True ∧ True ∧ b = powR a y ∧ True :=
  ⟨by unfold InI; omega, x + 1, by omega, by omega, by omega, trivial, trivial, hb, trivial⟩
set_option maxRecDepth 100000 in
theorem conRPow : Con Try.prog 30 gPowR := con_of_vcl fun args ps res h hp hlen => by
  unfold gPowR at h
  split at h <;> cases h
  rename_i a
  have la : a.length = 16 := hlen.1.1
  have ha := (all_cons.1 hp).1
  refine ⟨FEp, 200, rfl, eok (gs := [(29, gMulR)]) ⟨conRMul, trivial⟩, ?_⟩
  rw [vcRPow]
  simp only [forall_eq, io]
  refine ⟨⟨0, by decide, by decide, trivial, trivial, rfl, trivial⟩, fun x hx => ⟨fun h => ?_, fun h => ?_⟩⟩
  · have h := of_decide_eq_true h
    have hx2 : x ≤ 253 := by omega
    obtain ⟨b0, l0⟩ := powR_nm ha la x
    obtain ⟨n1, _⟩ := mulR_nm b0 b0 l0 l0
    have b1 : Bd B18 (mulR (powR a x) (powR a x)) := fun j => by have := n1.bd j; simp only [B17, B18] at *; omega
    refine ⟨b0, b0, fun h2 => ⟨fun h4 => ⟨b1, ha, pow_step hx2 ?_⟩, fun h4 => pow_step hx2 ?_⟩, fun h2 => pow_step hx2 ?_⟩
    · have h2 := of_decide_eq_true h2
      have h4 := of_decide_eq_true h4
      show _ = if _ then _ else _
      rw [if_neg (by omega)]
    · have h4 := of_decide_eq_false h4
      show _ = if _ then _ else _
      rw [if_pos (by omega)]
    · have h2 := of_decide_eq_false h2
      show _ = if _ then _ else _
      rw [if_pos (by omega)]
  · have h := of_decide_eq_false h
    have : x = 254 := by omega
    subst this
    exact ⟨rfl, trivial⟩
end Go.Proofs.Ythdhmciccohbeaa
