/- A step towards AeadSealsSaid: no conditions. -/
import Derived.Test.YtcfkgodidnhbdaaPrfVc
import Derived.Test.YtcfkgodidnhbdaaPrfPlain
import Derived.Test.YtcfkgodidnhbdaaCodCon
namespace Go.Proofs.Ytcfkgodidnhbdaa
open Go Go.Eng Go.Cod Go.Pol
open List
theorem digs17 (n : Nat) : digs n (16 + 1) = d17 (n % 256 ^ (16 + 1)) := by
  unfold d17
  rw [digs, show n % 256 ^ (16 + 1) / 256 ^ 16 = n / 256 ^ 16 % 256 by rw [Nat.pow_succ, Nat.mod_mul_right_div_self],
    digs_congr (n := n % 256 ^ (16 + 1)) (m := n) (j := 16) (by rw [Nat.pow_succ, Nat.mod_mul_right_mod])]
theorem succInt (x : Nat) : (x : Int) + Int.ofNat 1 = ((x + 1 : Nat) : Int) := rfl
theorem inI_succ {x : Nat} (h : x < 20) : InI ((x : Int) + Int.ofNat 1) := by
  rw [succInt]; unfold InI; omega
set_option maxRecDepth 100000 in
theorem conPlusD : Con Try.prog 32 gPlusD := con_of_vcl fun args ps res h hp hlen => by
  unfold gPlusD at h
  split at h <;> cases h
  rename_i a b
  have la : a.length = 17 := hlen.1.1
  have lb : b.length = 17 := hlen.2.1.1
  obtain ⟨sa, hp⟩ := all_cons.1 hp
  have sb := (all_cons.1 hp).1
  refine ⟨PFp, 200, rfl, eok (gs := []) trivial, ?_⟩
  rw [vcPlusD a b]
  intro y hy
  subst hy
  refine ⟨⟨0, by omega, ?_, rfl, rfl, rfl, rfl, trivial⟩, fun x hx => ⟨fun hd => ?_, fun hd => ?_⟩⟩
  · rw [pv_zero, pv_zero]
  · have hd := of_decide_eq_true hd
    have hx2 : x < 17 := by have : (x : Int) < 17 := hd; omega
    intro y hy
    subst hy
    obtain ⟨h1, h2⟩ := plus_step (a := a) (b := b) (j := x) sa sb (by omega) (by omega)
    refine ⟨by omega, by omega, by omega, by omega, fun y hy => ?_⟩
    subst hy
    rw [Int.toNat_natCast]
    refine ⟨by omega, by omega, fun y hy y2 hy2 => ?_⟩
    refine ⟨inI_succ (by omega), x + 1, by omega, by omega, ?_, rfl, ?_, rfl, rfl, trivial⟩
    · rw [hy2, h1]
    · rw [hy, h2]
  · have hd := of_decide_eq_false hd
    have hx2 : x = 17 := by have : ¬ (x : Int) < 17 := hd; omega
    subst hx2
    intro y hy
    refine ⟨?_, trivial⟩
    rw [hy, List.drop_of_length_le (by omega), List.append_nil, ← p17]
    refine (digs17 _).trans ?_
    have e1 : pv a 17 = valD a := by have := pv_all a; rw [la] at this; exact this
    have e2 : pv b 17 = valD b := by have := pv_all b; rw [lb] at this; exact this
    rw [e1, e2]
theorem cInit {c : UInt32} {l : List UInt32} {k : Int} {r : List UInt32} : (∃ (x : Nat), x ≤ 16 ∧ k = k ∧ c = UInt32.ofNat ((c.toNat + pv l x) / 256 ^ x) ∧ Int.ofNat 0 = (x : Int) ∧ l = digs (c.toNat + pv l x) x ++ drop x l ∧ r = r ∧ True) :=
  ⟨0, by omega, rfl, by rw [pv_zero, Nat.pow_zero, Nat.div_one, Nat.add_zero]; exact UInt32.toNat_inj.1 (ofNat_lt (lt32 c)).symm, rfl, rfl, rfl, trivial⟩
theorem cBody {c : UInt32} {l : List UInt32} {k : Int} {r : List UInt32} {x B : Nat} (hl : l.length = 17) (hs : small l B) (hB : 0 < B) (hb : c.toNat + 2 * B ≤ 4294967296) (hd : decide ((x : Int) < Int.ofNat 16) = true) :
    ((0 : Int) ≤ (x : Int) ∧ (x : Int) < (17 : Int)) ∧ (x : Int).toNat < 17 ∧ ∀ (y_1 : UInt32), y_1 = UInt32.ofNat ((c.toNat + pv l x) / 256 ^ x) + (digs (c.toNat + pv l x) x ++ drop x l).getD (x : Int).toNat (0 : UInt32) → ((0 : Int) ≤ (x : Int) ∧ (x : Int) < (17 : Int)) ∧ (x : Int).toNat < 17 ∧ ∀ (y_2 : List UInt32), y_2 = (digs (c.toNat + pv l x) x ++ drop x l).set (x : Int).toNat (y_1 &&& UInt32.ofNat 255) → ∀ (y_3 : UInt32), y_3 = shr32 y_1 8 → InI ((x : Int) + Int.ofNat 1) ∧ ∀ (y_4 : Int), y_4 = (x : Int) + Int.ofNat 1 → ∃ (y_5 : Nat), y_5 ≤ 16 ∧ 16 - y_5 < 16 - x ∧ k = k ∧ y_3 = UInt32.ofNat ((c.toNat + pv l y_5) / 256 ^ y_5) ∧ y_4 = (y_5 : Int) ∧ y_2 = digs (c.toNat + pv l y_5) y_5 ++ drop y_5 l ∧ r = r ∧ True := by
  have hd := of_decide_eq_true hd
  have hx2 : x < 16 := by have : (x : Int) < 16 := hd; omega
  obtain ⟨h1, h2⟩ := carry_step (c := c) (l := l) (j := x) hs hB (by omega) hb
  rw [Int.toNat_natCast]
  refine ⟨by omega, by omega, fun y hy => ⟨by omega, by omega, fun y2 hy2 y3 hy3 => ⟨inI_succ (by omega), fun y4 hy4 => ?_⟩⟩⟩
  subst hy
  exact ⟨x + 1, by omega, by omega, rfl, by rw [hy3, h1], by rw [hy4]; rfl, by rw [hy2, h2], rfl, trivial⟩
theorem x16 {x : Nat} (hx : x ≤ 16) (hd : decide ((x : Int) < Int.ofNat 16) = false) : x = 16 := by
  have hd := of_decide_eq_false hd
  have : ¬ (x : Int) < 16 := hd
  omega
theorem red1_ltD {n : Nat} (h : n / 256 ^ 16 < 1073741825) : red1 n < 1361129467683753853853498429727072845824 + 1342177285 := by
  rw [p16] at h
  unfold red1
  omega
/-- one round: both passes -/
theorem roundD {l y2 : List UInt32} {y1 c : UInt32} (hl : l.length = 17) (hs : small l 536870912)
    (h1 : y1 = UInt32.ofNat (((UInt32.ofNat 0).toNat + pv l 16) / 256 ^ 16) + (digs ((UInt32.ofNat 0).toNat + pv l 16) 16 ++ drop 16 l).getD 16 0)
    (h2 : y2 = (digs ((UInt32.ofNat 0).toNat + pv l 16) 16 ++ drop 16 l).set 16 (y1 &&& UInt32.ofNat 3))
    (hc : c = UInt32.ofNat 5 * shr32 y1 2) :
    y2.length = 17 ∧ small y2 536870912 ∧ c.toNat + 2 * 1024 ≤ 4294967296 ∧ small y2 1024 ∧
    ∀ y3, (y3 = (digs (c.toNat + pv y2 16) 16 ++ drop 16 y2).set 16 ((digs (c.toNat + pv y2 16) 16 ++ drop 16 y2).getD 16 0 + UInt32.ofNat ((c.toNat + pv y2 16) / 256 ^ 16)) → y3 = d17 (red1 (valD l)) ∧ red1 (valD l) < 1361129467683753853853498429727072845824 + 1342177285) := by
  obtain ⟨t1, t2, t3⟩ := top_eq hl hs
  have e0 : (UInt32.ofNat 0).toNat = 0 := rfl
  rw [e0] at h1 h2
  rw [← h1] at t1
  rw [set16 hl, t3] at h2
  obtain ⟨f1, f2, f3, f4, f5⟩ := round_fin t1 t2 h2
  have hsm : small y2 1024 := by
    intro x hx
    rw [h2] at hx
    rcases List.mem_append.1 hx with g | g
    · exact Nat.lt_of_lt_of_le (digs_small _ 16 x g) (by decide)
    · rw [List.mem_singleton] at g
      rw [g, and3d]; omega
  rw [hc, f1]
  refine ⟨f2, f3, by omega, hsm, fun y3 h3 => ⟨by rw [h3, f4], red1_ltD t2⟩⟩
set_option maxRecDepth 100000 in
theorem conReducedD : Con Try.prog 41 gReducedD := con_of_vcl fun args ps res h hp hlen => by
  unfold gReducedD at h
  split at h <;> cases h
  rename_i a
  have la : a.length = 17 := hlen.1.1
  have sa := (all_cons.1 hp).1
  refine ⟨PFr, 200, rfl, eok (gs := []) trivial, ?_⟩
  rw [vcReducedD a]
  intro y hy
  refine ⟨cInit, fun x hx => ⟨fun hd => cBody la sa (by decide) (by rw [hy]; decide) hd, fun hd => ?_⟩⟩
  obtain rfl := x16 hx hd
  intro y1 h1 y2 h2 c hc
  subst hy
  obtain ⟨g1, g2, g3, g4, g5⟩ := roundD la sa h1 h2 hc
  refine ⟨cInit, fun x hx => ⟨fun hd => cBody g1 g4 (by decide) g3 hd, fun hd => ?_⟩⟩
  obtain rfl := x16 hx hd
  intro y3 h3 z hz
  obtain ⟨k1, k2⟩ := g5 _ h3
  have l3 : y3.length = 17 := by rw [k1, d17_len]
  have s3 : small y3 536870912 := by rw [k1]; exact small_mono (d17_small (by omega)) (by decide)
  have v3 : valD y3 = red1 (valD a) := by rw [k1, d17_val (by omega)]
  refine ⟨cInit, fun x hx => ⟨fun hd => cBody l3 s3 (by decide) (by rw [hz]; decide) hd, fun hd => ?_⟩⟩
  obtain rfl := x16 hx hd
  intro y4 h4 y5 h5 c2 hc2
  subst hz
  obtain ⟨m1, m2, m3, m4, m5⟩ := roundD l3 s3 h4 h5 hc2
  refine ⟨cInit, fun x hx => ⟨fun hd => cBody m1 m4 (by decide) m3 hd, fun hd => ?_⟩⟩
  obtain rfl := x16 hx hd
  intro y6 h6 y7 h7
  obtain ⟨n1, n2⟩ := m5 _ h6
  exact ⟨by rw [h7, n1, v3], trivial⟩
end Go.Proofs.Ytcfkgodidnhbdaa
