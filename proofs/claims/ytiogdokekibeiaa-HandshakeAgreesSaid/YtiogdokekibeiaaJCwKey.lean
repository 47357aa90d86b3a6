/- Steps towards HandshakeAgreesSaid. -/
import Derived.Test.YtiogdokekibeiaaJCwPrm
import Derived.Test.YtiogdokekibeiaaJCulVc
import Derived.Test.YtiogdokekibeiaaJCuvVal
/- A step towards HandshakeAgreesSaid: no conditions. -/
/-! keys agree -/
namespace Go.Ed
open Go Go.Eng Go.Cod Go.Pol Go.Cur
theorem k_mul (x y : Nat) : mkK (fm x y) = mkK x * mkK y := by
  apply Fin.ext
  rw [val_mul, mkK_val, mkK_val, mkK_val, fm, Nat.mod_mod, Nat.mul_mod]
theorem k_add (x y : Nat) : mkK (fa x y) = mkK x + mkK y := by
  apply Fin.ext
  rw [Fin.val_add, mkK_val, mkK_val, mkK_val, fa, Nat.mod_mod, Nat.add_mod]
theorem k_sub {x y : Nat} (h : y < PP) : mkK (fs x y) = mkK x - mkK y := by
  have e : mkK (fs x y) + mkK y = mkK x := by
    apply Fin.ext
    rw [Fin.val_add, mkK_val, mkK_val, mkK_val, fs, Nat.mod_mod, ← Nat.add_mod, Nat.sub_add_cancel (by omega), Nat.mul_comm, Nat.add_mul_mod_self_left]
  rw [← e]; grind -lia -linarith
theorem fm_lt' (x y : Nat) : fm x y < PP := Nat.mod_lt _ (by decide)
theorem fa_lt' (x y : Nat) : fa x y < PP := Nat.mod_lt _ (by decide)
theorem fs_lt' (x y : Nat) : fs x y < PP := Nat.mod_lt _ (by decide)
def RepN (X Z : Nat) (p : Pt) : Prop := Z < PP ∧ Rep (mkK X) (mkK Z) p
/-! one step -/
theorem st_dbl {x1 : Nat} {k : UInt8} {l : LN} {p : Pt} (hp : On p) (h : RepN l.x2 l.z2 p) : RepN (stN x1 k l).x2 (stN x1 k l).z2 (add p p) := by
  obtain ⟨hz, h⟩ := h
  refine ⟨fm_lt' _ _, ?_⟩
  have r := rep_dbl hp h
  have e1 : mkK (fm (fa l.x2 l.z2) (fa l.x2 l.z2)) = (mkK l.x2 + mkK l.z2) * (mkK l.x2 + mkK l.z2) := by rw [k_mul, k_add]
  have e2 : mkK (fm (fs l.x2 l.z2) (fs l.x2 l.z2)) = (mkK l.x2 - mkK l.z2) * (mkK l.x2 - mkK l.z2) := by rw [k_mul, k_sub hz]
  show Rep (mkK (fm (fm (fa l.x2 l.z2) (fa l.x2 l.z2)) (fm (fs l.x2 l.z2) (fs l.x2 l.z2)))) (mkK (fm (fa (fm (fs (fm (fa l.x2 l.z2) (fa l.x2 l.z2)) (fm (fs l.x2 l.z2) (fs l.x2 l.z2))) 121665) (fm (fa l.x2 l.z2) (fa l.x2 l.z2))) (fs (fm (fa l.x2 l.z2) (fa l.x2 l.z2)) (fm (fs l.x2 l.z2) (fs l.x2 l.z2))))) (add p p)
  have b2 := fm_lt' (fs l.x2 l.z2) (fs l.x2 l.z2)
  generalize fm (fa l.x2 l.z2) (fa l.x2 l.z2) = A at *
  generalize fm (fs l.x2 l.z2) (fs l.x2 l.z2) = B at *
  have e3 : mkK 121665 = 121665 := rfl
  rw [k_mul A B, k_mul (fa (fm (fs A B) 121665) A) (fs A B), k_add, k_mul (fs A B) 121665, k_sub b2, e1, e2, e3]
  exact r
theorem st_dif {x1 : Nat} {k : UInt8} {l : LN} {a b q : Pt} (ha : On a) (hb : On b) (hq1 : q.y * (1 + tt a b) = a.y * b.y + a.x * b.x) (hu : mkK x1 * (1 - q.y) = 1 + q.y) (hn : 1 + q.y ≠ 0) (h : RepN l.x2 l.z2 a) (h' : RepN l.x3 l.z3 b) :
    RepN (stN x1 k l).x3 (stN x1 k l).z3 (add a b) := by
  obtain ⟨hz, h⟩ := h
  obtain ⟨hz', h'⟩ := h'
  refine ⟨fm_lt' _ _, ?_⟩
  have r := rep_dif ha hb hq1 hu hn h h'
  have e1 : mkK (fm (fs l.x3 l.z3) (fa l.x2 l.z2)) = (mkK l.x3 - mkK l.z3) * (mkK l.x2 + mkK l.z2) := by rw [k_mul, k_sub hz', k_add]
  have e2 : mkK (fm (fa l.x3 l.z3) (fs l.x2 l.z2)) = (mkK l.x3 + mkK l.z3) * (mkK l.x2 - mkK l.z2) := by rw [k_mul, k_sub hz, k_add]
  show Rep (mkK (fm (fa (fm (fs l.x3 l.z3) (fa l.x2 l.z2)) (fm (fa l.x3 l.z3) (fs l.x2 l.z2))) (fa (fm (fs l.x3 l.z3) (fa l.x2 l.z2)) (fm (fa l.x3 l.z3) (fs l.x2 l.z2))))) (mkK (fm (fm (fs (fm (fs l.x3 l.z3) (fa l.x2 l.z2)) (fm (fa l.x3 l.z3) (fs l.x2 l.z2))) (fs (fm (fs l.x3 l.z3) (fa l.x2 l.z2)) (fm (fa l.x3 l.z3) (fs l.x2 l.z2)))) x1)) (add a b)
  rw [k_mul, k_mul, k_mul, k_add, k_sub (fm_lt' _ _), e1, e2]
  exact r
/-- the number of a point by its difference -/
theorem dif_y {a b q : Pt} (ha : On a) (hb : On b) (hq : On q) (h : b = add a q) : q.y * (1 + tt a b) = a.y * b.y + a.x * b.x := by
  have e : add (neg a) b = q := by rw [h, ← add_assoc (on_neg ha) ha hq, neg_add ha, O_add]
  have i := iv_mul (cpl_sub (on_neg ha) hb)
  have ht : 1 - tt (neg a) b = 1 + tt a b := by unfold tt neg; simp only; grind -lia -linarith
  have hy : q.y = ((neg a).y * b.y - (neg a).x * b.x) * iv (1 - tt (neg a) b) := by rw [← e]; rfl
  rw [ht] at i hy
  rw [hy]
  have h2 : (neg a).y * b.y - (neg a).x * b.x = a.y * b.y + a.x * b.x := by unfold neg; simp only; grind -lia -linarith
  rw [h2]
  have h3 : (a.y * b.y + a.x * b.x) * iv (1 + tt a b) * (1 + tt a b) = (a.y * b.y + a.x * b.x) * ((1 + tt a b) * iv (1 + tt a b)) := by grind -lia -linarith
  rw [h3, i]; grind -lia -linarith
theorem dif_y2 {a b q : Pt} (ha : On a) (hb : On b) (hq : On q) (h : b = add a q) : q.y * (1 + tt b a) = b.y * a.y + b.x * a.x := by
  have e := dif_y ha hb hq h
  have ht : tt b a = tt a b := by unfold tt; grind -lia -linarith
  rw [ht, e]; grind -lia -linarith
theorem bit01 (n : List UInt8) (t : Nat) : bitL n t = 0 ∨ bitL n t = 1 := by
  unfold bitL
  generalize shr8 (n.getD (t / 8) 0) (t % 8) = x
  have h : (x &&& UInt8.ofNat 1).toNat = x.toNat % 2 := by rw [UInt8.toNat_and]; exact Nat.and_one_is_mod _
  have : x.toNat % 2 = 0 ∨ x.toNat % 2 = 1 := by omega
  rcases this with c | c
  · left; apply UInt8.toNat_inj.1; rw [h, c]; rfl
  · right; apply UInt8.toNat_inj.1; rw [h, c]; rfl
def numB (n : List UInt8) : Nat → Nat
  | 0 => 0
  | i + 1 => 2 * numB n i + (bitL n (254 - i)).toNat
def Inv (Q : Pt) (l : LN) (N : Nat) : Prop :=
  (l.last = 0 ∧ RepN l.x2 l.z2 (mul N Q) ∧ RepN l.x3 l.z3 (mul (N + 1) Q)) ∨ (l.last = 1 ∧ RepN l.x2 l.z2 (mul (N + 1) Q) ∧ RepN l.x3 l.z3 (mul N Q))
theorem sw_inv {Q : Pt} {l : LN} {N : Nat} {k : UInt8} (h : Inv Q l N) (hk : k = 0 ∨ k = 1) :
    (k = 0 ∧ RepN (swN k l).x2 (swN k l).z2 (mul N Q) ∧ RepN (swN k l).x3 (swN k l).z3 (mul (N + 1) Q)) ∨ (k = 1 ∧ RepN (swN k l).x2 (swN k l).z2 (mul (N + 1) Q) ∧ RepN (swN k l).x3 (swN k l).z3 (mul N Q)) := by
  rcases h with ⟨hl, h1, h2⟩ | ⟨hl, h1, h2⟩ <;> rcases hk with rfl | rfl
  · left; unfold swN; rw [hl, if_pos rfl]; exact ⟨rfl, h1, h2⟩
  · right; unfold swN; rw [hl, if_neg (by decide)]; exact ⟨rfl, h2, h1⟩
  · left; unfold swN; rw [hl, if_neg (by decide)]; exact ⟨rfl, h2, h1⟩
  · right; unfold swN; rw [hl, if_pos rfl]; exact ⟨rfl, h1, h2⟩
theorem st_inv {Q : Pt} (hQ : On Q) {x1 : Nat} (hu : mkK x1 * (1 - Q.y) = 1 + Q.y) (hn : 1 + Q.y ≠ 0) {l : LN} {N : Nat} {k : UInt8} (h : Inv Q l N) (hk : k = 0 ∨ k = 1) : Inv Q (stN x1 k (swN k l)) (2 * N + k.toNat) := by
  have o0 := on_mul hQ N
  have o1 := on_mul hQ (N + 1)
  have hs : mul (N + 1) Q = add (mul N Q) Q := mul_succ N Q
  have a01 : add (mul N Q) (mul (N + 1) Q) = mul (2 * N + 1) Q := by rw [← mul_add hQ]; congr 1; omega
  have a10 : add (mul (N + 1) Q) (mul N Q) = mul (2 * N + 1) Q := by rw [← mul_add hQ]; congr 1; omega
  have a00 : add (mul N Q) (mul N Q) = mul (2 * N) Q := by rw [← mul_add hQ]; congr 1; omega
  have a11 : add (mul (N + 1) Q) (mul (N + 1) Q) = mul (2 * N + 1 + 1) Q := by rw [← mul_add hQ]; congr 1; omega
  rcases sw_inv h hk with ⟨rfl, h1, h2⟩ | ⟨rfl, h1, h2⟩
  · left
    refine ⟨rfl, ?_, ?_⟩
    · have := st_dbl (x1 := x1) (k := 0) o0 h1
      rw [a00] at this
      exact this
    · have := st_dif (x1 := x1) (k := 0) o0 o1 (dif_y o0 o1 hQ hs) hu hn h1 h2
      rw [a01] at this
      exact this
  · right
    refine ⟨rfl, ?_, ?_⟩
    · have := st_dbl (x1 := x1) (k := 1) o1 h1
      rw [a11] at this
      exact this
    · have := st_dif (x1 := x1) (k := 1) o1 o0 (dif_y2 o0 o1 hQ hs) hu hn h1 h2
      rw [a10] at this
      exact this
theorem lad_inv {Q : Pt} (hQ : On Q) {x1 : Nat} (hx : x1 < PP) (hu : mkK x1 * (1 - Q.y) = 1 + Q.y) (hn : 1 + Q.y ≠ 0) (hn' : 1 - Q.y ≠ 0) (n : List UInt8) : ∀ i, Inv Q (ladN n x1 i) (numB n i)
  | 0 => by
    left
    refine ⟨rfl, ⟨show 0 < PP by decide, ?_⟩, ⟨show 1 < PP by decide, ?_⟩⟩
    · have i2 := iv_mul two_ne
      refine ⟨iv 2, iv_ne two_ne, ?_, ?_⟩
      · show mkK 1 = iv 2 * (1 + 1)
        have : mkK 1 = 1 := rfl
        rw [this]; grind -lia -linarith
      · show mkK 0 = iv 2 * (1 - 1)
        have : mkK 0 = 0 := rfl
        rw [this]; grind -lia -linarith
    · have i1 := iv_mul hn'
      have e : mul (0 + 1) Q = Q := by rw [mul_succ, mul_zero, O_add]
      have e' : mul (numB n 0 + 1) Q = Q := e
      rw [e']
      refine ⟨iv (1 - Q.y), iv_ne hn', ?_, ?_⟩
      · show mkK x1 = iv (1 - Q.y) * (1 + Q.y)
        rw [← hu]
        have : iv (1 - Q.y) * (mkK x1 * (1 - Q.y)) = mkK x1 * ((1 - Q.y) * iv (1 - Q.y)) := by grind -lia -linarith
        rw [this, i1]; grind -lia -linarith
      · show mkK 1 = iv (1 - Q.y) * (1 - Q.y)
        have h1 : mkK 1 = 1 := rfl
        have h2 : iv (1 - Q.y) * (1 - Q.y) = (1 - Q.y) * iv (1 - Q.y) := by grind -lia -linarith
        rw [h1, h2, i1]
  | i + 1 => by
    rw [ladN, numB]
    exact st_inv hQ hu hn (lad_inv hQ hx hu hn hn' n i) (bit01 n _)
/-! the last power -/
noncomputable def ex (n : Nat) : Nat := Nat.rec (motive := fun _ => Nat) 0 (fun n e => if (254 - n = 2 ∨ 254 - n = 4) then 2 * e else 2 * e + 1) n
theorem ex_succ (n : Nat) : ex (n + 1) = if (254 - n = 2 ∨ 254 - n = 4) then 2 * ex n else 2 * ex n + 1 := rfl
theorem ex_end : ex 255 = EX := by decide +kernel
theorem powN_eq (a : Nat) : ∀ n, powN a n = a ^ ex n % PP
  | 0 => rfl
  | n + 1 => by
    rw [powN, ex_succ, powN_eq a n]
    split
    · rw [fm, ← Nat.mul_mod, Nat.two_mul, Nat.pow_add]
    · rw [fm, fm, Nat.pow_succ, Nat.two_mul, Nat.pow_add, ← Nat.mul_mod, Nat.mod_mul_mod]
theorem powN_iv (Z : Nat) : mkK (powN Z 255) = iv (mkK Z) := by
  rw [powN_eq, ex_end]
  apply Fin.ext
  rw [iv, mkK_val, mkK_val, mkK_val, Nat.mod_mod]
  exact Nat.pow_mod Z EX PP
theorem end_val {X Z : Nat} {p : Pt} (h : RepN X Z p) : fm X (powN Z 255) = (U p).val := by
  have e : mkK (fm X (powN Z 255)) = U p := by rw [k_mul, powN_iv]; exact rep_end h.2
  rw [← e, mkK_val, Nat.mod_eq_of_lt (fm_lt' _ _)]
def numS (s : List UInt8) : Nat := numB (clampL s) 255
theorem key_main {Q : Pt} (hQ : On Q) {x1 : Nat} (hx : x1 < PP) (hu : mkK x1 * (1 - Q.y) = 1 + Q.y) (hn : 1 + Q.y ≠ 0) (hn' : 1 - Q.y ≠ 0) (s : List UInt8) : keyN s x1 = (U (mul (numS s) Q)).val := by
  unfold keyN endN
  rcases lad_inv hQ hx hu hn hn' (clampL s) 255 with ⟨hl, h1, h2⟩ | ⟨hl, h1, h2⟩
  · rw [hl, if_neg (by decide)]
    exact end_val h1
  · rw [hl, if_pos (by decide)]
    exact end_val h2
/-! a point of zero -/
theorem fm_z (x : Nat) : fm x 0 = 0 := by unfold fm; rw [Nat.mul_zero]; rfl
theorem fs_s {x : Nat} : fs x x = 0 := by
  unfold fs
  rw [Nat.add_sub_cancel_left]; rfl
theorem st_z (k : UInt8) (l : LN) (h : l.z2 = 0) : (stN 0 k l).z2 = 0 ∧ (stN 0 k l).z3 = 0 := by
  refine ⟨?_, fm_z _⟩
  have e : fm (fa l.x2 l.z2) (fa l.x2 l.z2) = fm (fs l.x2 l.z2) (fs l.x2 l.z2) := by
    rw [h]
    unfold fm fa fs
    have : (l.x2 + 2 * PP - 0) % PP = (l.x2 + 0) % PP := by simp only [PP]; omega
    rw [this]
  show fm _ (fs (fm (fa l.x2 l.z2) (fa l.x2 l.z2)) (fm (fs l.x2 l.z2) (fs l.x2 l.z2))) = 0
  rw [e, fs_s, fm_z]
theorem first_z (k : UInt8) : (stN 0 k ⟨1, 0, 0, 1, 0⟩).z2 = 0 ∧ (stN 0 k ⟨0, 1, 1, 0, 0⟩).z2 = 0 := ⟨by show fm _ _ = 0; decide +kernel, by show fm _ _ = 0; decide +kernel⟩
theorem lad_z (n : List UInt8) : ∀ i, (ladN n 0 (i + 1)).z2 = 0 ∧ (ladN n 0 (i + 1)).z3 = 0
  | 0 => by
    rw [ladN]
    refine ⟨?_, fm_z _⟩
    unfold swN
    split
    · exact (first_z _).1
    · exact (first_z _).2
  | i + 1 => by
    obtain ⟨h1, h2⟩ := lad_z n i
    rw [ladN]
    apply st_z
    unfold swN
    split
    · exact h1
    · exact h2
theorem pow_z : powN 0 255 = 0 := by
  rw [powN, if_neg (by decide)]
  exact fm_z _
theorem keyN_z (s : List UInt8) : keyN s 0 = 0 := by
  obtain ⟨h1, h2⟩ := lad_z (clampL s) 254
  unfold keyN endN
  split
  · rw [h2, pow_z, fm_z]
  · rw [h1, pow_z, fm_z]
theorem x_zero {p : Pt} (hp : On p) (hy : p.y * p.y = 1) : p.x = 0 := by
  unfold On at hp
  rw [hy] at hp
  have h1 : p.x * (p.x * (1 - dd)) = 0 := by grind -lia -linarith
  rcases mul_zero_or h1 with h | h
  · exact h
  · exact (mul_zero_or h).resolve_right (by decide +kernel)
theorem mul_pole {p : Pt} (hp : On p) (hy : p.y * p.y = 1) : ∀ n, (mul n p).y * (mul n p).y = 1
  | 0 => by rw [mul_zero]; unfold O; simp only; grind -lia -linarith
  | n + 1 => by
    have ih := mul_pole hp hy n
    have x0 := x_zero hp hy
    have t : tt (mul n p) p = 0 := by unfold tt; rw [x0]; grind -lia -linarith
    rw [mul_succ]
    unfold add
    simp only
    rw [t, x0, show (1 : K) - 0 = 1 by grind -lia -linarith, iv_one]
    grind -lia -linarith
theorem U_pole {p : Pt} (hy : p.y * p.y = 1) : U p = 0 := by
  have h : (1 + p.y) * (1 - p.y) = 0 := by grind -lia -linarith
  unfold U
  rcases mul_zero_or h with h | h
  · rw [h]; grind -lia -linarith
  · rw [h, iv_zero]; grind -lia -linarith
/-- the ladder gives the number of the multiple -/
theorem key_mul {Q : Pt} (hQ : On Q) (s : List UInt8) : keyN s (U Q).val = (U (mul (numS s) Q)).val := by
  by_cases c1 : 1 + Q.y = 0
  · have hy : Q.y * Q.y = 1 := by grind -lia -linarith
    rw [U_pole hy, U_pole (mul_pole hQ hy _)]
    exact keyN_z s
  by_cases c2 : 1 - Q.y = 0
  · have hy : Q.y * Q.y = 1 := by grind -lia -linarith
    rw [U_pole hy, U_pole (mul_pole hQ hy _)]
    exact keyN_z s
  refine key_main hQ (U Q).isLt ?_ c1 c2 s
  have e : mkK (U Q).val = U Q := Fin.ext (by rw [mkK_val, Nat.mod_eq_of_lt (U Q).isLt])
  rw [e, U]
  have i := iv_mul c2
  have : (1 + Q.y) * iv (1 - Q.y) * (1 - Q.y) = (1 + Q.y) * ((1 - Q.y) * iv (1 - Q.y)) := by grind -lia -linarith
  rw [this, i]; grind -lia -linarith
/-- the base point -/
def B : Pt := ⟨⟨9771384041963202563870679428059935816164187996444183106833894008023910952347, by decide⟩, ⟨46316835694926478169428394003475163141307993866256225615783033603165251855960, by decide⟩⟩
theorem on_B : On B := by unfold On; decide +kernel
theorem ne_B : (1 : K) - B.y ≠ 0 := by decide +kernel
theorem nine_B : (9 : K) * (1 - B.y) = 1 + B.y := by decide +kernel
theorem U_B : U B = 9 := by
  have i := iv_mul ne_B
  rw [U, ← nine_B]
  have : (9 : K) * (1 - B.y) * iv (1 - B.y) = 9 * ((1 - B.y) * iv (1 - B.y)) := by grind -lia -linarith
  rw [this, i]; grind -lia -linarith
theorem U_Bv : (U B).val = 9 := by rw [U_B]; rfl
/-- both ways one key -/
theorem key_agree (a b : List UInt8) : keyN a (keyN b 9) = keyN b (keyN a 9) := by
  have e1 := key_mul on_B a
  have e2 := key_mul on_B b
  rw [U_Bv] at e1 e2
  rw [e1, e2, key_mul (on_mul on_B _), key_mul (on_mul on_B _), mul_comm on_B]
end Go.Ed

/- A step towards HandshakeAgreesSaid: no conditions. -/
/-! keys of 32 bytes agree -/
namespace Go.Ed
open Go Go.Eng Go.Cod Go.Pol Go.Cur
theorem keyN_lt (s : List UInt8) (x : Nat) : keyN s x < PP := by
  unfold keyN endN
  split <;> exact fm_lt' _ _
theorem nine_val : natL nineL % 57896044618658097711785492504343953926634992332820282019728792003956564819968 % PP = 9 := by decide +kernel
theorem pub_val (b : List UInt8) : keyL b nineL = outN (keyN b 9) := by rw [key_val rfl, nine_val]
theorem two_val (a b : List UInt8) : keyL a (keyL b nineL) = outN (keyN a (keyN b 9)) := by
  have h := keyN_lt b 9
  rw [pub_val, key_val (outN_len _)]
  have e : natL (outN (keyN b 9)) = keyN b 9 := outN_nat (Nat.lt_trans h (by decide))
  rw [e, Nat.mod_eq_of_lt (Nat.lt_trans h (by decide)), Nat.mod_eq_of_lt h]
theorem keys_agree (a b : List UInt8) : keyL a (keyL b nineL) = keyL b (keyL a nineL) := by
  rw [two_val, two_val, key_agree]
end Go.Ed

/- A step towards HandshakeAgreesSaid: no conditions. -/
namespace Go.Ed
open Go Go.Eng Go.Cur
/-! the order of the base point is prime -/
set_option maxRecDepth 100000
theorem pr_1224481 : Pr 1224481 := pr_small 1224481 1105 rfl (by decide +kernel) (by decide +kernel)
theorem pr_531581 : Pr 531581 := pr_small 531581 728 rfl (by decide +kernel) (by decide +kernel)
theorem pr_l2 : Pr 1257559732178653 := by
  refine pr_pock 1257559732178653 2 650910834461 rfl (by decide +kernel) fun r hr hrn => ?_
  have h1 : Pw 1257559732178653 2 1257559732178652 1 := pw 51 (by decide +kernel) (by decide +kernel)
  have d0 : 1224481 ∣ r - 1 := pock (n := 1257559732178653) (a := 2) (e := 1257559732178652) (k := 1027014492) (c := 1252739704402215) hr hrn pr_1224481 (by decide +kernel) (by decide +kernel) h1 (pw 51 (by decide +kernel) (by decide +kernel)) (by decide +kernel) (by decide +kernel)
  have d1 : 531581 ∣ r - 1 := pock (n := 1257559732178653) (a := 2) (e := 1257559732178652) (k := 2365697292) (c := 1139842034583224) hr hrn pr_531581 (by decide +kernel) (by decide +kernel) h1 (pw 51 (by decide +kernel) (by decide +kernel)) (by decide +kernel) (by decide +kernel)
  exact cop_mul d0 d1 (by decide +kernel)
theorem pr_l3 : Pr 4434155615661930479 := by
  refine pr_pock 4434155615661930479 2 1257559732178653 rfl (by decide +kernel) fun r hr hrn => ?_
  have h1 : Pw 4434155615661930479 2 4434155615661930478 1 := pw 62 (by decide +kernel) (by decide +kernel)
  have d0 : 1257559732178653 ∣ r - 1 := pock (n := 4434155615661930479) (a := 2) (e := 4434155615661930478) (k := 3526) (c := 415787812636281767) hr hrn pr_l2 (by decide +kernel) (by decide +kernel) h1 (pw 62 (by decide +kernel) (by decide +kernel)) (by decide +kernel) (by decide +kernel)
  exact d0
theorem pr_l4 : Pr 172054593956031949258510691 := by
  refine pr_pock 172054593956031949258510691 2 4434155615661930479 rfl (by decide +kernel) fun r hr hrn => ?_
  have h1 : Pw 172054593956031949258510691 2 172054593956031949258510690 1 := pw 88 (by decide +kernel) (by decide +kernel)
  have d0 : 4434155615661930479 ∣ r - 1 := pock (n := 172054593956031949258510691) (a := 2) (e := 172054593956031949258510690) (k := 38802110) (c := 81982237619807054769897707) hr hrn pr_l3 (by decide +kernel) (by decide +kernel) h1 (pw 88 (by decide +kernel) (by decide +kernel)) (by decide +kernel) (by decide +kernel)
  exact d0
theorem pr_l5 : Pr 19757330305831588566944191468367130476339 := by
  refine pr_pock 19757330305831588566944191468367130476339 2 172054593956031949258510691 rfl (by decide +kernel) fun r hr hrn => ?_
  have h1 : Pw 19757330305831588566944191468367130476339 2 19757330305831588566944191468367130476338 1 := pw 134 (by decide +kernel) (by decide +kernel)
  have d0 : 172054593956031949258510691 ∣ r - 1 := pock (n := 19757330305831588566944191468367130476339) (a := 2) (e := 19757330305831588566944191468367130476338) (k := 114831751082918) (c := 9148758478138211201771971577098600188172) hr hrn pr_l4 (by decide +kernel) (by decide +kernel) h1 (pw 134 (by decide +kernel) (by decide +kernel)) (by decide +kernel) (by decide +kernel)
  exact d0
theorem pr_l6 : Pr 276602624281642239937218680557139826668747 := by
  refine pr_pock 276602624281642239937218680557139826668747 2 19757330305831588566944191468367130476339 rfl (by decide +kernel) fun r hr hrn => ?_
  have h1 : Pw 276602624281642239937218680557139826668747 2 276602624281642239937218680557139826668746 1 := pw 138 (by decide +kernel) (by decide +kernel)
  have d0 : 19757330305831588566944191468367130476339 ∣ r - 1 := pock (n := 276602624281642239937218680557139826668747) (a := 2) (e := 276602624281642239937218680557139826668746) (k := 14) (c := 16384) hr hrn pr_l5 (by decide +kernel) (by decide +kernel) h1 (pw 138 (by decide +kernel) (by decide +kernel)) (by decide +kernel) (by decide +kernel)
  exact d0
theorem pr_L : Pr 7237005577332262213973186563042994240857116359379907606001950938285454250989 := by
  refine pr_pock 7237005577332262213973186563042994240857116359379907606001950938285454250989 2 276602624281642239937218680557139826668747 rfl (by decide +kernel) fun r hr hrn => ?_
  have h1 : Pw 7237005577332262213973186563042994240857116359379907606001950938285454250989 2 7237005577332262213973186563042994240857116359379907606001950938285454250988 1 := pw 253 (by decide +kernel) (by decide +kernel)
  have d0 : 276602624281642239937218680557139826668747 ∣ r - 1 := pock (n := 7237005577332262213973186563042994240857116359379907606001950938285454250989) (a := 2) (e := 7237005577332262213973186563042994240857116359379907606001950938285454250988) (k := 26163907866482859529727157400808004) (c := 2975531125133123119648879457563281269120703404158613135195788908093573672641) hr hrn pr_l6 (by decide +kernel) (by decide +kernel) h1 (pw 253 (by decide +kernel) (by decide +kernel)) (by decide +kernel) (by decide +kernel)
  exact d0
end Go.Ed

/- A step towards HandshakeAgreesSaid: no conditions. -/
/-! the ladder carried out by the kernel -/
namespace Go.Cur
open Go Go.Eng Go.Cod Go.Pol
noncomputable def frcLN {β : Type} (l : LN) (k : LN → β) : β := frcN l.x2 fun a => frcN l.z2 fun b => frcN l.x3 fun c => frcN l.z3 fun e => k ⟨a, b, c, e, l.last⟩
theorem frcLN_eq {β : Type} (l : LN) (k : LN → β) : frcLN l k = k l := by unfold frcLN; rw [frcN_eq, frcN_eq, frcN_eq, frcN_eq]
noncomputable def ladF {β : Type} (n : List UInt8) (x1 : Nat) (k : LN → β) (i : Nat) : β :=
  Nat.rec (motive := fun _ => (LN → β) → β) (fun k => k ⟨1, 0, x1, 1, 0⟩) (fun i ih k => ih fun l => frcLN (stN x1 (bitL n (254 - i)) (swN (bitL n (254 - i)) l)) k) i k
theorem ladF_succ {β : Type} (n : List UInt8) (x1 : Nat) (i : Nat) (k : LN → β) : ladF n x1 k (Nat.succ i) = ladF n x1 (fun l => frcLN (stN x1 (bitL n (254 - i)) (swN (bitL n (254 - i)) l)) k) i := rfl
theorem ladN_succ (n : List UInt8) (x1 : Nat) (i : Nat) : ladN n x1 (Nat.succ i) = stN x1 (bitL n (254 - i)) (swN (bitL n (254 - i)) (ladN n x1 i)) := by rw [ladN]
theorem ladF_eq {β : Type} (n : List UInt8) (x1 : Nat) (i : Nat) (k : LN → β) : ladF n x1 k i = k (ladN n x1 i) := by
  induction i generalizing k with
  | zero => rfl
  | succ i ih => exact (ladF_succ n x1 i k).trans ((ih _).trans ((frcLN_eq _ k).trans (congrArg k (ladN_succ n x1 i).symm)))
noncomputable def pstF {β : Type} (a : Nat) (n y : Nat) (k : Nat → β) : β := frcN (fm y y) fun z => if (254 - n = 2 ∨ 254 - n = 4) then k z else frcN (fm z a) k
noncomputable def powF {β : Type} (a : Nat) (k : Nat → β) (n : Nat) : β :=
  Nat.rec (motive := fun _ => (Nat → β) → β) (fun k => k 1) (fun n ih k => ih fun y => pstF a n y k) n k
theorem powF_succ {β : Type} (a : Nat) (n : Nat) (k : Nat → β) : powF a k (Nat.succ n) = powF a (fun y => pstF a n y k) n := rfl
theorem pstF_eq {β : Type} (a n y : Nat) (k : Nat → β) : pstF a n y k = k (if (254 - n = 2 ∨ 254 - n = 4) then fm y y else fm (fm y y) a) := by
  unfold pstF
  rw [frcN_eq]
  split
  · rfl
  · rw [frcN_eq]
theorem powF_eq {β : Type} (a : Nat) (n : Nat) (k : Nat → β) : powF a k n = k (powN a n) := by
  induction n generalizing k with
  | zero => rfl
  | succ n ih =>
    refine (powF_succ a n k).trans ((ih _).trans ((pstF_eq a n _ k).trans (congrArg k ?_)))
    rw [powN]
noncomputable def keyF (n : List UInt8) (x : Nat) : List UInt8 := ladF n x (fun l => if l.last = UInt8.ofNat 1 then powF l.z3 (fun y => frcN (fm l.x3 y) outN) 255 else powF l.z2 (fun y => frcN (fm l.x2 y) outN) 255) 255
theorem keyF_eq (s : List UInt8) (x : Nat) : outN (keyN s x) = keyF (clampL s) x := by
  unfold keyF keyN endN
  rw [ladF_eq]
  split
  · rw [powF_eq, frcN_eq]
  · rw [powF_eq, frcN_eq]
end Go.Cur
