/- Steps towards HandshakeAgreesSaid. -/
import Derived.Test.YtiogdokekibeiaaJCwKey
import Derived.Test.YtiogdokekibeiaaJCulVc
import Derived.Test.YtiogdokekibeiaaJHanCon
/- A step towards HandshakeAgreesSaid: no conditions. -/
/-! no key of two sides is zero -/
namespace Go.Ed
open Go Go.Eng Go.Cod Go.Pol Go.Cur
def ordS : List UInt8 := [237, 211, 245, 92, 26, 99, 18, 88, 214, 156, 247, 162, 222, 249, 222, 20, 0, 0, 0, 0, 0, 0, 0, 0, 0, 0, 0, 0, 0, 0, 0, 16]
set_option maxRecDepth 100000
def LL : Nat := 7237005577332262213973186563042994240857116359379907606001950938285454250989
theorem pr_LL : Pr LL := pr_L
noncomputable def numF (n : List UInt8) (i : Nat) : Nat := Nat.rec (motive := fun _ => Nat) 0 (fun i a => 2 * a + (bitL n (254 - i)).toNat) i
theorem numF_eq (n : List UInt8) : ∀ i, numF n i = numB n i
  | 0 => rfl
  | i + 1 => by rw [numB, ← numF_eq n i]; rfl
theorem ord_num : numB ordS 255 = LL := by
  rw [← numF_eq]; decide +kernel
theorem ord_lad : (ladN ordS 9 255).last = 1 ∧ (ladN ordS 9 255).z3 = 0 := by
  have h : ladF ordS 9 (fun l => frcN l.z3 fun z => Nat.beq z 0 && Nat.beq l.last.toNat 1) 255 = true := by decide +kernel
  rw [ladF_eq, frcN_eq, Bool.and_eq_true] at h
  exact ⟨UInt8.toNat_inj.1 (Nat.eq_of_beq_eq_true h.2), Nat.eq_of_beq_eq_true h.1⟩
theorem pole_of {p : Pt} (hp : On p) (h : (1 : K) - p.y = 0) : p = O := by
  have hy : p.y = 1 := by grind -lia -linarith
  have hx := x_zero hp (by rw [hy]; grind -lia -linarith)
  exact pt_ext hx hy
theorem nine_lt : 9 < PP := by decide
theorem B_n1 : (1 : K) + B.y ≠ 0 := by decide +kernel
theorem nine_u : mkK 9 * (1 - B.y) = 1 + B.y := by decide +kernel
theorem ord_B : mul LL B = O := by
  have h := lad_inv on_B nine_lt nine_u B_n1 ne_B ordS 255
  rw [ord_num] at h
  obtain ⟨h0, hz⟩ := ord_lad
  rcases h with ⟨h1, _⟩ | ⟨_, _, ⟨_, c, hc, _, e⟩⟩
  · rw [h0] at h1; exact absurd h1 (by decide)
  · rw [hz] at e
    refine pole_of (on_mul on_B LL) ?_
    have e0 : mkK 0 = 0 := rfl
    rw [e0] at e
    exact (mul_zero_or e.symm).resolve_left hc
theorem mul_O : ∀ n, mul n O = O
  | 0 => rfl
  | n + 1 => by rw [mul_succ, mul_O n, add_O]
theorem mul_gcd (p : Pt) (hp : On p) (m n : Nat) : mul m p = O → mul n p = O → mul (Nat.gcd m n) p = O := by
  refine Nat.gcd.induction (P := fun m n => mul m p = O → mul n p = O → mul (Nat.gcd m n) p = O) m n ?_ ?_
  · intro n _ h
    rw [Nat.gcd_zero_left]; exact h
  · intro m n hm ih h1 h2
    rw [Nat.gcd_rec]
    refine ih ?_ h1
    have e : mul n p = add (mul (n / m) (mul m p)) (mul (n % m) p) := by
      rw [← mul_mul hp, ← mul_add hp, Nat.mul_comm, Nat.div_add_mod]
    rw [h1, mul_O, O_add] at e
    rw [← e]; exact h2
theorem dbl_pole {p : Pt} (hp : On p) (hy : p.y * p.y = 1) : add p p = O := by
  have x0 := x_zero hp hy
  have t : tt p p = 0 := by unfold tt; rw [x0]; grind -lia -linarith
  unfold add
  rw [t, x0, show (1 : K) - 0 = 1 by grind -lia -linarith, iv_one]
  exact pt_ext (by unfold O; simp only; grind -lia -linarith) (by unfold O; simp only; grind -lia -linarith)
theorem U_zero {p : Pt} (h : U p = 0) : p.y * p.y = 1 := by
  unfold U at h
  rcases mul_zero_or h with h | h
  · grind -lia -linarith
  · by_cases c : (1 : K) - p.y = 0
    · grind -lia -linarith
    · exact absurd h (iv_ne c)
theorem B_ne : B ≠ O := fun h => absurd (congrArg Pt.x h) (by decide +kernel)
/-- a multiple that is not one of the order is not at a pole -/
theorem U_ne {n : Nat} (h : ¬ LL ∣ n) : U (mul n B) ≠ 0 := by
  intro e
  have hp := on_mul on_B n
  have h2 : mul (n + n) B = O := by rw [mul_add on_B]; exact dbl_pole hp (U_zero e)
  have g := mul_gcd B on_B LL (n + n) ord_B h2
  have c : Nat.gcd LL (n + n) = 1 := pr_LL.cop fun hd => by
    rw [← Nat.two_mul] at hd
    rcases pr_LL.dvd_mul hd with d | d
    · exact absurd (Nat.le_of_dvd (by decide) d) (by decide)
    · exact h d
  rw [c, mul_succ, mul_zero, O_add] at g
  exact B_ne g
/-! the number of a clamped scalar -/
theorem bit_low : ∀ x, x < 256 → ∀ t, t < 3 → (x &&& 248) >>> t % 2 = 0 := by decide +kernel
theorem bit_high : ∀ x, x < 256 → ((x &&& 127) ||| 64) >>> 6 % 2 = 1 := by decide +kernel
theorem bitL_val (n : List UInt8) (t : Nat) (h : t % 8 < 8) : (bitL n t).toNat = (n.getD (t / 8) 0).toNat >>> (t % 8) % 2 := by
  unfold bitL shr8
  rw [UInt8.toNat_and]
  exact Nat.and_one_is_mod _
theorem numB_lt (n : List UInt8) : ∀ i, numB n i < 2 ^ i
  | 0 => show 0 < 1 by decide
  | i + 1 => by
    have ih := numB_lt n i
    rw [numB, Nat.pow_succ]
    rcases bit01 n (254 - i) with h | h <;> rw [h]
    · have : (0 : UInt8).toNat = 0 := rfl
      omega
    · have : (1 : UInt8).toNat = 1 := rfl
      omega
theorem numB_ge (n : List UInt8) (h : bitL n 254 = 1) : ∀ i, 2 ^ i ≤ numB n (i + 1)
  | 0 => by rw [numB, numB, h]; decide
  | i + 1 => by
    have ih := numB_ge n h i
    have e : numB n (i + 1 + 1) = 2 * numB n (i + 1) + (bitL n (254 - (i + 1))).toNat := rfl
    rw [e, Nat.pow_succ]
    omega
theorem cl_low {s : List UInt8} (hs : s.length = 32) : (clampL s).getD 0 0 = s.getD 0 0 &&& UInt8.ofNat 248 := by
  match s, hs with
  | a :: r, hs => rfl
theorem cl_high {s : List UInt8} (hs : s.length = 32) : (clampL s).getD 31 0 = (s.getD 31 0 &&& UInt8.ofNat 127) ||| UInt8.ofNat 64 := by
  unfold clampL
  rw [List.getD_eq_getElem?_getD, List.getElem?_set_self (by rw [List.length_set]; omega)]
  rfl
theorem num_form {s : List UInt8} (hs : s.length = 32) : ∃ k, numS s = 8 * k ∧ 0 < k ∧ k < 2 ^ 252 := by
  have low : ∀ t, t < 3 → bitL (clampL s) t = 0 := fun t ht => by
    apply UInt8.toNat_inj.1
    rw [bitL_val _ _ (by omega), show t / 8 = 0 by omega, show t % 8 = t by omega, cl_low hs, UInt8.toNat_and]
    exact bit_low _ (UInt8.toNat_lt _) t ht
  have high : bitL (clampL s) 254 = 1 := by
    apply UInt8.toNat_inj.1
    rw [bitL_val _ _ (by omega), show 254 / 8 = 31 from rfl, show 254 % 8 = 6 from rfl, cl_high hs, UInt8.toNat_or, UInt8.toNat_and]
    exact bit_high _ (UInt8.toNat_lt _)
  have e1 : numB (clampL s) 255 = 2 * numB (clampL s) 254 + (bitL (clampL s) 0).toNat := rfl
  have e2 : numB (clampL s) 254 = 2 * numB (clampL s) 253 + (bitL (clampL s) 1).toNat := rfl
  have e3 : numB (clampL s) 253 = 2 * numB (clampL s) 252 + (bitL (clampL s) 2).toNat := rfl
  rw [low 0 (by omega)] at e1
  rw [low 1 (by omega)] at e2
  rw [low 2 (by omega)] at e3
  have z : (0 : UInt8).toNat = 0 := rfl
  have g := numB_ge (clampL s) high 251
  have g' : 2 ^ 251 ≤ numB (clampL s) 252 := g
  have l := numB_lt (clampL s) 252
  refine ⟨numB (clampL s) 252, ?_, Nat.lt_of_lt_of_le (by decide) g', l⟩
  unfold numS
  omega
theorem num_ndvd {s : List UInt8} (hs : s.length = 32) : ¬ LL ∣ numS s := by
  obtain ⟨k, e, h0, h1⟩ := num_form hs
  rw [e]
  intro hd
  rcases pr_LL.dvd_mul hd with d | d
  · exact absurd (Nat.le_of_dvd (by decide) d) (by decide)
  · have := Nat.le_of_dvd h0 d
    exact absurd (Nat.lt_of_le_of_lt this h1) (by decide)
theorem key_ne {s t : List UInt8} (hs : s.length = 32) (ht : t.length = 32) : keyN s (keyN t 9) ≠ 0 := by
  have e := key_mul on_B t
  rw [U_Bv] at e
  rw [e, key_mul (on_mul on_B _), ← mul_mul on_B]
  intro h
  refine U_ne (n := numS s * numS t) (fun hd => ?_) (Fin.ext h)
  rcases pr_LL.dvd_mul hd with d | d
  · exact num_ndvd hs d
  · exact num_ndvd ht d
end Go.Ed

/- A step towards HandshakeAgreesSaid: no conditions. -/
namespace Go.Han
open Go Go.Eng Go.Cod Go.Cha Go.Pol Go.Aed Go.Bla Go.Kdf Go.Nos Go.Cur
/-! both sides of a handshake -/
theorem zL_z (n : Nat) (l : BS) : zL 0 n l = l := by unfold zL; exact if_pos rfl
theorem zU_z (n : UInt32) : zU 0 n = n := by unfold zU; exact if_pos rfl
theorem key_nz {s t : BS} (hs : s.length = 32) (ht : t.length = 32) : keyL s (keyL t nineL) ≠ List.replicate 32 0 := by
  rw [Go.Ed.two_val]
  intro h
  have e := congrArg natL h
  have hl := Go.Ed.keyN_lt s (keyN t 9)
  rw [outN_nat (Nat.lt_trans hl (by decide)), natL_rep] at e
  exact Go.Ed.key_ne hs ht e
theorem share_z {s t : BS} (hs : s.length = 32) (ht : t.length = 32) : shareE s (keyL t nineL) = 0 := by
  unfold shareE; rw [if_neg (key_nz hs ht)]
theorem shE_z {s t : BS} (hs : s.length = 32) (ht : t.length = 32) : shE 0 s (keyL t nineL) = 0 := by
  unfold shE; rw [if_pos rfl, share_z hs ht]
theorem shR_z (s t : BS) : shR 0 s (keyL t nineL) = keyL s (keyL t nineL) := rfl
theorem shR_sw (s t : BS) : shR 0 s (keyL t nineL) = shR 0 t (keyL s nineL) := by rw [shR_z, shR_z, Go.Ed.keys_agree]
theorem nE (h k p : BS) : nOpenE h k (nSealL h k p) = 0 := Go.Proofs.Ytiogdokekibeiaa.openE_seal _ _ _ _
theorem nL (h k p : BS) : nOpenL h k (nSealL h k p) = p := Go.Proofs.Ytiogdokekibeiaa.openL_seal _ _ _ _
theorem odE_s (h k p : BS) : odE 0 h k (nSealL h k p) = 0 := by unfold odE; rw [if_pos rfl, nE]
theorem odL_s (h k p : BS) (n : Int) : odL 0 h k (nSealL h k p) n = p := by unfold odL; rw [if_pos (odE_s h k p), nL]
theorem odH_s (h k p : BS) : odH 0 h k (nSealL h k p) = mixH h [nSealL h k p] := by unfold odH opH; rw [if_pos rfl, if_pos (nE h k p)]
theorem odC_s (h c k p : BS) : odC 0 h c k (nSealL h k p) = c := by unfold odC opC; rw [if_pos rfl, if_pos (nE h k p)]
section
variable {a b c d : BS} (ha : a.length = 32) (hb : b.length = 32) (hc : c.length = 32) (hd : d.length = 32) (t q : BS)
include hc hb in
theorem i1 : iE1 c (keyL b nineL) = 0 := shE_z hc hb
include ha hc hb in
theorem i2 : iE a c (keyL b nineL) = 0 := by unfold iE; rw [i1 hb hc]; exact shE_z ha hb
include hc hb in
theorem k1 : cE1 b (keyL c nineL) = 0 := shE_z hb hc
theorem k2 : cK1 b (keyL c nineL) = iK1 c (keyL b nineL) := by unfold cK1 iK1; rw [shR_sw]; rfl
theorem k3 : cC2 b (keyL c nineL) = iC2 c (keyL b nineL) := by unfold cC2 iC2; rw [shR_sw]; rfl
theorem k4 : cH1 b (keyL c nineL) = iH1 c (keyL b nineL) := rfl
include hc hb in
theorem k5 : cE2 b (keyL c nineL) (iS1 a c (keyL b nineL)) = 0 := by unfold cE2; rw [k1 hb hc, k2, k4]; exact odE_s _ _ _
include hc hb in
theorem k6 : cL1 b (keyL c nineL) (iS1 a c (keyL b nineL)) = keyL a nineL := by unfold cL1; rw [k1 hb hc, k2, k4]; exact odL_s _ _ _ _
include hc hb in
theorem k7 : cH2 b (keyL c nineL) (iS1 a c (keyL b nineL)) = iH2 a c (keyL b nineL) := by unfold cH2; rw [k1 hb hc, k2, k4]; exact odH_s _ _ _
include hc hb in
theorem k8 : cC3 b (keyL c nineL) (iS1 a c (keyL b nineL)) = iC2 c (keyL b nineL) := by unfold cC3; rw [k1 hb hc, k2, k4, k3]; exact odC_s _ _ _ _
include hc hb ha in
theorem k9 : cE3 b (keyL c nineL) (iS1 a c (keyL b nineL)) = 0 := by unfold cE3; rw [k5 hb hc, k6 hb hc]; exact shE_z hb ha
include hc hb in
theorem k10 : cK2 b (keyL c nineL) (iS1 a c (keyL b nineL)) = iK2 a c (keyL b nineL) := by unfold cK2 iK2; rw [k5 hb hc, k6 hb hc, k8 hb hc, i1 hb hc, shR_sw]
include hc hb in
theorem k11 : cC4 b (keyL c nineL) (iS1 a c (keyL b nineL)) = iC3 a c (keyL b nineL) := by unfold cC4 iC3; rw [k5 hb hc, k6 hb hc, k8 hb hc, i1 hb hc, shR_sw]
include ha hb hc in
theorem k12 : cL2 b (keyL c nineL) (iS1 a c (keyL b nineL)) (iS2 a c (keyL b nineL) t) = t := by unfold cL2; rw [k9 ha hb hc, k10 hb hc, k7 hb hc]; exact odL_s _ _ _ _
include ha hb hc in
theorem k13 : cE b (keyL c nineL) (iS1 a c (keyL b nineL)) (iS2 a c (keyL b nineL) t) = 0 := by unfold cE; rw [k9 ha hb hc, k10 hb hc, k7 hb hc]; exact odE_s _ _ _
include ha hb hc in
theorem k14 : cH3 b (keyL c nineL) (iS1 a c (keyL b nineL)) (iS2 a c (keyL b nineL) t) = iH3 a c (keyL b nineL) t := by unfold cH3; rw [k9 ha hb hc, k10 hb hc, k7 hb hc]; exact odH_s _ _ _
include ha hb hc in
theorem k15 : cC5 b (keyL c nineL) (iS1 a c (keyL b nineL)) (iS2 a c (keyL b nineL) t) = iC3 a c (keyL b nineL) := by unfold cC5; rw [k9 ha hb hc, k10 hb hc, k7 hb hc, k11 hb hc]; exact odC_s _ _ _ _
include hc hd in
theorem r1 : rE1 d (keyL c nineL) = 0 := shE_z hd hc
include ha hc hd in
theorem r2 : rE d (keyL c nineL) (keyL a nineL) = 0 := by unfold rE; rw [r1 hc hd]; exact shE_z hd ha
include hc hd in
theorem f1 : fE1 c (keyL d nineL) = 0 := shE_z hc hd
include ha hc hd in
theorem f2 : fE2 a c (keyL d nineL) = 0 := by unfold fE2; rw [f1 hc hd]; exact shE_z ha hd
theorem f3 (C : BS) : fC2 C c (keyL d nineL) = rC2 C d (keyL c nineL) := by unfold fC2 rC2; rw [shR_sw]; rfl
include hc hd in
theorem f4 (C : BS) : fC3 a C c (keyL d nineL) = rC3 C d (keyL c nineL) (keyL a nineL) := by unfold fC3 rC3; rw [f1 hc hd, r1 hc hd, f3, shR_sw]
include hc hd in
theorem f5 (H C : BS) : fH2 a H C c (keyL d nineL) q = rH2 H C d (keyL c nineL) (keyL a nineL) q := by unfold fH2 rH2; rw [f4 hc hd]; rfl
include hc hd in
theorem f6 (C : BS) : fC4 a C c (keyL d nineL) q = rC4 C d (keyL c nineL) (keyL a nineL) q := by unfold fC4 rC4; rw [f4 hc hd]
include hc hd in
theorem f7 (C : BS) : fK a C c (keyL d nineL) q = rK C d (keyL c nineL) (keyL a nineL) q := by unfold fK rK; rw [f4 hc hd]
include ha hc hd in
theorem f8 (H C : BS) : fE a H C c (keyL d nineL) q (rS H C d (keyL c nineL) (keyL a nineL) q) = 0 := by unfold fE; rw [f2 ha hc hd, f5 hc hd, f7 hc hd]; exact odE_s _ _ _
include ha hc hd in
theorem f9 (H C : BS) : fC5 a H C c (keyL d nineL) q (rS H C d (keyL c nineL) (keyL a nineL) q) = rC4 C d (keyL c nineL) (keyL a nineL) q := by unfold fC5; rw [f2 ha hc hd, f5 hc hd, f6 hc hd, f7 hc hd]; exact odC_s _ _ _ _
end
end Go.Han

/- A step towards HandshakeAgreesSaid: no conditions. -/
namespace Go.Proofs.Ytiogdokekibeiaa
open Go Go.Eng Go.Cod Go.Cha Go.Pol Go.Aed Go.Bla Go.Kdf Go.Nos Go.Cur Go.Han
theorem key_zero0 (s : List UInt8) : keyL s (List.replicate 32 0) = List.replicate 32 0 := by
  rw [key_val rfl, natL_rep, show 0 % 57896044618658097711785492504343953926634992332820282019728792003956564819968 % PP = 0 from rfl, Go.Ed.keyN_z]
  decide +kernel
set_option maxRecDepth 100000 in
theorem conGBeg : Con Try.prog 9 gYes := con_of_vcs fun args ps res h hp => by
  unfold gYes at h
  split at h <;> cases h
  refine ⟨HGb, 300, rfl, eok (gs := [(5, gInit)]) ⟨conPInit, trivial⟩, ?_⟩
  refine Eq.mpr vcGBeg ?_
  have h32 : [(0 : UInt8), 0, 0, 0, 0, 0, 0, 0, 0, 0, 0, 0, 0, 0, 0, 0, 0, 0, 0, 0, 0, 0, 0, 0, 0, 0, 0, 0, 0, 0, 0, 0] = List.replicate 32 0 := rfl
  have hE : ∀ s pe : BS, iE s pe (List.replicate 32 0) = 21 := fun s pe => by
    unfold iE iE1 shE shareE
    rw [if_pos rfl, if_pos (key_zero0 _)]
    rfl
  simp only [forall_eq, h32, hE, and_self, and_true, true_and]
  decide
theorem ehgl : EnvOk HGl := eok (gs := [(5, gInit), (6, gCons), (7, gResp), (8, gFin), (4, gPub), (9, gYes)])
  ⟨conPInit, conPCons, conPResp, conPFin, conPubR, conGBeg, trivial⟩
set_option maxRecDepth 100000 in
theorem law_hagr (a b c d q t : BS) (m n : UInt32) (ha : a.length = 32) (hb : b.length = 32) (hc : c.length = 32) (hd : d.length = 32) : vcFn HGl 300 3 [.w (.agg [.vec (.n 32) (.u8 a)]), .w (.agg [.vec (.n 32) (.u8 b)]), .w (.agg [.vec (.n 32) (.u8 c)]), .w (.agg [.vec (.n 32) (.u8 d)]), .w (.agg [.vec (.n 32) (.u8 q)]), .w (.agg [.vec (.n 12) (.u8 t)]), .w (.s (.u32 m)), .w (.s (.u32 n))] (.s (.b true)) := by
  refine Eq.mpr (vcHAgr a b c d q t m n) ?_
  have d0 : decide ((0 : Int) = Int.ofNat 0) = true := rfl
  simp only [forall_eq, i2 ha hb hc, zL_z, zU_z, k6 hb hc, k12 ha hb hc, k13 ha hb hc, k14 ha hb hc, k15 ha hb hc, r2 ha hc hd, f8 ha hc hd, f9 ha hc hd, beq_self_eq_true, Bool.and_self, d0, Bool.true_eq_false, false_imp_iff, and_true, forall_const]
end Go.Proofs.Ytiogdokekibeiaa
