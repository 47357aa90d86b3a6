/- A step towards CurveClampsSaid: no conditions. -/
import Derived.Test.YthdhmciccohbeaaCumVc
import Derived.Test.YthdhmciccohbeaaCulCon
import Derived.Test.YthdhmciccohbeaaCurRfc
namespace Go.Cur
open Go Go.Eng Go.Cod Go.Pol
/-- a point of zero gives zero -/
theorem fm_zero (x : Nat) : fm x 0 = 0 := by unfold fm; rw [Nat.mul_zero]; rfl
theorem fs_self {x : Nat} : fs x x = 0 := by
  unfold fs
  rw [Nat.add_sub_cancel_left]; rfl
theorem fa_lt (x y : Nat) : fa x y < PP := Nat.mod_lt _ (by decide)
theorem st_zero (k : UInt8) (l : LN) (h : l.z2 = 0) : (stN 0 k l).z2 = 0 ∧ (stN 0 k l).z3 = 0 := by
  refine ⟨?_, fm_zero _⟩
  have e : fm (fa l.x2 l.z2) (fa l.x2 l.z2) = fm (fs l.x2 l.z2) (fs l.x2 l.z2) := by
    rw [h]
    unfold fm fa fs
    have : (l.x2 + 2 * PP - 0) % PP = (l.x2 + 0) % PP := by simp only [PP]; omega
    rw [this]
  show fm _ (fs (fm (fa l.x2 l.z2) (fa l.x2 l.z2)) (fm (fs l.x2 l.z2) (fs l.x2 l.z2))) = 0
  rw [e, fs_self, fm_zero]
theorem first_zero (k : UInt8) : (stN 0 k ⟨1, 0, 0, 1, 0⟩).z2 = 0 ∧ (stN 0 k ⟨0, 1, 1, 0, 0⟩).z2 = 0 := ⟨by show fm _ _ = 0; decide +kernel, by show fm _ _ = 0; decide +kernel⟩
theorem lad_zero (n : List UInt8) : ∀ i, (ladN n 0 (i + 1)).z2 = 0 ∧ (ladN n 0 (i + 1)).z3 = 0
  | 0 => by
    rw [ladN]
    refine ⟨?_, fm_zero _⟩
    unfold swN
    split
    · exact (first_zero _).1
    · exact (first_zero _).2
  | i + 1 => by
    obtain ⟨h1, h2⟩ := lad_zero n i
    rw [ladN]
    apply st_zero
    unfold swN
    split
    · exact h1
    · exact h2
theorem pow_zero255 : powN 0 255 = 0 := by
  rw [powN, if_neg (by decide)]
  exact fm_zero _
theorem keyN_zero (s : List UInt8) : keyN s 0 = 0 := by
  obtain ⟨h1, h2⟩ := lad_zero (clampL s) 254
  unfold keyN endN
  split
  · rw [h2, pow_zero255, fm_zero]
  · rw [h1, pow_zero255, fm_zero]
theorem key_zero (s : List UInt8) : keyL s (List.replicate 32 0) = List.replicate 32 0 := by
  rw [key_val rfl, natL_rep, show 0 % 57896044618658097711785492504343953926634992332820282019728792003956564819968 % PP = 0 from rfl, keyN_zero]
  decide +kernel
theorem share_zero (s : List UInt8) : shareE s (List.replicate 32 0) = 21 := by unfold shareE; rw [if_pos (key_zero s)]
/-! the fixed bits -/
theorem key_clamp {s t p : List UInt8} (hp : p.length = 32) (h : clampL s = clampL t) : keyL s p = keyL t p := by
  rw [key_val hp, key_val hp]
  unfold keyN
  rw [h]
theorem key_top {s p : List UInt8} (hp : p.length = 32) : keyL s (p.set 31 (p.getD 31 0 ^^^ UInt8.ofNat 128)) = keyL s p := by
  rw [key_val (by rw [List.length_set]; exact hp), key_val hp]
  have h := natL_set p 31 (p.getD 31 0 ^^^ UInt8.ofNat 128) (by omega)
  have hx : (p.getD 31 0 ^^^ UInt8.ofNat 128).toNat % 128 = (p.getD 31 0).toNat % 128 := by
    rw [UInt8.toNat_xor, show (UInt8.ofNat 128).toNat = 128 from rfl]
    have := Nat.xor_mod_two_pow (a := (p.getD 31 0).toNat) (b := 128) (n := 7)
    rw [show (2 : Nat) ^ 7 = 128 from rfl] at this
    rw [this]
    simp
  have p31 : (256 : Nat) ^ 31 = 452312848583266388373324160190187140051835877600158453279131187530910662656 := rfl
  rw [p31] at h
  have e : natL (p.set 31 (p.getD 31 0 ^^^ UInt8.ofNat 128)) % 57896044618658097711785492504343953926634992332820282019728792003956564819968 = natL p % 57896044618658097711785492504343953926634992332820282019728792003956564819968 := by omega
  rw [e]
theorem bits8 {x y : UInt8} (h : ∀ i : Nat, i < 8 → x.toBitVec.getLsbD i = y.toBitVec.getLsbD i) : x = y :=
  UInt8.toBitVec_inj.1 (BitVec.eq_of_getLsbD_eq h)
theorem clamp0 (x n : UInt8) : (x ^^^ n &&& UInt8.ofNat 7) &&& UInt8.ofNat 248 = x &&& UInt8.ofNat 248 := by
  apply bits8
  intro i hi
  have : i = 0 ∨ i = 1 ∨ i = 2 ∨ i = 3 ∨ i = 4 ∨ i = 5 ∨ i = 6 ∨ i = 7 := by omega
  rcases this with rfl | rfl | rfl | rfl | rfl | rfl | rfl | rfl <;> simp [UInt8.toBitVec_and, UInt8.toBitVec_xor]
theorem clamp31 (x n : UInt8) : ((x ^^^ n &&& UInt8.ofNat 192) &&& UInt8.ofNat 127) ||| UInt8.ofNat 64 = (x &&& UInt8.ofNat 127) ||| UInt8.ofNat 64 := by
  apply bits8
  intro i hi
  have : i = 0 ∨ i = 1 ∨ i = 2 ∨ i = 3 ∨ i = 4 ∨ i = 5 ∨ i = 6 ∨ i = 7 := by omega
  rcases this with rfl | rfl | rfl | rfl | rfl | rfl | rfl | rfl <;> simp [UInt8.toBitVec_and, UInt8.toBitVec_or, UInt8.toBitVec_xor]
theorem clamp00 (x : UInt8) : (x &&& UInt8.ofNat 248) &&& UInt8.ofNat 248 = x &&& UInt8.ofNat 248 := by rw [UInt8.and_assoc]; rfl
theorem clamp331 (x : UInt8) : (((x &&& UInt8.ofNat 127) ||| UInt8.ofNat 64) &&& UInt8.ofNat 127) ||| UInt8.ofNat 64 = (x &&& UInt8.ofNat 127) ||| UInt8.ofNat 64 := by
  apply bits8
  intro i hi
  have : i = 0 ∨ i = 1 ∨ i = 2 ∨ i = 3 ∨ i = 4 ∨ i = 5 ∨ i = 6 ∨ i = 7 := by omega
  rcases this with rfl | rfl | rfl | rfl | rfl | rfl | rfl | rfl <;> simp [UInt8.toBitVec_and, UInt8.toBitVec_or]
theorem gd_set {l : List UInt8} {i : Nat} {x : UInt8} (h : i < l.length) : (l.set i x).getD i 0 = x := by
  rw [List.getD_eq_getElem?_getD, List.getElem?_set_self h]; rfl
theorem clamp_noise {a : List UInt8} (ha : a.length = 32) (n : UInt8) : clampL ((a.set 0 (a.getD 0 0 ^^^ n &&& UInt8.ofNat 7)).set 31 ((a.set 0 (a.getD 0 0 ^^^ n &&& UInt8.ofNat 7)).getD 31 0 ^^^ n &&& UInt8.ofNat 192)) = clampL a := by
  unfold clampL
  rw [g_set_ne (i := 0) (j := 31) (by decide)]
  rw [g_set_ne (i := 31) (j := 0) (by decide), gd_set (l := a) (by omega), gd_set (i := 31) (by rw [List.length_set]; omega), clamp0, clamp31]
  apply List.ext_getElem?
  intro i
  by_cases h31 : i = 31
  · subst h31
    rw [List.getElem?_set_self (by simp [ha]), List.getElem?_set_self (by simp [ha])]
  · have e31 : 31 ≠ i := fun h => h31 h.symm
    by_cases h0 : i = 0
    · subst h0
      simp only [List.getElem?_set_ne e31]
      rw [List.getElem?_set_self (by simp [ha]), List.getElem?_set_self (by simp [ha])]
    · have e0 : 0 ≠ i := fun h => h0 h.symm
      simp only [List.getElem?_set_ne e31, List.getElem?_set_ne e0]
theorem clamp_twice {a : List UInt8} (ha : a.length = 32) : clampL (clampL a) = clampL a := by
  unfold clampL
  rw [g_set_ne (i := 31) (j := 0) (by decide), gd_set (l := a) (by omega), gd_set (i := 31) (by rw [List.length_set]; omega), clamp00, clamp331]
  apply List.ext_getElem?
  intro i
  by_cases h31 : i = 31
  · subst h31
    rw [List.getElem?_set_self (by simp [ha]), List.getElem?_set_self (by simp [ha])]
  · have e31 : 31 ≠ i := fun h => h31 h.symm
    by_cases h0 : i = 0
    · subst h0
      simp only [List.getElem?_set_ne e31]
      rw [List.getElem?_set_self (by simp [ha]), List.getElem?_set_self (by simp [ha])]
    · have e0 : 0 ≠ i := fun h => h0 h.symm
      simp only [List.getElem?_set_ne e31, List.getElem?_set_ne e0]
/-! numbers modulo 2^255 - 19 -/
def highL (r : UInt8) : List UInt8 := (UInt8.ofNat 237 + r) :: (List.replicate 30 255 ++ [127])
def lowL (r : UInt8) : List UInt8 := r :: List.replicate 31 0
theorem high_nat {r : UInt8} (h : r.toNat < 19) : natL (highL r) = PP + r.toNat := by
  have e : natL (List.replicate 30 (255 : UInt8) ++ [127]) = 226156424291633194186662080095093570025917938800079226639565593765455331327 := by decide +kernel
  show (UInt8.ofNat 237 + r).toNat + 256 * natL (List.replicate 30 (255 : UInt8) ++ [127]) = _
  rw [e, UInt8.toNat_add, show (UInt8.ofNat 237).toNat = 237 from rfl]
  simp only [PP]; omega
theorem low_nat (r : UInt8) : natL (lowL r) = r.toNat := by
  show r.toNat + 256 * natL (List.replicate 31 0) = _
  rw [natL_rep]; rfl
theorem key_red {s : List UInt8} {r : UInt8} (h : r.toNat < 19) : keyL s (highL r) = keyL s (lowL r) := by
  rw [key_val rfl, key_val rfl, high_nat h, low_nat]
  have e : (PP + r.toNat) % 57896044618658097711785492504343953926634992332820282019728792003956564819968 % PP = r.toNat % 57896044618658097711785492504343953926634992332820282019728792003956564819968 % PP := by simp only [PP]; omega
  rw [e]
end Go.Cur
namespace Go.Proofs.Ythdhmciccohbeaa
open Go Go.Eng Go.Cod Go.Pol Go.Cur
set_option maxRecDepth 100000 in
theorem conCBeg : Con Try.prog 10 gYes := con_of_vcs fun args ps res h hp => by
  unfold gYes at h
  split at h <;> cases h
  refine ⟨CLm, 300, rfl, eclm, ?_⟩
  rw [vcCBeg]
  simp only [forall_eq]
  refine ⟨?_, trivial⟩
  show (keyL rfcA rfcU == rfcK) = true
  rw [rfc]
  exact beq_self_eq_true _
set_option maxRecDepth 100000 in
theorem ecll : EnvOk CLl := eok (gs := [(8, gMulP), (16, gMulP), (11, gClamp), (12, gClamp), (13, gPub), (14, gPub), (17, gShare), (18, gShare), (10, gYes), (9, gMod)])
  ⟨conMulP, conMulR, conClamp, conClampR, conPub, conPubR, conShare, conShareR, conCBeg, conMod, trivial⟩
set_option maxRecDepth 100000 in
theorem law_cpublics (a : List UInt8) : vcFn CLl 300 4 [.agg [.vec (.n 32) (.u8 a)]] (.s (.b true)) := by
  rw [vcCPublics]
  simp only [forall_eq, beq_self_eq_true, Bool.true_eq_false, false_imp_iff, and_true, forall_const]
set_option maxRecDepth 100000 in
theorem law_cmultiplies (a p : List UInt8) (w l : UInt8) : vcFn CLl 300 5 [.agg [.vec (.n 32) (.u8 a)], .agg [.vec (.n 32) (.u8 p)], .s (.u8 w), .s (.u8 l)] (.s (.b true)) := by
  rw [vcCMultiplies]
  simp only [forall_eq, beq_self_eq_true, decide_true, Bool.true_eq_false, false_imp_iff, and_true, forall_const]
  exact ⟨by decide, fun _ => by decide, fun _ => ⟨fun _ => ⟨fun _ => by decide, fun _ => trivial⟩, fun _ => ⟨fun _ => by decide, fun _ => trivial⟩⟩⟩
set_option maxRecDepth 100000 in
theorem law_cclamps (a p : List UInt8) (n : UInt8) (ha : a.length = 32) (hp : p.length = 32) : vcFn CLl 300 6 [.agg [.vec (.n 32) (.u8 a)], .agg [.vec (.n 32) (.u8 p)], .s (.u8 n)] (.s (.b true)) := by
  rw [vcCClamps]
  simp only [forall_eq, zeros32, key_top hp, share_zero, clamp_noise ha, clamp_twice ha, key_clamp hp (clamp_noise ha n), beq_self_eq_true, io, show decide ((21 : Int) = ((21 : Nat) : Int)) = true from rfl, Bool.true_eq_false, false_imp_iff, and_true, forall_const]
set_option maxRecDepth 100000 in
theorem law_creduces (a : List UInt8) (n : UInt8) : vcFn CLl 300 3 [.agg [.vec (.n 32) (.u8 a)], .s (.u8 n)] (.s (.b true)) := by
  rw [vcCReduces]
  simp only [forall_eq, io]
  have hr : (n % UInt8.ofNat 19).toNat < 19 := by
    rw [UInt8.toNat_mod, show (UInt8.ofNat 19).toNat = 19 from rfl]; exact Nat.mod_lt _ (by decide)
  change _ ∧ _ ∧ ((keyL a (highL (n % UInt8.ofNat 19)) == keyL a (lowL (n % UInt8.ofNat 19))) = true → _) ∧ ((keyL a (highL (n % UInt8.ofNat 19)) == keyL a (lowL (n % UInt8.ofNat 19))) = false → _)
  rw [key_red hr]
  have e : ((n.toNat : Int).tmod ((19 : Nat) : Int) + ((19 : Nat) : Int)).tmod ((19 : Nat) : Int) = ((n % UInt8.ofNat 19).toNat : Int) := by
    rw [UInt8.toNat_mod, show (UInt8.ofNat 19).toNat = 19 from rfl]
    show (((n.toNat % 19 : Nat) : Int) + ((19 : Nat) : Int)).tmod ((19 : Nat) : Int) = _
    rw [show ((n.toNat % 19 : Nat) : Int) + ((19 : Nat) : Int) = ((n.toNat % 19 + 19 : Nat) : Int) by omega]
    show ((((n.toNat % 19 + 19) % 19 : Nat)) : Int) = _
    omega
  refine ⟨by decide, by decide, fun _ => ⟨by decide, fun _ => ⟨trivial, trivial⟩, fun h => absurd e (of_decide_eq_false h)⟩, fun h => absurd h (by rw [beq_self_eq_true]; decide)⟩
end Go.Proofs.Ythdhmciccohbeaa
