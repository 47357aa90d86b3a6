/- Steps towards HandshakeFinishesSaid. -/
import Derived.Test.YtiogdokekibeiaaGreatJHanCon
import Derived.Test.YtiogdokekibeiaaGreatJCulVc
/- A step towards HandshakeFinishesSaid: no conditions. -/
namespace Go.Cur
open Go Go.Eng Go.Cod Go.Pol
theorem fm_zero (x : Nat) : fm x 0 = 0 := by unfold fm; rw [Nat.mul_zero]; rfl
theorem fs_self {x : Nat} : fs x x = 0 := by
  unfold fs
  rw [Nat.add_sub_cancel_left]; rfl
theorem fa_lt (x y : Nat) : fa x y < PP := Nat.mod_lt _ (by decide)
theorem st_zero (k : UInt8) (l : LN) (h : l.z2 = 0) : (stN 0 k l).z2 = 0 ∧ (stN 0 k l).z3 = 0 := by
  refine ⟨?_, fm_zero _⟩
  have e : fm (fa l.x2 l.z2) (fa l.x2 l.z2) = fm (fs l.x2 l.z2) (fs l.x2 l.z2) := by
    rw [h]
    unfold fm fa fs
    have : (l.x2 + 2 * PP - 0) % PP = (l.x2 + 0) % PP := by simp only [PP]; omega
    rw [this]
  show fm _ (fs (fm (fa l.x2 l.z2) (fa l.x2 l.z2)) (fm (fs l.x2 l.z2) (fs l.x2 l.z2))) = 0
  rw [e, fs_self, fm_zero]
theorem first_zero (k : UInt8) : (stN 0 k ⟨1, 0, 0, 1, 0⟩).z2 = 0 ∧ (stN 0 k ⟨0, 1, 1, 0, 0⟩).z2 = 0 := ⟨by show fm _ _ = 0; decide +kernel, by show fm _ _ = 0; decide +kernel⟩
theorem lad_zero (n : List UInt8) : ∀ i, (ladN n 0 (i + 1)).z2 = 0 ∧ (ladN n 0 (i + 1)).z3 = 0
  | 0 => by
    rw [ladN]
    refine ⟨?_, fm_zero _⟩
    unfold swN
    split
    · exact (first_zero _).1
    · exact (first_zero _).2
  | i + 1 => by
    obtain ⟨h1, h2⟩ := lad_zero n i
    rw [ladN]
    apply st_zero
    unfold swN
    split
    · exact h1
    · exact h2
theorem pow_zero255 : powN 0 255 = 0 := by
  rw [powN, if_neg (by decide)]
  exact fm_zero _
theorem keyN_zero (s : List UInt8) : keyN s 0 = 0 := by
  obtain ⟨h1, h2⟩ := lad_zero (clampL s) 254
  unfold keyN endN
  split
  · rw [h2, pow_zero255, fm_zero]
  · rw [h1, pow_zero255, fm_zero]
theorem key_zero (s : List UInt8) : keyL s (List.replicate 32 0) = List.replicate 32 0 := by
  rw [key_val rfl, natL_rep, show 0 % 57896044618658097711785492504343953926634992332820282019728792003956564819968 % PP = 0 from rfl, keyN_zero]
  decide +kernel
theorem share_zero (s : List UInt8) : shareE s (List.replicate 32 0) = 21 := by unfold shareE; rw [if_pos (key_zero s)]
end Go.Cur

/- A step towards HandshakeFinishesSaid: no conditions. -/
namespace Go.Proofs.YtiogdokekibeiaaGreat
set_option maxRecDepth 100000
open Go Go.Eng Go.Cod Go.Cha Go.Pol Go.Aed Go.Bla Go.Kdf Go.Nos Go.Cur Go.Han
theorem conHBeg : Con Tryz.prog 9 gYes := con_of_vcs fun args ps res h hp => by
  unfold gYes at h
  split at h <;> cases h
  refine ⟨HLb, 300, rfl, eok (gs := [(7, gInit)]) ⟨conPInit, trivial⟩, ?_⟩
  refine Eq.mpr vcHBeg ?_
  have h32 : [(0 : UInt8), 0, 0, 0, 0, 0, 0, 0, 0, 0, 0, 0, 0, 0, 0, 0, 0, 0, 0, 0, 0, 0, 0, 0, 0, 0, 0, 0, 0, 0, 0, 0] = List.replicate 32 0 := rfl
  have hE : ∀ s pe : BS, iE s pe (List.replicate 32 0) = 21 := fun s pe => by
    unfold iE iE1 shE
    rw [if_pos rfl, share_zero]
    rfl
  simp only [forall_eq, h32, hE, and_self, and_true, true_and]
  decide
theorem ehll : EnvOk HLl := eok (gs := [(7, gInit), (17, gFin), (8, gInit), (15, gCons), (11, gResp), (18, gFin), (16, gPub), (9, gYes)])
  ⟨conPInit, conPFin, conQInit, conQCons, conQResp, conQFin, conPubR, conHBeg, trivial⟩
theorem law_hfin (a b c d e t : BS) (x y : UInt8) : vcFn HLl 300 6 [.w (.agg [.vec (.n 32) (.u8 a)]), .w (.agg [.vec (.n 32) (.u8 b)]), .w (.agg [.vec (.n 32) (.u8 c)]), .w (.agg [.vec (.n 32) (.u8 d)]), .w (.agg [.vec (.n 32) (.u8 e)]), .w (.agg [.vec (.n 12) (.u8 t)]), .w (.s (.u8 x)), .w (.s (.u8 y))] (.s (.b true)) := by
  refine Eq.mpr (vcHFin a b c d e t x y) ?_
  simp only [forall_eq, and_self, and_true, true_and, beq_self_eq_true, Bool.and_self, Bool.true_and, decide_true, Bool.true_eq_false, false_imp_iff, forall_const, implies_true]
  have m : ∀ (n : Nat), 0 < n → n < 256 → (x % UInt8.ofNat n).toNat < n := fun n h h2 => by
    rw [UInt8.toNat_mod, UInt8.toNat_ofNat_of_lt' h2]
    exact Nat.mod_lt _ h
  exact ⟨by decide, fun _ => ⟨by decide, m 32 (by decide) (by decide)⟩, fun _ => ⟨by decide, m 16 (by decide) (by decide)⟩⟩
end Go.Proofs.YtiogdokekibeiaaGreat
