/- Steps towards HandshakeFinishesSaid. -/
import Derived.Test.YtiogdokekibeiaaGreatJHaqVc
import Derived.Test.YtiogdokekibeiaaGreatJBlrCon
import Derived.Test.YtiogdokekibeiaaGreatJCufVc
import Derived.Test.YtiogdokekibeiaaGreatJPsmCon
/- A step towards HandshakeFinishesSaid: no conditions. -/
namespace Go.Proofs.YtiogdokekibeiaaGreat
set_option maxRecDepth 100000
open Go Go.Eng Go.Cod Go.Cha Go.Pol Go.Aed Go.Bla Go.Kdf Go.Nos Go.Cur Go.Han
theorem ehna : EnvOk HNa := eok (gs := [(49, gMixChain), (71, gMixHash), (51, gMixShared), (44, gNSeal), (53, gNOpen), (50, gShare)]) ⟨conNMixChain, conNMixHash, conNMixShared, conNSeal, conNOpen, conShare, trivial⟩
theorem tk0 (n : Nat) (l : List UInt8) (h : l.length = n) : List.take n (dropL (dropL l 0) 0) = l := by
  simp only [dropL_zero]
  rw [← h, List.take_length]
theorem kL_len {s p : List UInt8} (hp : p.length = 32) : (keyL s p).length = 32 := by rw [key_val hp, outN_len]
theorem flat_one (x : List UInt8) : [x].flatten.length = x.length := by simp
theorem conMChain : ConM Tryz.prog 29 gmChain := conM_of_vcl fun cs o args ps res cs' hg hp hlen hcs => by
  unfold gmChain at hg
  split at hg <;> cases hg
  rename_i h c e p m x
  obtain ⟨rfl, hp1⟩ := all_cons.1 hp
  have hx := (all_cons.1 hp1).1
  refine ⟨HNa, 200, rfl, ehna, ?_⟩
  refine Eq.mpr (vcMChain h c p x e) ?_
  simp only [forall_eq, and_self, and_true, true_and]
  exact hx
theorem conMHash : ConM Tryz.prog 42 gmHash := conM_of_vcl fun cs o args ps res cs' hg hp hlen hcs => by
  unfold gmHash at hg
  split at hg <;> cases hg
  rename_i h c e p m x
  obtain ⟨rfl, hp1⟩ := all_cons.1 hp
  have hx := (all_cons.1 hp1).1
  refine ⟨HNa, 200, rfl, ehna, ?_⟩
  refine Eq.mpr (vcMHash h c p x e) ?_
  simp only [forall_eq, and_self, and_true, true_and, flat_one]
  exact ⟨rfl, by decide, hx⟩
theorem conMShare : ConM Tryz.prog 30 gmShare := conM_of_vcl fun cs o args ps res cs' hg hp hlen hcs => by
  unfold gmShare at hg
  split at hg <;> cases hg
  rename_i h c e p s q
  refine ⟨HNa, 200, rfl, ehna, ?_⟩
  refine Eq.mpr (vcMShare h c p s q e) ?_
  simp only [forall_eq, and_self, and_true, true_and]
  refine ⟨fun hd => ?_, fun hd => ?_⟩
  · have hd : ¬ e = 0 := of_decide_eq_true hd
    unfold shE shR
    rw [if_neg hd, if_neg hd]
    exact ⟨rfl, rfl⟩
  · have hd : e = 0 := Decidable.not_not.1 (of_decide_eq_false hd)
    unfold shE shR
    have hq : q.length = 32 := hlen.2.1.1
    rw [if_pos hd, if_pos hd, kL_len hq]
    exact ⟨rfl, rfl, rfl⟩
theorem conMShared : ConM Tryz.prog 31 gmShared := conM_of_vcl fun cs o args ps res cs' hg hp hlen hcs => by
  unfold gmShared at hg
  split at hg <;> cases hg
  rename_i h c e p x
  refine ⟨HNa, 200, rfl, ehna, ?_⟩
  refine Eq.mpr (vcMShared h c p x e) ?_
  simp only [forall_eq, and_self, and_true, true_and]
theorem conMSeal : ConM Tryz.prog 23 gmSeal := conM_of_vcl fun cs o args ps res cs' hg hp hlen hcs => by
  unfold gmSeal at hg
  split at hg <;> cases hg
  rename_i h c e p k m x
  obtain ⟨rfl, hp1⟩ := all_cons.1 hp
  have hx := (all_cons.1 hp1).1
  refine ⟨HNa, 200, rfl, ehna, ?_⟩
  refine Eq.mpr (vcMSeal h c p k x e) ?_
  simp only [forall_eq, and_self, and_true, true_and, tk0 _ _ rfl]
  exact ⟨hx, by omega⟩
theorem conMOpen : ConM Tryz.prog 36 gmOpen := conM_of_vcl fun cs o args ps res cs' hg hp hlen hcs => by
  unfold gmOpen at hg
  split at hg <;> cases hg
  rename_i h c e p k m x n
  obtain ⟨rfl, hp1⟩ := all_cons.1 hp
  obtain ⟨hx, hp2⟩ := all_cons.1 hp1
  obtain ⟨hn0, hn1⟩ := (all_cons.1 hp2).1
  refine ⟨HNa, 200, rfl, ehna, ?_⟩
  refine Eq.mpr (vcMOpen h c p k x e n) ?_
  have hr : ∀ l : List UInt8, l = List.replicate n.toNat 0 → List.take n.toNat (dropL (dropL (List.replicate n.toNat 0) 0) 0) = l := fun l hl => by rw [tk0 _ _ (by simp), hl]
  simp only [forall_eq, and_self, and_true, true_and]
  have n0 : (0 : Int) ≤ n ∧ n ≤ (4294967296 : Int) := ⟨hn0, by omega⟩
  refine ⟨fun hd => ⟨by omega, fun h2 => ?_, fun h2 => ?_⟩, fun hd => ?_⟩
  · have hd : e = 0 := of_decide_eq_true hd
    have h2 : nOpenE h k x = 0 := of_decide_eq_true h2
    have e1 : odE e h k x = nOpenE h k x := if_pos hd
    have e2 : odL e h k x n = nOpenL h k x := by unfold odL; rw [if_pos (e1.trans h2)]
    rw [e1, e2, tk0 _ _ rfl]
    refine ⟨(if_pos hd).symm, (if_pos hd).symm, rfl, ?_⟩
    repeat' apply And.intro
    all_goals first | omega | rfl | exact trivial
  · have hd : e = 0 := of_decide_eq_true hd
    have h2 : ¬ nOpenE h k x = 0 := of_decide_eq_false h2
    have e1 : odE e h k x = nOpenE h k x := if_pos hd
    have e2 : odL e h k x n = List.replicate n.toNat 0 := by unfold odL; rw [if_neg (fun h => h2 (e1.symm.trans h))]
    rw [e1, hr _ e2, e2, List.length_replicate]
    have e3 : opH h k x = odH e h k x := (if_pos hd).symm
    have e4 : opC h c k x = odC e h c k x := (if_pos hd).symm
    rw [e3, e4]
    repeat' apply And.intro
    all_goals first | omega | exact rfl | exact trivial
  · have hd : ¬ e = 0 := of_decide_eq_false hd
    have e1 : odE e h k x = e := if_neg hd
    have e2 : odL e h k x n = List.replicate n.toNat 0 := by unfold odL; rw [if_neg (fun h => hd (e1.symm.trans h))]
    rw [e1, hr _ e2, e2, List.length_replicate]
    have e3 : h = odH e h k x := (if_neg hd).symm
    have e4 : c = odC e h c k x := (if_neg hd).symm
    rw [← e3, ← e4]
    repeat' apply And.intro
    all_goals first | omega | exact rfl | exact trivial
theorem ehnb : EnvOk HNb := mkEM_ok namesOk mx (gs := [(43, gMixKey)]) (xs := []) (ms := [(29, gmChain), (42, gmHash), (30, gmShare)]) ⟨conNMixKey, trivial⟩ trivial ⟨conMChain, conMHash, conMShare, trivial⟩
theorem conMEph : ConM Tryz.prog 21 gmEph := conM_of_vcl fun cs o args ps res cs' hg hp hlen hcs => by
  unfold gmEph at hg
  split at hg <;> cases hg
  rename_i h c e p x
  refine ⟨HNb, 200, rfl, ehnb, ?_⟩
  refine Eq.mpr (vcMEph h c p x e) ?_
  have hx : x.length = 32 := hlen.1.1
  simp only [forall_eq, and_self, and_true, true_and]
  omega
theorem conMKey : ConM Tryz.prog 22 gmKey := conM_of_vcl fun cs o args ps res cs' hg hp hlen hcs => by
  unfold gmKey at hg
  split at hg <;> cases hg
  rename_i h c e p s q
  refine ⟨HNb, 200, rfl, ehnb, ?_⟩
  refine Eq.mpr (vcMKey h c p s q e) ?_
  have hx : (shR e s q).length ≤ 32 := by
    unfold shR
    split
    · have hq : q.length = 32 := hlen.2.1.1
      rw [kL_len hq]; omega
    · simp
  simp only [forall_eq, and_self, and_true, true_and, tk0 _ _ rfl]
  omega
end Go.Proofs.YtiogdokekibeiaaGreat

/- A step towards HandshakeFinishesSaid: no conditions. -/
namespace Go.Proofs.YtiogdokekibeiaaGreat
open Go Go.Eng Go.Cod Go.Cha Go.Pol Go.Aed
theorem ael_minNN (a b : Nat) : min (a : Int) (b : Int) = ((min a b : Nat) : Int) := by omega
theorem ael_xx (k n : List UInt8) (c : UInt32) (d : List UInt8) : xorL k n c (xorL k n c d) = d := by
  apply List.ext_getElem?
  intro i
  rw [xorL_get, xorL_get]
  cases d[i]? with
  | none => rfl
  | some x =>
    show some (x ^^^ _ ^^^ _) = some x
    rw [UInt8.xor_assoc, UInt8.xor_self, UInt8.xor_zero]
theorem openE_seal (k n p m : List UInt8) : openE k n (sealL k n p m) m = 0 := by
  have l : (sealL k n p m).length - 16 = (xorL k n 1 p).length := by rw [sealL_len, xorL_len]; omega
  unfold openE
  rw [if_neg (by rw [sealL_len]; omega), if_pos]
  rw [l]
  unfold sealL
  rw [List.take_append_of_le_length (Nat.le_refl _), List.take_length, List.drop_append_of_le_length (Nat.le_refl _), List.drop_length, List.nil_append]
theorem openL_seal (k n p m : List UInt8) : openL k n (sealL k n p m) m = p := by
  have l : (sealL k n p m).length - 16 = (xorL k n 1 p).length := by rw [sealL_len, xorL_len]; omega
  unfold openL
  rw [if_pos (openE_seal ..), l]
  unfold sealL
  rw [List.take_append_of_le_length (Nat.le_refl _), List.take_length, ael_xx]
theorem open_cases (k n s m : List UInt8) (h : 16 ≤ s.length) : (openE k n s m = 6 ∧ openL k n s m = []) ∨ (openE k n s m = 0 ∧ sealL k n (openL k n s m) m = s) := by
  by_cases ht : tagL k n (s.take (s.length - 16)) m = s.drop (s.length - 16)
  · have e : openE k n s m = 0 := by unfold openE; rw [if_neg (by omega), if_pos ht]
    refine .inr ⟨e, ?_⟩
    unfold openL
    rw [if_pos e]
    unfold sealL
    rw [ael_xx, ht, List.take_append_drop]
  · have e : openE k n s m = 6 := by unfold openE; rw [if_neg (by omega), if_neg ht]
    refine .inl ⟨e, ?_⟩
    unfold openL
    rw [e]; rfl
theorem openL_le (k n s m : List UInt8) : (openL k n s m).length ≤ s.length := by
  unfold openL
  split
  · rw [xorL_len, List.length_take]; omega
  · exact Nat.zero_le _
theorem set_same {s : List UInt8} {i : Nat} : s.set i (s.getD i 0 ^^^ UInt8.ofNat 0) = s := by
  show s.set i (s.getD i 0 ^^^ 0) = s
  rw [UInt8.xor_zero]
  by_cases h : i < s.length
  · rw [List.getD_eq_getElem?_getD, List.getElem?_eq_getElem h, Option.getD_some, List.set_getElem_self]
  · rw [List.set_eq_of_length_le (by omega)]
theorem take_set (l : List UInt8) (i : Nat) (x : UInt8) : (l.set i x).take l.length = l.set i x := List.take_of_length_le (by rw [List.length_set]; exact Nat.le_refl _)
theorem tmod_nn (a b : Nat) : (a : Int).tmod (b : Int) = ((a % b : Nat) : Int) := rfl
end Go.Proofs.YtiogdokekibeiaaGreat

/- A step towards HandshakeFinishesSaid: no conditions. -/
namespace Go.Han
set_option maxRecDepth 100000
open Go Go.Eng
theorem nrm_ok {A : Ad} {w : World} : ∀ {cs : List Ch} {l : List Value}, ChsRel A w cs l → ChsRel A w (nrmCs cs) l
  | [], _, h => h
  | .vec n x :: r, _, h => by
    obtain ⟨a, t, h1, h2, h3, h4⟩ := h
    exact ⟨a, t, h1, h2, h3, nrm_ok h4⟩
  | .one s :: r, _, h => by
    obtain ⟨v, t, h1, h2, h3, h4⟩ := h
    have ih := nrm_ok h4
    cases s <;> first | exact ⟨v, t, h1, h2, h3, ih⟩
theorem nrm_flat : ∀ {cs : List Ch}, flatCs cs = true → flatCs (nrmCs cs) = true
  | [], h => h
  | .vec n x :: r, h => by
    cases x <;> first | exact nrm_flat (cs := r) h | cases h
  | .one s :: r, h => by
    unfold flatCs at h
    simp only [Bool.and_eq_true] at h
    have ih := nrm_flat h.2
    cases s <;> (unfold nrmCs flatCs; simp only [Bool.and_eq_true]; exact ⟨h.1, ih⟩)
theorem conM_nrm {P : Program} {f : FuncId} {g : SpecM} (h : ConM P f g) : ConM P f (nrm g) :=
  fun cs o args ps res cs' hg hp hf hf' w a arr T fz cells spare vals h1 h2 h3 h4 h5 =>
    h (nrmCs cs) o args ps res cs' hg hp (nrm_flat hf) hf' w a arr T fz cells spare vals h1 h2 h3 (nrm_ok h4) h5
end Go.Han
namespace Go.Proofs.YtiogdokekibeiaaGreat
set_option maxRecDepth 100000
open Go Go.Eng Go.Cod Go.Cha Go.Pol Go.Aed Go.Bla Go.Kdf Go.Nos Go.Cur Go.Han
theorem shR_le (e : Int) {s p : BS} (hp : p.length = 32) : (shR e s p).length ≤ 32 := by
  unfold shR
  split
  · rw [kL_len hp]; omega
  · simp
theorem nOpen_len {h k x : BS} {n : Nat} (hx : x.length = n + 16) (h0 : nOpenE h k x = 0) : (nOpenL h k x).length = n := by
  rcases open_cases k nil12 x h (by omega) with ⟨h1, _⟩ | ⟨_, h2⟩
  · have h0 : openE k nil12 x h = 0 := h0
    rw [h1] at h0; cases h0
  · have := congrArg List.length h2
    rw [sealL_len, hx] at this
    have e : nOpenL h k x = openL k nil12 x h := rfl
    rw [e]; omega
theorem odL_len {e : Int} {h k x : BS} {n : Nat} (hx : x.length = n + 16) : (odL e h k x n).length = n := by
  unfold odL
  split
  · rename_i h0
    refine nOpen_len hx ?_
    unfold odE at h0
    split at h0
    · exact h0
    · contradiction
  · simp
theorem ehpn : EnvOk HPn := mkEM_ok namesOk mx (gs := [(19, gStart), (32, gSplit), (20, gPub)]) (xs := []) (ms := [(21, nrm gmEph), (22, nrm gmKey), (23, nrm gmSeal), (36, nrm gmOpen), (29, nrm gmChain), (30, nrm gmShare), (31, nrm gmShared)])
  ⟨conNStart, conNSplit, conPub, trivial⟩ trivial ⟨conM_nrm conMEph, conM_nrm conMKey, conM_nrm conMSeal, conM_nrm conMOpen, conM_nrm conMChain, conM_nrm conMShare, conM_nrm conMShared, trivial⟩
theorem conPInit : Con Tryz.prog 7 gInit := con_of_vcl fun args ps res hg hp hlen => by
  unfold gInit at hg
  split at hg <;> cases hg
  rename_i s pb pe t n
  refine ⟨HPn, 200, rfl, ehpn, ?_⟩
  refine Eq.mpr (vcPInit s pb pe t n) ?_
  simp only [forall_eq, and_self, and_true, true_and]
  have ht : t.length = 12 := hlen.2.2.2.1.1
  have l1 : ∀ (h k : BS), (nSealL h k (keyL s nineL)).length = 48 := fun h k => by rw [nSealL_len, kL_len rfl]
  have l2 : ∀ (h k : BS), (nSealL h k t).length = 28 := fun h k => by rw [nSealL_len, ht]
  have l0 : (keyL s nineL).length = 32 := kL_len rfl
  refine ⟨by rw [l0]; decide, Nat.le_of_eq (l1 _ _).symm, Nat.le_of_eq (l1 _ _).symm, by omega, Nat.le_of_eq (l2 _ _).symm, Nat.le_of_eq (l2 _ _).symm, fun hd => ?_, fun hd => ?_⟩
  · have h0 : ¬ iE s pe pb = 0 := of_decide_eq_true hd
    exact ⟨(if_neg h0).symm, (if_neg h0).symm, (if_neg h0).symm, (if_neg h0).symm, (if_neg h0).symm, (if_neg h0).symm, rfl⟩
  · have h0 : iE s pe pb = 0 := Decidable.not_not.1 (of_decide_eq_false hd)
    exact ⟨(if_pos h0).symm, (if_pos h0).symm, (List.take_of_length_le (Nat.le_of_eq (l1 _ _))).trans (if_pos h0).symm, (List.take_of_length_le (Nat.le_of_eq (l2 _ _))).trans (if_pos h0).symm, (if_pos h0).symm, (if_pos h0).symm, h0.symm⟩
theorem conPFin : Con Tryz.prog 17 gFin := con_of_vcl fun args ps res hg hp hlen => by
  unfold gFin at hg
  split at hg <;> cases hg
  rename_i s pe k h c x y ep m u v
  refine ⟨HPn, 200, rfl, ehpn, ?_⟩
  refine Eq.mpr (vcPFin s pe k h c ep m u v x y) ?_
  simp only [forall_eq, and_self, and_true, true_and]
  have hep : ep.length = 32 := hlen.2.2.2.2.1.2.2.1
  have hm : m.length = 16 := hlen.2.2.2.2.1.2.2.2.1
  have f1 : mixH h [ep] = fH1 h ep := rfl
  have f2 : exI c ep 1 0 = fC1 c ep := rfl
  have f3 : shE 0 pe ep = fE1 pe ep := rfl
  have f4 : exI (fC1 c ep) (shR 0 pe ep) 1 0 = fC2 c pe ep := rfl
  have f5 : shE (fE1 pe ep) s ep = fE2 s pe ep := rfl
  have f6 : exI (fC2 c pe ep) (shR (fE1 pe ep) s ep) 1 0 = fC3 s c pe ep := rfl
  have f7 : mixH (fH1 h ep) [exI (fC3 s c pe ep) k 3 1] = fH2 s h c pe ep k := rfl
  have f8 : exI (fC3 s c pe ep) k 3 0 = fC4 s c pe ep k := rfl
  have f9 : exI (fC3 s c pe ep) k 3 2 = fK s c pe ep k := rfl
  have f10 : odE (fE2 s pe ep) (fH2 s h c pe ep k) (fK s c pe ep k) m = fE s h c pe ep k m := rfl
  have f11 : odC (fE2 s pe ep) (fH2 s h c pe ep k) (fC4 s c pe ep k) (fK s c pe ep k) m = fC5 s h c pe ep k m := rfl
  have m1 := shR_le 0 (s := pe) hep
  have m2 := shR_le (fE1 pe ep) (s := s) hep
  simp only [show Int.ofNat 0 = (0 : Int) from rfl, tk0 _ _ rfl, f1, f2, f3, f4, f5, f6, f7, f8, f9, f10, f11, Nat.le_refl, true_and, and_true]
  refine ⟨by omega, by omega, by omega, by omega, by omega, by decide, fun hd => ?_, fun hd => ?_⟩
  · have h0 : ¬ fE s h c pe ep k m = 0 := of_decide_eq_true hd
    exact ⟨(if_neg h0).symm, (if_neg h0).symm⟩
  · have h0 : fE s h c pe ep k m = 0 := Decidable.not_not.1 (of_decide_eq_false hd)
    exact ⟨(if_pos h0).symm, (if_pos h0).symm, h0.symm⟩
end Go.Proofs.YtiogdokekibeiaaGreat

/- A step towards HandshakeFinishesSaid: no conditions. -/
namespace Go.Proofs.YtiogdokekibeiaaGreat
set_option maxRecDepth 100000
open Go Go.Eng Go.Cod Go.Cha Go.Pol Go.Aed Go.Bla Go.Kdf Go.Nos Go.Cur Go.Han
theorem ehqs : EnvOk HQs := eok (gs := [(33, gMixChain), (45, gMixHash)]) ⟨conQMixChain, conQMixHash, trivial⟩
theorem conQShown : Con Tryz.prog 24 gShown := con_of_vcl fun args ps res hg hp hlen => by
  unfold gShown at hg
  split at hg <;> cases hg
  rename_i h c x
  have hx : x.length = 32 := hlen.2.1.1
  refine ⟨HQs, 200, rfl, ehqs, ?_⟩
  refine Eq.mpr (vcQShown h c x) ?_
  simp only [forall_eq, and_self, and_true, true_and, flat_one]
  exact ⟨by omega, rfl, by decide, by omega⟩
theorem ehqn : EnvOk HQn := eok (gs := [(25, gStart), (35, gSplit), (24, gShown), (27, gMixKey), (33, gMixChain), (34, gMixShared), (28, gNSeal), (37, gNOpen), (16, gPub), (26, gShare)])
  ⟨conQStart, conQSplit, conQShown, conQMixKey, conQMixChain, conQMixShared, conQSeal, conQOpen, conPubR, conShareR, trivial⟩
theorem ov_all {n : Nat} {l : BS} (h : l.length = n) : over (List.replicate n 0) 0 (List.take n l) = l := by
  rw [List.take_of_length_le (Nat.le_of_eq h)]
  unfold over
  rw [List.drop_eq_nil_iff.2 (by simp [h]), List.take_zero, List.append_nil, List.nil_append]
theorem z0 : Int.ofNat 0 = (0 : Int) := rfl
theorem ze (e : Int) (n : Nat) (l : BS) (h : ¬ e = 0) : zL e n l = List.replicate n 0 := if_neg h
theorem zz (e : Int) (n : Nat) (l : BS) (h : e = 0) : zL e n l = l := if_pos h
theorem conQInit : Con Tryz.prog 8 gInit := con_of_vcl fun args ps res hg hp hlen => by
  unfold gInit at hg
  split at hg <;> cases hg
  rename_i s pb pe t n
  refine ⟨HQn, 200, rfl, ehqn, ?_⟩
  refine Eq.mpr (vcQInit s pb pe t n) ?_
  simp only [forall_eq, and_self, and_true, true_and]
  have ht : t.length = 12 := hlen.2.2.2.1.1
  have hpb : pb.length = 32 := hlen.2.1.1
  have l0 : (keyL s nineL).length = 32 := kL_len rfl
  have g1 : keyL pe pb = shR 0 pe pb := (if_pos rfl).symm
  have g2 : shareE pe pb = iE1 pe pb := by unfold iE1 shE; rw [if_pos rfl]
  have f1 : mixH (startH pb) [keyL pe nineL] = iH1 pe pb := rfl
  have f2 : exI startC (keyL pe nineL) 1 0 = iC1 pe := rfl
  have f3 : exI (iC1 pe) (shR 0 pe pb) 2 0 = iC2 pe pb := rfl
  have f4 : exI (iC1 pe) (shR 0 pe pb) 2 1 = iK1 pe pb := rfl
  have f5 : nSealL (iH1 pe pb) (iK1 pe pb) (keyL s nineL) = iS1 s pe pb := rfl
  have f6 : mixH (iH1 pe pb) [iS1 s pe pb] = iH2 s pe pb := rfl
  have m1 := shR_le 0 (s := pe) hpb
  have k1 : (iS1 s pe pb).length = 48 := by rw [← f5, nSealL_len, l0]
  simp only [z0, tk0 _ _ rfl, g1, g2, f1, f2, f3, f4, f5, f6]
  refine ⟨fun hd => ?_, fun hd => ?_⟩
  · have h1 : ¬ iE1 pe pb = 0 := of_decide_eq_true hd
    have he : iE s pe pb = iE1 pe pb := if_neg h1
    rw [he]
    exact ⟨(if_neg h1).symm, (if_neg h1).symm, (if_neg h1).symm, (if_neg h1).symm, (if_neg h1).symm, (if_neg h1).symm, rfl⟩
  · have h1 : iE1 pe pb = 0 := Decidable.not_not.1 (of_decide_eq_false hd)
    have g3 : keyL s pb = shR (iE1 pe pb) s pb := (if_pos h1).symm
    have g4 : shareE s pb = iE s pe pb := (if_pos h1).symm
    have f7 : exI (iC2 pe pb) (shR (iE1 pe pb) s pb) 2 0 = iC3 s pe pb := rfl
    have f8 : exI (iC2 pe pb) (shR (iE1 pe pb) s pb) 2 1 = iK2 s pe pb := rfl
    have f9 : nSealL (iH2 s pe pb) (iK2 s pe pb) t = iS2 s pe pb t := rfl
    have f10 : mixH (iH2 s pe pb) [iS2 s pe pb t] = iH3 s pe pb t := rfl
    have m2 := shR_le (iE1 pe pb) (s := s) hpb
    have k2 : (iS2 s pe pb t).length = 28 := by rw [← f9, nSealL_len, ht]
    simp only [g3, g4, f7, f8, f9, f10, ov_all k1, ov_all k2, k1, k2, List.length_take, Nat.min_self, Nat.zero_add, Nat.le_refl, true_and]
    refine ⟨by omega, by omega, fun hd => ?_, fun hd => ⟨by omega, by omega, ?_⟩⟩
    · have h0 : ¬ iE s pe pb = 0 := of_decide_eq_true hd
      exact ⟨(if_neg h0).symm, (if_neg h0).symm, (if_neg h0).symm, (if_neg h0).symm, (if_neg h0).symm, (if_neg h0).symm, trivial⟩
    · have h0 : iE s pe pb = 0 := Decidable.not_not.1 (of_decide_eq_false hd)
      exact ⟨(if_pos h0).symm, (if_pos h0).symm, (if_pos h0).symm, (if_pos h0).symm, (if_pos h0).symm, (if_pos h0).symm, h0.symm⟩
theorem conQCons : Con Tryz.prog 15 gCons := con_of_vcl fun args ps res hg hp hlen => by
  unfold gCons at hg
  split at hg <;> cases hg
  rename_i s n ep a b u v
  refine ⟨HQn, 200, rfl, ehqn, ?_⟩
  refine Eq.mpr (vcQCons s ep a b u v n) ?_
  simp only [forall_eq, and_self, and_true, true_and]
  have ha : a.length = 48 := hlen.2.1.2.2.1
  have hb : b.length = 28 := hlen.2.1.2.2.2.1
  have hep : ep.length = 32 := hlen.2.1.2.1
  have g1 : keyL s ep = shR 0 s ep := (if_pos rfl).symm
  have g2 : shareE s ep = cE1 s ep := by unfold cE1 shE; rw [if_pos rfl]
  have f1 : mixH (startH (keyL s nineL)) [ep] = cH1 s ep := rfl
  have f2 : exI startC ep 1 0 = cC1 ep := rfl
  have f4 : exI (cC1 ep) (shR 0 s ep) 2 1 = cK1 s ep := rfl
  have f5 : exI (cC1 ep) (shR 0 s ep) 2 0 = cC2 s ep := rfl
  have m1 := shR_le 0 (s := s) hep
  simp only [z0, tk0 _ _ rfl, g1, g2, f1, f2, f4, f5]
  refine ⟨fun hd => ?_, fun hd => ?_⟩
  · have h1 : ¬ cE1 s ep = 0 := of_decide_eq_true hd
    have e2 : cE2 s ep a = cE1 s ep := if_neg h1
    have e3 : cE3 s ep a = cE1 s ep := (if_neg (fun e => h1 (e2.symm.trans e)) : shE _ _ _ = _).trans e2
    have he : cE s ep a b = cE1 s ep := (if_neg (fun e => h1 (e3.symm.trans e)) : odE _ _ _ _ = _).trans e3
    rw [he]
    exact ⟨(if_neg h1).symm, (if_neg h1).symm, (if_neg h1).symm, (if_neg h1).symm, rfl⟩
  · have h1 : cE1 s ep = 0 := Decidable.not_not.1 (of_decide_eq_false hd)
    have g5 : nOpenE (cH1 s ep) (cK1 s ep) a = cE2 s ep a := (if_pos h1).symm
    have g6 : opH (cH1 s ep) (cK1 s ep) a = cH2 s ep a := (if_pos h1).symm
    have g7 : opC (cH1 s ep) (cC2 s ep) (cK1 s ep) a = cC3 s ep a := (if_pos h1).symm
    simp only [g5, g6, g7]
    refine ⟨by omega, by omega, fun hd => ?_, fun hd => ?_⟩
    · have h2 : ¬ cE2 s ep a = 0 := of_decide_eq_true hd
      have e3 : cE3 s ep a = cE2 s ep a := if_neg h2
      have he : cE s ep a b = cE2 s ep a := (if_neg (fun e => h2 (e3.symm.trans e)) : odE _ _ _ _ = _).trans e3
      rw [he]
      exact ⟨(if_neg h2).symm, (if_neg h2).symm, (if_neg h2).symm, (if_neg h2).symm, rfl⟩
    · have h2 : cE2 s ep a = 0 := Decidable.not_not.1 (of_decide_eq_false hd)
      have g8 : nOpenL (cH1 s ep) (cK1 s ep) a = cL1 s ep a := (if_pos h2).symm
      have k1 : (cL1 s ep a).length = 32 := odL_len (n := 32) ha
      have g9 : keyL s (cL1 s ep a) = shR (cE2 s ep a) s (cL1 s ep a) := (if_pos h2).symm
      have g10 : shareE s (cL1 s ep a) = cE3 s ep a := (if_pos h2).symm
      have f12 : exI (cC3 s ep a) (shR (cE2 s ep a) s (cL1 s ep a)) 2 1 = cK2 s ep a := rfl
      have f13 : exI (cC3 s ep a) (shR (cE2 s ep a) s (cL1 s ep a)) 2 0 = cC4 s ep a := rfl
      have m2 := shR_le (cE2 s ep a) (s := s) k1
      simp only [g8, ov_all k1, g9, g10, f12, f13, k1, List.length_take, Nat.min_self, Nat.zero_add, Nat.le_refl, true_and]
      refine ⟨fun hd => ?_, fun hd => ?_⟩
      · have h3 : ¬ cE3 s ep a = 0 := of_decide_eq_true hd
        have he : cE s ep a b = cE3 s ep a := if_neg h3
        rw [he]
        exact ⟨(if_neg h3).symm, (if_neg h3).symm, (if_neg h3).symm, (if_neg h3).symm, rfl⟩
      · have h3 : cE3 s ep a = 0 := Decidable.not_not.1 (of_decide_eq_false hd)
        have g11 : nOpenE (cH2 s ep a) (cK2 s ep a) b = cE s ep a b := (if_pos h3).symm
        have g12 : opH (cH2 s ep a) (cK2 s ep a) b = cH3 s ep a b := (if_pos h3).symm
        have g13 : opC (cH2 s ep a) (cC4 s ep a) (cK2 s ep a) b = cC5 s ep a b := (if_pos h3).symm
        simp only [g11, g12, g13]
        refine ⟨by omega, by omega, fun hd => ?_, fun hd => ?_⟩
        · have h0 : ¬ cE s ep a b = 0 := of_decide_eq_true hd
          exact ⟨(if_neg h0).symm, (if_neg h0).symm, (if_neg h0).symm, (if_neg h0).symm, trivial⟩
        · have h0 : cE s ep a b = 0 := Decidable.not_not.1 (of_decide_eq_false hd)
          have g14 : nOpenL (cH2 s ep a) (cK2 s ep a) b = cL2 s ep a b := (if_pos h0).symm
          have k2 : (cL2 s ep a b).length = 12 := odL_len (n := 12) hb
          simp only [g14, ov_all k2, k2, List.length_take, Nat.min_self, Nat.zero_add, Nat.le_refl, true_and]
          exact ⟨(if_pos h0).symm, (if_pos h0).symm, (if_pos h0).symm, (if_pos h0).symm, h0.symm⟩
theorem conQResp : Con Tryz.prog 11 gResp := con_of_vcl fun args ps res hg hp hlen => by
  unfold gResp at hg
  split at hg <;> cases hg
  rename_i h c m ep a b u v q k pe n
  refine ⟨HQn, 200, rfl, ehqn, ?_⟩
  refine Eq.mpr (vcQResp h c ep a b u v q k pe m n) ?_
  simp only [forall_eq, and_self, and_true, true_and]
  have hep : ep.length = 32 := hlen.2.1.2.1
  have hq : q.length = 32 := hlen.2.2.1.1
  have g1 : keyL pe ep = shR 0 pe ep := (if_pos rfl).symm
  have g2 : shareE pe ep = rE1 pe ep := by unfold rE1 shE; rw [if_pos rfl]
  have f1 : mixH h [keyL pe nineL] = rH1 h pe := rfl
  have f2 : exI c (keyL pe nineL) 1 0 = rC1 c pe := rfl
  have f4 : exI (rC1 c pe) (shR 0 pe ep) 1 0 = rC2 c pe ep := rfl
  have m1 := shR_le 0 (s := pe) hep
  simp only [z0, List.replicate_zero, tk0 _ _ rfl, g1, g2, f1, f2, f4]
  refine ⟨fun hd => ?_, fun hd => ?_⟩
  · have h1 : ¬ rE1 pe ep = 0 := of_decide_eq_true hd
    have he : rE pe ep q = rE1 pe ep := if_neg h1
    rw [he]
    exact ⟨(if_neg h1).symm, (if_neg h1).symm, (if_neg h1).symm, (if_neg h1).symm, (if_neg h1).symm, (if_neg h1).symm, rfl⟩
  · have h1 : rE1 pe ep = 0 := Decidable.not_not.1 (of_decide_eq_false hd)
    have g3 : keyL pe q = shR (rE1 pe ep) pe q := (if_pos h1).symm
    have g4 : shareE pe q = rE pe ep q := (if_pos h1).symm
    have f6 : exI (rC2 c pe ep) (shR (rE1 pe ep) pe q) 1 0 = rC3 c pe ep q := rfl
    have f7 : mixH (rH1 h pe) [exI (rC3 c pe ep q) k 3 1] = rH2 h c pe ep q k := rfl
    have f8 : exI (rC3 c pe ep q) k 3 0 = rC4 c pe ep q k := rfl
    have f9 : exI (rC3 c pe ep q) k 3 2 = rK c pe ep q k := rfl
    have f10 : nSealL (rH2 h c pe ep q k) (rK c pe ep q k) [] = rS h c pe ep q k := rfl
    have k1 : (rS h c pe ep q k).length = 16 := nSealL_len ..
    have m2 := shR_le (rE1 pe ep) (s := pe) hq
    simp only [g3, g4, f6, f7, f8, f9, f10, ov_all k1, k1, List.length_take, Nat.min_self, Nat.zero_add, Nat.le_refl, true_and]
    refine ⟨by omega, fun hd => ?_, fun hd => ⟨by omega, by omega, ?_⟩⟩
    · have h0 : ¬ rE pe ep q = 0 := of_decide_eq_true hd
      exact ⟨(if_neg h0).symm, (if_neg h0).symm, (if_neg h0).symm, (if_neg h0).symm, (if_neg h0).symm, (if_neg h0).symm, trivial⟩
    · have h0 : rE pe ep q = 0 := Decidable.not_not.1 (of_decide_eq_false hd)
      exact ⟨(if_pos h0).symm, (if_pos h0).symm, (if_pos h0).symm, (if_pos h0).symm, (if_pos h0).symm, (if_pos h0).symm, h0.symm⟩
theorem conQFin : Con Tryz.prog 18 gFin := con_of_vcl fun args ps res hg hp hlen => by
  unfold gFin at hg
  split at hg <;> cases hg
  rename_i s pe k h c x y ep m u v
  refine ⟨HQn, 200, rfl, ehqn, ?_⟩
  refine Eq.mpr (vcQFin s pe k h c ep m u v x y) ?_
  simp only [forall_eq, and_self, and_true, true_and]
  have hep : ep.length = 32 := hlen.2.2.2.2.1.2.2.1
  have hm : m.length = 16 := hlen.2.2.2.2.1.2.2.2.1
  have g1 : keyL pe ep = shR 0 pe ep := (if_pos rfl).symm
  have g2 : shareE pe ep = fE1 pe ep := by unfold fE1 shE; rw [if_pos rfl]
  have f1 : mixH h [ep] = fH1 h ep := rfl
  have f2 : exI c ep 1 0 = fC1 c ep := rfl
  have f4 : exI (fC1 c ep) (shR 0 pe ep) 1 0 = fC2 c pe ep := rfl
  have m1 := shR_le 0 (s := pe) hep
  simp only [z0, tk0 _ _ rfl, g1, g2, f1, f2, f4]
  refine ⟨fun hd => ?_, fun hd => ?_⟩
  · have h1 : ¬ fE1 pe ep = 0 := of_decide_eq_true hd
    have he2 : fE2 s pe ep = fE1 pe ep := if_neg h1
    have he : fE s h c pe ep k m = fE1 pe ep := (if_neg (fun e => h1 (he2.symm.trans e)) : odE _ _ _ _ = _).trans he2
    rw [he]
    exact ⟨(if_neg h1).symm, (if_neg h1).symm, rfl⟩
  · have h1 : fE1 pe ep = 0 := Decidable.not_not.1 (of_decide_eq_false hd)
    have g3 : keyL s ep = shR (fE1 pe ep) s ep := (if_pos h1).symm
    have g4 : shareE s ep = fE2 s pe ep := (if_pos h1).symm
    have f6 : exI (fC2 c pe ep) (shR (fE1 pe ep) s ep) 1 0 = fC3 s c pe ep := rfl
    have f7 : mixH (fH1 h ep) [exI (fC3 s c pe ep) k 3 1] = fH2 s h c pe ep k := rfl
    have f8 : exI (fC3 s c pe ep) k 3 0 = fC4 s c pe ep k := rfl
    have f9 : exI (fC3 s c pe ep) k 3 2 = fK s c pe ep k := rfl
    have m2 := shR_le (fE1 pe ep) (s := s) hep
    simp only [g3, g4, f6, f7, f8, f9]
    refine ⟨by omega, fun hd => ?_, fun hd => ?_⟩
    · have h2 : ¬ fE2 s pe ep = 0 := of_decide_eq_true hd
      have he : fE s h c pe ep k m = fE2 s pe ep := if_neg h2
      rw [he]
      exact ⟨(if_neg h2).symm, (if_neg h2).symm, rfl⟩
    · have h2 : fE2 s pe ep = 0 := Decidable.not_not.1 (of_decide_eq_false hd)
      have g5 : nOpenE (fH2 s h c pe ep k) (fK s c pe ep k) m = fE s h c pe ep k m := (if_pos h2).symm
      have g6 : opC (fH2 s h c pe ep k) (fC4 s c pe ep k) (fK s c pe ep k) m = fC5 s h c pe ep k m := (if_pos h2).symm
      simp only [g5, g6]
      refine ⟨by omega, by omega, fun hd => ?_, fun hd => ?_⟩
      · have h0 : ¬ fE s h c pe ep k m = 0 := of_decide_eq_true hd
        exact ⟨(if_neg h0).symm, (if_neg h0).symm, trivial⟩
      · have h0 : fE s h c pe ep k m = 0 := Decidable.not_not.1 (of_decide_eq_false hd)
        exact ⟨(if_pos h0).symm, (if_pos h0).symm, h0.symm⟩
end Go.Proofs.YtiogdokekibeiaaGreat
