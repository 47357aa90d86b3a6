/- Steps towards HandshakeAgreesSaid. -/
import Derived.Test.YtiogdokekibeiaaJHapVc
import Derived.Test.YtiogdokekibeiaaJBlhCon
import Derived.Test.YtiogdokekibeiaaJCufVc
import Derived.Test.YtiogdokekibeiaaJAedCon
import Derived.Test.YtiogdokekibeiaaEngD
/- A step towards HandshakeAgreesSaid: no conditions. -/

namespace Go.Proofs.Ytiogdokekibeiaa
open Go Go.Eng Go.Cod Go.Cha Go.Pol Go.Aed Go.Bla Go.Kdf Go.Nos Go.Cur Go.Han
theorem ehna : EnvOk HNa := eok (gs := [(35, gMixChain), (52, gMixHash), (37, gMixShared), (33, gNSeal), (34, gNOpen), (36, gShare)]) ⟨conNMixChain, conNMixHash, conNMixShared, conNSeal, conNOpen, conShare, trivial⟩
theorem tk0 (n : Nat) (l : List UInt8) (h : l.length = n) : List.take n (dropL (dropL l 0) 0) = l := by
  simp only [dropL_zero]
  rw [← h, List.take_length]
theorem kL_len {s p : List UInt8} (hp : p.length = 32) : (keyL s p).length = 32 := by rw [key_val hp, outN_len]
theorem flat_one (x : List UInt8) : [x].flatten.length = x.length := by simp
set_option maxRecDepth 100000 in
theorem conMChain : ConM Try.prog 17 gmChain := conM_of_vcl fun cs o args ps res cs' hg hp hlen hcs => by
  unfold gmChain at hg
  split at hg <;> cases hg
  rename_i h c e p m x
  obtain ⟨rfl, hp1⟩ := all_cons.1 hp
  have hx := (all_cons.1 hp1).1
  refine ⟨HNa, 200, rfl, ehna, ?_⟩
  refine Eq.mpr (vcMChain h c p x e) ?_
  simp only [forall_eq, and_self, and_true, true_and]
  exact hx
set_option maxRecDepth 100000 in
theorem conMHash : ConM Try.prog 31 gmHash := conM_of_vcl fun cs o args ps res cs' hg hp hlen hcs => by
  unfold gmHash at hg
  split at hg <;> cases hg
  rename_i h c e p m x
  obtain ⟨rfl, hp1⟩ := all_cons.1 hp
  have hx := (all_cons.1 hp1).1
  refine ⟨HNa, 200, rfl, ehna, ?_⟩
  refine Eq.mpr (vcMHash h c p x e) ?_
  simp only [forall_eq, and_self, and_true, true_and, flat_one]
  exact ⟨rfl, by decide, hx⟩
set_option maxRecDepth 100000 in
theorem conMShare : ConM Try.prog 18 gmShare := conM_of_vcl fun cs o args ps res cs' hg hp hlen hcs => by
  unfold gmShare at hg
  split at hg <;> cases hg
  rename_i h c e p s q
  refine ⟨HNa, 200, rfl, ehna, ?_⟩
  refine Eq.mpr (vcMShare h c p s q e) ?_
  simp only [forall_eq, and_self, and_true, true_and]
  refine ⟨fun hd => ?_, fun hd => ?_⟩
  · have hd : ¬ e = 0 := of_decide_eq_true hd
    unfold shE shR
    rw [if_neg hd, if_neg hd]
    exact ⟨rfl, rfl⟩
  · have hd : e = 0 := Decidable.not_not.1 (of_decide_eq_false hd)
    unfold shE shR
    have hq : q.length = 32 := hlen.2.1.1
    rw [if_pos hd, if_pos hd, kL_len hq]
    exact ⟨rfl, rfl, rfl⟩
set_option maxRecDepth 100000 in
theorem conMShared : ConM Try.prog 19 gmShared := conM_of_vcl fun cs o args ps res cs' hg hp hlen hcs => by
  unfold gmShared at hg
  split at hg <;> cases hg
  rename_i h c e p x
  refine ⟨HNa, 200, rfl, ehna, ?_⟩
  refine Eq.mpr (vcMShared h c p x e) ?_
  simp only [forall_eq, and_self, and_true, true_and]
set_option maxRecDepth 100000 in
theorem conMSeal : ConM Try.prog 15 gmSeal := conM_of_vcl fun cs o args ps res cs' hg hp hlen hcs => by
  unfold gmSeal at hg
  split at hg <;> cases hg
  rename_i h c e p k m x
  obtain ⟨rfl, hp1⟩ := all_cons.1 hp
  have hx := (all_cons.1 hp1).1
  refine ⟨HNa, 200, rfl, ehna, ?_⟩
  refine Eq.mpr (vcMSeal h c p k x e) ?_
  simp only [forall_eq, and_self, and_true, true_and, tk0 _ _ rfl]
  exact ⟨hx, by omega⟩
set_option maxRecDepth 100000 in
theorem conMOpen : ConM Try.prog 16 gmOpen := conM_of_vcl fun cs o args ps res cs' hg hp hlen hcs => by
  unfold gmOpen at hg
  split at hg <;> cases hg
  rename_i h c e p k m x n
  obtain ⟨rfl, hp1⟩ := all_cons.1 hp
  obtain ⟨hx, hp2⟩ := all_cons.1 hp1
  obtain ⟨hn0, hn1⟩ := (all_cons.1 hp2).1
  refine ⟨HNa, 200, rfl, ehna, ?_⟩
  refine Eq.mpr (vcMOpen h c p k x e n) ?_
  have hr : ∀ l : List UInt8, l = List.replicate n.toNat 0 → List.take n.toNat (dropL (dropL (List.replicate n.toNat 0) 0) 0) = l := fun l hl => by rw [tk0 _ _ (by simp), hl]
  simp only [forall_eq, and_self, and_true, true_and]
  have n0 : (0 : Int) ≤ n ∧ n ≤ (4294967296 : Int) := ⟨hn0, by omega⟩
  refine ⟨fun hd => ⟨by omega, fun h2 => ?_, fun h2 => ?_⟩, fun hd => ?_⟩
  · have hd : e = 0 := of_decide_eq_true hd
    have h2 : nOpenE h k x = 0 := of_decide_eq_true h2
    have e1 : odE e h k x = nOpenE h k x := if_pos hd
    have e2 : odL e h k x n = nOpenL h k x := by unfold odL; rw [if_pos (e1.trans h2)]
    rw [e1, e2, tk0 _ _ rfl]
    refine ⟨(if_pos hd).symm, (if_pos hd).symm, rfl, ?_⟩
    repeat' apply And.intro
    all_goals first | omega | rfl | exact trivial
  · have hd : e = 0 := of_decide_eq_true hd
    have h2 : ¬ nOpenE h k x = 0 := of_decide_eq_false h2
    have e1 : odE e h k x = nOpenE h k x := if_pos hd
    have e2 : odL e h k x n = List.replicate n.toNat 0 := by unfold odL; rw [if_neg (fun h => h2 (e1.symm.trans h))]
    rw [e1, hr _ e2, e2, List.length_replicate]
    have e3 : opH h k x = odH e h k x := (if_pos hd).symm
    have e4 : opC h c k x = odC e h c k x := (if_pos hd).symm
    rw [e3, e4]
    repeat' apply And.intro
    all_goals first | omega | exact rfl | exact trivial
  · have hd : ¬ e = 0 := of_decide_eq_false hd
    have e1 : odE e h k x = e := if_neg hd
    have e2 : odL e h k x n = List.replicate n.toNat 0 := by unfold odL; rw [if_neg (fun h => hd (e1.symm.trans h))]
    rw [e1, hr _ e2, e2, List.length_replicate]
    have e3 : h = odH e h k x := (if_neg hd).symm
    have e4 : c = odC e h c k x := (if_neg hd).symm
    rw [← e3, ← e4]
    repeat' apply And.intro
    all_goals first | omega | exact rfl | exact trivial
theorem ehnb : EnvOk HNb := mkEM_ok namesOk mx (gs := [(32, gMixKey)]) (xs := []) (ms := [(17, gmChain), (31, gmHash), (18, gmShare)]) ⟨conNMixKey, trivial⟩ trivial ⟨conMChain, conMHash, conMShare, trivial⟩
set_option maxRecDepth 100000 in
theorem conMEph : ConM Try.prog 13 gmEph := conM_of_vcl fun cs o args ps res cs' hg hp hlen hcs => by
  unfold gmEph at hg
  split at hg <;> cases hg
  rename_i h c e p x
  refine ⟨HNb, 200, rfl, ehnb, ?_⟩
  refine Eq.mpr (vcMEph h c p x e) ?_
  have hx : x.length = 32 := hlen.1.1
  simp only [forall_eq, and_self, and_true, true_and]
  omega
set_option maxRecDepth 100000 in
theorem conMKey : ConM Try.prog 14 gmKey := conM_of_vcl fun cs o args ps res cs' hg hp hlen hcs => by
  unfold gmKey at hg
  split at hg <;> cases hg
  rename_i h c e p s q
  refine ⟨HNb, 200, rfl, ehnb, ?_⟩
  refine Eq.mpr (vcMKey h c p s q e) ?_
  have hx : (shR e s q).length ≤ 32 := by
    unfold shR
    split
    · have hq : q.length = 32 := hlen.2.1.1
      rw [kL_len hq]; omega
    · simp
  simp only [forall_eq, and_self, and_true, true_and, tk0 _ _ rfl]
  omega
end Go.Proofs.Ytiogdokekibeiaa

/- A step towards HandshakeAgreesSaid: no conditions. -/

namespace Go.Proofs.Ytiogdokekibeiaa
open Go Go.Eng Go.Cod Go.Cha Go.Pol Go.Aed
theorem ael_minNN (a b : Nat) : min (a : Int) (b : Int) = ((min a b : Nat) : Int) := by omega
theorem ael_xx (k n : List UInt8) (c : UInt32) (d : List UInt8) : xorL k n c (xorL k n c d) = d := by
  apply List.ext_getElem?
  intro i
  rw [xorL_get, xorL_get]
  cases d[i]? with
  | none => rfl
  | some x =>
    show some (x ^^^ _ ^^^ _) = some x
    rw [UInt8.xor_assoc, UInt8.xor_self, UInt8.xor_zero]
theorem openE_seal (k n p m : List UInt8) : openE k n (sealL k n p m) m = 0 := by
  have l : (sealL k n p m).length - 16 = (xorL k n 1 p).length := by rw [sealL_len, xorL_len]; omega
  unfold openE
  rw [if_neg (by rw [sealL_len]; omega), if_pos]
  rw [l]
  unfold sealL
  rw [List.take_append_of_le_length (Nat.le_refl _), List.take_length, List.drop_append_of_le_length (Nat.le_refl _), List.drop_length, List.nil_append]
theorem openL_seal (k n p m : List UInt8) : openL k n (sealL k n p m) m = p := by
  have l : (sealL k n p m).length - 16 = (xorL k n 1 p).length := by rw [sealL_len, xorL_len]; omega
  unfold openL
  rw [if_pos (openE_seal ..), l]
  unfold sealL
  rw [List.take_append_of_le_length (Nat.le_refl _), List.take_length, ael_xx]
theorem open_cases (k n s m : List UInt8) (h : 16 ≤ s.length) : (openE k n s m = 6 ∧ openL k n s m = []) ∨ (openE k n s m = 0 ∧ sealL k n (openL k n s m) m = s) := by
  by_cases ht : tagL k n (s.take (s.length - 16)) m = s.drop (s.length - 16)
  · have e : openE k n s m = 0 := by unfold openE; rw [if_neg (by omega), if_pos ht]
    refine .inr ⟨e, ?_⟩
    unfold openL
    rw [if_pos e]
    unfold sealL
    rw [ael_xx, ht, List.take_append_drop]
  · have e : openE k n s m = 6 := by unfold openE; rw [if_neg (by omega), if_neg ht]
    refine .inl ⟨e, ?_⟩
    unfold openL
    rw [e]; rfl
theorem openL_le (k n s m : List UInt8) : (openL k n s m).length ≤ s.length := by
  unfold openL
  split
  · rw [xorL_len, List.length_take]; omega
  · exact Nat.zero_le _
theorem set_same {s : List UInt8} {i : Nat} : s.set i (s.getD i 0 ^^^ UInt8.ofNat 0) = s := by
  show s.set i (s.getD i 0 ^^^ 0) = s
  rw [UInt8.xor_zero]
  by_cases h : i < s.length
  · rw [List.getD_eq_getElem?_getD, List.getElem?_eq_getElem h, Option.getD_some, List.set_getElem_self]
  · rw [List.set_eq_of_length_le (by omega)]
theorem take_set (l : List UInt8) (i : Nat) (x : UInt8) : (l.set i x).take l.length = l.set i x := List.take_of_length_le (by rw [List.length_set]; exact Nat.le_refl _)
theorem tmod_nn (a b : Nat) : (a : Int).tmod (b : Int) = ((a % b : Nat) : Int) := rfl
end Go.Proofs.Ytiogdokekibeiaa

/- A step towards HandshakeAgreesSaid: no conditions. -/

namespace Go.Han
open Go Go.Eng
theorem nrm_ok {A : Ad} {w : World} : ∀ {cs : List Ch} {l : List Value}, ChsRel A w cs l → ChsRel A w (nrmCs cs) l
  | [], _, h => h
  | .vec n x :: r, _, h => by
    obtain ⟨a, t, h1, h2, h3, h4⟩ := h
    exact ⟨a, t, h1, h2, h3, nrm_ok h4⟩
  | .one s :: r, _, h => by
    obtain ⟨v, t, h1, h2, h3, h4⟩ := h
    have ih := nrm_ok h4
    cases s <;> first | exact ⟨v, t, h1, h2, h3, ih⟩
theorem nrm_flat : ∀ {cs : List Ch}, flatCs cs = true → flatCs (nrmCs cs) = true
  | [], h => h
  | .vec n x :: r, h => by
    cases x <;> first | exact nrm_flat (cs := r) h | cases h
  | .one s :: r, h => by
    unfold flatCs at h
    simp only [Bool.and_eq_true] at h
    have ih := nrm_flat h.2
    cases s <;> (unfold nrmCs flatCs; simp only [Bool.and_eq_true]; exact ⟨h.1, ih⟩)
theorem conM_nrm {P : Program} {f : FuncId} {g : SpecM} (h : ConM P f g) : ConM P f (nrm g) :=
  fun cs o args ps res cs' hg hp hf hf' w a arr T fz cells spare vals h1 h2 h3 h4 h5 =>
    h (nrmCs cs) o args ps res cs' hg hp (nrm_flat hf) hf' w a arr T fz cells spare vals h1 h2 h3 (nrm_ok h4) h5
end Go.Han
namespace Go.Proofs.Ytiogdokekibeiaa
open Go Go.Eng Go.Cod Go.Cha Go.Pol Go.Aed Go.Bla Go.Kdf Go.Nos Go.Cur Go.Han
theorem shR_le (e : Int) {s p : BS} (hp : p.length = 32) : (shR e s p).length ≤ 32 := by
  unfold shR
  split
  · rw [kL_len hp]; omega
  · simp
theorem nOpen_len {h k x : BS} {n : Nat} (hx : x.length = n + 16) (h0 : nOpenE h k x = 0) : (nOpenL h k x).length = n := by
  rcases open_cases k nil12 x h (by omega) with ⟨h1, _⟩ | ⟨_, h2⟩
  · have h0 : openE k nil12 x h = 0 := h0
    rw [h1] at h0; cases h0
  · have := congrArg List.length h2
    rw [sealL_len, hx] at this
    have e : nOpenL h k x = openL k nil12 x h := rfl
    rw [e]; omega
theorem odL_len {e : Int} {h k x : BS} {n : Nat} (hx : x.length = n + 16) : (odL e h k x n).length = n := by
  unfold odL
  split
  · rename_i h0
    refine nOpen_len hx ?_
    unfold odE at h0
    split at h0
    · exact h0
    · contradiction
  · simp
theorem ehpn : EnvOk HPn := mkEM_ok namesOk mx (gs := [(11, gStart), (20, gSplit), (12, gPub)]) (xs := []) (ms := [(13, nrm gmEph), (14, nrm gmKey), (15, nrm gmSeal), (16, nrm gmOpen), (17, nrm gmChain), (18, nrm gmShare), (19, nrm gmShared)])
  ⟨conNStart, conNSplit, conPub, trivial⟩ trivial ⟨conM_nrm conMEph, conM_nrm conMKey, conM_nrm conMSeal, conM_nrm conMOpen, conM_nrm conMChain, conM_nrm conMShare, conM_nrm conMShared, trivial⟩
set_option maxRecDepth 100000 in
theorem conPInit : Con Try.prog 5 gInit := con_of_vcl fun args ps res hg hp hlen => by
  unfold gInit at hg
  split at hg <;> cases hg
  rename_i s pb pe t n
  refine ⟨HPn, 200, rfl, ehpn, ?_⟩
  refine Eq.mpr (vcPInit s pb pe t n) ?_
  simp only [forall_eq, and_self, and_true, true_and]
  have ht : t.length = 12 := hlen.2.2.2.1.1
  have l1 : ∀ (h k : BS), (nSealL h k (keyL s nineL)).length = 48 := fun h k => by rw [nSealL_len, kL_len rfl]
  have l2 : ∀ (h k : BS), (nSealL h k t).length = 28 := fun h k => by rw [nSealL_len, ht]
  have l0 : (keyL s nineL).length = 32 := kL_len rfl
  refine ⟨by rw [l0]; decide, Nat.le_of_eq (l1 _ _).symm, Nat.le_of_eq (l1 _ _).symm, by omega, Nat.le_of_eq (l2 _ _).symm, Nat.le_of_eq (l2 _ _).symm, fun hd => ?_, fun hd => ?_⟩
  · have h0 : ¬ iE s pe pb = 0 := of_decide_eq_true hd
    exact ⟨(if_neg h0).symm, (if_neg h0).symm, (if_neg h0).symm, (if_neg h0).symm, (if_neg h0).symm, (if_neg h0).symm, rfl⟩
  · have h0 : iE s pe pb = 0 := Decidable.not_not.1 (of_decide_eq_false hd)
    exact ⟨(if_pos h0).symm, (if_pos h0).symm, (List.take_of_length_le (Nat.le_of_eq (l1 _ _))).trans (if_pos h0).symm, (List.take_of_length_le (Nat.le_of_eq (l2 _ _))).trans (if_pos h0).symm, (if_pos h0).symm, (if_pos h0).symm, h0.symm⟩
set_option maxRecDepth 100000 in
theorem conPCons : Con Try.prog 6 gCons := con_of_vcl fun args ps res hg hp hlen => by
  unfold gCons at hg
  split at hg <;> cases hg
  rename_i s n ep a b u v
  refine ⟨HPn, 200, rfl, ehpn, ?_⟩
  refine Eq.mpr (vcPCons s ep a b u v n) ?_
  simp only [forall_eq, and_self, and_true, true_and]
  have ha : a.length = 48 := hlen.2.1.2.2.1
  have hb : b.length = 28 := hlen.2.1.2.2.2.1
  have k1 : (cL1 s ep a).length = 32 := odL_len (n := 32) ha
  have k2 : (cL2 s ep a b).length = 12 := odL_len (n := 12) hb
  have f1 : mixH (startH (keyL s nineL)) [ep] = cH1 s ep := rfl
  have f2 : exI startC ep 1 0 = cC1 ep := rfl
  have f3 : shE 0 s ep = cE1 s ep := rfl
  have f4 : exI (cC1 ep) (shR 0 s ep) 2 1 = cK1 s ep := rfl
  have f5 : exI (cC1 ep) (shR 0 s ep) 2 0 = cC2 s ep := rfl
  have f6 : odL (cE1 s ep) (cH1 s ep) (cK1 s ep) a 32 = cL1 s ep a := rfl
  have f7 : List.take 32 (cL1 s ep a) = cL1 s ep a := List.take_of_length_le (Nat.le_of_eq k1)
  have f8 : odE (cE1 s ep) (cH1 s ep) (cK1 s ep) a = cE2 s ep a := rfl
  have f9 : odH (cE1 s ep) (cH1 s ep) (cK1 s ep) a = cH2 s ep a := rfl
  have f10 : odC (cE1 s ep) (cH1 s ep) (cC2 s ep) (cK1 s ep) a = cC3 s ep a := rfl
  have f11 : shE (cE2 s ep a) s (cL1 s ep a) = cE3 s ep a := rfl
  have f12 : exI (cC3 s ep a) (shR (cE2 s ep a) s (cL1 s ep a)) 2 1 = cK2 s ep a := rfl
  have f13 : exI (cC3 s ep a) (shR (cE2 s ep a) s (cL1 s ep a)) 2 0 = cC4 s ep a := rfl
  have f14 : odL (cE3 s ep a) (cH2 s ep a) (cK2 s ep a) b 12 = cL2 s ep a b := rfl
  have f15 : List.take 12 (cL2 s ep a b) = cL2 s ep a b := List.take_of_length_le (Nat.le_of_eq k2)
  have f16 : odE (cE3 s ep a) (cH2 s ep a) (cK2 s ep a) b = cE s ep a b := rfl
  have f17 : odH (cE3 s ep a) (cH2 s ep a) (cK2 s ep a) b = cH3 s ep a b := rfl
  have f18 : odC (cE3 s ep a) (cH2 s ep a) (cC4 s ep a) (cK2 s ep a) b = cC5 s ep a b := rfl
  simp only [show Int.ofNat 0 = (0 : Int) from rfl, show Int.ofNat 32 = (32 : Int) from rfl, show Int.ofNat 12 = (12 : Int) from rfl, f1, f2, f3, f4, f5, f6, f7, f8, f9, f10, f11, f12, f13, f14, f15, f16, f17, f18, k1, k2, Nat.le_refl, true_and, and_true]
  refine ⟨by omega, by decide, by omega, by decide, fun hd => ?_, fun hd => ?_⟩
  · have h0 : ¬ cE s ep a b = 0 := of_decide_eq_true hd
    exact ⟨(if_neg h0).symm, (if_neg h0).symm, (if_neg h0).symm, (if_neg h0).symm⟩
  · have h0 : cE s ep a b = 0 := Decidable.not_not.1 (of_decide_eq_false hd)
    exact ⟨(if_pos h0).symm, (if_pos h0).symm, (if_pos h0).symm, (if_pos h0).symm, h0.symm⟩
set_option maxRecDepth 100000 in
theorem conPResp : Con Try.prog 7 gResp := con_of_vcl fun args ps res hg hp hlen => by
  unfold gResp at hg
  split at hg <;> cases hg
  rename_i h c m ep a b u v q k pe n
  refine ⟨HPn, 200, rfl, ehpn, ?_⟩
  refine Eq.mpr (vcPResp h c ep a b u v q k pe m n) ?_
  simp only [forall_eq, and_self, and_true, true_and]
  have hep : ep.length = 32 := hlen.2.1.2.1
  have hq : q.length = 32 := hlen.2.2.1.1
  have f1 : mixH h [keyL pe nineL] = rH1 h pe := rfl
  have f2 : exI c (keyL pe nineL) 1 0 = rC1 c pe := rfl
  have f3 : shE 0 pe ep = rE1 pe ep := rfl
  have f4 : exI (rC1 c pe) (shR 0 pe ep) 1 0 = rC2 c pe ep := rfl
  have f5 : shE (rE1 pe ep) pe q = rE pe ep q := rfl
  have f6 : exI (rC2 c pe ep) (shR (rE1 pe ep) pe q) 1 0 = rC3 c pe ep q := rfl
  have f7 : mixH (rH1 h pe) [exI (rC3 c pe ep q) k 3 1] = rH2 h c pe ep q k := rfl
  have f8 : exI (rC3 c pe ep q) k 3 0 = rC4 c pe ep q k := rfl
  have f9 : exI (rC3 c pe ep q) k 3 2 = rK c pe ep q k := rfl
  have f10 : nSealL (rH2 h c pe ep q k) (rK c pe ep q k) [] = rS h c pe ep q k := rfl
  have k1 : (rS h c pe ep q k).length = 16 := nSealL_len ..
  have k2 : List.take 16 (rS h c pe ep q k) = rS h c pe ep q k := List.take_of_length_le (Nat.le_of_eq k1)
  have m1 := shR_le 0 (s := pe) hep
  have m2 := shR_le (rE1 pe ep) (s := pe) hq
  simp only [show Int.ofNat 0 = (0 : Int) from rfl, List.replicate_zero, tk0 _ _ rfl, f1, f2, f3, f4, f5, f6, f7, f8, f9, f10, k1, k2, Nat.le_refl, true_and, and_true]
  refine ⟨by omega, by omega, by omega, by omega, by decide, fun hd => ?_, fun hd => ?_⟩
  · have h0 : ¬ rE pe ep q = 0 := of_decide_eq_true hd
    exact ⟨(if_neg h0).symm, (if_neg h0).symm, (if_neg h0).symm, (if_neg h0).symm, (if_neg h0).symm, (if_neg h0).symm⟩
  · have h0 : rE pe ep q = 0 := Decidable.not_not.1 (of_decide_eq_false hd)
    exact ⟨(if_pos h0).symm, (if_pos h0).symm, (if_pos h0).symm, (if_pos h0).symm, (if_pos h0).symm, (if_pos h0).symm, h0.symm⟩
set_option maxRecDepth 100000 in
theorem conPFin : Con Try.prog 8 gFin := con_of_vcl fun args ps res hg hp hlen => by
  unfold gFin at hg
  split at hg <;> cases hg
  rename_i s pe k h c x y ep m u v
  refine ⟨HPn, 200, rfl, ehpn, ?_⟩
  refine Eq.mpr (vcPFin s pe k h c ep m u v x y) ?_
  simp only [forall_eq, and_self, and_true, true_and]
  have hep : ep.length = 32 := hlen.2.2.2.2.1.2.2.1
  have hm : m.length = 16 := hlen.2.2.2.2.1.2.2.2.1
  have f1 : mixH h [ep] = fH1 h ep := rfl
  have f2 : exI c ep 1 0 = fC1 c ep := rfl
  have f3 : shE 0 pe ep = fE1 pe ep := rfl
  have f4 : exI (fC1 c ep) (shR 0 pe ep) 1 0 = fC2 c pe ep := rfl
  have f5 : shE (fE1 pe ep) s ep = fE2 s pe ep := rfl
  have f6 : exI (fC2 c pe ep) (shR (fE1 pe ep) s ep) 1 0 = fC3 s c pe ep := rfl
  have f7 : mixH (fH1 h ep) [exI (fC3 s c pe ep) k 3 1] = fH2 s h c pe ep k := rfl
  have f8 : exI (fC3 s c pe ep) k 3 0 = fC4 s c pe ep k := rfl
  have f9 : exI (fC3 s c pe ep) k 3 2 = fK s c pe ep k := rfl
  have f10 : odE (fE2 s pe ep) (fH2 s h c pe ep k) (fK s c pe ep k) m = fE s h c pe ep k m := rfl
  have f11 : odC (fE2 s pe ep) (fH2 s h c pe ep k) (fC4 s c pe ep k) (fK s c pe ep k) m = fC5 s h c pe ep k m := rfl
  have m1 := shR_le 0 (s := pe) hep
  have m2 := shR_le (fE1 pe ep) (s := s) hep
  simp only [show Int.ofNat 0 = (0 : Int) from rfl, tk0 _ _ rfl, f1, f2, f3, f4, f5, f6, f7, f8, f9, f10, f11, Nat.le_refl, true_and, and_true]
  refine ⟨by omega, by omega, by omega, by omega, by omega, by decide, fun hd => ?_, fun hd => ?_⟩
  · have h0 : ¬ fE s h c pe ep k m = 0 := of_decide_eq_true hd
    exact ⟨(if_neg h0).symm, (if_neg h0).symm⟩
  · have h0 : fE s h c pe ep k m = 0 := Decidable.not_not.1 (of_decide_eq_false hd)
    exact ⟨(if_pos h0).symm, (if_pos h0).symm, h0.symm⟩
end Go.Proofs.Ytiogdokekibeiaa

/- A step towards HandshakeAgreesSaid: no conditions. -/
namespace Go.Cur
open Go Go.Eng
/-! Fermat's theorem and Pocklington's, for numbers -/
def Pr (q : Nat) : Prop := 1 < q ∧ ∀ m, m ∣ q → m = 1 ∨ m = q
theorem Pr.cop {q a : Nat} (h : Pr q) (ha : ¬ q ∣ a) : Nat.Coprime q a := by
  rcases h.2 (Nat.gcd q a) (Nat.gcd_dvd_left q a) with e | e
  · exact e
  · exact absurd (e ▸ Nat.gcd_dvd_right q a) ha
theorem Pr.dvd_mul {q a b : Nat} (h : Pr q) (hab : q ∣ a * b) : q ∣ a ∨ q ∣ b := by
  by_cases ha : q ∣ a
  · exact .inl ha
  · exact .inr ((h.cop ha).dvd_of_dvd_mul_left hab)
def ch : Nat → Nat → Nat
  | _, 0 => 1
  | 0, _ + 1 => 0
  | n + 1, k + 1 => ch n k + ch n (k + 1)
theorem ch_zero (n : Nat) : ch n 0 = 1 := by cases n <;> rfl
theorem ch_succ (n k : Nat) : ch (n + 1) (k + 1) = ch n k + ch n (k + 1) := rfl
theorem ch_big : ∀ n k, n < k → ch n k = 0
  | 0, k + 1, _ => rfl
  | n + 1, k + 1, h => by rw [ch_succ, ch_big n k (by omega), ch_big n (k + 1) (by omega)]
theorem ch_self : ∀ n, ch n n = 1
  | 0 => rfl
  | n + 1 => by rw [ch_succ, ch_self n, ch_big n (n + 1) (by omega)]
theorem ch_mul : ∀ n k, (k + 1) * ch (n + 1) (k + 1) = (n + 1) * ch n k
  | 0, 0 => rfl
  | 0, k + 1 => by rw [ch_succ, ch_big 0 (k + 1) (by omega), ch_big 0 (k + 2) (by omega)]; simp
  | n + 1, 0 => by
    have h := ch_mul n 0
    rw [ch_succ, ch_zero]
    rw [ch_zero] at h
    omega
  | n + 1, k + 1 => by
    have h1 := ch_mul n k
    have h2 := ch_mul n (k + 1)
    have e := ch_succ n k
    have e2 := ch_succ (n + 1) (k + 1)
    rw [e2]
    grind
def sm (a n : Nat) : Nat → Nat
  | 0 => 0
  | m + 1 => sm a n m + ch n m * a ^ m
theorem sm_succ (a n : Nat) : ∀ m, sm a (n + 1) (m + 1) = sm a n (m + 1) + a * sm a n m
  | 0 => by simp [sm, ch_zero]
  | m + 1 => by
    have ih := sm_succ a n m
    rw [sm, ih, ch_succ]
    have e1 : sm a n (m + 1 + 1) = sm a n (m + 1) + ch n (m + 1) * a ^ (m + 1) := rfl
    have e2 : sm a n (m + 1) = sm a n m + ch n m * a ^ m := rfl
    rw [e1]
    rw [Nat.pow_succ]
    grind
theorem bin (a : Nat) : ∀ n, (a + 1) ^ n = sm a n (n + 1)
  | 0 => by simp [sm, ch_zero]
  | n + 1 => by
    have ih := bin a n
    rw [sm_succ, Nat.pow_succ, ih]
    have e1 : sm a n (n + 1 + 1) = sm a n (n + 1) + ch n (n + 1) * a ^ (n + 1) := rfl
    rw [e1, ch_big n (n + 1) (by omega)]
    grind
theorem Pr.ch {q : Nat} (h : Pr q) : ∀ k, 0 < k → k < q → q ∣ ch q k := by
  intro k hk hq
  obtain ⟨n, rfl⟩ : ∃ n, q = n + 1 := ⟨q - 1, by omega⟩
  obtain ⟨j, rfl⟩ : ∃ j, k = j + 1 := ⟨k - 1, by omega⟩
  have e := ch_mul n j
  rcases h.dvd_mul (a := j + 1) (b := Cur.ch (n + 1) (j + 1)) ⟨_, e⟩ with d | d
  · have := Nat.le_of_dvd (by omega) d
    omega
  · exact d
theorem Pr.sm {q : Nat} (h : Pr q) (a : Nat) : ∀ m, m < q → sm a q (m + 1) % q = 1
  | 0, _ => by
    have := h.1
    simp only [Cur.sm, ch_zero]
    rw [Nat.pow_zero, Nat.mul_one, Nat.zero_add, Nat.mod_eq_of_lt this]
  | m + 1, hm => by
    have ih := Pr.sm h a m (by omega)
    rw [Cur.sm, Nat.add_mod, ih, Nat.mul_mod, Nat.mod_eq_zero_of_dvd (h.ch (m + 1) (by omega) hm), Nat.zero_mul, Nat.zero_mod, Nat.add_zero]
    exact Nat.mod_eq_of_lt h.1
theorem Pr.fermat0 {q : Nat} (h : Pr q) : ∀ a, a ^ q % q = a % q
  | 0 => by rw [Nat.zero_pow (by have := h.1; omega)]
  | a + 1 => by
    have ih := Pr.fermat0 h a
    obtain ⟨n, rfl⟩ : ∃ n, q = n + 1 := ⟨q - 1, by have := h.1; omega⟩
    rw [bin, Cur.sm, Nat.add_mod, h.sm a n (by omega), ch_self, Nat.one_mul, ih, Nat.add_mod_mod, Nat.add_comm]
theorem Pr.fermat {q a : Nat} (h : Pr q) (ha : ¬ q ∣ a) : a ^ (q - 1) % q = 1 := by
  obtain ⟨n, rfl⟩ : ∃ n, q = n + 1 := ⟨q - 1, by have := h.1; omega⟩
  have a0 : 0 < a := Nat.pos_of_ne_zero fun e => ha (e ▸ Nat.dvd_zero _)
  have h0 := h.fermat0 a
  have p : 0 < a ^ n := Nat.pow_pos a0
  have d : (n + 1) ∣ a * (a ^ n - 1) := by
    rw [Nat.mul_sub, Nat.mul_one, Nat.mul_comm, ← Nat.pow_succ]
    exact Nat.dvd_of_mod_eq_zero (Nat.sub_mod_eq_zero_of_mod_eq h0)
  rcases h.dvd_mul d with d | d
  · exact absurd d ha
  · show a ^ n % (n + 1) = 1
    obtain ⟨c, hc⟩ := d
    have e : a ^ n = 1 + (n + 1) * c := by omega
    rw [e, Nat.add_mul_mod_self_left]
    exact Nat.mod_eq_of_lt h.1

/-! powers by the bits of the exponent -/
theorem pow_mod_gcd {b r : Nat} (hr : 1 < r) : ∀ (m n : Nat), b ^ m % r = 1 → b ^ n % r = 1 → b ^ Nat.gcd m n % r = 1 := by
  intro m n
  refine Nat.gcd.induction (P := fun m n => b ^ m % r = 1 → b ^ n % r = 1 → b ^ Nat.gcd m n % r = 1) m n ?_ ?_
  · intro n _ h
    rw [Nat.gcd_zero_left]; exact h
  · intro m n hm ih h1 h2
    rw [Nat.gcd_rec]
    refine ih ?_ h1
    have e : b ^ n = (b ^ m) ^ (n / m) * b ^ (n % m) := by rw [← Nat.pow_mul, ← Nat.pow_add, Nat.div_add_mod]
    rw [e, Nat.mul_mod, Nat.pow_mod, h1, Nat.one_pow, Nat.mod_eq_of_lt hr, Nat.one_mul, Nat.mod_mod] at h2
    exact h2
/-- a power's residue -/
structure Pw (n a e c : Nat) : Prop where
  eq : a ^ e % n = c
theorem pock {n f a r e k c : Nat} (hr : Pr r) (hrn : r ∣ n) (hf : Pr f) (he : n = e + 1) (hk : e = f * k) (h1 : Pw n a e 1) (hc : Pw n a k c) (h2 : Nat.gcd (c - 1) n = 1) (e0 : 0 < e) : f ∣ r - 1 := by
  obtain ⟨h1⟩ := h1
  obtain ⟨hc⟩ := hc
  obtain rfl : e = n - 1 := by omega
  by_cases hd : f ∣ r - 1
  · exact hd
  exfalso
  have g := hf.cop hd
  have m1 : ∀ x, x % n = 1 → x % r = 1 := by
    intro x hx
    rw [← Nat.mod_mod_of_dvd x hrn, hx]
    exact Nat.mod_eq_of_lt hr.1
  have ra : ¬ r ∣ a := by
    intro hra
    have q := m1 _ h1
    have : r ∣ a ^ (n - 1) := Nat.dvd_trans hra (by
      obtain ⟨m, hm⟩ : ∃ m, n - 1 = m + 1 := ⟨n - 2, by omega⟩
      rw [hm, Nat.pow_succ]; exact Nat.dvd_mul_left _ _)
    rw [Nat.mod_eq_zero_of_dvd this] at q
    omega
  have b1 : (a ^ k) ^ f % r = 1 := by
    rw [← Nat.pow_mul, Nat.mul_comm, ← hk]; exact m1 _ h1
  have b2 : (a ^ k) ^ (r - 1) % r = 1 := by
    rw [← Nat.pow_mul, Nat.mul_comm, Nat.pow_mul, Nat.pow_mod, hr.fermat ra, Nat.one_pow]
    exact Nat.mod_eq_of_lt hr.1
  have b3 := pow_mod_gcd hr.1 f (r - 1) b1 b2
  rw [show Nat.gcd f (r - 1) = 1 from g, Nat.pow_one] at b3
  have b4 : c % r = 1 := by rw [← hc, Nat.mod_mod_of_dvd _ hrn]; exact b3
  have b5 : r ∣ c - 1 := Nat.dvd_of_mod_eq_zero (Nat.sub_mod_eq_zero_of_mod_eq (by rw [b4, Nat.mod_eq_of_lt hr.1]))
  have b6 := Nat.dvd_gcd b5 hrn
  rw [h2] at b6
  have := Nat.le_of_dvd (by omega) b6
  have := hr.1
  omega
/-- the least divisor above 1 -/
theorem low_div {n : Nat} (hn : 1 < n) : ∃ r, Pr r ∧ r ∣ n ∧ ∀ m, 1 < m → m ∣ n → r ≤ m := by
  have : ∀ d, (∃ m, 1 < m ∧ m ∣ n ∧ m ≤ d) → ∃ r, 1 < r ∧ r ∣ n ∧ ∀ m, 1 < m → m ∣ n → r ≤ m := by
    intro d
    induction d with
    | zero => rintro ⟨m, h, _, h'⟩; omega
    | succ d ih =>
      rintro ⟨m, h1, h2, h3⟩
      by_cases c : ∃ m, 1 < m ∧ m ∣ n ∧ m ≤ d
      · exact ih c
      · refine ⟨m, h1, h2, fun k k1 k2 => ?_⟩
        by_cases q : k ≤ d
        · exact absurd ⟨k, k1, k2, q⟩ c
        · omega
  obtain ⟨r, h1, h2, h3⟩ := this n ⟨n, hn, Nat.dvd_refl n, Nat.le_refl n⟩
  refine ⟨r, ⟨h1, fun m hm => ?_⟩, h2, h3⟩
  by_cases c : 1 < m
  · have := h3 m c (Nat.dvd_trans hm h2)
    have := Nat.le_of_dvd (by omega) hm
    omega
  · have : m ≠ 0 := by rintro rfl; have := Nat.eq_zero_of_zero_dvd hm; omega
    omega
/-- no divisor up to the root: prime -/
theorem pr_of {n s : Nat} (hn : 1 < n) (hs : n < s * s) (h : ∀ r, Pr r → r ∣ n → s ≤ r) : Pr n := by
  obtain ⟨r, hr, hrn, hl⟩ := low_div hn
  obtain ⟨c, hc⟩ := hrn
  by_cases e : c = 1
  · rw [e, Nat.mul_one] at hc; exact hc ▸ hr
  · exfalso
    have c0 : c ≠ 0 := by rintro rfl; omega
    have l1 := h r hr ⟨c, hc⟩
    have l2 := hl c (by omega) ⟨r, by rw [hc, Nat.mul_comm]⟩
    have := Nat.mul_le_mul l1 (Nat.le_trans l1 l2)
    omega
noncomputable def pwF {β : Type} (n a : Nat) (fuel : Nat) : Nat → (Nat → β) → β :=
  Nat.rec (motive := fun _ => Nat → (Nat → β) → β) (fun _ k => k (1 % n)) (fun _ ih e k => frcN (e / 2) fun e2 => ih e2 fun h => frcN (bif Nat.beq (e % 2) 1 then h * h % n * a % n else h * h % n) k) fuel
theorem pwF_succ {β : Type} (n a f e : Nat) (k : Nat → β) : pwF n a (f + 1) e k = frcN (e / 2) fun e2 => pwF n a f e2 fun h => frcN (bif Nat.beq (e % 2) 1 then h * h % n * a % n else h * h % n) k := rfl
theorem pwF_eq {β : Type} (n a : Nat) : ∀ (f e : Nat) (k : Nat → β), e < 2 ^ f → pwF n a f e k = k (a ^ e % n)
  | 0, e, k, h => by
    obtain rfl : e = 0 := by simpa using h
    rfl
  | f + 1, e, k, h => by
    rw [pwF_succ, frcN_eq, pwF_eq n a f (e / 2) _ (by rw [Nat.pow_succ] at h; omega), frcN_eq]
    refine congrArg k ?_
    have c : e % 2 = 0 ∨ e % 2 = 1 := by omega
    have d := Nat.div_add_mod e 2
    rcases c with c | c
    · rw [c] at d ⊢
      have : a ^ e = a ^ (e / 2) * a ^ (e / 2) := by rw [← Nat.pow_add]; congr 1; omega
      rw [this, Nat.mul_mod (a ^ (e / 2))]
      rfl
    · rw [c] at d ⊢
      have : a ^ e = a ^ (e / 2) * a ^ (e / 2) * a := by rw [← Nat.pow_add, ← Nat.pow_succ]; congr 1; omega
      rw [this, Nat.mul_mod (a ^ (e / 2) * a ^ (e / 2)), Nat.mul_mod (a ^ (e / 2))]
      show _ % n * a % n = _
      rw [Nat.mul_mod (_ % n) a, Nat.mod_mod]
theorem pw {n a e c : Nat} (f : Nat) (hf : Nat.ble (e + 1) (2 ^ f) = true) (h : pwF n a f e (fun x => Nat.beq x c) = true) : Pw n a e c := by
  refine ⟨?_⟩
  rw [pwF_eq n a f e _ (Nat.le_of_ble_eq_true hf)] at h
  exact Nat.eq_of_beq_eq_true h
/-- a table of trial divisions -/
noncomputable def noDiv (n : Nat) (k : Nat) : Bool := Nat.rec (motive := fun _ => Bool) true (fun k ih => (Nat.beq (n % (k + 2)) 0).rec ih false) k
theorem noDiv_spec (n : Nat) : ∀ k, noDiv n k = true → ∀ m, 1 < m → m < k + 2 → ¬ m ∣ n
  | 0, _, m, h1, h2, _ => by omega
  | k + 1, h, m, h1, h2, hd => by
    have e : noDiv n (k + 1) = (Nat.beq (n % (k + 2)) 0).rec (noDiv n k) false := rfl
    rw [e] at h
    cases c : Nat.beq (n % (k + 2)) 0 with
    | true => rw [c] at h; cases h
    | false =>
      rw [c] at h
      by_cases q : m = k + 2
      · subst q
        rw [Nat.mod_eq_zero_of_dvd hd] at c
        cases c
      · exact noDiv_spec n k h m h1 (by omega) hd
theorem pr_small (n s : Nat) (hn : Nat.ble 2 n = true) (hs : Nat.ble (n + 1) ((s + 2) * (s + 2)) = true) (h : noDiv n s = true) : Pr n :=
  pr_of (Nat.le_of_ble_eq_true hn) (Nat.le_of_ble_eq_true hs) fun r hr hrn => by
    by_cases c : s + 2 ≤ r
    · exact c
    · exact absurd hrn (noDiv_spec n s h r hr.1 (by omega))
theorem cop_mul {f g m : Nat} (hf : f ∣ m) (hg : g ∣ m) (h : Nat.gcd f g = 1) : f * g ∣ m := Nat.Coprime.mul_dvd_of_dvd_of_dvd h hf hg
/-- prime by the powers of one base -/
theorem pr_pock (n a F : Nat) (hn : Nat.ble 2 n = true) (hF : Nat.ble (n + 1) ((F + 1) * (F + 1)) = true) (h : ∀ r, Pr r → r ∣ n → F ∣ r - 1) : Pr n :=
  pr_of (s := F + 1) (Nat.le_of_ble_eq_true hn) (Nat.le_of_ble_eq_true hF) fun r hr hrn => by
    have h1 : 1 < r := hr.1
    have h2 : F ≤ r - 1 := Nat.le_of_dvd (by omega) (h r hr hrn)
    omega
end Go.Cur
