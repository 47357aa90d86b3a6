/- Steps towards MacsCookiesSaid. -/
import Derived.Test.YtbannfdoiiojgaaJCddCon
import Derived.Test.YtbannfdoiiojgaaJXcrCon
import Derived.Test.YtbannfdoiiojgaaJCklVc
/- A step towards MacsCookiesSaid: no conditions. -/
namespace Go.Proofs.Ytbannfdoiiojgaa
open Go Go.Eng Go.Cod Go.Cha Go.Pol Go.Aed Go.Msg Go.Bla Go.Xc Go.Mac
theorem drop_app {a b : List UInt8} {n : Nat} (h : a.length = n) : (a ++ b).drop n = b := by subst h; simp
theorem drop_app2 {a b c : List UInt8} {n : Nat} (h : a.length + b.length = n) : (a ++ (b ++ c)).drop n = c := by
  rw [← List.append_assoc]; exact drop_app (by rw [List.length_append]; exact h)
section
variable {k c : List UInt8} {has : Bool} {s r : UInt32} {e st t em : List UInt8}
theorem sealI_len (he : e.length = 32) (hst : st.length = 48) (ht : t.length = 28) : (sealI k has c s e st t).length = 148 := init_len he hst ht (mac1L_len _ _) (mac2L_len _ _ _)
theorem sealR_len (he : e.length = 32) (hst : em.length = 16) : (sealR k has c s r e em).length = 92 := resp_len he hst (mac1L_len _ _) (mac2L_len _ _ _)
theorem sealI_kind (he : e.length = 32) (hst : st.length = 48) (ht : t.length = 28) : kindL (sealI k has c s e st t) = 1 := (init_ok he hst ht (mac1L_len _ _) (mac2L_len _ _ _)).2.1
theorem sealR_kind (he : e.length = 32) (hst : em.length = 16) : kindL (sealR k has c s r e em) = 2 := (resp_ok he hst (mac1L_len _ _) (mac2L_len _ _ _)).2.1
theorem sealI_chk1 (he : e.length = 32) (hst : st.length = 48) (ht : t.length = 28) : chk1 k (sealI k has c s e st t) = true := by
  have h1 : (!codedL (sealI k has c s e st t)) = false := by unfold codedL; rw [sealI_kind he hst ht]; rfl
  rw [chk1_yes h1, sealI_len he hst ht]
  unfold sealI
  rw [show 148 - 32 = 116 from rfl, init_t116 he hst ht, initL_iB, drop_app (iB_len he hst ht), take_app (mac1L_len _ _)]
  exact beq_self_eq_true _
theorem sealI_chk2 (he : e.length = 32) (hst : st.length = 48) (ht : t.length = 28) : chk2 c (sealI k true c s e st t) = true := by
  have h1 : (!codedL (sealI k true c s e st t)) = false := by unfold codedL; rw [sealI_kind he hst ht]; rfl
  rw [chk2_yes h1, sealI_len he hst ht]
  unfold sealI
  rw [show 148 - 16 = 132 from rfl, init_t132 he hst ht (mac1L_len _ _), initL_iB, drop_app2 (by rw [iB_len he hst ht, mac1L_len])]
  exact beq_self_eq_true _
theorem sealR_chk1 (he : e.length = 32) (hst : em.length = 16) : chk1 k (sealR k has c s r e em) = true := by
  have h1 : (!codedL (sealR k has c s r e em)) = false := by unfold codedL; rw [sealR_kind he hst]; rfl
  rw [chk1_yes h1, sealR_len he hst]
  unfold sealR
  rw [show 92 - 32 = 60 from rfl, resp_t60 he hst, respL_rB, drop_app (rB_len he hst), take_app (mac1L_len _ _)]
  exact beq_self_eq_true _
theorem sealR_chk2 (he : e.length = 32) (hst : em.length = 16) : chk2 c (sealR k true c s r e em) = true := by
  have h1 : (!codedL (sealR k true c s r e em)) = false := by unfold codedL; rw [sealR_kind he hst]; rfl
  rw [chk2_yes h1, sealR_len he hst]
  unfold sealR
  rw [show 92 - 16 = 76 from rfl, resp_t76 he hst (mac1L_len _ _), respL_rB, drop_app2 (by rw [rB_len he hst, mac1L_len])]
  exact beq_self_eq_true _
theorem sealI_116 (he : e.length = 32) (hst : st.length = 48) (ht : t.length = 28) : ((sealI k has c s e st t).drop 116).take 16 = mac1L k (iB s e st t) := by
  unfold sealI; rw [initL_iB, drop_app (iB_len he hst ht), take_app (mac1L_len _ _)]
theorem sealI_132 (he : e.length = 32) (hst : st.length = 48) (ht : t.length = 28) : ((sealI k false c s e st t).drop 132).take 16 = List.replicate 16 0 := by
  unfold sealI; rw [initL_iB, drop_app2 (by rw [iB_len he hst ht, mac1L_len])]; rfl
theorem rep_back {n m1 : List UInt8} {rc : UInt32} (hn : n.length = 24) (hc : c.length = 16) : oRepE k m1 (repL k n c m1 rc) = 0 ∧ oRepL k m1 (repL k n c m1 rc) = c := by
  obtain ⟨_, h2, _, h4, h5⟩ := cook_ok (r := rc) hn (repC_len (k := k) (n := n) (c := c) (m1 := m1) hc)
  have e : oRepE k m1 (repL k n c m1 rc) = 0 := by
    unfold oRepE repL; rw [if_pos h2, h4, h5]; unfold repC; exact openE_seal ..
  refine ⟨e, ?_⟩
  unfold oRepL
  rw [if_pos e]
  unfold repL
  rw [h4, h5]; unfold repC; exact openL_seal ..
end
set_option maxRecDepth 100000 in
theorem emlb : EnvOk MLb := eok (gs := [(20, gSealI), (11, gChk1)]) ⟨conSealI, conChk1, trivial⟩
set_option maxRecDepth 100000 in
theorem conMBeg : Con Try.prog 15 Go.Msg.gTrue0 := con_of_vcs fun args ps res h hp => by
  unfold Go.Msg.gTrue0 at h
  split at h <;> cases h
  refine ⟨MLb, 300, rfl, emlb, ?_⟩
  rw [vcMBeg]
  have he : (List.replicate 32 (0 : UInt8)).length = 32 := rfl
  have hst : (List.replicate 48 (0 : UInt8)).length = 48 := rfl
  have ht : (List.replicate 28 (0 : UInt8)).length = 28 := rfl
  simp only [forall_eq]
  generalize List.replicate 32 (0 : UInt8) = z1 at *
  generalize List.replicate 48 (0 : UInt8) = z2 at *
  generalize List.replicate 28 (0 : UInt8) = z3 at *
  rw [dropL_eq, dropL_eq, sealI_116 he hst ht, sealI_132 he hst ht, sealI_chk1 he hst ht, sealI_len he hst ht]
  exact ⟨by decide, fun _ => ⟨by decide, fun _ => ⟨trivial, by decide, rfl, trivial⟩, fun h => absurd (of_decide_eq_false h) (fun g => g rfl)⟩, fun h => absurd (of_decide_eq_false h) (fun g => g rfl)⟩
set_option maxRecDepth 100000 in
theorem emll : EnvOk MLl := eok (gs := [(20, gSealI), (21, gSealR), (8, gSealI), (9, gSealR), (22, gMac1), (23, gMac1), (18, gCookie), (24, gCookie), (11, gChk1), (13, gChk2), (12, gChk1), (14, gChk2), (26, gReply), (27, gORep), (25, gReply), (28, gORep), (29, gDec dInit), (30, gDec dResp), (15, Go.Msg.gTrue0)])
  ⟨conSealI, conSealR_, conSealIR, conSealRR, conMMac1, conMac1R, conCookie, conCookieR, conChk1, conChk2, conChk1R, conChk2R, conReply, conORep, conReplyR, conORepR, conDInit, conDResp, conMBeg, trivial⟩
set_option maxRecDepth 100000 in
theorem law_mseals (pub sec part : List UInt8) (six : Bool) (ip : List UInt8) (port : Int) (has : Bool) (ck : List UInt8) (s : UInt32) (e st t m1 m2 : List UInt8) (s' r' : UInt32) (e' em m3 m4 : List UInt8) : vcFn MLl 300 5 [.agg [.vec (.n 32) (.u8 pub)], .agg [.vec (.n 32) (.u8 sec)], .s (.xs 1 (.s part.length) (.u8 part)), .agg [.one (.b six), .vec (.n 16) (.u8 ip), .one (.i64 port)], .s (.b has), .agg [.vec (.n 16) (.u8 ck)], .agg [.one (.u32 s), .vec (.n 32) (.u8 e), .vec (.n 48) (.u8 st), .vec (.n 28) (.u8 t), .vec (.n 16) (.u8 m1), .vec (.n 16) (.u8 m2)], .agg [.one (.u32 s'), .one (.u32 r'), .vec (.n 32) (.u8 e'), .vec (.n 16) (.u8 em), .vec (.n 16) (.u8 m3), .vec (.n 16) (.u8 m4)]] (.s (.b true)) := by
  rw [vcLSeals]
  simp only [forall_eq, io, ael_minNN, Int.toNat_natCast, beq_self_eq_true, decide_true, Bool.true_eq_false, false_imp_iff, and_true, true_and, forall_const]
  have hl : (List.take (min part.length 120) part).length ≤ 4294966000 := by rw [List.length_take]; omega
  exact ⟨by omega, hl, hl⟩
set_option maxRecDepth 100000 in
theorem law_mreturns (pub ck : List UInt8) (s : UInt32) (e st t m1 m2 : List UInt8) (s' r' : UInt32) (e' em m3 m4 : List UInt8) (n : List UInt8) (rc : UInt32) (hck : ck.length = 16) (he : e.length = 32) (hst : st.length = 48) (ht : t.length = 28) (he' : e'.length = 32) (hem : em.length = 16) (hn : n.length = 24) :
    vcFn MLl 300 7 [.agg [.vec (.n 32) (.u8 pub)], .agg [.vec (.n 16) (.u8 ck)], .agg [.one (.u32 s), .vec (.n 32) (.u8 e), .vec (.n 48) (.u8 st), .vec (.n 28) (.u8 t), .vec (.n 16) (.u8 m1), .vec (.n 16) (.u8 m2)], .agg [.one (.u32 s'), .one (.u32 r'), .vec (.n 32) (.u8 e'), .vec (.n 16) (.u8 em), .vec (.n 16) (.u8 m3), .vec (.n 16) (.u8 m4)], .agg [.vec (.n 24) (.u8 n)], .s (.u32 rc)] (.s (.b true)) := by
  rw [vcLReturns]
  obtain ⟨i1, i2, i3, i4, i5, i6, i7, i8⟩ := init_ok (s := s) he hst ht (mac1L_len pub (iB s e st t)) (mac2L_len true ck (iB s e st t ++ mac1L pub (iB s e st t)))
  obtain ⟨j1, j2, j3, j4, j5, j6, j7, j8⟩ := resp_ok (s := s') (r := r') he' hem (mac1L_len pub (rB s' r' e' em)) (mac2L_len true ck (rB s' r' e' em ++ mac1L pub (rB s' r' e' em)))
  obtain ⟨b1, b2⟩ := rep_back (k := pub) (m1 := mac1L pub (iB s e st t)) (rc := rc) hn hck
  have rl : (repL pub n ck (mac1L pub (iB s e st t)) rc).length = 64 := cook_len hn (repC_len hck)
  have d1 : decE 1 (sealI pub true ck s e st t) = 0 := by unfold decE; rw [if_pos (sealI_kind he hst ht)]
  have d2 : decE 2 (sealR pub true ck s' r' e' em) = 0 := by unfold decE; rw [if_pos (sealR_kind he' hem)]
  rw [← sealI] at i1 i2 i3 i4 i5 i6 i7 i8
  rw [← sealR] at j1 j2 j3 j4 j5 j6 j7 j8
  simp only [forall_eq, io, i1, i3, i4, i5, i6, i7, i8, j1, j3, j4, j5, j6, j7, j8, b1, b2, d1, d2, rl, sealI_chk1 he hst ht, sealI_chk2 he hst ht, sealR_chk1 he' hem, sealR_chk2 he' hem, beq_self_eq_true, Bool.and_self, decide_true, Bool.true_eq_false, false_imp_iff, and_true, true_and, forall_const, show decide ((0 : Int) = ((0 : Nat) : Int)) = true from rfl]
  exact ⟨by decide, by decide, by decide⟩
set_option maxRecDepth 100000 in
theorem law_mreplies (pub oth n ck m1 : List UInt8) (r : UInt32) (at_ by_ : UInt8) (raw : List UInt8) (hn : n.length = 24) (hck : ck.length = 16) : vcFn MLl 300 6 [.agg [.vec (.n 32) (.u8 pub)], .agg [.vec (.n 32) (.u8 oth)], .agg [.vec (.n 24) (.u8 n)], .agg [.vec (.n 16) (.u8 ck)], .agg [.vec (.n 16) (.u8 m1)], .s (.u32 r), .s (.u8 at_), .s (.u8 by_), .s (.xs 1 (.s raw.length) (.u8 raw))] (.s (.b true)) := by
  rw [vcLReplies]
  have rl : (repL pub n ck m1 r).length = 64 := cook_len hn (repC_len hck)
  simp only [forall_eq, io, ael_minNN, tmod_nn, Int.toNat_natCast, Nat.zero_add, beq_self_eq_true, decide_true, decide_false, ne_eq, not_true_eq_false, Bool.not_true, Bool.false_eq_true, Bool.true_eq_false, false_imp_iff, and_true, true_and, forall_const, rl, List.length_set]
  have hl : (List.take (min raw.length 70) raw).length ≤ 4294966000 := by rw [List.length_take]; omega
  have hm : at_.toNat % 64 < 64 := Nat.mod_lt _ (by decide)
  and_intros <;> first | omega | exact hl
set_option maxRecDepth 100000 in
theorem law_mchecks (pub oth ck : List UInt8) (s : UInt32) (e st t m1 m2 : List UInt8) (s' r' : UInt32) (e' em m3 m4 : List UInt8) (wh at_ by_ : UInt8) (raw : List UInt8) (he : e.length = 32) (hst : st.length = 48) (ht : t.length = 28) (he' : e'.length = 32) (hem : em.length = 16) : vcFn MLl 300 3 [.agg [.vec (.n 32) (.u8 pub)], .agg [.vec (.n 32) (.u8 oth)], .agg [.vec (.n 16) (.u8 ck)], .agg [.one (.u32 s), .vec (.n 32) (.u8 e), .vec (.n 48) (.u8 st), .vec (.n 28) (.u8 t), .vec (.n 16) (.u8 m1), .vec (.n 16) (.u8 m2)], .agg [.one (.u32 s'), .one (.u32 r'), .vec (.n 32) (.u8 e'), .vec (.n 16) (.u8 em), .vec (.n 16) (.u8 m3), .vec (.n 16) (.u8 m4)], .s (.u8 wh), .s (.u8 at_), .s (.u8 by_), .s (.xs 1 (.s raw.length) (.u8 raw))] (.s (.b true)) := by
  rw [vcLChecks]
  have il : ∀ has, (sealI pub has ck s e st t).length = 148 := fun has => sealI_len he hst ht
  have rl : ∀ has, (sealR pub has ck s' r' e' em).length = 92 := fun has => sealR_len he' hem
  simp only [forall_eq, io, ael_minNN, tmod_nn, Int.toNat_natCast, Nat.zero_add, beq_self_eq_true, bne_self_eq_false, decide_true, decide_false, ne_eq, not_true_eq_false, Bool.not_true, Bool.false_eq_true, Bool.true_eq_false, false_imp_iff, and_true, true_and, forall_const, rl, il, List.length_set]
  have hl : (List.take (min raw.length 160) raw).length ≤ 4294966000 := by rw [List.length_take]; omega
  refine ⟨fun _ => ?_, fun _ => ?_⟩ <;> and_intros <;> first | omega | exact hl | (rw [List.length_take, List.length_set, il]; omega) | (rw [List.length_take, List.length_set, rl]; omega) | (rw [List.length_take]; omega)
end Go.Proofs.Ytbannfdoiiojgaa

/- A step towards MacsCookiesSaid: no conditions. -/
namespace Go.Proofs.Ytbannfdoiiojgaa
open Go Go.Eng Go.Cod Go.Bla Go.Mac Go.Cds
theorem big2_port (p : Int) : [to8 (p / (2 : Int) ^ 8), to8 p] = bigL2 (to64 p) := by
  have a : to8 (p / (2 : Int) ^ 8) = (shr64 (to64 p) 8).toUInt8 := by
    apply UInt8.toNat_inj.1
    have h1 := to8_toNat (p / (2 : Int) ^ 8)
    have h2 := to64_toNat p
    rw [UInt64.toNat_toUInt8, Go.Cod.shr64_toNat]
    have e : (2 : Int) ^ 8 = 256 := rfl
    have e2 : (2 : Nat) ^ 8 = 256 := rfl
    rw [e] at h1 ⊢
    rw [e2]
    omega
  have b : to8 p = (shr64 (to64 p) 0).toUInt8 := by
    apply UInt8.toNat_inj.1
    have h1 := to8_toNat p
    have h2 := to64_toNat p
    rw [UInt64.toNat_toUInt8, Go.Cod.shr64_toNat]
    have e2 : (2 : Nat) ^ 0 = 1 := rfl
    have e3 : (2 : Nat) ^ 8 = 256 := rfl
    rw [e2, e3]
    omega
  rw [a, b]; rfl
theorem eckl : EnvOk CKl := mkEM_ok namesOk mx ⟨conCookie, conCodeA, conMBeg, trivial⟩ trivial ⟨conM_nrmC conEnd, trivial⟩
set_option maxRecDepth 100000 in
theorem law_cookies (s l : BS) : vcFn CKl 300 4 [.agg [.vec (.n 32) (.u8 s)], .s (.xs 1 (.s l.length) (.u8 l))] (.s (.b true)) := by
  refine Eq.mpr (vcCookies s l) ?_
  have e0 : ((40 : Nat) : Int) = 40 := rfl
  have e1 : ((0 : Nat) : Int) = 0 := rfl
  simp only [forall_eq, io, e0, e1]
  have hl : (l.take (min (l.length : Int) 40).toNat).length ≤ 40 := by rw [List.length_take]; omega
  generalize l.take (min (l.length : Int) 40).toNat = k at *
  have key : ∀ six : Bool, sixV k 0 = six → cookieL s (sixV k 0) (ipV k 0) (portV k 0) = codeL s [ipL six (ipV k 0) ++ [to8 (portV k 0 / (2 : Int) ^ 8), to8 (portV k 0)]].flatten := fun six hs => by
    subst hs
    unfold cookieL
    rw [big2_port]
    simp
  have bip : (ipV k 0).length ≤ 16 := by
    unfold ipV
    split
    · rw [List.length_set]; unfold bytL byt16; simp
    · exact Nat.le_of_eq rfl
  refine ⟨by omega, by omega, by omega, by omega, fun hs => ?_, fun hs => ?_⟩
  · have h := key true hs
    unfold ipL at h
    simp only [] at h
    refine ⟨by decide, by decide, by decide, trivial, rfl, by decide, ?_, ?_, ?_⟩
    · simp; omega
    · intro _; exact ⟨trivial, trivial⟩
    · intro hb
      rw [h, beq_self_eq_true] at hb
      cases hb
  · have h := key false hs
    unfold ipL at h
    simp only [] at h
    refine ⟨by decide, by decide, by decide, by decide, trivial, rfl, by decide, ?_, ?_, ?_⟩
    · simp; omega
    · intro _; exact ⟨trivial, trivial⟩
    · intro hb
      rw [h, beq_self_eq_true] at hb
      cases hb
end Go.Proofs.Ytbannfdoiiojgaa
