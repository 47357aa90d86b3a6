/- Steps towards MacsCookiesSaid. -/
import Derived.Test.YtbannfdoiiojgaaJPsmCon
import Derived.Test.YtbannfdoiiojgaaJPrfCon
import Derived.Test.YtbannfdoiiojgaaJCddCon
import Derived.Test.YtbannfdoiiojgaaJBlrCon
import Derived.Test.YtbannfdoiiojgaaJMdcCon
/- A step towards MacsCookiesSaid: no conditions. -/
namespace Go.Proofs.Ytbannfdoiiojgaa
open Go Go.Eng Go.Cod Go.Cha Go.Pol Go.Aed Go.Xc
set_option maxRecDepth 100000 in
theorem conDeriveR : Con Try.prog 91 gDerive := con_of_vcl fun args ps res h hp hlen => by
  unfold gDerive at h
  split at h <;> cases h
  rename_i k i
  have hi : i.length = 16 := hlen.2.1.1
  refine ⟨XRd, 300, rfl, eok (gs := [(77, gLittleN), (102, gState), (101, gCore)]) ⟨conLittleRN4, conState, conCoreR, trivial⟩, ?_⟩
  refine Eq.mpr (vcDeriveR k i) ?_
  simp only [forall_eq, true_and, and_true]
  refine ⟨by omega, rfl, ?_⟩
  repeat first | refine ⟨by decide, ?_⟩ | refine ⟨rfl, ?_⟩
  kernel_rfl
set_option maxRecDepth 100000 in
theorem conInsideR : Con Try.prog 78 gInside := con_of_vcl fun args ps res h hp hlen => by
  unfold gInside at h
  split at h <;> cases h
  rename_i k n
  have hn : n.length = 24 := hlen.2.1.1
  refine ⟨XRi, 300, rfl, eok (gs := [(91, gDerive)]) ⟨conDeriveR, trivial⟩, ?_⟩
  refine Eq.mpr (vcInsideR k n) ?_
  have l8 : (List.take 8 (List.drop 16 n)).length = 8 := by rw [List.length_take, List.length_drop]; omega
  have e : over (List.replicate 12 (0 : UInt8)) 4 (List.take 8 (List.drop 16 n)) = nonceL n := by
    unfold over nonceL
    rw [l8, List.take_replicate, List.drop_replicate]
    simp
  simp only [forall_eq, true_and, and_true, dropL_eq, e]
  exact ⟨by decide, by decide, by decide, rfl⟩
set_option maxRecDepth 100000 in
theorem conXSealR : Con Try.prog 51 gXSeal := con_of_vcs fun args ps res h hp => by
  unfold gXSeal at h
  split at h <;> cases h
  rename_i k n u p v m
  obtain ⟨rfl, hp1⟩ := all_cons.1 hp
  obtain ⟨rfl, hp2⟩ := all_cons.1 hp1
  obtain ⟨hc, hp3⟩ := all_cons.1 hp2
  have hm := (all_cons.1 hp3).1
  refine ⟨XRs, 200, rfl, eok (gs := [(78, gInside), (79, gSeal), (84, gOpen)]) ⟨conInsideR, conSealR, conOpenR, trivial⟩, ?_⟩
  refine Eq.mpr (vcXSealR k n p m) ?_
  simp only [forall_eq, true_and, and_true, dropL_zero, Nat.zero_add, t_self, Nat.le_refl]
  exact ⟨hc, hm⟩
set_option maxRecDepth 100000 in
theorem conXOpenR : Con Try.prog 59 gXOpen := con_of_vcs fun args ps res h hp => by
  unfold gXOpen at h
  split at h <;> cases h
  rename_i k n u s v m
  obtain ⟨rfl, hp1⟩ := all_cons.1 hp
  obtain ⟨rfl, hp2⟩ := all_cons.1 hp1
  obtain ⟨hc, hp3⟩ := all_cons.1 hp2
  have hm := (all_cons.1 hp3).1
  refine ⟨XRs, 200, rfl, eok (gs := [(78, gInside), (79, gSeal), (84, gOpen)]) ⟨conInsideR, conSealR, conOpenR, trivial⟩, ?_⟩
  refine Eq.mpr (vcXOpenR k n s m) ?_
  simp only [forall_eq, true_and, and_true, dropL_zero, Nat.zero_add, t_self, Nat.le_refl]
  exact ⟨hc, hm⟩
end Go.Proofs.Ytbannfdoiiojgaa

/- A step towards MacsCookiesSaid: no conditions. -/
namespace Go.Proofs.Ytbannfdoiiojgaa
open Go Go.Eng Go.Cod Go.Cha Go.Pol Go.Aed
theorem ael_minNN (a b : Nat) : min (a : Int) (b : Int) = ((min a b : Nat) : Int) := by omega
theorem ael_xx (k n : List UInt8) (c : UInt32) (d : List UInt8) : xorL k n c (xorL k n c d) = d := by
  apply List.ext_getElem?
  intro i
  rw [xorL_get, xorL_get]
  cases d[i]? with
  | none => rfl
  | some x =>
    show some (x ^^^ _ ^^^ _) = some x
    rw [UInt8.xor_assoc, UInt8.xor_self, UInt8.xor_zero]
theorem openE_seal (k n p m : List UInt8) : openE k n (sealL k n p m) m = 0 := by
  have l : (sealL k n p m).length - 16 = (xorL k n 1 p).length := by rw [sealL_len, xorL_len]; omega
  unfold openE
  rw [if_neg (by rw [sealL_len]; omega), if_pos]
  rw [l]
  unfold sealL
  rw [List.take_append_of_le_length (Nat.le_refl _), List.take_length, List.drop_append_of_le_length (Nat.le_refl _), List.drop_length, List.nil_append]
theorem openL_seal (k n p m : List UInt8) : openL k n (sealL k n p m) m = p := by
  have l : (sealL k n p m).length - 16 = (xorL k n 1 p).length := by rw [sealL_len, xorL_len]; omega
  unfold openL
  rw [if_pos (openE_seal ..), l]
  unfold sealL
  rw [List.take_append_of_le_length (Nat.le_refl _), List.take_length, ael_xx]
theorem open_cases (k n s m : List UInt8) (h : 16 ≤ s.length) : (openE k n s m = 6 ∧ openL k n s m = []) ∨ (openE k n s m = 0 ∧ sealL k n (openL k n s m) m = s) := by
  by_cases ht : tagL k n (s.take (s.length - 16)) m = s.drop (s.length - 16)
  · have e : openE k n s m = 0 := by unfold openE; rw [if_neg (by omega), if_pos ht]
    refine .inr ⟨e, ?_⟩
    unfold openL
    rw [if_pos e]
    unfold sealL
    rw [ael_xx, ht, List.take_append_drop]
  · have e : openE k n s m = 6 := by unfold openE; rw [if_neg (by omega), if_neg ht]
    refine .inl ⟨e, ?_⟩
    unfold openL
    rw [e]; rfl
theorem openL_le (k n s m : List UInt8) : (openL k n s m).length ≤ s.length := by
  unfold openL
  split
  · rw [xorL_len, List.length_take]; omega
  · exact Nat.zero_le _
theorem set_same {s : List UInt8} {i : Nat} : s.set i (s.getD i 0 ^^^ UInt8.ofNat 0) = s := by
  show s.set i (s.getD i 0 ^^^ 0) = s
  rw [UInt8.xor_zero]
  by_cases h : i < s.length
  · rw [List.getD_eq_getElem?_getD, List.getElem?_eq_getElem h, Option.getD_some, List.set_getElem_self]
  · rw [List.set_eq_of_length_le (by omega)]
theorem take_set (l : List UInt8) (i : Nat) (x : UInt8) : (l.set i x).take l.length = l.set i x := List.take_of_length_le (by rw [List.length_set]; exact Nat.le_refl _)
theorem tmod_nn (a b : Nat) : (a : Int).tmod (b : Int) = ((a % b : Nat) : Int) := rfl
end Go.Proofs.Ytbannfdoiiojgaa

/- A step towards MacsCookiesSaid: no conditions. -/
namespace Go.Proofs.Ytbannfdoiiojgaa
open Go Go.Eng Go.Cod Go.Cha Go.Pol Go.Aed Go.Msg Go.Bla Go.Xc Go.Mac
/-- a contract from conditions on arguments of another form -/
theorem con_of_form {P : Program} {f : FuncId} {g : SpecF} (h : ∀ args ps res, g args = some (ps, res) → all ps → ∃ (E : Env) (n : Nat) (args' : List V), E.P = P ∧ EnvOk E ∧ (∀ (w : World) (vals : List Value), VsRel A0 w args vals → VsRel A0 w args' vals) ∧ vcFn E n f args' res) : Con P f g := by
  intro args ps res hg hp w vals hv
  obtain ⟨E, n, args', rfl, hE, hf, hc⟩ := h args ps res hg hp
  exact calls_of_vc hE hc (hf w vals hv)
set_option maxRecDepth 100000 in
theorem conMBig2 : Con Try.prog 40 gBig2 := con_of_form fun args ps res h hp => by
  unfold gBig2 at h
  split at h
  · rename_i n s
    split at h
    · rename_i m
      cases h2 : Nat.beq m 2
      · rw [h2] at h; cases h
      · rw [h2] at h
        have h2 := Nat.eq_of_beq_eq_true h2
        subst h2
        cases h
        refine ⟨MC0, 100, [.s (.u64 n), .s (.n 2)], rfl, eok (gs := []) trivial, fun w vals hv => hv, ?_⟩
        rw [vcMBig2]
        simp only [forall_eq]
        exact ⟨by decide, by decide, rfl, trivial⟩
    · cases h
  · cases h
set_option maxRecDepth 100000 in
theorem conMBig2R : Con Try.prog 50 gBig2 := con_of_form fun args ps res h hp => by
  unfold gBig2 at h
  split at h
  · rename_i n s
    split at h
    · rename_i m
      cases h2 : Nat.beq m 2
      · rw [h2] at h; cases h
      · rw [h2] at h
        have h2 := Nat.eq_of_beq_eq_true h2
        subst h2
        cases h
        refine ⟨MC0, 100, [.s (.u64 n), .s (.n 2)], rfl, eok (gs := []) trivial, fun w vals hv => hv, ?_⟩
        rw [vcMBig2R]
        simp only [forall_eq]
        exact ⟨by decide, by decide, by decide, by decide, rfl, trivial⟩
    · cases h
  · cases h
theorem lab1_flat (k : List UInt8) : [[UInt8.ofNat 109, UInt8.ofNat 97, UInt8.ofNat 99, UInt8.ofNat 49, UInt8.ofNat 45, UInt8.ofNat 45, UInt8.ofNat 45, UInt8.ofNat 45], k].flatten = lab1 ++ k := by
  simp only [List.flatten_cons, List.flatten_nil, List.append_nil]; rfl
theorem lab2_flat (k : List UInt8) : [[UInt8.ofNat 99, UInt8.ofNat 111, UInt8.ofNat 111, UInt8.ofNat 107, UInt8.ofNat 105, UInt8.ofNat 101, UInt8.ofNat 45, UInt8.ofNat 45], k].flatten = lab2 ++ k := by
  simp only [List.flatten_cons, List.flatten_nil, List.append_nil]; rfl
theorem mflat1 (l : List UInt8) : [l].flatten = l := by simp
theorem mflat2 (a b : List UInt8) : [a, b].flatten = a ++ b := by simp
theorem lab1_len (k : List UInt8) : (lab1 ++ k).length = 8 + k.length := by rw [List.length_append]; rfl
theorem lab2_len (k : List UInt8) : (lab2 ++ k).length = 8 + k.length := by rw [List.length_append]; rfl
theorem hid1_len (k : List UInt8) : (hid1 k).length = 32 := sumL_len 32 [] _ (by decide)
theorem hid2_len (k : List UInt8) : (hid2 k).length = 32 := sumL_len 32 [] _ (by decide)
theorem mac1L_len (k p : List UInt8) : (mac1L k p).length = 16 := codeL_len _ _
theorem mac2L_len (has : Bool) (c p : List UInt8) : (mac2L has c p).length = 16 := by cases has; exact List.length_replicate; exact codeL_len _ _
set_option maxRecDepth 100000 in
theorem emca : EnvOk MCa := eok (gs := [(48, gHash), (19, gCodeA), (40, gBig2)]) ⟨conHash, conCodeA, conMBig2, trivial⟩
set_option maxRecDepth 100000 in
theorem emra : EnvOk MRa := eok (gs := [(49, gHash), (37, gCodeA), (50, gBig2)]) ⟨conHashR, conCodeR, conMBig2R, trivial⟩
set_option maxRecDepth 100000 in
theorem conMMac1 : Con Try.prog 22 gMac1 := con_of_vcl fun args ps res h hp hlen => by
  unfold gMac1 at h
  split at h <;> cases h
  rename_i k m p
  obtain ⟨rfl, hp2⟩ := all_cons.1 hp
  have hl := (all_cons.1 hp2).1
  have h1 : k.length = 32 := (hlen.1 : k.length = 32 ∧ True).1
  refine ⟨MCa, 200, rfl, emca, ?_⟩
  rw [vcMMac1]
  simp only [forall_eq, lab1_flat, lab1_len, mflat1, h1]
  exact ⟨by decide, rfl, by decide, by decide, trivial, rfl, by decide, hl, rfl, trivial⟩
set_option maxRecDepth 100000 in
theorem conMac1R : Con Try.prog 23 gMac1 := con_of_vcl fun args ps res h hp hlen => by
  unfold gMac1 at h
  split at h <;> cases h
  rename_i k m p
  obtain ⟨rfl, hp2⟩ := all_cons.1 hp
  have hl := (all_cons.1 hp2).1
  have h1 : k.length = 32 := (hlen.1 : k.length = 32 ∧ True).1
  refine ⟨MRa, 200, rfl, emra, ?_⟩
  rw [vcMMac1R]
  simp only [forall_eq, lab1_flat, lab1_len, mflat1, h1]
  exact ⟨by decide, rfl, by decide, by decide, trivial, rfl, by decide, hl, rfl, trivial⟩
theorem bigL2_len (n : UInt64) : (bigL2 n).length = 2 := rfl
theorem ipL_len (six : Bool) (ip : List UInt8) (h : ip.length = 16) : (ipL six ip).length ≤ 16 := by
  cases six
  · show (ip.take 4).length ≤ 16; rw [List.length_take]; omega
  · show ip.length ≤ 16; omega
set_option maxRecDepth 100000 in
theorem conCookie : Con Try.prog 18 gCookie := con_of_vcl fun args ps res h hp hlen => by
  unfold gCookie at h
  split at h <;> cases h
  rename_i s six ip port
  have h1 : ip.length = 16 := (hlen.2.1 : True ∧ ip.length = 16 ∧ True ∧ True).2.1
  have h2 : (ip.take 4).length = 4 := by rw [List.length_take]; omega
  refine ⟨MCa, 200, rfl, emca, ?_⟩
  rw [vcMCookie]
  simp only [forall_eq, mflat2, List.length_append, bigL2_len]
  refine ⟨fun h => ?_, fun h => ?_⟩ <;> subst h
  · exact ⟨trivial, rfl, by decide, by rw [h1]; decide, rfl, trivial⟩
  · exact ⟨by decide, trivial, rfl, by decide, by rw [show (List.take 4 ip).length = 4 from h2]; decide, rfl, trivial⟩
set_option maxRecDepth 100000 in
theorem conCookieR : Con Try.prog 24 gCookie := con_of_vcl fun args ps res h hp hlen => by
  unfold gCookie at h
  split at h <;> cases h
  rename_i s six ip port
  have h1 : ip.length = 16 := (hlen.2.1 : True ∧ ip.length = 16 ∧ True ∧ True).2.1
  have h2 : (ip.take 4).length = 4 := by rw [List.length_take]; omega
  refine ⟨MRa, 200, rfl, emra, ?_⟩
  rw [vcMCookieR]
  simp only [forall_eq, mflat2, List.length_append, bigL2_len]
  refine ⟨fun h => ?_, fun h => ?_⟩ <;> subst h
  · exact ⟨trivial, rfl, by decide, by rw [h1]; decide, rfl, trivial⟩
  · exact ⟨by decide, trivial, rfl, by decide, by rw [show (List.take 4 ip).length = 4 from h2]; decide, rfl, trivial⟩
theorem zeros16 : [(0 : UInt8), (0 : UInt8), (0 : UInt8), (0 : UInt8), (0 : UInt8), (0 : UInt8), (0 : UInt8), (0 : UInt8), (0 : UInt8), (0 : UInt8), (0 : UInt8), (0 : UInt8), (0 : UInt8), (0 : UInt8), (0 : UInt8), (0 : UInt8)] = List.replicate 16 0 := rfl
theorem iB_len {s : UInt32} {e st t : List UInt8} (he : e.length = 32) (hst : st.length = 48) (ht : t.length = 28) : (iB s e st t).length = 116 := by
  simp only [iB, List.length_append, littleL_len, List.length_cons, List.length_nil]; omega
theorem rB_len {s r : UInt32} {e em : List UInt8} (he : e.length = 32) (hst : em.length = 16) : (rB s r e em).length = 60 := by
  simp only [rB, List.length_append, littleL_len, List.length_cons, List.length_nil]; omega
theorem initL_iB (s : UInt32) (e st t m1 m2 : List UInt8) : initL s e st t m1 m2 = iB s e st t ++ (m1 ++ m2) := by simp [initL, iB]
theorem respL_rB (s r : UInt32) (e em m1 m2 : List UInt8) : respL s r e em m1 m2 = rB s r e em ++ (m1 ++ m2) := by simp [respL, rB]
theorem take_app {a b : List UInt8} {n : Nat} (h : a.length = n) : (a ++ b).take n = a := by subst h; simp
theorem take_app2 {a b c : List UInt8} {n : Nat} (h : a.length + b.length = n) : (a ++ (b ++ c)).take n = a ++ b := by
  rw [← List.append_assoc]; exact take_app (by rw [List.length_append]; exact h)
theorem init_t116 {s : UInt32} {e st t m1 m2 : List UInt8} (he : e.length = 32) (hst : st.length = 48) (ht : t.length = 28) : (initL s e st t m1 m2).take 116 = iB s e st t := by
  rw [initL_iB]; exact take_app (iB_len he hst ht)
theorem init_t132 {s : UInt32} {e st t m1 m2 : List UInt8} (he : e.length = 32) (hst : st.length = 48) (ht : t.length = 28) (h1 : m1.length = 16) : (initL s e st t m1 m2).take 132 = iB s e st t ++ m1 := by
  rw [initL_iB]; exact take_app2 (by rw [iB_len he hst ht, h1])
theorem resp_t60 {s r : UInt32} {e em m1 m2 : List UInt8} (he : e.length = 32) (hst : em.length = 16) : (respL s r e em m1 m2).take 60 = rB s r e em := by
  rw [respL_rB]; exact take_app (rB_len he hst)
theorem resp_t76 {s r : UInt32} {e em m1 m2 : List UInt8} (he : e.length = 32) (hst : em.length = 16) (h1 : m1.length = 16) : (respL s r e em m1 m2).take 76 = rB s r e em ++ m1 := by
  rw [respL_rB]; exact take_app2 (by rw [rB_len he hst, h1])
set_option maxRecDepth 100000 in
theorem emci : EnvOk MCi := eok (gs := [(22, gMac1), (19, gCodeA), (45, gInit), (47, gResp)]) ⟨conMMac1, conCodeA, conInit, conResp, trivial⟩
set_option maxRecDepth 100000 in
theorem conSealI : Con Try.prog 20 gSealI := con_of_vcl fun args ps res h hp hlen => by
  unfold gSealI at h
  split at h <;> cases h
  rename_i k has c s e st t m1 m2
  obtain ⟨_, _, _, ⟨_, he, hst, ht, _, _, _⟩, _⟩ : _ ∧ _ ∧ _ ∧ (True ∧ e.length = 32 ∧ st.length = 48 ∧ t.length = 28 ∧ m1.length = 16 ∧ m2.length = 16 ∧ True) ∧ True := hlen
  refine ⟨MCi, 300, rfl, emci, ?_⟩
  rw [vcMSealI]
  have e1 : ∀ a b, (initL s e st t a b).take 116 = iB s e st t := fun a b => init_t116 he hst ht
  have e2 : ∀ k p b, (initL s e st t (mac1L k p) b).take 132 = iB s e st t ++ mac1L k p := fun k p b => init_t132 he hst ht (mac1L_len _ _)
  simp only [forall_eq, mflat1, e1, e2, zeros16, iB_len he hst ht, List.length_append, mac1L_len]
  refine ⟨by decide, trivial, by decide, fun h => ?_, fun h => ?_⟩ <;> subst h
  · exact ⟨by decide, trivial, rfl, by decide, by decide, rfl, trivial, trivial⟩
  · exact ⟨rfl, trivial, trivial⟩
set_option maxRecDepth 100000 in
theorem conSealR_ : Con Try.prog 21 gSealR := con_of_vcl fun args ps res h hp hlen => by
  unfold gSealR at h
  split at h <;> cases h
  rename_i k has c s r e em m1 m2
  obtain ⟨_, _, _, ⟨_, _, he, hst, _, _, _⟩, _⟩ : _ ∧ _ ∧ _ ∧ (True ∧ True ∧ e.length = 32 ∧ em.length = 16 ∧ m1.length = 16 ∧ m2.length = 16 ∧ True) ∧ True := hlen
  refine ⟨MCi, 300, rfl, emci, ?_⟩
  rw [vcMSealR]
  have e1 : ∀ a b, (respL s r e em a b).take 60 = rB s r e em := fun a b => resp_t60 he hst
  have e2 : ∀ k p b, (respL s r e em (mac1L k p) b).take 76 = rB s r e em ++ mac1L k p := fun k p b => resp_t76 he hst (mac1L_len _ _)
  simp only [forall_eq, mflat1, e1, e2, zeros16, rB_len he hst, List.length_append, mac1L_len]
  refine ⟨by decide, trivial, by decide, fun h => ?_, fun h => ?_⟩ <;> subst h
  · exact ⟨by decide, trivial, rfl, by decide, by decide, rfl, trivial, trivial⟩
  · exact ⟨rfl, trivial, trivial⟩
set_option maxRecDepth 100000 in
theorem emri : EnvOk MRi := eok (gs := [(23, gMac1), (37, gCodeA), (32, gInit), (33, gResp)]) ⟨conMac1R, conCodeR, conInitR, conRespR, trivial⟩
theorem nn_sub (a b : Nat) (h : b ≤ a) : (a : Int) - (b : Int) = ((a - b : Nat) : Int) := by omega
set_option maxRecDepth 100000 in
theorem conSld : Con Try.prog 31 gSld := con_of_vcl fun args ps res h hp hlen => by
  unfold gSld at h
  split at h <;> cases h
  rename_i k has c m b
  obtain ⟨rfl, hp2⟩ := all_cons.1 hp
  obtain ⟨hb, hp3⟩ := all_cons.1 hp2
  have hb2 := (all_cons.1 hp3).1
  refine ⟨MRi, 300, rfl, emri, ?_⟩
  rw [vcMSld]
  have hn : (b.take (b.length - 32)).length = b.length - 32 := by rw [List.length_take]; omega
  have hs : (sldL k has c b).length = b.length := by
    unfold sldL bodyL
    simp only [List.length_append, mac1L_len, mac2L_len, hn]; omega
  have hs2 : sldL k has c b = bodyL b ++ (mac1L k (bodyL b) ++ mac2L has c (bodyL b ++ mac1L k (bodyL b))) := rfl
  have hl : (bodyL b ++ mac1L k (bodyL b)).length = b.length - 32 + 16 := by
    rw [List.length_append, mac1L_len]; unfold bodyL; rw [hn]
  have ht : (bodyL b ++ mac1L k (bodyL b)).take (b.length - 32 + 16) = bodyL b ++ mac1L k (bodyL b) := List.take_of_length_le (by omega)
  have hfin : ∀ y : List UInt8, y.length = 16 → List.take (b.length - 32 + 16 + 16) (bodyL b ++ mac1L k (bodyL b) ++ y) = bodyL b ++ (mac1L k (bodyL b) ++ y) := fun y hy => by
    rw [List.take_of_length_le (by rw [List.length_append]; omega), List.append_assoc]
  simp only [forall_eq, io, nn_sub _ _ hb, Int.toNat_natCast, Nat.sub_zero, Nat.zero_add, dropL_zero, List.nil_append, mflat1, hs, show List.take (b.length - 32) b = bodyL b from rfl, show (bodyL b).length = b.length - 32 from hn, ht, hl]
  refine ⟨by unfold InI; omega, by omega, trivial, by omega, by omega, by omega, trivial, by omega, fun h => ?_, fun h => ?_⟩ <;> subst h
  · exact ⟨by omega, trivial, rfl, by decide, by omega, trivial, by omega, by omega, by omega, hfin _ (codeL_len _ _), trivial, trivial⟩
  · exact ⟨trivial, by omega, by omega, by omega, hfin _ List.length_replicate, trivial, trivial⟩
theorem body_init {s : UInt32} {e st t m1 m2 : List UInt8} (he : e.length = 32) (hst : st.length = 48) (ht : t.length = 28) (h1 : m1.length = 16) (h2 : m2.length = 16) : bodyL (initL s e st t m1 m2) = iB s e st t := by
  unfold bodyL; rw [init_len he hst ht h1 h2]; exact init_t116 he hst ht
theorem body_resp {s r : UInt32} {e em m1 m2 : List UInt8} (he : e.length = 32) (hst : em.length = 16) (h1 : m1.length = 16) (h2 : m2.length = 16) : bodyL (respL s r e em m1 m2) = rB s r e em := by
  unfold bodyL; rw [resp_len he hst h1 h2]; exact resp_t60 he hst
set_option maxRecDepth 100000 in
theorem emrs : EnvOk MRs := eok (gs := [(31, gSld), (32, gInit), (33, gResp)]) ⟨conSld, conInitR, conRespR, trivial⟩
set_option maxRecDepth 100000 in
theorem conSealIR : Con Try.prog 8 gSealI := con_of_vcl fun args ps res h hp hlen => by
  unfold gSealI at h
  split at h <;> cases h
  rename_i k has c s e st t m1 m2
  obtain ⟨_, _, _, ⟨_, he, hst, ht, h1, h2, _⟩, _⟩ : _ ∧ _ ∧ _ ∧ (True ∧ e.length = 32 ∧ st.length = 48 ∧ t.length = 28 ∧ m1.length = 16 ∧ m2.length = 16 ∧ True) ∧ True := hlen
  refine ⟨MRs, 300, rfl, emrs, ?_⟩
  rw [vcMSealIR]
  have hb := body_init (s := s) he hst ht h1 h2
  have hs : sldL k has c (initL s e st t m1 m2) = sealI k has c s e st t := by
    unfold sldL; rw [hb]; unfold sealI; rw [initL_iB]
  have hl : (sealI k has c s e st t).length = 148 := init_len he hst ht (mac1L_len _ _) (mac2L_len _ _ _)
  simp only [forall_eq, hs, hb, hl, init_len he hst ht h1 h2, dropL_zero]
  exact ⟨trivial, by decide, by decide, by decide, trivial, List.take_of_length_le (by omega), trivial, trivial⟩
set_option maxRecDepth 100000 in
theorem conSealRR : Con Try.prog 9 gSealR := con_of_vcl fun args ps res h hp hlen => by
  unfold gSealR at h
  split at h <;> cases h
  rename_i k has c s r e em m1 m2
  obtain ⟨_, _, _, ⟨_, _, he, hst, h1, h2, _⟩, _⟩ : _ ∧ _ ∧ _ ∧ (True ∧ True ∧ e.length = 32 ∧ em.length = 16 ∧ m1.length = 16 ∧ m2.length = 16 ∧ True) ∧ True := hlen
  refine ⟨MRs, 300, rfl, emrs, ?_⟩
  rw [vcMSealRR]
  have hb := body_resp (s := s) (r := r) he hst h1 h2
  have hs : sldL k has c (respL s r e em m1 m2) = sealR k has c s r e em := by
    unfold sldL; rw [hb]; unfold sealR; rw [respL_rB]
  have hl : (sealR k has c s r e em).length = 92 := resp_len he hst (mac1L_len _ _) (mac2L_len _ _ _)
  simp only [forall_eq, hs, hb, hl, resp_len he hst h1 h2, dropL_zero]
  exact ⟨trivial, by decide, by decide, by decide, trivial, List.take_of_length_le (by omega), trivial, trivial⟩
theorem kind_len1 {b : List UInt8} (h : kindL b = 1) : b.length = 148 := by
  unfold kindL at h
  split at h
  · omega
  · split at h
    · rename_i h2
      rcases h2 with h2 | h2 | h2 | h2
      · exact h2.2
      all_goals (rw [h2.1] at h; exact absurd h (by decide))
    · omega
theorem kind_len2 {b : List UInt8} (h : kindL b = 2) : b.length = 92 := by
  unfold kindL at h
  split at h
  · omega
  · split at h
    · rename_i h2
      rcases h2 with h2 | h2 | h2 | h2
      rotate_left
      · exact h2.2
      all_goals (rw [h2.1] at h; exact absurd h (by decide))
    · omega
theorem coded_len {b : List UInt8} (h : codedL b = true) : b.length = 148 ∨ b.length = 92 := by
  unfold codedL at h
  rcases Bool.or_eq_true _ _ ▸ h with h | h
  · exact .inl (kind_len1 (of_decide_eq_true h))
  · exact .inr (kind_len2 (of_decide_eq_true h))
set_option maxRecDepth 100000 in
theorem conCoded : Con Try.prog 34 gCoded := con_of_vcl fun args ps res h hp hlen => by
  unfold gCoded at h
  split at h <;> cases h
  rename_i m b
  obtain ⟨rfl, hp2⟩ := all_cons.1 hp
  have hl := (all_cons.1 hp2).1
  refine ⟨MCk, 200, rfl, eok (gs := [(60, gKind)]) ⟨conKind, trivial⟩, ?_⟩
  rw [vcMCoded]
  simp only [forall_eq]
  refine ⟨trivial, by omega, fun h => ⟨?_, trivial⟩, fun h => ⟨?_, trivial⟩⟩
  · unfold codedL; rw [show decide (kindL b = 1) = true from h]; rfl
  · unfold codedL; rw [show decide (kindL b = 1) = false from h]; rfl
set_option maxRecDepth 100000 in
theorem conCodedR : Con Try.prog 36 gCoded := con_of_vcl fun args ps res h hp hlen => by
  unfold gCoded at h
  split at h <;> cases h
  rename_i m b
  obtain ⟨rfl, hp2⟩ := all_cons.1 hp
  have hl := (all_cons.1 hp2).1
  refine ⟨MRk, 200, rfl, eok (gs := [(67, gKind)]) ⟨conKindR, trivial⟩, ?_⟩
  rw [vcMCodedR]
  simp only [forall_eq]
  refine ⟨trivial, by omega, fun h => ⟨?_, trivial⟩, fun h => ⟨trivial, by omega, ?_, trivial⟩⟩
  · unfold codedL; rw [show decide (kindL b = 1) = true from h]; rfl
  · unfold codedL; rw [show decide (kindL b = 1) = false from h]; rfl
theorem nbt {x : Bool} (h : (!x) = true) : x = false := by cases x <;> first | rfl | cases h
theorem nbf {x : Bool} (h : (!x) = false) : x = true := by cases x <;> first | rfl | cases h
theorem chk1_no {k b : List UInt8} (h : (!codedL b) = true) : false = chk1 k b := by
  unfold chk1; rw [nbt h]; rfl
theorem chk2_no {k b : List UInt8} (h : (!codedL b) = true) : false = chk2 k b := by
  unfold chk2; rw [nbt h]; rfl
theorem chk1_yes {k b : List UInt8} (h : (!codedL b) = false) : chk1 k b = (mac1L k (b.take (b.length - 32)) == (b.drop (b.length - 32)).take 16) := by
  unfold chk1; rw [nbf h]; rfl
theorem chk2_yes {k b : List UInt8} (h : (!codedL b) = false) : chk2 k b = (codeL k (b.take (b.length - 16)) == b.drop (b.length - 16)) := by
  unfold chk2; rw [nbf h]; rfl
theorem nn_add (a b : Nat) : (a : Int) + (b : Int) = ((a + b : Nat) : Int) := by omega
set_option maxRecDepth 100000 in
theorem emcc : EnvOk MCc := eok (gs := [(22, gMac1), (19, gCodeA), (34, gCoded), (35, gEqual)]) ⟨conMMac1, conCodeA, conCoded, conEqual, trivial⟩
set_option maxRecDepth 100000 in
theorem emrc : EnvOk MRc := eok (gs := [(23, gMac1), (37, gCodeA), (36, gCoded)]) ⟨conMac1R, conCodeR, conCodedR, trivial⟩
set_option maxRecDepth 100000 in
theorem conChk1 : Con Try.prog 11 gChk1 := con_of_vcl fun args ps res h hp hlen => by
  unfold gChk1 at h
  split at h <;> cases h
  rename_i k m b
  obtain ⟨rfl, hp2⟩ := all_cons.1 hp
  have hl := (all_cons.1 hp2).1
  refine ⟨MCc, 200, rfl, emcc, ?_⟩
  rw [vcMChk1]
  simp only [forall_eq, io]
  refine ⟨trivial, by omega, fun h => ⟨chk1_no h, trivial⟩, fun h => ?_⟩
  have hc := coded_len (nbf h)
  rw [chk1_yes h]
  have e1 : (b.take (b.length - 32)).length = b.length - 32 := by rw [List.length_take]; omega
  simp only [nn_sub _ _ (show 32 ≤ b.length by omega), nn_add, Int.toNat_natCast, e1, mac1L_len, show b.length - 32 + 16 - (b.length - 32) = 16 by omega]
  have i1 : InI ((b.length - 32 : Nat) : Int) := by unfold InI; omega
  have i2 : InI ((b.length - 32 + 16 : Nat) : Int) := by unfold InI; omega
  exact ⟨i1, by omega, trivial, by omega, i2, by omega, by omega, trivial, trivial, by decide, by rw [List.length_take]; omega, trivial, trivial⟩
set_option maxRecDepth 100000 in
theorem conChk2 : Con Try.prog 13 gChk2 := con_of_vcl fun args ps res h hp hlen => by
  unfold gChk2 at h
  split at h <;> cases h
  rename_i k m b
  obtain ⟨rfl, hp2⟩ := all_cons.1 hp
  have hl := (all_cons.1 hp2).1
  refine ⟨MCc, 200, rfl, emcc, ?_⟩
  rw [vcMChk2]
  simp only [forall_eq, io]
  refine ⟨trivial, by omega, fun h => ⟨chk2_no h, trivial⟩, fun h => ?_⟩
  have hc := coded_len (nbf h)
  rw [chk2_yes h]
  have e1 : (b.take (b.length - 16)).length = b.length - 16 := by rw [List.length_take]; omega
  have e2 : (b.drop (b.length - 16)).length = 16 := by rw [List.length_drop]; omega
  simp only [nn_sub _ _ (show 16 ≤ b.length by omega), Int.toNat_natCast, e1, e2, mflat1, codeL_len]
  have i1 : InI ((b.length - 16 : Nat) : Int) := by unfold InI; omega
  exact ⟨i1, by omega, trivial, rfl, by decide, by omega, by omega, trivial, trivial, by decide, by decide, trivial, trivial⟩
theorem dec_beq {a b : List UInt8} : decide (a = b) = (a == b) := by
  by_cases h : a = b
  · rw [decide_eq_true h, h]; exact (beq_self_eq_true b).symm
  · rw [decide_eq_false h]; exact (by simpa using h : (a == b) = false).symm
set_option maxRecDepth 100000 in
theorem conChk1R : Con Try.prog 12 gChk1 := con_of_vcl fun args ps res h hp hlen => by
  unfold gChk1 at h
  split at h <;> cases h
  rename_i k m b
  obtain ⟨rfl, hp2⟩ := all_cons.1 hp
  have hl := (all_cons.1 hp2).1
  refine ⟨MRc, 200, rfl, emrc, ?_⟩
  rw [vcMChk1R]
  simp only [forall_eq, io]
  refine ⟨trivial, by omega, fun h => ⟨chk1_no h, trivial⟩, fun h => ?_⟩
  have hc := coded_len (nbf h)
  rw [chk1_yes h, ← dec_beq]
  have e1 : (b.take (b.length - 32)).length = b.length - 32 := by rw [List.length_take]; omega
  simp only [nn_sub _ _ (show 32 ≤ b.length by omega), nn_sub _ _ (show 16 ≤ b.length by omega), Int.toNat_natCast, e1, mac1L_len, show b.length - 16 - (b.length - 32) = 16 by omega]
  have i1 : InI ((b.length - 32 : Nat) : Int) := by unfold InI; omega
  have i2 : InI ((b.length - 16 : Nat) : Int) := by unfold InI; omega
  exact ⟨i1, by omega, trivial, by omega, i1, i2, by omega, by omega, trivial, trivial⟩
set_option maxRecDepth 100000 in
theorem conChk2R : Con Try.prog 14 gChk2 := con_of_vcl fun args ps res h hp hlen => by
  unfold gChk2 at h
  split at h <;> cases h
  rename_i k m b
  obtain ⟨rfl, hp2⟩ := all_cons.1 hp
  have hl := (all_cons.1 hp2).1
  refine ⟨MRc, 200, rfl, emrc, ?_⟩
  rw [vcMChk2R]
  simp only [forall_eq, io]
  refine ⟨trivial, by omega, fun h => ⟨chk2_no h, trivial⟩, fun h => ?_⟩
  have hc := coded_len (nbf h)
  rw [chk2_yes h, ← dec_beq]
  have e1 : (b.take (b.length - 16)).length = b.length - 16 := by rw [List.length_take]; omega
  have e2 : (b.drop (b.length - 16)).length = 16 := by rw [List.length_drop]; omega
  simp only [nn_sub _ _ (show 16 ≤ b.length by omega), Int.toNat_natCast, e1, e2, mflat1, codeL_len]
  have i1 : InI ((b.length - 16 : Nat) : Int) := by unfold InI; omega
  exact ⟨i1, by omega, trivial, rfl, by decide, by omega, i1, by omega, trivial, trivial⟩
set_option maxRecDepth 100000 in
theorem emcr : EnvOk MCr := eok (gs := [(48, gHash), (55, gXSeal), (57, gXOpen), (54, gCook), (56, gDec dCook)]) ⟨conHash, conXSeal, conXOpen, conCook, conDCook, trivial⟩
theorem repC_len {k n c m1 : List UInt8} (h : c.length = 16) : (repC k n c m1).length = 32 := by unfold repC; rw [sealL_len]; omega
set_option maxRecDepth 100000 in
theorem conReply : Con Try.prog 26 gReply := con_of_vcl fun args ps res h hp hlen => by
  unfold gReply at h
  split at h <;> cases h
  rename_i k n c m1 r
  obtain ⟨⟨h1, _⟩, ⟨h2, _⟩, ⟨h3, _⟩, ⟨h4, _⟩, _⟩ : (k.length = 32 ∧ True) ∧ (n.length = 24 ∧ True) ∧ (c.length = 16 ∧ True) ∧ (m1.length = 16 ∧ True) ∧ True ∧ True := hlen
  refine ⟨MCr, 200, rfl, emcr, ?_⟩
  rw [vcMReply]
  simp only [forall_eq, io, lab2_flat, lab2_len, h1, h3, h4, sealL_len]
  have e : List.take 32 (sealL (keyL (sumL 32 [] (lab2 ++ k)) n) (nonceL n) c m1) = repC k n c m1 := List.take_of_length_le (by rw [sealL_len]; omega)
  exact ⟨by decide, rfl, by decide, by decide, trivial, trivial, by decide, by decide, by decide, by decide, congrArg (cookL r n) e, trivial⟩
theorem decE_no {b : List UInt8} (h : decide (decE 3 b ≠ ((0 : Nat) : Int)) = true) : kindL b ≠ 3 := fun hk => by
  have := of_decide_eq_true h
  unfold decE at this
  rw [if_pos hk] at this
  exact this rfl
theorem decE_yes {b : List UInt8} (h : decide (decE 3 b ≠ ((0 : Nat) : Int)) = false) : kindL b = 3 := Decidable.byContradiction fun hk => by
  have := of_decide_eq_false h
  unfold decE at this
  rw [if_neg hk] at this
  exact this (by decide)
theorem orep_no {k m1 b : List UInt8} (h : decide (decE 3 b ≠ ((0 : Nat) : Int)) = true) : List.replicate 16 0 = oRepL k m1 b ∧ decE 3 b = oRepE k m1 b ∧ True := by
  have hk := decE_no h
  have e : oRepE k m1 b = 4 := by unfold oRepE; rw [if_neg hk]
  refine ⟨?_, ?_, trivial⟩
  · unfold oRepL; rw [e]; rfl
  · rw [e]; unfold decE; rw [if_neg hk]
theorem fld32_len {b : List UInt8} (h : kindL b = 3) : (fld 3 b 32 32).length = 32 := by
  unfold fld
  rw [if_pos h, List.length_take, List.length_drop, kind_len.2.2.1 h]; rfl
theorem fld24_len {b : List UInt8} (h : kindL b = 3) : (fld 3 b 8 24).length = 24 := by
  unfold fld
  rw [if_pos h, List.length_take, List.length_drop, kind_len.2.2.1 h]; rfl
theorem orep_bad {k m1 b : List UInt8} (hk : kindL b = 3) (h : decide (openE (keyL (hid2 k) (fld 3 b 8 24)) (nonceL (fld 3 b 8 24)) (fld 3 b 32 32) m1 ≠ ((0 : Nat) : Int)) = true) :
    List.replicate 16 0 = oRepL k m1 b ∧ openE (keyL (hid2 k) (fld 3 b 8 24)) (nonceL (fld 3 b 8 24)) (fld 3 b 32 32) m1 = oRepE k m1 b ∧ True := by
  have e : oRepE k m1 b = openE (keyL (hid2 k) (fld 3 b 8 24)) (nonceL (fld 3 b 8 24)) (fld 3 b 32 32) m1 := by unfold oRepE; rw [if_pos hk]
  refine ⟨?_, e.symm, trivial⟩
  unfold oRepL
  rw [e, if_neg (show ¬ openE (keyL (hid2 k) (fld 3 b 8 24)) (nonceL (fld 3 b 8 24)) (fld 3 b 32 32) m1 = 0 from of_decide_eq_true h)]
theorem orep_len {k m1 b : List UInt8} (hk : kindL b = 3) (h : decide (openE (keyL (hid2 k) (fld 3 b 8 24)) (nonceL (fld 3 b 8 24)) (fld 3 b 32 32) m1 ≠ ((0 : Nat) : Int)) = false) : (openL (keyL (hid2 k) (fld 3 b 8 24)) (nonceL (fld 3 b 8 24)) (fld 3 b 32 32) m1).length = 16 := by
  have h0 : openE (keyL (hid2 k) (fld 3 b 8 24)) (nonceL (fld 3 b 8 24)) (fld 3 b 32 32) m1 = 0 := Decidable.not_not.1 (of_decide_eq_false h)
  unfold openL
  rw [if_pos h0, xorL_len, List.length_take, fld32_len hk]; rfl
theorem orep_ok {k m1 b : List UInt8} (hk : kindL b = 3) (h : decide (openE (keyL (hid2 k) (fld 3 b 8 24)) (nonceL (fld 3 b 8 24)) (fld 3 b 32 32) m1 ≠ ((0 : Nat) : Int)) = false) :
    oRepL k m1 b = openL (keyL (hid2 k) (fld 3 b 8 24)) (nonceL (fld 3 b 8 24)) (fld 3 b 32 32) m1 ∧ oRepE k m1 b = ((0 : Nat) : Int) := by
  have h0 : openE (keyL (hid2 k) (fld 3 b 8 24)) (nonceL (fld 3 b 8 24)) (fld 3 b 32 32) m1 = 0 := Decidable.not_not.1 (of_decide_eq_false h)
  have e : oRepE k m1 b = openE (keyL (hid2 k) (fld 3 b 8 24)) (nonceL (fld 3 b 8 24)) (fld 3 b 32 32) m1 := by unfold oRepE; rw [if_pos hk]
  refine ⟨?_, e.trans h0⟩
  unfold oRepL
  rw [e, if_pos h0]
set_option maxRecDepth 100000 in
theorem conORep : Con Try.prog 27 gORep := con_of_vcl fun args ps res h hp hlen => by
  unfold gORep at h
  split at h <;> cases h
  rename_i k m1 m b
  obtain ⟨rfl, hp2⟩ := all_cons.1 hp
  have hl := (all_cons.1 hp2).1
  obtain ⟨⟨h1, _⟩, ⟨h2, _⟩, _⟩ : (k.length = 32 ∧ True) ∧ (m1.length = 16 ∧ True) ∧ _ ∧ True := hlen
  refine ⟨MCr, 200, rfl, emcr, ?_⟩
  rw [vcMORep]
  simp only [forall_eq, io, lab2_flat, lab2_len, h1, h2, zeros16]
  refine ⟨trivial, by omega, fun h => orep_no h, fun h => ?_⟩
  have hk := decE_yes h
  refine ⟨by decide, rfl, by decide, by decide, trivial, trivial, by rw [fld32_len hk]; decide, by decide, fun h => orep_bad hk h, fun h => ?_⟩
  have hl := orep_len hk h
  obtain ⟨o1, o2⟩ := orep_ok hk h
  rw [o1, o2]
  exact ⟨Nat.le_of_eq hl.symm, Nat.le_of_eq hl.symm, List.take_of_length_le (Nat.le_of_eq hl), rfl, trivial⟩
set_option maxRecDepth 100000 in
theorem conHiddenR : Con Try.prog 52 gHidden := con_of_vcl fun args ps res h hp hlen => by
  unfold gHidden at h
  split at h <;> cases h
  rename_i k
  have h1 : k.length = 32 := (hlen.1 : k.length = 32 ∧ True).1
  refine ⟨MRa, 200, rfl, emra, ?_⟩
  rw [vcMHiddenR]
  simp only [forall_eq, io, lab2_flat, lab2_len, h1]
  exact ⟨by decide, rfl, by decide, by decide, rfl, trivial⟩
set_option maxRecDepth 100000 in
theorem emrr : EnvOk MRr := eok (gs := [(49, gHash), (52, gHidden), (51, gXSeal), (59, gXOpen), (53, gCook), (58, gDec dCook)]) ⟨conHashR, conHiddenR, conXSealR, conXOpenR, conCookR, conDCookR, trivial⟩
set_option maxRecDepth 100000 in
theorem conReplyR : Con Try.prog 25 gReply := con_of_vcl fun args ps res h hp hlen => by
  unfold gReply at h
  split at h <;> cases h
  rename_i k n c m1 r
  obtain ⟨⟨h1, _⟩, ⟨h2, _⟩, ⟨h3, _⟩, ⟨h4, _⟩, _⟩ : (k.length = 32 ∧ True) ∧ (n.length = 24 ∧ True) ∧ (c.length = 16 ∧ True) ∧ (m1.length = 16 ∧ True) ∧ True ∧ True := hlen
  refine ⟨MRr, 200, rfl, emrr, ?_⟩
  rw [vcMReplyR]
  have e0 : (repC k n c m1).length = 32 := repC_len h3
  have e : List.take 32 (repC k n c m1) = repC k n c m1 := List.take_of_length_le (by omega)
  have o : over (List.replicate 32 0) 0 (repC k n c m1) = repC k n c m1 := over_all (by rw [e0]; rfl)
  simp only [forall_eq, io, dropL_zero, List.take_length, Nat.zero_add, show sealL (keyL (hid2 k) n) (nonceL n) c m1 = repC k n c m1 from rfl, e, o, e0, h3, h4]
  exact ⟨trivial, trivial, by decide, by decide, by decide, by decide, rfl, trivial⟩
set_option maxRecDepth 100000 in
theorem conORepR : Con Try.prog 28 gORep := con_of_vcl fun args ps res h hp hlen => by
  unfold gORep at h
  split at h <;> cases h
  rename_i k m1 m b
  obtain ⟨rfl, hp2⟩ := all_cons.1 hp
  have hl := (all_cons.1 hp2).1
  obtain ⟨⟨h1, _⟩, ⟨h2, _⟩, _⟩ : (k.length = 32 ∧ True) ∧ (m1.length = 16 ∧ True) ∧ _ ∧ True := hlen
  refine ⟨MRr, 200, rfl, emrr, ?_⟩
  rw [vcMORepR]
  simp only [forall_eq, io, h1, h2, zeros16, dropL_zero, List.take_length, Nat.zero_add]
  refine ⟨trivial, by omega, fun h => orep_no h, fun h => ?_⟩
  have hk := decE_yes h
  refine ⟨trivial, trivial, by rw [fld32_len hk]; decide, by decide, fun h => orep_bad hk h, fun h => ?_⟩
  have hl := orep_len hk h
  obtain ⟨o1, o2⟩ := orep_ok hk h
  rw [o1, o2]
  have e : List.take 16 (openL (keyL (hid2 k) (fld 3 b 8 24)) (nonceL (fld 3 b 8 24)) (fld 3 b 32 32) m1) = openL (keyL (hid2 k) (fld 3 b 8 24)) (nonceL (fld 3 b 8 24)) (fld 3 b 32 32) m1 := List.take_of_length_le (Nat.le_of_eq hl)
  rw [e]
  exact ⟨Nat.le_refl _, Nat.le_of_eq hl, over_all (by rw [hl]; rfl), rfl, trivial⟩
end Go.Proofs.Ytbannfdoiiojgaa

/- A step towards MacsCookiesSaid: no conditions. -/
namespace Go.Proofs.Ytbannfdoiiojgaa
open Go Go.Eng Go.Cod Go.Msg
theorem cutAt {a b c : List UInt8} {o n : Nat} (ha : a.length = o) (hb : b.length = n) : ((a ++ (b ++ c)).drop o).take n = b := by
  subst ha hb
  rw [List.drop_append_of_le_length (Nat.le_refl _), List.drop_of_length_le (Nat.le_refl _), List.nil_append, List.take_append_of_le_length (Nat.le_refl _), List.take_length]
theorem cutEnd {a b : List UInt8} {o : Nat} (ha : a.length = o) : (a ++ b).drop o = b := by
  subst ha
  rw [List.drop_append_of_le_length (Nat.le_refl _), List.drop_of_length_le (Nat.le_refl _), List.nil_append]
theorem kind_of {b : List UInt8} {k : Int} {x : UInt8} (h0 : b.getD 0 0 = x) (hx : (x.toNat : Int) = k) (h1 : b.getD 1 0 = 0) (h2 : b.getD 2 0 = 0) (h3 : b.getD 3 0 = 0) (h4 : 4 ≤ b.length)
    (h : (x = 1 ∧ b.length = 148) ∨ (x = 2 ∧ b.length = 92) ∨ (x = 3 ∧ b.length = 64) ∨ (x = 4 ∧ 32 ≤ b.length ∧ b.length ≤ 2100)) : kindL b = k := by
  rw [← hx, ← h0]
  symm
  refine kind_some ?_ (by rw [h0]; exact h)
  rintro (h | h | h | h)
  · omega
  · exact h h1
  · exact h h2
  · exact h h3
section
variable {s r : UInt32} {e st t m1 m2 em n c : List UInt8}
theorem init_ok (he : e.length = 32) (hst : st.length = 48) (ht : t.length = 28) (h1 : m1.length = 16) (h2 : m2.length = 16) : (initL s e st t m1 m2).length = 148 ∧ kindL (initL s e st t m1 m2) = 1 ∧
    fld32 1 (initL s e st t m1 m2) 4 = s ∧ fld 1 (initL s e st t m1 m2) 8 32 = e ∧ fld 1 (initL s e st t m1 m2) 40 48 = st ∧ fld 1 (initL s e st t m1 m2) 88 28 = t ∧ fld 1 (initL s e st t m1 m2) 116 16 = m1 ∧ fld 1 (initL s e st t m1 m2) 132 16 = m2 := by
  have l4 := littleL_len s.toUInt64 4
  have hl : (initL s e st t m1 m2).length = 148 := by
    unfold initL
    simp only [List.length_append, l4, he, hst, ht, h1, h2]
    rfl
  have hk : kindL (initL s e st t m1 m2) = 1 := kind_of (x := 1) rfl rfl rfl rfl rfl (by omega) (.inl ⟨rfl, hl⟩)
  obtain ⟨f1, f2, f3, f4, f5⟩ := fld_yes hk
  refine ⟨hl, hk, ?_, ?_, ?_, ?_, ?_, ?_⟩
  · rw [f1]; unfold initL; rw [cutAt (a := [1, 0, 0, 0]) (o := 4) rfl l4, readL_little4]
  · rw [f3, show initL s e st t m1 m2 = ([1, 0, 0, 0] ++ littleL s.toUInt64 4) ++ (e ++ (st ++ (t ++ (m1 ++ m2)))) by simp [initL]]
    exact cutAt (by simp [l4]) he
  · rw [f3, show initL s e st t m1 m2 = ([1, 0, 0, 0] ++ littleL s.toUInt64 4 ++ e) ++ (st ++ (t ++ (m1 ++ m2))) by simp [initL]]
    exact cutAt (by simp [l4, he]) hst
  · rw [f3, show initL s e st t m1 m2 = ([1, 0, 0, 0] ++ littleL s.toUInt64 4 ++ e ++ st) ++ (t ++ (m1 ++ m2)) by simp [initL]]
    exact cutAt (by simp [l4, he, hst]) ht
  · rw [f3, show initL s e st t m1 m2 = ([1, 0, 0, 0] ++ littleL s.toUInt64 4 ++ e ++ st ++ t) ++ (m1 ++ m2) by simp [initL]]
    exact cutAt (by simp [l4, he, hst, ht]) h1
  · rw [f3, show initL s e st t m1 m2 = ([1, 0, 0, 0] ++ littleL s.toUInt64 4 ++ e ++ st ++ t ++ m1) ++ (m2 ++ []) by simp [initL]]
    exact cutAt (by simp [l4, he, hst, ht, h1]) h2
theorem resp_ok (he : e.length = 32) (hst : em.length = 16) (h1 : m1.length = 16) (h2 : m2.length = 16) : (respL s r e em m1 m2).length = 92 ∧ kindL (respL s r e em m1 m2) = 2 ∧
    fld32 2 (respL s r e em m1 m2) 4 = s ∧ fld32 2 (respL s r e em m1 m2) 8 = r ∧ fld 2 (respL s r e em m1 m2) 12 32 = e ∧ fld 2 (respL s r e em m1 m2) 44 16 = em ∧ fld 2 (respL s r e em m1 m2) 60 16 = m1 ∧ fld 2 (respL s r e em m1 m2) 76 16 = m2 := by
  have l4 := littleL_len s.toUInt64 4
  have l5 := littleL_len r.toUInt64 4
  have hl : (respL s r e em m1 m2).length = 92 := by
    unfold respL
    simp only [List.length_append, l4, l5, he, hst, h1, h2]
    rfl
  have hk : kindL (respL s r e em m1 m2) = 2 := kind_of (x := 2) rfl rfl rfl rfl rfl (by omega) (.inr (.inl ⟨rfl, hl⟩))
  obtain ⟨f1, f2, f3, f4, f5⟩ := fld_yes hk
  refine ⟨hl, hk, ?_, ?_, ?_, ?_, ?_, ?_⟩
  · rw [f1]; unfold respL; rw [cutAt (a := [2, 0, 0, 0]) (o := 4) rfl l4, readL_little4]
  · rw [f1, show respL s r e em m1 m2 = ([2, 0, 0, 0] ++ littleL s.toUInt64 4) ++ (littleL r.toUInt64 4 ++ (e ++ (em ++ (m1 ++ m2)))) by simp [respL], cutAt (by simp [l4]) l5, readL_little4]
  · rw [f3, show respL s r e em m1 m2 = ([2, 0, 0, 0] ++ littleL s.toUInt64 4 ++ littleL r.toUInt64 4) ++ (e ++ (em ++ (m1 ++ m2))) by simp [respL]]
    exact cutAt (by simp [l4, l5]) he
  · rw [f3, show respL s r e em m1 m2 = ([2, 0, 0, 0] ++ littleL s.toUInt64 4 ++ littleL r.toUInt64 4 ++ e) ++ (em ++ (m1 ++ m2)) by simp [respL]]
    exact cutAt (by simp [l4, l5, he]) hst
  · rw [f3, show respL s r e em m1 m2 = ([2, 0, 0, 0] ++ littleL s.toUInt64 4 ++ littleL r.toUInt64 4 ++ e ++ em) ++ (m1 ++ m2) by simp [respL]]
    exact cutAt (by simp [l4, l5, he, hst]) h1
  · rw [f3, show respL s r e em m1 m2 = ([2, 0, 0, 0] ++ littleL s.toUInt64 4 ++ littleL r.toUInt64 4 ++ e ++ em ++ m1) ++ (m2 ++ []) by simp [respL]]
    exact cutAt (by simp [l4, l5, he, hst, h1]) h2
theorem cook_ok (hn : n.length = 24) (hc : c.length = 32) : (cookL r n c).length = 64 ∧ kindL (cookL r n c) = 3 ∧ fld32 3 (cookL r n c) 4 = r ∧ fld 3 (cookL r n c) 8 24 = n ∧ fld 3 (cookL r n c) 32 32 = c := by
  have l4 := littleL_len r.toUInt64 4
  have hl : (cookL r n c).length = 64 := by
    unfold cookL
    simp only [List.length_append, l4, hn, hc]
    rfl
  have hk : kindL (cookL r n c) = 3 := kind_of (x := 3) rfl rfl rfl rfl rfl (by omega) (.inr (.inr (.inl ⟨rfl, hl⟩)))
  obtain ⟨f1, f2, f3, f4, f5⟩ := fld_yes hk
  refine ⟨hl, hk, ?_, ?_, ?_⟩
  · rw [f1]; unfold cookL; rw [cutAt (a := [3, 0, 0, 0]) (o := 4) rfl l4, readL_little4]
  · rw [f3, show cookL r n c = ([3, 0, 0, 0] ++ littleL r.toUInt64 4) ++ (n ++ c) by simp [cookL]]
    exact cutAt (by simp [l4]) hn
  · rw [f3, show cookL r n c = ([3, 0, 0, 0] ++ littleL r.toUInt64 4 ++ n) ++ (c ++ []) by simp [cookL]]
    exact cutAt (by simp [l4, hn]) hc
theorem tran_ok {ct : UInt64} {b : List UInt8} (hb : 16 ≤ b.length) (hb2 : b.length ≤ 2084) : tranR r ct b = tranL r ct b ∧ tranE b = 0 ∧ (tranL r ct b).length = 16 + b.length ∧ kindL (tranL r ct b) = 4 ∧
    fld32 4 (tranL r ct b) 4 = r ∧ fld64 4 (tranL r ct b) 8 = ct ∧ fldR 4 (tranL r ct b) 16 = b := by
  have l4 := littleL_len r.toUInt64 4
  have l8 := littleL_len ct 8
  have hl : (tranL r ct b).length = 16 + b.length := by
    unfold tranL
    simp only [List.length_append, l4, l8, List.length_cons, List.length_nil]
    omega
  have hk : kindL (tranL r ct b) = 4 := kind_of (x := 4) rfl rfl rfl rfl rfl (by omega) (.inr (.inr (.inr ⟨rfl, by omega, by omega⟩)))
  obtain ⟨f1, f2, f3, f4, f5⟩ := fld_yes hk
  refine ⟨by unfold tranR; rw [if_neg (by omega), if_neg (by omega)], by unfold tranE; rw [if_neg (by omega), if_neg (by omega)], hl, hk, ?_, ?_, ?_⟩
  · rw [f1]; unfold tranL; rw [cutAt (a := [4, 0, 0, 0]) (o := 4) rfl l4, readL_little4]
  · rw [f2, show tranL r ct b = ([4, 0, 0, 0] ++ littleL r.toUInt64 4) ++ (littleL ct 8 ++ b) by simp [tranL], cutAt (by simp [l4]) l8, readL_little8]
  · rw [f4, show tranL r ct b = ([4, 0, 0, 0] ++ littleL r.toUInt64 4 ++ littleL ct 8) ++ b by simp [tranL]]
    exact cutEnd (by simp [l4, l8])
end
end Go.Proofs.Ytbannfdoiiojgaa
