/- Steps towards SessionValuesSaid. -/
import Derived.Test.YtimjfjlaoekfkaaGreatJDakSpec
import Derived.Test.YtimjfjlaoekfkaaGreatJDanVc
import Derived.Test.YtimjfjlaoekfkaaGreatJDauSpec
/- A step towards SessionValuesSaid: no conditions. -/

namespace Go.Proofs.YtimjfjlaoekfkaaGreat
open Go Go.Eng Go.Dae
set_option maxRecDepth 100000
theorem conFindP : ConH Tryz.prog 38 gFindP := by
  refine conH_of_vcl fun args ps H hg hp hl => ?_
  unfold gFindP at hg
  split at hg
  · split at hg
    · rename_i d hd
      cases hg
      have e := dmOf_eq hd
      subst e
      exact ⟨EFp, 200, rfl, eok (gs := []) trivial, lawFindP d _ (all_cons.1 hp).1⟩
    · cases hg
  · cases hg
end Go.Proofs.YtimjfjlaoekfkaaGreat

/- A step towards SessionValuesSaid: no conditions. -/

namespace Go.Proofs.YtimjfjlaoekfkaaGreat
open Go Go.Eng Go.Dae
set_option maxRecDepth 100000
theorem conRules : ConH Tryz.prog 68 gRules := by
  refine conH_of_vcl fun args ps H hg hp hl => ?_
  unfold gRules at hg
  split at hg
  · split at hg
    · rename_i r hd
      cases hg
      have e := rulOf_eq hd
      subst e
      refine ⟨ERu, 200, rfl, eok (gs := []) trivial, Eq.mpr (vcRules r) ?_⟩
      repeat' first
        | exact ⟨_, trivial, rfl, trivial⟩
        | refine ⟨?_, ?_⟩
        | intro h
      all_goals
        simp only [decide_eq_true_eq, Bool.not_eq_false', Bool.not_eq_true', decide_eq_false_iff_not, io] at *
        omega
    · cases hg
  · cases hg
theorem pubP {n i : Nat} {l : VL} (h : PRow n l) (hi : i < n) : ∀ v ∈ (l.drop (i * 464)).take 32, v = eu8 (d8 v) := by
  obtain ⟨a, t, e, h1, h2, _⟩ := (WU_of_WT (h.1.2 i hi) : WU (.vec 32 .u8 :: ksP.tail) _)
  have : (l.drop (i * 464)).take 32 = a := by
    have e2 : ((l.drop (i * 464)).take 464).take 32 = (l.drop (i * 464)).take 32 := by rw [List.take_take]; rfl
    rw [← e2, e, ← h1, List.take_left]
  rw [this]
  exact h2
theorem conPeers : ConH Tryz.prog 70 gPeers := by
  refine conH_of_vcl fun args ps H hg hp hl => ?_
  unfold gPeers at hg
  split at hg
  · split at hg
    · rename_i d hd
      cases hg
      have e := dmOf_eq hd
      subst e
      have hd := (all_cons.1 hp).1
      have hr := hd.hp.1
      have hnp := hd.np
      have hrl := hr.1
      refine ⟨EPe, 200, rfl, eok (gs := []) trivial, Eq.mpr (vcPeers d) ?_⟩
      have e1 : ((1 : Nat) : Int) = 1 := rfl
      have e0 : ((0 : Nat) : Int) = 0 := rfl
      simp only [dSm, dmL, io, e1, e0, Int.toNat_natCast]
      refine ⟨⟨0, Nat.zero_le _, by and_intros <;> first | trivial | rfl⟩, fun i hi => ⟨fun h => ?_, fun h => ⟨_, trivial, rfl, trivial⟩⟩⟩
      have hlt : i < d.np := by have := of_decide_eq_true h; omega
      obtain ⟨a1, a2, a3⟩ := hr.at hlt
      have hI : InI ((i : Int) + 1) := by unfold InI; omega
      have hpi : ∀ v ∈ List.take 32 (List.take 464 (dropL d.ps (i * 464))), v = eu8 (d8 v) := by
        have := pubP hd.hp hlt
        rw [dropL_eq, List.take_take]
        exact this
      refine ⟨by omega, a1, fun h0 => ?_, fun h0 => ⟨hI, i + 1, hlt, by omega, ?_⟩⟩
      · have h0 : 0 < i := by have := of_decide_eq_true h0; omega
        have ei : ((i : Int) - 1).toNat = i - 1 := by omega
        have h1 : (i - 1 + 1) * 464 ≤ d.np * 464 := Nat.mul_le_mul_right _ (by omega)
        rw [ei]
        refine ⟨by unfold InI; omega, by omega, by omega, pubP hd.hp (by omega), by omega, hpi, fun _ => ⟨_, trivial, rfl, trivial⟩, fun _ => ⟨hI, i + 1, hlt, by omega, ?_⟩⟩
        and_intros <;> first | trivial | rfl
      · and_intros <;> first | trivial | rfl
    · cases hg
  · cases hg
end Go.Proofs.YtimjfjlaoekfkaaGreat

/- A step towards SessionValuesSaid: no conditions. -/

namespace Go.Dae
open Go Go.Eng
theorem decF_len : ∀ (k : Nat) (n : Int), (decF k n).length ≤ k
  | 0, _ => Nat.le_refl _
  | k + 1, n => by
    have := decF_len k (n.tdiv 10)
    unfold decF
    split
    · simp
    · simp; omega
theorem dec_step {k : Nat} {n : Int} (h0 : 0 ≤ n) (h10 : 10 ≤ n) (h : n < 10 ^ (k + 1)) : 0 ≤ n.tdiv 10 ∧ n.tdiv 10 < 10 ^ k ∧ 0 < k ∧ InI (n.tdiv 10) ∧ InI (48 + n.tmod 10) ∨ ¬ n < 9223372036854775808 := by
  rw [Int.pow_succ] at h
  have e1 : n.tdiv 10 = n / 10 := Int.tdiv_eq_ediv_of_nonneg h0
  have e2 : n.tmod 10 = n % 10 := Int.tmod_eq_emod_of_nonneg h0
  rw [e1, e2]
  by_cases hb : n < 9223372036854775808
  · refine .inl ⟨by omega, by omega, ?_, by unfold InI; omega, by unfold InI; omega⟩
    rcases Nat.eq_zero_or_pos k with rfl | hk
    · simp at h; omega
    · exact hk
  · exact .inr hb
theorem WT_one (a c : List TK) {k : Kd} {l : VL} (h : WT (a ++ (.one k :: c)) l) : k.is (l.getD (szTK a) (.bool false)) := by
  obtain ⟨v, t, e, h2, _⟩ := ((WU_of_WT h).split.2 : WU (.one k :: c) (l.drop (szTK a)))
  have e1 : (l.drop (szTK a))[0]? = some v := by rw [e]; rfl
  rw [List.getElem?_drop, Nat.add_zero] at e1
  rw [List.getD_eq_getElem?_getD, e1]
  exact h2
theorem WT_len {ks : List TK} {l : VL} (h : WT ks l) : l.length = szTK ks := (WU_of_WT h).len
end Go.Dae
namespace Go.Proofs.YtimjfjlaoekfkaaGreat
open Go Go.Eng Go.Dae
set_option maxRecDepth 100000
theorem conDec0 : Con Tryz.prog 102 (gDec 0) := by
  refine con_of_vcs fun args ps res hg hp => ?_
  unfold gDec at hg
  split at hg
  · cases hg
    obtain ⟨_, hp⟩ := all_cons.1 hp
    obtain ⟨_, hp⟩ := all_cons.1 hp
    exact absurd (all_cons.1 hp).1 (by omega)
  · cases hg
theorem conDecS (k : Nat) (hk : k ≤ 15) (h : Con Tryz.prog 102 (gDec k)) : Con Tryz.prog 102 (gDec (k + 1)) := by
  refine con_of_vcs fun args ps res hg hp => ?_
  unfold gDec at hg
  split at hg
  · rename_i n
    cases hg
    obtain ⟨h1, hp⟩ := all_cons.1 hp
    obtain ⟨h2, _⟩ := all_cons.1 hp
    have hb : n < 9223372036854775808 := by
      have hq : ∀ k, k < 16 → (10 : Int) ^ (k + 1) ≤ 10 ^ 16 := by decide
      have := hq k (by omega)
      have e : (10 : Int) ^ 16 = 10000000000000000 := by decide
      omega
    refine ⟨EDc k, 200, rfl, eok (gs := [(_, gDec k)]) ⟨h, trivial⟩, Eq.mpr (vcDec k n) ?_⟩
    have e48 : ((48 : Nat) : Int) = 48 := rfl
    have e10 : ((10 : Nat) : Int) = 10 := rfl
    simp only [dSm, dmL, io, e48, e10]
    refine ⟨fun hd => ?_, fun hd => ?_⟩
    · have hd := of_decide_eq_true hd
      refine ⟨by unfold InI; omega, ?_, trivial⟩
      show _ = if n < 10 then _ else _
      rw [if_pos hd]
    · have hd := of_decide_eq_false hd
      rcases dec_step h1 (by omega) h2 with ⟨g1, g2, g3, g4, g5⟩ | g
      · have hl := decF_len k (n.tdiv 10)
        refine ⟨⟨by omega, g4⟩, g1, g2, g3, by omega, g5, by omega, ?_, trivial⟩
        show _ = if n < 10 then _ else _
        rw [if_neg hd]
      · exact absurd hb g
  · cases hg
theorem conDec : ∀ k, k ≤ 15 → Con Tryz.prog 102 (gDec k)
  | 0, _ => conDec0
  | k + 1, h => conDecS k (by omega) (conDec k (by omega))
theorem conFad : ConH Tryz.prog 101 gFad := by
  refine conH_of_vcl fun args ps H hg hp hl => ?_
  unfold gFad at hg
  split at hg
  · rename_i s i
    cases hg
    have hs := (all_cons.1 hp).1
    subst hs
    refine ⟨EFa, 200, rfl, eok (gs := [(_, gSound), (_, gDec 3)]) ⟨conSound, conDec 3 (by omega), trivial⟩, Eq.mpr (vcFad false i) ?_⟩
    have l3 : ∀ n, (decF 3 n).length ≤ 3 := decF_len 3
    have hb : ∀ j, ((List.getD i j (0 : UInt8)).toNat : Int) < 10 ^ 3 := fun j => by
      have := (List.getD i j (0 : UInt8)).toNat_lt
      have e : (10 : Int) ^ 3 = 1000 := by decide
      omega
    refine ⟨fun _ => ⟨_, by simp, rfl, trivial⟩, fun _ => ⟨fun _ => ?_, fun h => by cases h⟩⟩
    have a0 := l3 ((List.getD i 0 (0 : UInt8)).toNat : Int)
    have a1 := l3 ((List.getD i 1 (0 : UInt8)).toNat : Int)
    have a2 := l3 ((List.getD i 2 (0 : UInt8)).toNat : Int)
    have a3 := l3 ((List.getD i 3 (0 : UInt8)).toNat : Int)
    have b0 := hb 0
    have b1 := hb 1
    have b2 := hb 2
    have b3 := hb 3
    have n0 : (0 : Int) ≤ ((List.getD i 0 (0 : UInt8)).toNat : Int) := by omega
    have n1 : (0 : Int) ≤ ((List.getD i 1 (0 : UInt8)).toNat : Int) := by omega
    have n2 : (0 : Int) ≤ ((List.getD i 2 (0 : UInt8)).toNat : Int) := by omega
    have n3 : (0 : Int) ≤ ((List.getD i 3 (0 : UInt8)).toNat : Int) := by omega
    generalize decF 3 ((List.getD i 0 (0 : UInt8)).toNat : Int) = x0 at *
    generalize decF 3 ((List.getD i 1 (0 : UInt8)).toNat : Int) = x1 at *
    generalize decF 3 ((List.getD i 2 (0 : UInt8)).toNat : Int) = x2 at *
    generalize decF 3 ((List.getD i 3 (0 : UInt8)).toNat : Int) = x3 at *
    refine ⟨n0, b0, by omega, by omega, by simp; omega, n1, b1, by omega, by omega, by simp; omega, n2, b2, by omega, by omega, by simp; omega, n3, b3, by omega, by omega, by simp; omega, ?_⟩
    refine ⟨by simp, _, ?_, rfl, trivial⟩
    simp
    omega
  · cases hg
theorem conFen : ConH Tryz.prog 92 gFen := by
  refine conH_of_vcl fun args ps H hg hp hl => ?_
  unfold gFen at hg
  split at hg
  · rename_i s i p
    cases hg
    have hs := (all_cons.1 hp).1
    subst hs
    refine ⟨EFe, 200, rfl, mkEH_ok namesOk mx (gs := [(_, gDec 5)]) ⟨conDec 5 (by omega), trivial⟩ trivial trivial (hs := [(_, gFad)]) ⟨conFad, trivial⟩, Eq.mpr (vcFen false i p) ?_⟩
    have e1 : ((1 : Nat) : Int) = 1 := rfl
    have e6 : ((65535 : Nat) : Int) = 65535 := rfl
    simp only [dSm, dmL, io, e1, e6]
    refine ⟨trivial, fun a ha => ⟨fun _ => ⟨_, by simp, rfl, trivial⟩, fun _ => ⟨fun _ => ⟨_, by simp, rfl, trivial⟩, fun h1 => ⟨fun _ => ⟨_, by simp, rfl, trivial⟩, fun h2 => ⟨fun h => (by cases h), fun _ => ?_⟩⟩⟩⟩⟩
    have h1 := of_decide_eq_false h1
    have h2 := of_decide_eq_false h2
    have e : (10 : Int) ^ 5 = 100000 := by decide
    have l5 := decF_len 5 p
    refine ⟨by omega, by omega, by omega, by omega, by simp; omega, _, ?_, rfl, trivial⟩
    simp
    omega
  · cases hg
theorem conPast : ConH Tryz.prog 57 gPast := by
  refine conH_of_vcl fun args ps H hg hp hl => ?_
  unfold gPast at hg
  split at hg
  · split at hg
    · rename_i d hd
      cases hg
      have e := dmOf_eq hd
      subst e
      refine ⟨ERu, 200, rfl, eok (gs := []) trivial, Eq.mpr (vcPast d _) ?_⟩
      repeat' first
        | exact ⟨_, trivial, rfl, trivial⟩
        | refine ⟨?_, ?_⟩
        | intro h
    · cases hg
  · cases hg
theorem conTimed : ConH Tryz.prog 93 gTimed := by
  refine conH_of_vcl fun args ps H hg hp hl => ?_
  unfold gTimed at hg
  split at hg
  · cases hg
    refine ⟨ERu, 200, rfl, eok (gs := []) trivial, Eq.mpr (vcTimed _) ?_⟩
    repeat' first
      | exact ⟨_, trivial, rfl, trivial⟩
      | refine ⟨?_, ?_⟩
      | intro h
  · cases hg
theorem conSnd : ConH Tryz.prog 40 gSnd := by
  refine conH_of_vcl fun args ps H hg hp hl => ?_
  unfold gSnd at hg
  split at hg
  · split at hg
    · rename_i d s hd hs
      cases hg
      have e := dmOf_eq hd
      subst e
      have e := snOf_eq hs
      subst e
      refine ⟨ESn, 200, rfl, mkEH_ok namesOk mx (gs := []) trivial trivial trivial (hs := [(_, gPast)]) ⟨conPast, trivial⟩, Eq.mpr (vcSnd d s) ?_⟩
      repeat' first
        | exact ⟨_, trivial, rfl, trivial⟩
        | refine ⟨?_, ?_⟩
        | intro h
    · cases hg
  · cases hg
theorem conGet : ConH Tryz.prog 95 gGet := by
  refine conH_of_vcl fun args ps H hg hp hl => ?_
  unfold gGet at hg
  split at hg
  · rename_i l i
    cases hg
    have hw := (all_cons.1 hp).1
    have hwl := WT_len hw
    have w0 : WT ksPlace (l.take 77) := WT_sub [] ksPlace (ksPlace ++ ksPlace) hw
    have w1 : WT ksPlace ((dropL l 77).take 77) := by rw [dropL_eq]; exact WT_sub ksPlace ksPlace ksPlace hw
    have w2 : WT ksPlace ((dropL l 154).take 77) := by rw [dropL_eq]; exact WT_sub (ksPlace ++ ksPlace) ksPlace [] (by simpa [ringW] using hw)
    have hpl : ∀ {k : VL}, WT ksPlace k → ((k.drop 3).take 32).length = 32 ∧ ((k.drop 35).take 32).length = 32 ∧ ((k.drop 71).take 4).length = 4 := fun {k} h => by
      have := WT_len h
      have e : szTK ksPlace = 77 := by decide
      rw [e] at this
      simp [this]
    refine ⟨ERu, 200, rfl, eok (gs := []) trivial, Eq.mpr (vcGet l i) ?_⟩
    refine ⟨fun _ => ⟨by omega, w0, ⟨_, ⟨_, _, _, _, _, _, _, _, _, _, _⟩⟩, ⟨?_, ?_, ?_⟩, rfl, rfl, rfl, rfl, rfl, rfl, rfl, rfl, rfl, rfl, rfl, rfl, trivial⟩, fun _ => ⟨fun _ => ⟨by omega, w1, ⟨_, ⟨_, _, _, _, _, _, _, _, _, _, _⟩⟩, ⟨?_, ?_, ?_⟩, rfl, rfl, rfl, rfl, rfl, rfl, rfl, rfl, rfl, rfl, rfl, rfl, trivial⟩, fun _ => ⟨fun _ => ⟨by omega, w2, ⟨_, ⟨_, _, _, _, _, _, _, _, _, _, _⟩⟩, ⟨?_, ?_, ?_⟩, rfl, rfl, rfl, rfl, rfl, rfl, rfl, rfl, rfl, rfl, rfl, rfl, trivial⟩, fun _ => ⟨⟨_, ⟨_, _, _, _, _, _, _, _, _, _, _⟩⟩, ⟨?_, ?_, ?_⟩, rfl, rfl, rfl, rfl, rfl, rfl, rfl, rfl, rfl, rfl, rfl, rfl, trivial⟩⟩⟩⟩
    all_goals first
      | (rw [List.length_map]; first | exact (hpl w0).1 | exact (hpl w0).2.1 | exact (hpl w0).2.2 | exact (hpl w1).1 | exact (hpl w1).2.1 | exact (hpl w1).2.2 | exact (hpl w2).1 | exact (hpl w2).2.1 | exact (hpl w2).2.2)
      | rfl
  · cases hg
end Go.Proofs.YtimjfjlaoekfkaaGreat

/- A step towards SessionValuesSaid: no conditions. -/

namespace Go.Dae
open Go Go.Eng
theorem encQ_eq (p : Pl) (t : VL) : encQ p t = encPl p ++ t := (encPl_app p t).symm
theorem decPl_ok {k : VL} (h : WT ksPlace k) : (decPl k).s.Ok := by
  have := WT_len h
  have e : szTK ksPlace = 77 := by decide
  rw [e] at this
  refine ⟨?_, ?_, ?_⟩ <;> simp [decPl, this]
theorem row1 {p : Pl} (h : p.s.Ok) : Row ksPlace 77 1 (encQ p []) := by rw [encQ_eq, List.append_nil]; exact rowPl h
theorem row2 {p q : Pl} (h : p.s.Ok) (h2 : q.s.Ok) : Row ksPlace 77 2 (encQ p (encQ q [])) := by rw [encQ_eq, encQ_eq, List.append_nil]; exact (rowPl h).app (rowPl h2)
theorem ring3 {p q r : Pl} (h : p.s.Ok) (h2 : q.s.Ok) (h3 : r.s.Ok) : WU ringW (encQ p (encQ q (encQ r []))) := by
  rw [encQ_eq, encQ_eq, encQ_eq, List.append_nil]
  exact (wuPl h).app ((wuPl h2).app (wuPl h3))
theorem fin2 (L : List UInt32) : 0 + L.length ≤ L.length ∧ L.length = L.length ∧ List.take L.length (dropL (dropL L 0) 0) = L ∧ True :=
  ⟨by omega, rfl, by simp only [dropL, List.take_length], trivial⟩
theorem begC_ok {l : VL} {s : Sn} (hw : WT ringW l) (hs : s.Ok) : WU ringW (begC l s).1 ∧ (begC l s).2.length ≤ 2 := by
  have w1 : WT ksPlace ((dropL l 77).take 77) := by rw [dropL_eq]; exact WT_sub ksPlace ksPlace ksPlace hw
  have w2 : WT ksPlace ((dropL l 154).take 77) := by rw [dropL_eq]; exact WT_sub (ksPlace ++ ksPlace) ksPlace [] (by simpa [ringW] using hw)
  unfold begC
  split
  · exact ⟨ring3 (decPl_ok w2) hs zSn_ok, locN_len _ 2⟩
  · exact ⟨ring3 (cleanP_ok (decPl_ok w1)) hs zSn_ok, Nat.le_trans (locN_len _ 1) (by omega)⟩
theorem ansC_ok {l : VL} {s : Sn} (hw : WT ringW l) (hs : s.Ok) : WU ringW (ansC l s).1 ∧ (ansC l s).2.length ≤ 2 := by
  have w1 : WT ksPlace ((dropL l 77).take 77) := by rw [dropL_eq]; exact WT_sub ksPlace ksPlace ksPlace hw
  exact ⟨ring3 zSn_ok (decPl_ok w1) hs, locN_len _ 2⟩
end Go.Dae
namespace Go.Proofs.YtimjfjlaoekfkaaGreat
open Go Go.Eng Go.Dae
set_option maxRecDepth 100000
theorem conBegC : Con Tryz.prog 42 (gRingC begC) := by
  refine con_of_vcl fun args ps res hg hp hl => ?_
  unfold gRingC at hg
  split at hg
  · rename_i l cs
    split at hg
    · rename_i s h2
      cases hg
      have h2 := snOf_eq h2
      subst h2
      have hw := (all_cons.1 hp).1
      have hs : s.Ok := lenSn hl.2.1
      have w0 : WT ksPlace (l.take 77) := WT_sub [] ksPlace (ksPlace ++ ksPlace) hw
      have w1 : WT ksPlace ((dropL l 77).take 77) := by rw [dropL_eq]; exact WT_sub ksPlace ksPlace ksPlace hw
      have w2 : WT ksPlace ((dropL l 154).take 77) := by rw [dropL_eq]; exact WT_sub (ksPlace ++ ksPlace) ksPlace [] (by simpa [ringW] using hw)
      have g := WT_one (ksPlace ++ ksPlace) ksSess (k := .b) (by simpa [ringW, ksPlace] using hw)
      have hb := begC_ok hw hs
      have h231 := hb.1.len
      refine ⟨EBgC, 200, rfl, eok (gs := [(_, gLocals), (_, gClean)]) ⟨conLocals, conClean, trivial⟩, ?_⟩
      rw [vcBegC]
      refine ⟨g, fun h => ?_, fun h => ?_⟩
      · have e : begC l s = (encQ (plD l) (encQ ⟨true, s⟩ (encQ zPl [])), locN (encQ (plA l) (encQ (plB l) [])) 2) := if_pos h
        rw [e] at h231 ⊢
        exact ⟨by omega, w2, by omega, w0, by omega, w1, by omega, row2 (decPl_ok w0) (decPl_ok w1), rfl, h231, fin2 _⟩
      · have e : begC l s = (encQ (cleanP (plB l)) (encQ ⟨true, s⟩ (encQ zPl [])), locN (encQ (plA l) []) 1) := if_neg (by rw [h]; decide)
        rw [e] at h231 ⊢
        refine ⟨by omega, w1, by omega, w0, by omega, row1 (decPl_ok w0), rfl, h231, fin2 _⟩
    · cases hg
  · cases hg
theorem conAnsC : Con Tryz.prog 43 (gRingC ansC) := by
  refine con_of_vcl fun args ps res hg hp hl => ?_
  unfold gRingC at hg
  split at hg
  · rename_i l cs
    split at hg
    · rename_i s h2
      cases hg
      have h2 := snOf_eq h2
      subst h2
      have hw := (all_cons.1 hp).1
      have hs : s.Ok := lenSn hl.2.1
      have w0 : WT ksPlace (l.take 77) := WT_sub [] ksPlace (ksPlace ++ ksPlace) hw
      have w1 : WT ksPlace ((dropL l 77).take 77) := by rw [dropL_eq]; exact WT_sub ksPlace ksPlace ksPlace hw
      have w2 : WT ksPlace ((dropL l 154).take 77) := by rw [dropL_eq]; exact WT_sub (ksPlace ++ ksPlace) ksPlace [] (by simpa [ringW] using hw)
      have h231 := (ansC_ok hw hs).1.len
      refine ⟨EBgC, 200, rfl, eok (gs := [(_, gLocals), (_, gClean)]) ⟨conLocals, conClean, trivial⟩, ?_⟩
      rw [vcAnsC]
      exact ⟨by omega, w1, by omega, w0, by omega, w2, by omega, row2 (decPl_ok w0) (decPl_ok w2), rfl, h231, fin2 _⟩
    · cases hg
  · cases hg
end Go.Proofs.YtimjfjlaoekfkaaGreat
