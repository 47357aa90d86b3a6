/- A step towards NoiseAgreesSaid: no conditions. -/
import Derived.Test.YtbgnjipdecekoaaBlaVc2
import Derived.Test.YtbgnjipdecekoaaBlaCon

namespace Go.Proofs.Ytbgnjipdecekoaa
open Go Go.Eng Go.Cod Go.Cha Go.Bla
theorem mixStep (v : List UInt32) (a b c d : Nat) (x y : UInt32) (K : List UInt32 → Prop) (hK : K (mixAt v a b c d x y)) :
    ∀ y1 : List UInt32, y1 = v.set a (v.getD a 0 + (v.getD b 0 + x)) → ∀ y2 : UInt32, y2 = rol (y1.getD d 0 ^^^ y1.getD a 0) 16 → ∀ y3 : List UInt32, y3 = y1.set d y2 → ∀ y4 : List UInt32, y4 = y3.set c (y3.getD c 0 + y3.getD d 0) → ∀ y5 : UInt32, y5 = rol (y4.getD b 0 ^^^ y4.getD c 0) 20 → ∀ y6 : List UInt32, y6 = y4.set b y5 →
    ∀ y7 : List UInt32, y7 = y6.set a (y6.getD a 0 + (y6.getD b 0 + y)) → ∀ y8 : UInt32, y8 = rol (y7.getD d 0 ^^^ y7.getD a 0) 24 → ∀ y9 : List UInt32, y9 = y7.set d y8 → ∀ y10 : List UInt32, y10 = y9.set c (y9.getD c 0 + y9.getD d 0) → ∀ y11 : UInt32, y11 = rol (y10.getD b 0 ^^^ y10.getD c 0) 25 → ∀ y12 : List UInt32, y12 = y10.set b y11 → K y12 := by
  intro y1 h1 y2 h2 y3 h3 y4 h4 y5 h5 y6 h6 y7 h7 y8 h8 y9 h9 y10 h10 y11 h11 y12 h12
  have e : y12 = mixAt v a b c d x y := by
    rw [← UInt32.add_assoc] at h1 h7
    subst h12 h11 h10 h9 h8 h7 h6 h5 h4 h3 h2 h1
    rfl
  rw [e]
  exact hK
def outW (h : W8) (v : W16) : W8 :=
  ⟨h.x0 ^^^ (v.x0 ^^^ v.x8), h.x1 ^^^ (v.x1 ^^^ v.x9), h.x2 ^^^ (v.x2 ^^^ v.x10), h.x3 ^^^ (v.x3 ^^^ v.x11), h.x4 ^^^ (v.x4 ^^^ v.x12), h.x5 ^^^ (v.x5 ^^^ v.x13), h.x6 ^^^ (v.x6 ^^^ v.x14), h.x7 ^^^ (v.x7 ^^^ v.x15)⟩
theorem comp_eq (h : W8) (b : List UInt8) (t : UInt64) (last : Bool) : compL h.l b t last = (outW h (roundsB (words b) (initV h t last) 10)).l := by kernel_rfl
theorem l16_inj {v w : W16} (h : v.l = w.l) : v = w := by
  cases v; cases w
  simp only [List.cons.injEq, and_true] at h
  simp only [W16.mk.injEq]
  exact h
theorem sig_take : ∀ r, r < 10 → (sigma.drop (r * 16)).take 16 = prow r := fun r _ => rfl
theorem take4_ltB {α : Type} (l : List α) : (l.take 4).length < 4611686018427387904 := by rw [List.length_take]; omega
set_option maxRecDepth 100000 in
set_option maxHeartbeats 4000000 in
theorem conComp : Con Try.prog 48 gComp := con_of_vcl fun args ps res h hp hlen => by
  unfold gComp at h
  split at h <;> cases h
  rename_i h8 m b t last
  obtain ⟨rfl, hp2⟩ := all_cons.1 hp
  have hb := (all_cons.1 hp2).1
  have hh := hlen.1
  obtain ⟨h, rfl⟩ := len8 hh.1
  refine ⟨BEcp, 300, rfl, eok (gs := [(58, gReadL), (73, gRotl)]) ⟨conReadL, conRotl, trivial⟩, ?_⟩
  refine Eq.mpr (vcComp h b t last) ?_
  refine ⟨by omega, rfl, take4_ltB _, ?_⟩
  intro r0 hr0 m0 hm0
  refine ⟨by omega, rfl, take4_ltB _, ?_⟩
  intro r1 hr1 m1 hm1
  refine ⟨by omega, rfl, take4_ltB _, ?_⟩
  intro r2 hr2 m2 hm2
  refine ⟨by omega, rfl, take4_ltB _, ?_⟩
  intro r3 hr3 m3 hm3
  refine ⟨by omega, rfl, take4_ltB _, ?_⟩
  intro r4 hr4 m4 hm4
  refine ⟨by omega, rfl, take4_ltB _, ?_⟩
  intro r5 hr5 m5 hm5
  refine ⟨by omega, rfl, take4_ltB _, ?_⟩
  intro r6 hr6 m6 hm6
  refine ⟨by omega, rfl, take4_ltB _, ?_⟩
  intro r7 hr7 m7 hm7
  refine ⟨by omega, rfl, take4_ltB _, ?_⟩
  intro r8 hr8 m8 hm8
  refine ⟨by omega, rfl, take4_ltB _, ?_⟩
  intro r9 hr9 m9 hm9
  refine ⟨by omega, rfl, take4_ltB _, ?_⟩
  intro r10 hr10 m10 hm10
  refine ⟨by omega, rfl, take4_ltB _, ?_⟩
  intro r11 hr11 m11 hm11
  refine ⟨by omega, rfl, take4_ltB _, ?_⟩
  intro r12 hr12 m12 hm12
  refine ⟨by omega, rfl, take4_ltB _, ?_⟩
  intro r13 hr13 m13 hm13
  refine ⟨by omega, rfl, take4_ltB _, ?_⟩
  intro r14 hr14 m14 hm14
  refine ⟨by omega, rfl, take4_ltB _, ?_⟩
  intro r15 hr15 m15 hm15
  have hM : m15 = words b := by
    subst hm15 hr15 hm14 hr14 hm13 hr13 hm12 hr12 hm11 hr11 hm10 hr10 hm9 hr9 hm8 hr8 hm7 hr7 hm6 hr6 hm5 hr5 hm4 hr4 hm3 hr3 hm2 hr2 hm1 hr1 hm0 hr0
    kernel_rfl
  rw [hM]
  clear hM
  clear hm15 hm14 hm13 hm12 hm11 hm10 hm9 hm8 hm7 hm6 hm5 hm4 hm3 hm2 hm1 hm0
  clear m0 m1 m2 m3 m4 m5 m6 m7 m8 m9 m10 m11 m12 m13 m14 m15
  clear hr0 r0 hr1 r1 hr2 r2 hr3 r3 hr4 r4 hr5 r5 hr6 r6 hr7 r7 hr8 r8 hr9 r9 hr10 r10 hr11 r11 hr12 r12 hr13 r13 hr14 r14 hr15 r15
  intro y0 hy0 y1 hy1
  refine ⟨by decide, ?_⟩
  intro y2 hy2
  refine ⟨by decide, ?_⟩
  intro y3 hy3 y4 hy4 y5 hy5
  have hw1 : (initV h t true).l = y5.set 14 (~~~(y5.getD 14 0)) := by
    subst hy5 hy4 hy3 hy2 hy1 hy0
    kernel_rfl
  have hw2 : (initV h t false).l = y5 := by
    subst hy5 hy4 hy3 hy2 hy1 hy0
    kernel_rfl
  refine ⟨fun hl y6 hy6 => ?_, fun hl => ?_, ?_⟩
  · subst hl
    exact ⟨initV h t true, hw1.trans (if_pos rfl).symm, rfl, rfl, rfl, rfl, rfl, rfl, rfl, rfl, hy6.trans hw1.symm, rfl, rfl, trivial⟩
  · subst hl
    exact ⟨initV h t false, hw2.trans (if_neg (by decide)).symm, rfl, rfl, rfl, rfl, rfl, rfl, rfl, rfl, hw2.symm, rfl, rfl, trivial⟩
  intro w0 hw0
  have hV0 : w0 = initV h t last := l16_inj (by
    rw [hw0]
    cases last
    · exact hw2.symm
    · exact hw1.symm)
  clear hw0 hw1 hw2
  intro sg hsg
  have hsg : sg = sigma := hsg.trans (by kernel_rfl)
  refine ⟨⟨(0, w0), ⟨Nat.zero_le _, fun v e => l16_inj e⟩, rfl, rfl, rfl, rfl, rfl, rfl, rfl, rfl, rfl, rfl, rfl, rfl, rfl, rfl, trivial⟩, ?_⟩
  rintro ⟨r, w⟩ ⟨hr, hw⟩
  have hw := hw _ rfl
  refine ⟨fun hlt => ?_, fun hge => ?_⟩
  · have hlt : r < 10 := Int.ofNat_lt.1 (of_decide_eq_true hlt)
    have hrn : (Int.ofNat r).toNat = r := rfl
    refine ⟨⟨Int.natCast_nonneg r, Int.ofNat_lt.2 hlt⟩, by show r * 16 + 16 ≤ 160; omega, ?_⟩
    intro og hog
    have hog : og = prow r := by rw [hog, hsg]; exact sig_take r hlt
    rw [hog]
    have ok := prow_ok r hlt
    have okn : ∀ i, i < 16 → ((prow r).getD i 0).toNat < 16 := fun i hi => by have := ok i hi; omega
    refine ⟨ok 0 (by decide), okn 0 (by decide), ok 1 (by decide), okn 1 (by decide), mixStep w.l 0 4 8 12 (mw (words b) r 0) (mw (words b) r 1) _ ?_⟩
    refine ⟨ok 2 (by decide), okn 2 (by decide), ok 3 (by decide), okn 3 (by decide), mixStep _ 1 5 9 13 (mw (words b) r 2) (mw (words b) r 3) _ ?_⟩
    refine ⟨ok 4 (by decide), okn 4 (by decide), ok 5 (by decide), okn 5 (by decide), mixStep _ 2 6 10 14 (mw (words b) r 4) (mw (words b) r 5) _ ?_⟩
    refine ⟨ok 6 (by decide), okn 6 (by decide), ok 7 (by decide), okn 7 (by decide), mixStep _ 3 7 11 15 (mw (words b) r 6) (mw (words b) r 7) _ ?_⟩
    refine ⟨ok 8 (by decide), okn 8 (by decide), ok 9 (by decide), okn 9 (by decide), mixStep _ 0 5 10 15 (mw (words b) r 8) (mw (words b) r 9) _ ?_⟩
    refine ⟨ok 10 (by decide), okn 10 (by decide), ok 11 (by decide), okn 11 (by decide), mixStep _ 1 6 11 12 (mw (words b) r 10) (mw (words b) r 11) _ ?_⟩
    refine ⟨ok 12 (by decide), okn 12 (by decide), ok 13 (by decide), okn 13 (by decide), mixStep _ 2 7 8 13 (mw (words b) r 12) (mw (words b) r 13) _ ?_⟩
    refine ⟨ok 14 (by decide), okn 14 (by decide), ok 15 (by decide), okn 15 (by decide), mixStep _ 3 4 9 14 (mw (words b) r 14) (mw (words b) r 15) _ ?_⟩
    refine ⟨inI_of (show -9223372036854775808 ≤ (r : Int) + 1 by omega) (show (r : Int) + 1 < 9223372036854775808 by omega), ⟨(r + 1, roundB w (words b) r), ⟨hlt, fun v e => by rw [← l16_inj e]; show roundB w (words b) r = roundB (roundsB (words b) w0 r) (words b) r; rw [← hw]⟩, by show 10 - (r + 1) < 10 - r; omega, rfl, rfl, rfl, rfl, rfl, rfl, rfl, rfl, rfl, rfl, mix8 w (words b) r, rfl, rfl, rfl, trivial⟩⟩
  · have hge : r = 10 := by have : ¬ r < 10 := fun hc => of_decide_eq_false hge (Int.ofNat_lt.2 hc)
                            show r = 10; have : r ≤ 10 := hr; omega
    subst hge
    intro z0 e0 z1 e1 z2 e2 z3 e3 z4 e4 z5 e5 z6 e6 z7 e7 z8 e8
    refine ⟨?_, trivial⟩
    rw [comp_eq, ← hV0, ← hw]
    subst e8 e7 e6 e5 e4 e3 e2 e1 e0
    kernel_rfl
end Go.Proofs.Ytbgnjipdecekoaa
