/- A step towards NoiseAgreesSaid: no conditions. -/
import Derived.Test.YtbgnjipdecekoaaBrcVc
import Derived.Test.YtbgnjipdecekoaaBlaCon2

namespace Go.Proofs.Ytbgnjipdecekoaa
open Go Go.Eng Go.Cod Go.Cha Go.Bla
set_option maxRecDepth 100000 in
set_option maxHeartbeats 4000000 in
theorem conCompR : Con Try.prog 50 gComp := con_of_vcl fun args ps res h hp hlen => by
  unfold gComp at h
  split at h <;> cases h
  rename_i h8 m b t last
  obtain ⟨rfl, hp2⟩ := all_cons.1 hp
  have hb := (all_cons.1 hp2).1
  have hh := hlen.1
  obtain ⟨h, rfl⟩ := len8 hh.1
  refine ⟨BEcr, 300, rfl, eok (gs := [(61, gReadL), (63, gMixAt), (62, gOrder)]) ⟨conReadLr, conMixAt, conOrder, trivial⟩, ?_⟩
  refine Eq.mpr (vcCompR h b t last) ?_
  refine ⟨by omega, rfl, take4_ltB _, ?_⟩
  intro r0 hr0 m0 hm0
  refine ⟨by omega, rfl, take4_ltB _, ?_⟩
  intro r1 hr1 m1 hm1
  refine ⟨by omega, rfl, take4_ltB _, ?_⟩
  intro r2 hr2 m2 hm2
  refine ⟨by omega, rfl, take4_ltB _, ?_⟩
  intro r3 hr3 m3 hm3
  refine ⟨by omega, rfl, take4_ltB _, ?_⟩
  intro r4 hr4 m4 hm4
  refine ⟨by omega, rfl, take4_ltB _, ?_⟩
  intro r5 hr5 m5 hm5
  refine ⟨by omega, rfl, take4_ltB _, ?_⟩
  intro r6 hr6 m6 hm6
  refine ⟨by omega, rfl, take4_ltB _, ?_⟩
  intro r7 hr7 m7 hm7
  refine ⟨by omega, rfl, take4_ltB _, ?_⟩
  intro r8 hr8 m8 hm8
  refine ⟨by omega, rfl, take4_ltB _, ?_⟩
  intro r9 hr9 m9 hm9
  refine ⟨by omega, rfl, take4_ltB _, ?_⟩
  intro r10 hr10 m10 hm10
  refine ⟨by omega, rfl, take4_ltB _, ?_⟩
  intro r11 hr11 m11 hm11
  refine ⟨by omega, rfl, take4_ltB _, ?_⟩
  intro r12 hr12 m12 hm12
  refine ⟨by omega, rfl, take4_ltB _, ?_⟩
  intro r13 hr13 m13 hm13
  refine ⟨by omega, rfl, take4_ltB _, ?_⟩
  intro r14 hr14 m14 hm14
  refine ⟨by omega, rfl, take4_ltB _, ?_⟩
  intro r15 hr15 m15 hm15
  have hM : m15 = words b := by
    subst hm15 hr15 hm14 hr14 hm13 hr13 hm12 hr12 hm11 hr11 hm10 hr10 hm9 hr9 hm8 hr8 hm7 hr7 hm6 hr6 hm5 hr5 hm4 hr4 hm3 hr3 hm2 hr2 hm1 hr1 hm0 hr0
    kernel_rfl
  rw [hM]
  clear hM
  clear hm15 hm14 hm13 hm12 hm11 hm10 hm9 hm8 hm7 hm6 hm5 hm4 hm3 hm2 hm1 hm0
  clear m0 m1 m2 m3 m4 m5 m6 m7 m8 m9 m10 m11 m12 m13 m14 m15
  clear hr0 r0 hr1 r1 hr2 r2 hr3 r3 hr4 r4 hr5 r5 hr6 r6 hr7 r7 hr8 r8 hr9 r9 hr10 r10 hr11 r11 hr12 r12 hr13 r13 hr14 r14 hr15 r15
  intro q0 hq0 q1 hq1 q2 hq2 q3 hq3 q4 hq4 q5 hq5 q6 hq6 q7 hq7 q8 hq8 q9 hq9 q10 hq10 q11 hq11 q12 hq12 q13 hq13 q14 hq14 q15 hq15 q16 hq16 q17 hq17 q18 hq18 q19 hq19
  have hw1 : (initV h t true).l = q19.set 14 (~~~(q19.getD 14 0)) := by
    subst hq19 hq18 hq17 hq16 hq15 hq14 hq13 hq12 hq11 hq10 hq9 hq8 hq7 hq6 hq5 hq4 hq3 hq2 hq1 hq0
    kernel_rfl
  have hw2 : (initV h t false).l = q19 := by
    subst hq19 hq18 hq17 hq16 hq15 hq14 hq13 hq12 hq11 hq10 hq9 hq8 hq7 hq6 hq5 hq4 hq3 hq2 hq1 hq0
    kernel_rfl
  refine ⟨fun hl y6 hy6 => ?_, fun hl => ?_, ?_⟩
  · subst hl
    exact ⟨initV h t true, hw1.trans (if_pos rfl).symm, rfl, rfl, rfl, rfl, rfl, rfl, rfl, rfl, hy6.trans hw1.symm, rfl, rfl, trivial⟩
  · subst hl
    exact ⟨initV h t false, hw2.trans (if_neg (by decide)).symm, rfl, rfl, rfl, rfl, rfl, rfl, rfl, rfl, hw2.symm, rfl, rfl, trivial⟩
  intro w0 hw0
  have hV0 : w0 = initV h t last := l16_inj (by
    rw [hw0]
    cases last
    · exact hw2.symm
    · exact hw1.symm)
  clear hw0 hw1 hw2
  refine ⟨⟨(0, w0), ⟨Nat.zero_le _, fun v e => l16_inj e⟩, rfl, rfl, rfl, rfl, rfl, rfl, rfl, rfl, rfl, rfl, rfl, rfl, trivial⟩, ?_⟩
  rintro ⟨r, w⟩ ⟨hr, hw⟩
  have hw := hw _ rfl
  refine ⟨fun hlt => ?_, fun hge => ?_⟩
  · have hlt : r < 10 := Int.ofNat_lt.1 (of_decide_eq_true hlt)
    refine ⟨⟨Int.natCast_nonneg r, by show (r : Int) < 10; omega⟩, ?_⟩
    intro o1 ho1 og hog0
    have hog : og = prow r := by rw [hog0, ho1]; rfl
    rw [hog]
    clear hog hog0 og ho1 o1
    have ok := prow_ok r hlt
    have okn : ∀ i, i < 16 → ((prow r).getD i 0).toNat < 16 := fun i hi => by have := ok i hi; omega
    refine ⟨ok 0 (by decide), okn 0 (by decide), ok 1 (by decide), okn 1 (by decide), by decide, by decide, by decide, by decide, ?_⟩
    intro a0 ha0 b0 hb0
    refine ⟨ok 2 (by decide), okn 2 (by decide), ok 3 (by decide), okn 3 (by decide), by decide, by decide, by decide, by decide, ?_⟩
    intro a1 ha1 b1 hb1
    refine ⟨ok 4 (by decide), okn 4 (by decide), ok 5 (by decide), okn 5 (by decide), by decide, by decide, by decide, by decide, ?_⟩
    intro a2 ha2 b2 hb2
    refine ⟨ok 6 (by decide), okn 6 (by decide), ok 7 (by decide), okn 7 (by decide), by decide, by decide, by decide, by decide, ?_⟩
    intro a3 ha3 b3 hb3
    refine ⟨ok 8 (by decide), okn 8 (by decide), ok 9 (by decide), okn 9 (by decide), by decide, by decide, by decide, by decide, ?_⟩
    intro a4 ha4 b4 hb4
    refine ⟨ok 10 (by decide), okn 10 (by decide), ok 11 (by decide), okn 11 (by decide), by decide, by decide, by decide, by decide, ?_⟩
    intro a5 ha5 b5 hb5
    refine ⟨ok 12 (by decide), okn 12 (by decide), ok 13 (by decide), okn 13 (by decide), by decide, by decide, by decide, by decide, ?_⟩
    intro a6 ha6 b6 hb6
    refine ⟨ok 14 (by decide), okn 14 (by decide), ok 15 (by decide), okn 15 (by decide), by decide, by decide, by decide, by decide, ?_⟩
    intro a7 ha7 b7 hb7
    have hfin : b7 = (roundB w (words b) r).l := by
      subst hb7 ha7 hb6 ha6 hb5 ha5 hb4 ha4 hb3 ha3 hb2 ha2 hb1 ha1 hb0 ha0
      exact mix8 w (words b) r
    rw [hfin]
    refine ⟨inI_of (show -9223372036854775808 ≤ (r : Int) + 1 by omega) (show (r : Int) + 1 < 9223372036854775808 by omega), ?_⟩
    intro c0 hc0
    refine ⟨(r + 1, roundB w (words b) r), ⟨hlt, fun v e => by rw [← l16_inj e]; exact congrArg (fun z => roundB z (words b) r) hw⟩, by show 10 - (r + 1) < 10 - r; omega, rfl, rfl, rfl, rfl, rfl, hc0, rfl, rfl, rfl, rfl, rfl, rfl, trivial⟩
  · have hge : r = 10 := by have : ¬ r < 10 := fun hc => of_decide_eq_false hge (Int.ofNat_lt.2 hc)
                            show r = 10; have : r ≤ 10 := hr; omega
    subst hge
    intro z0 e0 z1 e1 z2 e2 z3 e3 z4 e4 z5 e5 z6 e6 z7 e7 z8 e8
    refine ⟨?_, trivial⟩
    rw [comp_eq, ← hV0, ← hw]
    subst e8 e7 e6 e5 e4 e3 e2 e1 e0
    kernel_rfl
end Go.Proofs.Ytbgnjipdecekoaa
