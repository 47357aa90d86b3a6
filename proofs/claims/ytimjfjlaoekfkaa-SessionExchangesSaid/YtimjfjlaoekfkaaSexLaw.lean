/- A step towards SessionExchangesSaid: no conditions. -/
import Derived.Test.YtimjfjlaoekfkaaJSexVc
import Derived.Test.YtimjfjlaoekfkaaJSexLem
import Derived.Test.YtimjfjlaoekfkaaJWiCon

namespace Go.Proofs.Ytimjfjlaoekfkaa
open Go Go.Eng Go.Cod Go.Cha Go.Pol Go.Aed Go.Msg Go.Win Go.Ses
theorem esel : EnvOk SEl := eok (gs := [(11, gNew), (8, gSSeal), (17, gSOpen), (12, gDec dTran), (10, Go.Pol.gTrue0)]) ⟨conNew, conSSeal, conSOpen, conDTran, conSBeg, trivial⟩
theorem sx_cut (l : List UInt8) : List.take (min (l.length : Int) 40).toNat l = l.take 40 := by
  have : (min (l.length : Int) 40).toNat = min l.length 40 := by omega
  rw [this]
  rcases Nat.le_total l.length 40 with h | h
  · rw [Nat.min_eq_left h, List.take_length, List.take_of_length_le h]
  · rw [Nat.min_eq_right h]
theorem sx_cutlen (l : List UInt8) : (min (l.length : Int) 40).toNat = (l.take 40).length := by
  rw [List.length_take]; omega
theorem sx_tk (l : List UInt8) : List.take l.length (dropL (dropL l 0) 0) = l := by simp only [dropL_zero, List.take_length]
set_option maxRecDepth 100000 in
set_option maxHeartbeats 4000000 in
theorem law_sex (sd rv os : List UInt8) (ps : List (List UInt8)) : vcFn SEl 400 6 [.agg [.vec (.n 32) (.u8 sd)], .agg [.vec (.n 32) (.u8 rv)], .s (.xs 1 (.s ps.length) (.sl ps)), .s (.xs 1 (.s os.length) (.u8 os))] (.s (.b true)) := by
  refine Eq.mpr (vcSEx sd rv os ps) ?_
  have e12 : ((12 : Nat) : Int) = 12 := rfl
  have e40 : ((40 : Nat) : Int) = 40 := rfl
  have hN : (ps.take (min (ps.length : Int) 12).toNat).length = (min (ps.length : Int) 12).toNat := by rw [List.length_take]; omega
  have hks : ∀ i, i < (ps.take (min (ps.length : Int) 12).toNat).length → (ps.take (min (ps.length : Int) 12).toNat).getD i [] = ps.getD i [] ∧ i < ps.length := fun i hi => by
    have h2 : i < ps.length := by rw [List.length_take] at hi; omega
    rw [List.length_take] at hi
    rw [List.getD_eq_getElem?_getD, List.getElem?_take_of_lt (by omega), ← List.getD_eq_getElem?_getD]
    exact ⟨rfl, h2⟩
  simp only [forall_eq, newS, io, e12, e40]
  refine ⟨by omega, ?_⟩
  generalize ps.take (min (ps.length : Int) 12).toNat = ks at *
  rw [← hN]
  have hK : ks.length ≤ 12 := by omega
  clear hN
  refine ⟨⟨0, Nat.zero_le _, by and_intros <;> first | trivial | rfl⟩, fun x hx => ⟨fun hd => ?_, fun hd => ?_⟩⟩
  · have hlt : x < ks.length := by have := of_decide_eq_true hd; omega
    simp only [Int.toNat_natCast, sx_cut]
    simp only [sx_cutlen, Nat.sub_zero]
    have hA : (⟨UInt32.ofNat 7, UInt32.ofNat 8, sd, rv, UInt64.ofNat x, UInt64.ofNat 1000, false, 0, List.replicate 4 0, ((0 : Nat) : Int), true⟩ : Ses) = exA sd rv x := rfl
    have hM : sSealL (exA sd rv x) (UInt64.ofNat 1000) ((ks.getD x []).take 40) = exM sd rv ks x := rfl
    have hr : ((ks.getD x []).take 40).length ≤ 40 := by rw [List.length_take]; omega
    obtain ⟨d1, d2, d3, d4, d5, d6⟩ := ex_dec (by omega) hr hM
    simp only [hA, ex_E (sd := sd) (rv := rv) (show x < 12 by omega) hr, ex_S (sd := sd) (rv := rv) (show x < 12 by omega) hr, hM, sx_tk, d1, d2, d3, d5]
    have e64 : to64 (x : Int) = UInt64.ofNat x := by
      apply UInt64.toNat_inj.1
      have h1 := to64_toNat (x : Int)
      rw [of_toNat (by omega)]
      omega
    refine ⟨⟨by omega, by omega⟩, hlt, ⟨by omega, by omega⟩, trivial, by omega, by omega, trivial, by omega, fun h => absurd h (by decide), fun _ => ⟨fun h => absurd h (by decide), fun _ => ⟨fun h => absurd h (by rw [e64, bne_self_eq_false]; decide), fun _ => ⟨fun h => absurd h (by decide), fun _ => ⟨trivial, by omega, by unfold InI; omega, x + 1, by omega, by omega, ?_⟩⟩⟩⟩⟩
    and_intros <;> first | trivial | rfl | omega | (exact (exL_succ sd rv ks x).symm) | (exact exL_succ sd rv ks x) | (rw [exL_len]; done) | (simp [exL_len]; done)
  · have hx : x = ks.length := by have := of_decide_eq_false hd; omega
    subst hx
    simp only [Int.toNat_natCast, sx_cut]
    simp only [sx_cutlen, Nat.sub_zero, exL_len]
    have e64 : to64 (ks.length : Int) = UInt64.ofNat ks.length := by
      apply UInt64.toNat_inj.1
      have h1 := to64_toNat (ks.length : Int)
      rw [of_toNat (by omega)]
      omega
    have hz : ∀ n : Nat, decide ((n : Int) = ((0 : Nat) : Int)) = decide (n = 0) := fun n => by rw [decide_eq_decide]; omega
    simp only [e64, hz]
    have hq : (os.take 40).length ≤ 40 := by rw [List.length_take]; omega
    have hqo : 0 ≤ min (os.length : Int) 40 ∧ min (os.length : Int) 40 ≤ os.length := by omega
    generalize os.take 40 = qs at *
    refine ⟨⟨by omega, by omega⟩, ⟨by omega, by omega⟩, trivial, hqo, ⟨0, Nat.zero_le _, by and_intros <;> first | trivial | rfl⟩, fun j hj => ⟨fun hd => ?_, fun hd => ?_⟩⟩
    · have hlt : j < qs.length := by have := of_decide_eq_true hd; omega
      refine ⟨⟨by omega, by omega⟩, hlt, fun h0 => ⟨fun _ => ⟨fun _ => ⟨trivial, trivial⟩, fun h => absurd h (by decide)⟩, fun h => absurd h (by rw [beq_self_eq_true]; decide)⟩, fun h0 => ?_⟩
      have h0 : ¬ ks.length = 0 := of_decide_eq_false h0
      have hi : (qs.getD j 0).toNat % ks.length < ks.length := Nat.mod_lt _ (by omega)
      have ti : ((qs.getD j 0).toNat : Int).tmod (ks.length : Int) = (((qs.getD j 0).toNat % ks.length : Nat) : Int) := rfl
      have hs : exS qs ks.length (j + 1) = if (exS qs ks.length j).d.getD ((qs.getD j 0).toNat % ks.length) false = true then exS qs ks.length j else ⟨acc (exS qs ks.length j).w (UInt64.ofNat ((qs.getD j 0).toNat % ks.length)), (exS qs ks.length j).d.set ((qs.getD j 0).toNat % ks.length) true⟩ := rfl
      have hX := invX_all qs hK (by omega) j
      simp only [ti, Int.toNat_natCast, Nat.zero_add]
      rw [exL_get sd rv ks hi]
      obtain ⟨hk1, hk2⟩ := hks _ hi
      rw [← hk1]
      generalize (qs.getD j 0).toNat % ks.length = i at *
      have hr : ((ks.getD i []).take 40).length ≤ 40 := by rw [List.length_take]; omega
      have hM : sSealL (exA sd rv i) (UInt64.ofNat 1000) ((ks.getD i []).take 40) = exM sd rv ks i := rfl
      obtain ⟨_, _, _, _, _, d6⟩ := ex_dec (by omega) hr hM
      have hck := invX_chk hK hX hi
      have no : chk (exS qs ks.length j).w (UInt64.ofNat i) = false → sOpenE ⟨UInt32.ofNat 8, UInt32.ofNat 7, rv, sd, 0, UInt64.ofNat 1000, (exS qs ks.length j).w.u, (exS qs ks.length j).w.t, (exS qs ks.length j).w.ws, ((0 : Nat) : Int), false⟩ (UInt64.ofNat 1000) (exM sd rv ks i) = 10 := fun h => ex_open_no (show i < 12 by omega) hr hM h
      have yes : chk (exS qs ks.length j).w (UInt64.ofNat i) = true → sOpenE ⟨UInt32.ofNat 8, UInt32.ofNat 7, rv, sd, 0, UInt64.ofNat 1000, (exS qs ks.length j).w.u, (exS qs ks.length j).w.t, (exS qs ks.length j).w.ws, ((0 : Nat) : Int), false⟩ (UInt64.ofNat 1000) (exM sd rv ks i) = 0 ∧ sOpenL ⟨UInt32.ofNat 8, UInt32.ofNat 7, rv, sd, 0, UInt64.ofNat 1000, (exS qs ks.length j).w.u, (exS qs ks.length j).w.t, (exS qs ks.length j).w.ws, ((0 : Nat) : Int), false⟩ (UInt64.ofNat 1000) (exM sd rv ks i) = fillL ((ks.getD i []).take 40) ∧
          sOpenS ⟨UInt32.ofNat 8, UInt32.ofNat 7, rv, sd, 0, UInt64.ofNat 1000, (exS qs ks.length j).w.u, (exS qs ks.length j).w.t, (exS qs ks.length j).w.ws, ((0 : Nat) : Int), false⟩ (UInt64.ofNat 1000) (exM sd rv ks i) = exB sd rv (acc (exS qs ks.length j).w (UInt64.ofNat i)) := fun h => ex_open_yes (show i < 12 by omega) hr hM h
      have hI : InI ((j : Int) + ((1 : Nat) : Int)) := by unfold InI; omega
      have f1 := fill_rng ((ks.getD i []).take 40)
      have f2 := fill_mod ((ks.getD i []).take 40)
      have f3 := fill_take ((ks.getD i []).take 40)
      generalize (ks.getD i []).take 40 = r at *
      generalize exM sd rv ks i = m at *
      generalize exS qs ks.length j = X at *
      refine ⟨by omega, ⟨by omega, by omega⟩, hi, trivial, by omega, ⟨by omega, by omega⟩, hi, fun hdn => ?_, fun hdn => ?_⟩
      · rw [hdn] at hck
        rw [no hck]
        rw [if_pos hdn] at hs
        refine ⟨fun h => absurd h (by decide), fun _ => ⟨hI, j + 1, hlt, by omega, ?_⟩⟩
        rw [hs]
        and_intros <;> first | trivial | rfl | omega
      · rw [hdn] at hck
        obtain ⟨y1, y2, y3⟩ := yes hck
        rw [if_neg (by rw [hdn]; decide)] at hs
        simp only [y1, y2, y3]
        have g16 : ((fillL r).length : Int).tmod ((16 : Nat) : Int) = (((fillL r).length % 16 : Nat) : Int) := rfl
        have tk : List.take r.length (dropL (dropL (fillL r) 0) 0) = r := by simp only [dropL_zero]; exact f3
        refine ⟨⟨by omega, by omega⟩, hk2, ⟨by omega, by omega⟩, fun h => absurd h (by decide), fun _ => ⟨by decide, fun h => absurd h (by rw [g16, f2]; decide), fun _ => ⟨fun h => absurd (of_decide_eq_true h) (by omega), fun _ => ⟨⟨by omega, by omega⟩, f1.1, fun h => absurd (of_decide_eq_true h) (fun q => q tk), fun _ => ⟨by unfold InI; omega, fun h => absurd (of_decide_eq_true h) (by omega), fun _ => ⟨⟨by omega, by omega⟩, hi, hI, j + 1, hlt, by omega, ?_⟩⟩⟩⟩⟩⟩
        rw [hs]
        and_intros <;> first | trivial | rfl | omega
    · exact ⟨fun _ => ⟨fun _ => ⟨trivial, trivial⟩, fun h => absurd h (by decide)⟩, fun h => absurd h (by rw [beq_self_eq_true]; decide)⟩
end Go.Proofs.Ytimjfjlaoekfkaa
