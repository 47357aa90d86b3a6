/- Steps towards SessionExchangesSaid. -/
import Derived.Test.YtimjfjlaoekfkaaJPrfCon2
import Derived.Test.YtimjfjlaoekfkaaSesVc
import Derived.Test.YtimjfjlaoekfkaaJPolCon
import Derived.Test.YtimjfjlaoekfkaaJMsgVc
import Derived.Test.YtimjfjlaoekfkaaJMdcVc
import Derived.Test.YtimjfjlaoekfkaaJSexLem
/- A step towards SessionExchangesSaid: no conditions. -/
namespace Go.Proofs.Ytimjfjlaoekfkaa
open Go Go.Eng Go.Win
theorem k64 : UInt64.ofNat 64 = 64 := rfl
theorem k4 : UInt64.ofNat 4 = 4 := rfl
theorem k3 : UInt64.ofNat 3 = 3 := rfl
theorem k1 : UInt64.ofNat 1 = 1 := rfl
theorem k0 : UInt64.ofNat 0 = 0 := rfl
theorem n64 : ((64 : UInt64) = 0) = False := by simp
theorem n4 : ((4 : UInt64) = 0) = False := by simp
theorem lt4 (c : UInt64) : ((c % 4).toNat < 4) = True := by simp; omega
set_option maxRecDepth 100000 in
theorem conWCheck : Con Try.prog 38 gCheck := con_of_vc (E := WI0) (n := 100) (eok (gs := []) trivial) fun args ps res h hp => by
  unfold gCheck at h
  split at h <;> cases h
  rename_i u t ws c
  rw [vcWCheck u t c ws]
  simp only [k64, k4, k3, k1, k0, n64, n4, lt4, ne_eq, not_false_eq_true, true_and, and_true]
  refine ⟨fun h1 => ?_, fun h1 => ⟨fun h2 => ?_, fun h2 => ⟨fun h3 => ?_, fun h3 => ?_⟩⟩⟩ <;> simp only [chk, *, Bool.true_or, Bool.false_or, Bool.true_and, Bool.false_and]
set_option maxRecDepth 100000 in
theorem conWCheckR : Con Try.prog 37 gCheck := con_of_vc (E := WI0) (n := 100) (eok (gs := []) trivial) fun args ps res h hp => by
  unfold gCheck at h
  split at h <;> cases h
  rename_i u t ws c
  rw [vcWCheckR u t c ws]
  have e : ∀ x : UInt64, decide (x ≤ 3) = decide (x < 4) := fun x => by
    rw [decide_eq_decide, UInt64.le_iff_toNat_le, UInt64.lt_iff_toNat_lt]; exact Nat.lt_succ_iff.symm
  simp only [k64, k4, k3, k1, k0, n64, n4, lt4, ne_eq, not_false_eq_true, true_and, and_true, e]
  refine ⟨fun h1 => ?_, fun h1 => ⟨fun h2 => ?_, fun h2 => ⟨fun h3 => ?_, fun h3 => ?_⟩⟩⟩ <;> simp only [chk, *, Bool.true_or, Bool.false_or, Bool.true_and, Bool.false_and]
theorem m4_le (x : UInt64) : (m4 x).toNat ≤ 4 := by
  unfold m4; split
  · decide
  · rename_i h; rw [UInt64.lt_iff_toNat_lt] at h; exact Nat.not_lt.1 h
theorem m4_min (x : UInt64) : (if 4 < x then 4 else x) = m4 x := rfl
theorem wofNat_lt {x : Nat} (h : x ≤ 4) (m : UInt64) : (UInt64.ofNat x < m) ↔ x < m.toNat := by
  rw [UInt64.lt_iff_toNat_lt, UInt64.toNat_ofNat_of_lt' (by have : UInt64.size = 18446744073709551616 := rfl; omega)]
theorem ofNat_succ (x : Nat) : UInt64.ofNat x + 1 = UInt64.ofNat (x + 1) := by
  rw [← k1, ← UInt64.ofNat_add]
theorem acc_no {w : Win} {c : UInt64} (h : chk w c = false) : acc w c = w := by simp [acc, h]
theorem acc_yes {w : Win} {c : UInt64} (h : chk w c = true) : acc w c = ⟨(acc1 w c).u, (acc1 w c).t, orAt (acc1 w c).ws c⟩ := by simp [acc, h]
set_option maxRecDepth 100000 in
theorem conWAcc : Con Try.prog 39 gAcc := con_of_vcs fun args ps res h hp => by
  unfold gAcc at h
  split at h <;> cases h
  rename_i u t ws c
  refine ⟨WIp, 100, rfl, ?_, ?_⟩
  · exact eok (gs := [(38, gCheck)]) ⟨conWCheck, trivial⟩
  rw [vcWAcc u t c ws]
  simp only [k64, k4, k3, k1, k0, n64, n4, lt4, ne_eq, not_false_eq_true, true_and, and_true, m4_min]
  have hm := m4_le (c / 64 - t / 64)
  refine ⟨fun h1 => ?_, fun h1 => ⟨fun h2 => ?_, fun h2 => ⟨fun h3 => ⟨⟨0, ?_⟩, fun x hx => ⟨fun h4 => ⟨x + 1, ?_⟩, fun h4 => ?_⟩⟩, fun h3 => ?_⟩⟩⟩
  · have h1 : chk ⟨u, t, ws⟩ c = false := by simpa using h1
    rw [acc_no h1]; exact ⟨rfl, rfl, rfl, h1.symm⟩
  · have h1 : chk ⟨u, t, ws⟩ c = true := by simpa using h1
    have h2 : u = false := by simpa using h2
    subst h2
    rw [acc_yes h1]; exact ⟨rfl, rfl, rfl, h1.symm⟩
  · have h2 : u = true := by simpa using h2
    exact ⟨Nat.zero_le _, rfl, h2, rfl⟩
  · have h4 := (wofNat_lt (by omega) _).1 (of_decide_eq_true h4)
    refine ⟨by omega, by omega, ofNat_succ x, rfl⟩
  · have h1 : chk ⟨u, t, ws⟩ c = true := by simpa using h1
    have h2 : u = true := by simpa using h2
    have h3 : t < c := of_decide_eq_true h3
    have h4 := mt (wofNat_lt (by omega) _).2 (of_decide_eq_false h4)
    have e : x = (m4 (c / 64 - t / 64)).toNat := by omega
    subst h2
    rw [acc_yes h1]
    simp only [acc1, h3, if_true, e]
    exact ⟨trivial, trivial, rfl, h1.symm⟩
  · have h1 : chk ⟨u, t, ws⟩ c = true := by simpa using h1
    have h2 : u = true := by simpa using h2
    have h3 : ¬ t < c := of_decide_eq_false h3
    subst h2
    rw [acc_yes h1]
    simp only [acc1, h3, if_true, if_false]
    exact ⟨trivial, trivial, rfl, h1.symm⟩
theorem ofNat_le {x : Nat} (h : x ≤ 4) (m : UInt64) : (1 + UInt64.ofNat x ≤ m) ↔ x < m.toNat := by
  rw [UInt64.add_comm, ofNat_succ, UInt64.le_iff_toNat_le, UInt64.toNat_ofNat_of_lt' (by have : UInt64.size = 18446744073709551616 := rfl; omega)]; exact Iff.rfl
set_option maxRecDepth 100000 in
theorem conWAccR : Con Try.prog 15 gAcc := con_of_vcs fun args ps res h hp => by
  unfold gAcc at h
  split at h <;> cases h
  rename_i u t ws c
  refine ⟨WIr, 100, rfl, ?_, ?_⟩
  · exact eok (gs := [(37, gCheck)]) ⟨conWCheckR, trivial⟩
  rw [vcWAccR u t c ws]
  simp only [k64, k4, k3, k1, k0, n64, n4, lt4, ne_eq, not_false_eq_true, true_and, and_true, m4_min]
  have hm := m4_le (c / 64 - t / 64)
  have hcc : decide (c < c) = false := by simp
  rw [hcc]
  refine ⟨fun h1 => ?_, fun h1 => ⟨fun h2 => ⟨fun h => Bool.noConfusion h, fun _ => ?_⟩, fun h2 => ⟨fun h3 => ⟨⟨0, ?_⟩, fun x hx => ⟨fun h4 => ⟨x + 1, ?_⟩, fun h4 => ?_⟩⟩, fun h3 => ?_⟩⟩⟩
  · have h1 : chk ⟨u, t, ws⟩ c = false := by simpa using h1
    rw [acc_no h1]; exact ⟨rfl, rfl, rfl, h1.symm⟩
  · have h1 : chk ⟨u, t, ws⟩ c = true := by simpa using h1
    have h2 : u = false := by simpa using h2
    subst h2
    rw [acc_yes h1]; exact ⟨rfl, rfl, rfl, h1.symm⟩
  · have h2 : u = true := by simpa using h2
    exact ⟨Nat.zero_le _, rfl, h2, rfl⟩
  · have h4 := (ofNat_le (by omega) _).1 (of_decide_eq_true h4)
    refine ⟨by omega, by omega, ?_, ?_⟩
    · rw [UInt64.add_assoc, ofNat_succ]
    · rw [← UInt64.add_assoc]; rfl
  · have h1 : chk ⟨u, t, ws⟩ c = true := by simpa using h1
    have h2 : u = true := by simpa using h2
    have h3 : t < c := of_decide_eq_true h3
    have h4 := mt (ofNat_le (by omega) _).2 (of_decide_eq_false h4)
    have e : x = (m4 (c / 64 - t / 64)).toNat := by omega
    subst h2
    rw [acc_yes h1]
    simp only [acc1, h3, if_true, e]
    exact ⟨trivial, trivial, rfl, h1.symm⟩
  · have h1 : chk ⟨u, t, ws⟩ c = true := by simpa using h1
    have h2 : u = true := by simpa using h2
    have h3 : ¬ t < c := of_decide_eq_false h3
    subst h2
    rw [acc_yes h1]
    simp only [acc1, h3, if_true, if_false]
    exact ⟨trivial, trivial, rfl, h1.symm⟩
end Go.Proofs.Ytimjfjlaoekfkaa

/- A step towards SessionExchangesSaid: no conditions. -/
namespace Go.Proofs.Ytimjfjlaoekfkaa
open Go Go.Eng Go.Cod Go.Cha Go.Pol Go.Aed Go.Msg Go.Win Go.Ses
set_option maxRecDepth 100000 in
theorem conPad : Con Try.prog 23 gPad := con_of_vcs fun args ps res h hp => by
  unfold gPad at h
  split at h <;> cases h
  rename_i m b
  obtain ⟨rfl, hp1⟩ := all_cons.1 hp
  have hb := (all_cons.1 hp1).1
  refine ⟨SEp, 100, rfl, eok (gs := [(35, gJoin)]) ⟨conJoin, trivial⟩, ?_⟩
  rw [vcPad b]
  have hz := zp_le b.length
  have hi : InI (Int.ofNat 16 - (b.length : Int).tmod (Int.ofNat 16)) := by
    have e : Int.ofNat 16 - (b.length : Int).tmod (Int.ofNat 16) = ((16 - b.length % 16 : Nat) : Int) := by
      show (16 : Int) - ((b.length % 16 : Nat) : Int) = _
      omega
    rw [e]; unfold InI; omega
  have n16 : Int.ofNat 16 ≠ 0 := by decide
  have tz : List.take (zp b.length) (List.replicate (zp b.length) (0 : UInt8)) = zerosL b.length := List.take_of_length_le (by rw [List.length_replicate]; exact Nat.le_refl _)
  have e : b ++ zerosL b.length = fillL b := rfl
  have hl := fillL_len b
  simp only [forall_eq, zp_int, Int.toNat_natCast, dropL_zero, tz, flat2, e, hi, Nat.zero_add, List.take_length, Nat.le_refl, true_and, and_true, n16, ne_eq, not_false_eq_true]
  and_intros <;> first | omega | exact trivial | rfl | decide
set_option maxRecDepth 100000 in
theorem conPadR : Con Try.prog 26 gPad := con_of_vcs fun args ps res h hp => by
  unfold gPad at h
  split at h <;> cases h
  rename_i m b
  obtain ⟨rfl, hp1⟩ := all_cons.1 hp
  have hb := (all_cons.1 hp1).1
  refine ⟨SEq, 100, rfl, eok (gs := []) trivial, ?_⟩
  rw [vcPadR b]
  have hz := zp_le b.length
  refine ⟨by omega, fun y hy => ⟨⟨0, by omega, rfl, rfl, by omega, by omega, by rw [hy]; simp, trivial⟩, fun x hx z hz2 => ⟨by decide, fun hd => ?_, fun hd => ?_⟩⟩⟩
  · have hd := of_decide_eq_true hd
    have e : z.tmod (Int.ofNat 16) = (((b.length + x) % 16 : Nat) : Int) := by rw [hz2]; rfl
    rw [e] at hd
    have hne : x ≠ zp b.length := fun h => hd (by rw [(zp_mod b.length x hx).2 h]; rfl)
    refine ⟨rfl, by omega, fun y hy => ⟨x + 1, by omega, by omega, rfl, rfl, by omega, by omega, ?_, trivial⟩⟩
    rw [hy, List.replicate_succ', List.append_assoc]
    rfl
  · have hd := of_decide_eq_false hd
    have e : z.tmod (Int.ofNat 16) = (((b.length + x) % 16 : Nat) : Int) := by rw [hz2]; rfl
    rw [e] at hd
    have hx2 : x = zp b.length := (zp_mod b.length x hx).1 (Int.ofNat.inj (Decidable.not_not.1 hd))
    subst hx2
    refine ⟨by omega, by rw [fillL_len], ?_, trivial⟩
    rw [dropL_zero, dropL_zero]
    exact List.take_of_length_le (by rw [List.length_append, List.length_replicate]; exact Nat.le_refl _)
theorem ese : EnvOk SEs := eok (gs := [(22, gSeal), (13, gOpen), (14, gCounter), (23, gPad), (21, gTran), (12, gDec dTran), (38, gCheck), (39, gAcc)]) ⟨conSeal, conOpen, conCounter, conPad, conTran, conDTran, conWCheck, conWAcc, trivial⟩
theorem esr : EnvOk SEr := eok (gs := [(24, gSeal), (41, gOpen), (25, gCounter), (26, gPad), (27, gTran), (40, gDec dTran), (15, gAcc)]) ⟨conSealR, conOpenR, conCounterR, conPadR, conTranR, conDTranR, conWAccR, trivial⟩
set_option maxRecDepth 100000 in
theorem conNew : Con Try.prog 11 gNew := con_of_vcs fun args ps res h hp => by
  unfold gNew at h
  split at h <;> cases h
  rename_i lo re sd rv bo ini fe
  refine ⟨SEs, 100, rfl, ese, ?_⟩
  rw [vcNew]
  simp only [forall_eq]
  exact ⟨rfl, rfl, rfl, rfl, rfl, rfl, rfl, rfl, rfl, rfl, rfl, trivial⟩
theorem sBad {s : Ses} {limit : UInt64} {p : List UInt8} {e : Int} (he : sSealE s limit p = e) (h : e ≠ 0) : sSealS s limit p = zS ∧ sSealL s limit p = [] := ⟨if_neg (by rw [he]; exact h), if_neg (by rw [he]; exact h)⟩
theorem sOk {s : Ses} {limit : UInt64} {p : List UInt8} (he : sSealE s limit p = 0) : sSealS s limit p = ⟨s.lo, s.re, s.sd, s.rv, s.nx + 1, s.fe, s.wu, s.wt, s.ww, s.bo, s.ini⟩ ∧ sSealL s limit p = tranL s.re s.nx (sBody s p) := ⟨if_pos he, if_pos he⟩
theorem u64_nle {a b : UInt64} (h : decide (a ≤ b) = false) : b < a := UInt64.not_le.1 (of_decide_eq_false h)
theorem u64_le {a b : UInt64} (h : decide (a ≤ b) = true) : ¬ b < a := UInt64.not_lt.2 (of_decide_eq_true h)
theorem min3 {a b : UInt64} {x : UInt64} : x < (if UInt64.ofNat 18446744073709543423 < (if b < a then b else a) then UInt64.ofNat 18446744073709543423 else (if b < a then b else a)) ↔ x < a ∧ x < b ∧ x < maxC := by
  have e : UInt64.ofNat 18446744073709543423 = maxC := rfl
  rw [e]
  by_cases h1 : b < a
  · rw [if_pos h1]
    by_cases h2 : maxC < b
    · rw [if_pos h2]
      rw [UInt64.lt_iff_toNat_lt] at *
      rw [UInt64.lt_iff_toNat_lt, UInt64.lt_iff_toNat_lt]
      omega
    · rw [if_neg h2]
      rw [UInt64.lt_iff_toNat_lt] at *
      rw [UInt64.lt_iff_toNat_lt, UInt64.lt_iff_toNat_lt]
      omega
  · rw [if_neg h1]
    by_cases h2 : maxC < a
    · rw [if_pos h2]
      rw [UInt64.lt_iff_toNat_lt] at *
      rw [UInt64.lt_iff_toNat_lt, UInt64.lt_iff_toNat_lt]
      omega
    · rw [if_neg h2]
      rw [UInt64.lt_iff_toNat_lt] at *
      rw [UInt64.lt_iff_toNat_lt, UInt64.lt_iff_toNat_lt]
      omega
theorem body_len (s : Ses) (p : List UInt8) (h : p.length ≤ 2000) : ¬ (sBody s p).length < 16 ∧ ¬ 2084 < (sBody s p).length := by
  unfold sBody
  rw [sealL_len, fillL_len]
  have := zp_le p.length
  omega
set_option maxRecDepth 100000 in
theorem conSSeal : Con Try.prog 8 gSSeal := con_of_vcs fun args ps res h hp => by
  unfold gSSeal at h
  split at h <;> cases h
  rename_i lo re sd rv nx fe wu wt ww bo ini limit m p
  obtain ⟨rfl, hp1⟩ := all_cons.1 hp
  refine ⟨SEs, 200, rfl, ese, ?_⟩
  rw [vcSSeal]
  have eB : sealL sd (countL nx) (fillL p) [] = sBody ⟨lo, re, sd, rv, nx, fe, wu, wt, ww, bo, ini⟩ p := rfl
  simp only [forall_eq, dropL_zero, List.take_length, Nat.zero_add, List.replicate_zero, eB]
  refine ⟨fun h => ?_, fun h => ⟨fun h1 => ?_, fun h1 => ⟨fun h2 => ?_, fun h2 => ⟨fun h3 => ?_, fun h3 => ?_⟩⟩⟩⟩
  · have hd : (2000 : Int) < (p.length : Int) := of_decide_eq_true h
    have he : sSealE ⟨lo, re, sd, rv, nx, fe, wu, wt, ww, bo, ini⟩ limit p = 3 := if_pos (by omega)
    obtain ⟨a, b⟩ := sBad he (by decide)
    rw [a, b, he]
    exact ⟨rfl, rfl, rfl, rfl, rfl, rfl, rfl, rfl, rfl, rfl, rfl, rfl, rfl, rfl, trivial⟩
  all_goals have hd : ¬ (2000 : Int) < (p.length : Int) := of_decide_eq_false h
  all_goals have hpl : ¬ 2000 < p.length := by omega
  · have he : sSealE ⟨lo, re, sd, rv, nx, fe, wu, wt, ww, bo, ini⟩ limit p = 12 := by unfold sSealE; rw [if_neg hpl, if_neg fun h => u64_le h1 h.1]
    obtain ⟨a, b⟩ := sBad he (by decide)
    rw [a, b, he]
    exact ⟨rfl, rfl, rfl, rfl, rfl, rfl, rfl, rfl, rfl, rfl, rfl, rfl, rfl, rfl, trivial⟩
  · have he : sSealE ⟨lo, re, sd, rv, nx, fe, wu, wt, ww, bo, ini⟩ limit p = 12 := by unfold sSealE; rw [if_neg hpl, if_neg fun h => u64_le h2 h.2.1]
    obtain ⟨a, b⟩ := sBad he (by decide)
    rw [a, b, he]
    exact ⟨rfl, rfl, rfl, rfl, rfl, rfl, rfl, rfl, rfl, rfl, rfl, rfl, rfl, rfl, trivial⟩
  · have he : sSealE ⟨lo, re, sd, rv, nx, fe, wu, wt, ww, bo, ini⟩ limit p = 12 := by unfold sSealE; rw [if_neg hpl, if_neg fun h => u64_le h3 h.2.2]
    obtain ⟨a, b⟩ := sBad he (by decide)
    rw [a, b, he]
    exact ⟨rfl, rfl, rfl, rfl, rfl, rfl, rfl, rfl, rfl, rfl, rfl, rfl, rfl, rfl, trivial⟩
  · have he : sSealE ⟨lo, re, sd, rv, nx, fe, wu, wt, ww, bo, ini⟩ limit p = 0 := by unfold sSealE; rw [if_neg hpl, if_pos ⟨u64_nle h1, u64_nle h2, u64_nle h3⟩]
    obtain ⟨a, b⟩ := sOk he
    obtain ⟨b1, b2⟩ := body_len ⟨lo, re, sd, rv, nx, fe, wu, wt, ww, bo, ini⟩ p (by omega)
    have hfl := fillL_len p
    have hzz := zp_le p.length
    rw [a, b, he, (tranR_ok (r := re) (c := nx) b1 b2).1, (tranR_ok (r := re) (c := nx) b1 b2).2]
    and_intros <;> first | omega | exact trivial | rfl | decide | (intro h; exact absurd h (by decide)) | (intro _; and_intros <;> first | omega | exact trivial | rfl | decide)
set_option maxRecDepth 100000 in
theorem conSSealR : Con Try.prog 9 gSSeal := con_of_vcs fun args ps res h hp => by
  unfold gSSeal at h
  split at h <;> cases h
  rename_i lo re sd rv nx fe wu wt ww bo ini limit m p
  obtain ⟨rfl, hp1⟩ := all_cons.1 hp
  refine ⟨SEr, 200, rfl, esr, ?_⟩
  rw [vcSSealR]
  have eB : sealL sd (countL nx) (fillL p) [] = sBody ⟨lo, re, sd, rv, nx, fe, wu, wt, ww, bo, ini⟩ p := rfl
  simp only [forall_eq, dropL_zero, List.take_length, Nat.zero_add, List.replicate_zero, eB]
  refine ⟨fun h => ?_, fun h => ⟨fun h1 => ?_, fun h1 => ?_⟩⟩
  · have hd : (2000 : Int) < (p.length : Int) := of_decide_eq_true h
    have he : sSealE ⟨lo, re, sd, rv, nx, fe, wu, wt, ww, bo, ini⟩ limit p = 3 := if_pos (by omega)
    obtain ⟨a, b⟩ := sBad he (by decide)
    rw [a, b, he]
    exact ⟨rfl, rfl, rfl, rfl, rfl, rfl, rfl, rfl, rfl, rfl, rfl, rfl, rfl, rfl, trivial⟩
  all_goals have hd : ¬ (2000 : Int) < (p.length : Int) := of_decide_eq_false h
  all_goals have hpl : ¬ 2000 < p.length := by omega
  · have he : sSealE ⟨lo, re, sd, rv, nx, fe, wu, wt, ww, bo, ini⟩ limit p = 12 := by unfold sSealE; rw [if_neg hpl, if_neg fun h => u64_le h1 (min3.2 h)]
    obtain ⟨a, b⟩ := sBad he (by decide)
    rw [a, b, he]
    exact ⟨rfl, rfl, rfl, rfl, rfl, rfl, rfl, rfl, rfl, rfl, rfl, rfl, rfl, rfl, trivial⟩
  · have he : sSealE ⟨lo, re, sd, rv, nx, fe, wu, wt, ww, bo, ini⟩ limit p = 0 := by unfold sSealE; rw [if_neg hpl, if_pos (min3.1 (u64_nle h1))]
    obtain ⟨a, b⟩ := sOk he
    obtain ⟨b1, b2⟩ := body_len ⟨lo, re, sd, rv, nx, fe, wu, wt, ww, bo, ini⟩ p (by omega)
    have hfl := fillL_len p
    have hzz := zp_le p.length
    rw [a, b, he, (tranR_ok (r := re) (c := nx) b1 b2).1]
    and_intros <;> first | omega | exact trivial | rfl | decide | (intro h; exact absurd h (by decide)) | (intro _; and_intros <;> first | omega | exact trivial | rfl | decide)
end Go.Proofs.Ytimjfjlaoekfkaa

/- A step towards SessionExchangesSaid: no conditions. -/
namespace Go.Proofs.Ytimjfjlaoekfkaa
open Go Go.Eng Go.Cod Go.Cha Go.Pol Go.Aed Go.Msg Go.Win Go.Ses
theorem oBad {s : Ses} {limit : UInt64} {b : List UInt8} {e : Int} (he : sOpenE s limit b = e) (h : e ≠ 0) : sOpenS s limit b = zS ∧ sOpenL s limit b = [] := ⟨if_neg (by rw [he]; exact h), if_neg (by rw [he]; exact h)⟩
theorem oOk {s : Ses} {limit : UInt64} {b : List UInt8} (he : sOpenE s limit b = 0) : sOpenS s limit b = ⟨s.lo, s.re, s.sd, s.rv, s.nx, s.fe, (acc ⟨s.wu, s.wt, s.ww⟩ (fld64 4 b 8)).u, (acc ⟨s.wu, s.wt, s.ww⟩ (fld64 4 b 8)).t, (acc ⟨s.wu, s.wt, s.ww⟩ (fld64 4 b 8)).ws, s.bo, s.ini⟩ ∧ sOpenL s limit b = openL s.rv (countL (fld64 4 b 8)) (fldR 4 b 16) [] := ⟨if_pos he, if_pos he⟩
theorem min2 {a : UInt64} {x : UInt64} : x < (if UInt64.ofNat 18446744073709543423 < a then UInt64.ofNat 18446744073709543423 else a) ↔ x < a ∧ x < maxC := by
  have e : UInt64.ofNat 18446744073709543423 = maxC := rfl
  rw [e]
  by_cases h1 : maxC < a
  · rw [if_pos h1]
    rw [UInt64.lt_iff_toNat_lt] at *
    rw [UInt64.lt_iff_toNat_lt]
    omega
  · rw [if_neg h1]
    rw [UInt64.lt_iff_toNat_lt] at *
    rw [UInt64.lt_iff_toNat_lt]
    omega
theorem fldR_le (b : List UInt8) : (fldR 4 b 16).length ≤ b.length := by
  unfold fldR
  split
  · rw [List.length_drop]; omega
  · exact Nat.zero_le _
theorem decE_ne {b : List UInt8} (h : decide (decE 4 b ≠ Int.ofNat 0) = true) : kindL b ≠ 4 ∧ decE 4 b = 4 := by
  have h := of_decide_eq_true h
  unfold decE at *
  by_cases hk : kindL b = 4
  · rw [if_pos hk] at h; exact absurd rfl h
  · exact ⟨hk, if_neg hk⟩
theorem decE_eq {b : List UInt8} (h : decide (decE 4 b ≠ Int.ofNat 0) = false) : kindL b = 4 := by
  have h := Decidable.not_not.1 (of_decide_eq_false h)
  unfold decE at h
  by_cases hk : kindL b = 4
  · exact hk
  · rw [if_neg hk] at h; exact absurd h (by decide)
theorem nn {p : Prop} [Decidable p] (h : decide (¬ p) = false) : p := Decidable.not_not.1 (of_decide_eq_false h)
set_option maxRecDepth 100000 in
theorem conSealed : Con Try.prog 16 gSealed := con_of_vcs fun args ps res h hp => by
  unfold gSealed at h
  split at h <;> cases h
  rename_i lo re sd rv nx fe wu wt ww bo ini c m p
  obtain ⟨rfl, hp1⟩ := all_cons.1 hp
  have hx := (all_cons.1 hp1).1
  refine ⟨SEr, 200, rfl, esr, ?_⟩
  rw [vcSealed]
  have hfl := fillL_len p
  have hzz := zp_le p.length
  have hs := sealL_len rv (countL c) (fillL p) []
  have e : tranR lo c (sealL rv (countL c) (fillL p) []) = sealedL ⟨lo, re, sd, rv, nx, fe, wu, wt, ww, bo, ini⟩ c p := (tranR_ok (by omega) (by omega)).1
  simp only [forall_eq, dropL_zero, List.take_length, Nat.zero_add, List.replicate_zero, e]
  and_intros <;> first | omega | exact trivial | rfl | decide
set_option maxRecDepth 100000 in
theorem conSOpenR : Con Try.prog 18 gSOpen := con_of_vcs fun args ps res h hp => by
  unfold gSOpen at h
  split at h <;> cases h
  rename_i lo re sd rv nx fe wu wt ww bo ini limit m b
  obtain ⟨rfl, hp1⟩ := all_cons.1 hp
  have hx := (all_cons.1 hp1).1
  refine ⟨SEr, 200, rfl, esr, ?_⟩
  rw [vcSOpenR]
  have hfr := fldR_le b
  simp only [forall_eq, dropL_zero, List.take_length, Nat.zero_add, List.replicate_zero]
  refine ⟨trivial, by omega, fun h0 => ?_, fun h0 => ⟨fun h1 => ?_, fun h1 => ⟨fun h2 => ?_, fun h2 => ⟨fun h3 => ?_, fun h3 => ⟨trivial, trivial, by omega, by decide, fun h4 => ?_, fun h4 => ?_⟩⟩⟩⟩⟩
  · obtain ⟨hk, h4⟩ := decE_ne h0
    have he : sOpenE ⟨lo, re, sd, rv, nx, fe, wu, wt, ww, bo, ini⟩ limit b = 4 := by unfold sOpenE; rw [if_pos hk]
    obtain ⟨a, q⟩ := oBad he (by decide)
    rw [a, q, he, h4]
    exact ⟨rfl, rfl, rfl, rfl, rfl, rfl, rfl, rfl, rfl, rfl, rfl, rfl, rfl, rfl, trivial⟩
  all_goals have hk : kindL b = 4 := decE_eq h0
  · have he : sOpenE ⟨lo, re, sd, rv, nx, fe, wu, wt, ww, bo, ini⟩ limit b = 9 := by unfold sOpenE; rw [if_neg (not_not_intro hk), if_pos (by simpa using h1)]
    obtain ⟨a, q⟩ := oBad he (by decide)
    rw [a, q, he]
    exact ⟨rfl, rfl, rfl, rfl, rfl, rfl, rfl, rfl, rfl, rfl, rfl, rfl, rfl, rfl, trivial⟩
  · have he : sOpenE ⟨lo, re, sd, rv, nx, fe, wu, wt, ww, bo, ini⟩ limit b = 12 := by unfold sOpenE; rw [if_neg (not_not_intro hk), if_neg (fun hh => hh (by simpa using h1)), if_pos (fun hh => u64_le h2 (min2.2 hh))]
    obtain ⟨a, q⟩ := oBad he (by decide)
    rw [a, q, he]
    exact ⟨rfl, rfl, rfl, rfl, rfl, rfl, rfl, rfl, rfl, rfl, rfl, rfl, rfl, rfl, trivial⟩
  · have he : sOpenE ⟨lo, re, sd, rv, nx, fe, wu, wt, ww, bo, ini⟩ limit b = 10 := by unfold sOpenE; rw [if_neg (not_not_intro hk), if_neg (fun hh => hh (by simpa using h1)), if_neg (not_not_intro (min2.1 (u64_nle h2))), if_pos (by simpa using h3)]
    obtain ⟨a, q⟩ := oBad he (by decide)
    rw [a, q, he]
    exact ⟨rfl, rfl, rfl, rfl, rfl, rfl, rfl, rfl, rfl, rfl, rfl, rfl, rfl, rfl, trivial⟩
  · have he : sOpenE ⟨lo, re, sd, rv, nx, fe, wu, wt, ww, bo, ini⟩ limit b = 6 := by unfold sOpenE; rw [if_neg (not_not_intro hk), if_neg (fun hh => hh (by simpa using h1)), if_neg (not_not_intro (min2.1 (u64_nle h2))), if_neg (by simpa using h3)]; exact if_pos (of_decide_eq_true h4)
    obtain ⟨a, q⟩ := oBad he (by decide)
    rw [a, q, he]
    exact ⟨rfl, rfl, rfl, rfl, rfl, rfl, rfl, rfl, rfl, rfl, rfl, rfl, rfl, rfl, trivial⟩
  · have he : sOpenE ⟨lo, re, sd, rv, nx, fe, wu, wt, ww, bo, ini⟩ limit b = 0 := by unfold sOpenE; rw [if_neg (not_not_intro hk), if_neg (fun hh => hh (by simpa using h1)), if_neg (not_not_intro (min2.1 (u64_nle h2))), if_neg (by simpa using h3)]; exact if_neg (of_decide_eq_false h4)
    obtain ⟨a, q⟩ := oOk he
    rw [a, q, he]
    and_intros <;> first | omega | exact trivial | rfl | decide
set_option maxRecDepth 100000 in
theorem conSOpen : Con Try.prog 17 gSOpen := con_of_vcs fun args ps res h hp => by
  unfold gSOpen at h
  split at h <;> cases h
  rename_i lo re sd rv nx fe wu wt ww bo ini limit m b
  obtain ⟨rfl, hp1⟩ := all_cons.1 hp
  have hx := (all_cons.1 hp1).1
  refine ⟨SEs, 200, rfl, ese, ?_⟩
  rw [vcSOpen]
  have hfr := fldR_le b
  simp only [forall_eq, dropL_zero, List.take_length, Nat.zero_add, List.replicate_zero]
  refine ⟨trivial, by omega, fun h0 => ?_, fun h0 => ⟨fun h1 => ?_, fun h1 => ⟨fun h2 => ?_, fun h2 => ⟨fun h5 => ?_, fun h5 => ⟨fun h3 => ?_, fun h3 => ⟨trivial, trivial, by omega, by decide, fun h4 => ?_, fun h4 => ?_⟩⟩⟩⟩⟩⟩
  · obtain ⟨hk, h4⟩ := decE_ne h0
    have he : sOpenE ⟨lo, re, sd, rv, nx, fe, wu, wt, ww, bo, ini⟩ limit b = 4 := by unfold sOpenE; rw [if_pos hk]
    obtain ⟨a, q⟩ := oBad he (by decide)
    rw [a, q, he, h4]
    exact ⟨rfl, rfl, rfl, rfl, rfl, rfl, rfl, rfl, rfl, rfl, rfl, rfl, rfl, rfl, trivial⟩
  all_goals have hk : kindL b = 4 := decE_eq h0
  · have he : sOpenE ⟨lo, re, sd, rv, nx, fe, wu, wt, ww, bo, ini⟩ limit b = 9 := by unfold sOpenE; rw [if_neg (not_not_intro hk), if_pos (by simpa using h1)]
    obtain ⟨a, q⟩ := oBad he (by decide)
    rw [a, q, he]
    exact ⟨rfl, rfl, rfl, rfl, rfl, rfl, rfl, rfl, rfl, rfl, rfl, rfl, rfl, rfl, trivial⟩
  · have he : sOpenE ⟨lo, re, sd, rv, nx, fe, wu, wt, ww, bo, ini⟩ limit b = 12 := by unfold sOpenE; rw [if_neg (not_not_intro hk), if_neg (fun hh => hh (by simpa using h1)), if_pos (fun hh => u64_le h2 hh.1)]
    obtain ⟨a, q⟩ := oBad he (by decide)
    rw [a, q, he]
    exact ⟨rfl, rfl, rfl, rfl, rfl, rfl, rfl, rfl, rfl, rfl, rfl, rfl, rfl, rfl, trivial⟩
  · have he : sOpenE ⟨lo, re, sd, rv, nx, fe, wu, wt, ww, bo, ini⟩ limit b = 12 := by unfold sOpenE; rw [if_neg (not_not_intro hk), if_neg (fun hh => hh (by simpa using h1)), if_pos (fun hh => u64_le h5 hh.2)]
    obtain ⟨a, q⟩ := oBad he (by decide)
    rw [a, q, he]
    exact ⟨rfl, rfl, rfl, rfl, rfl, rfl, rfl, rfl, rfl, rfl, rfl, rfl, rfl, rfl, trivial⟩
  · have he : sOpenE ⟨lo, re, sd, rv, nx, fe, wu, wt, ww, bo, ini⟩ limit b = 10 := by unfold sOpenE; rw [if_neg (not_not_intro hk), if_neg (fun hh => hh (by simpa using h1)), if_neg (not_not_intro ⟨u64_nle h2, u64_nle h5⟩), if_pos (by simpa using h3)]
    obtain ⟨a, q⟩ := oBad he (by decide)
    rw [a, q, he]
    exact ⟨rfl, rfl, rfl, rfl, rfl, rfl, rfl, rfl, rfl, rfl, rfl, rfl, rfl, rfl, trivial⟩
  · have he : sOpenE ⟨lo, re, sd, rv, nx, fe, wu, wt, ww, bo, ini⟩ limit b = 6 := by unfold sOpenE; rw [if_neg (not_not_intro hk), if_neg (fun hh => hh (by simpa using h1)), if_neg (not_not_intro ⟨u64_nle h2, u64_nle h5⟩), if_neg (by simpa using h3)]; exact if_pos (of_decide_eq_true h4)
    obtain ⟨a, q⟩ := oBad he (by decide)
    rw [a, q, he]
    exact ⟨rfl, rfl, rfl, rfl, rfl, rfl, rfl, rfl, rfl, rfl, rfl, rfl, rfl, rfl, trivial⟩
  · have he : sOpenE ⟨lo, re, sd, rv, nx, fe, wu, wt, ww, bo, ini⟩ limit b = 0 := by unfold sOpenE; rw [if_neg (not_not_intro hk), if_neg (fun hh => hh (by simpa using h1)), if_neg (not_not_intro ⟨u64_nle h2, u64_nle h5⟩), if_neg (by simpa using h3)]; exact if_neg (of_decide_eq_false h4)
    obtain ⟨a, q⟩ := oOk he
    rw [a, q, he]
    and_intros <;> first | omega | exact trivial | rfl | decide
end Go.Proofs.Ytimjfjlaoekfkaa

/- A step towards SessionExchangesSaid: no conditions. -/
namespace Go.Proofs.Ytimjfjlaoekfkaa
open Go Go.Eng Go.Cod Go.Cha Go.Pol Go.Aed Go.Msg Go.Win Go.Ses
set_option maxRecDepth 100000 in
set_option maxHeartbeats 4000000 in
theorem conSBeg : Con Try.prog 10 Go.Pol.gTrue0 := con_of_vcs fun args ps res h hp => by
  unfold Go.Pol.gTrue0 at h
  split at h <;> cases h
  refine ⟨SLb, 300, rfl, eok (gs := [(11, gNew), (8, gSSeal), (28, gKind)]) ⟨conNew, conSSeal, conKind, trivial⟩, ?_⟩
  rw [vcSBeg]
  simp only [forall_eq]
  decide +kernel
end Go.Proofs.Ytimjfjlaoekfkaa
