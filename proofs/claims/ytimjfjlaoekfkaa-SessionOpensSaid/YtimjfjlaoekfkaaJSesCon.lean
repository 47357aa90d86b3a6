/- Steps towards SessionOpensSaid. -/
import Derived.Test.YtimjfjlaoekfkaaSesVc
import Derived.Test.YtimjfjlaoekfkaaJAerCon
import Derived.Test.YtimjfjlaoekfkaaJMdcVc
import Derived.Test.YtimjfjlaoekfkaaSebVc
/- A step towards SessionOpensSaid: no conditions. -/
namespace Go.Proofs.Ytimjfjlaoekfkaa
open Go Go.Eng Go.Cod Go.Cha Go.Pol Go.Aed Go.Msg Go.Win Go.Ses
set_option maxRecDepth 100000 in
theorem conPad : Con Try.prog 23 gPad := con_of_vcs fun args ps res h hp => by
  unfold gPad at h
  split at h <;> cases h
  rename_i m b
  obtain ⟨rfl, hp1⟩ := all_cons.1 hp
  have hb := (all_cons.1 hp1).1
  refine ⟨SEp, 100, rfl, eok (gs := [(35, gJoin)]) ⟨conJoin, trivial⟩, ?_⟩
  rw [vcPad b]
  have hz := zp_le b.length
  have hi : InI (Int.ofNat 16 - (b.length : Int).tmod (Int.ofNat 16)) := by
    have e : Int.ofNat 16 - (b.length : Int).tmod (Int.ofNat 16) = ((16 - b.length % 16 : Nat) : Int) := by
      show (16 : Int) - ((b.length % 16 : Nat) : Int) = _
      omega
    rw [e]; unfold InI; omega
  have n16 : Int.ofNat 16 ≠ 0 := by decide
  have tz : List.take (zp b.length) (List.replicate (zp b.length) (0 : UInt8)) = zerosL b.length := List.take_of_length_le (by rw [List.length_replicate]; exact Nat.le_refl _)
  have e : b ++ zerosL b.length = fillL b := rfl
  have hl := fillL_len b
  simp only [forall_eq, zp_int, Int.toNat_natCast, dropL_zero, tz, flat2, e, hi, Nat.zero_add, List.take_length, Nat.le_refl, true_and, and_true, n16, ne_eq, not_false_eq_true]
  and_intros <;> first | omega | exact trivial | rfl | decide
set_option maxRecDepth 100000 in
theorem conPadR : Con Try.prog 26 gPad := con_of_vcs fun args ps res h hp => by
  unfold gPad at h
  split at h <;> cases h
  rename_i m b
  obtain ⟨rfl, hp1⟩ := all_cons.1 hp
  have hb := (all_cons.1 hp1).1
  refine ⟨SEq, 100, rfl, eok (gs := []) trivial, ?_⟩
  rw [vcPadR b]
  have hz := zp_le b.length
  refine ⟨by omega, fun y hy => ⟨⟨0, by omega, rfl, rfl, by omega, by omega, by rw [hy]; simp, trivial⟩, fun x hx z hz2 => ⟨by decide, fun hd => ?_, fun hd => ?_⟩⟩⟩
  · have hd := of_decide_eq_true hd
    have e : z.tmod (Int.ofNat 16) = (((b.length + x) % 16 : Nat) : Int) := by rw [hz2]; rfl
    rw [e] at hd
    have hne : x ≠ zp b.length := fun h => hd (by rw [(zp_mod b.length x hx).2 h]; rfl)
    refine ⟨rfl, by omega, fun y hy => ⟨x + 1, by omega, by omega, rfl, rfl, by omega, by omega, ?_, trivial⟩⟩
    rw [hy, List.replicate_succ', List.append_assoc]
    rfl
  · have hd := of_decide_eq_false hd
    have e : z.tmod (Int.ofNat 16) = (((b.length + x) % 16 : Nat) : Int) := by rw [hz2]; rfl
    rw [e] at hd
    have hx2 : x = zp b.length := (zp_mod b.length x hx).1 (Int.ofNat.inj (Decidable.not_not.1 hd))
    subst hx2
    refine ⟨by omega, by rw [fillL_len], ?_, trivial⟩
    rw [dropL_zero, dropL_zero]
    exact List.take_of_length_le (by rw [List.length_append, List.length_replicate]; exact Nat.le_refl _)
theorem ese : EnvOk SEs := eok (gs := [(22, gSeal), (13, gOpen), (14, gCounter), (23, gPad), (21, gTran), (12, gDec dTran), (38, gCheck), (39, gAcc)]) ⟨conSeal, conOpen, conCounter, conPad, conTran, conDTran, conWCheck, conWAcc, trivial⟩
theorem esr : EnvOk SEr := eok (gs := [(24, gSeal), (41, gOpen), (25, gCounter), (26, gPad), (27, gTran), (40, gDec dTran), (15, gAcc)]) ⟨conSealR, conOpenR, conCounterR, conPadR, conTranR, conDTranR, conWAccR, trivial⟩
set_option maxRecDepth 100000 in
theorem conNew : Con Try.prog 11 gNew := con_of_vcs fun args ps res h hp => by
  unfold gNew at h
  split at h <;> cases h
  rename_i lo re sd rv bo ini fe
  refine ⟨SEs, 100, rfl, ese, ?_⟩
  rw [vcNew]
  simp only [forall_eq]
  exact ⟨rfl, rfl, rfl, rfl, rfl, rfl, rfl, rfl, rfl, rfl, rfl, trivial⟩
theorem sBad {s : Ses} {limit : UInt64} {p : List UInt8} {e : Int} (he : sSealE s limit p = e) (h : e ≠ 0) : sSealS s limit p = zS ∧ sSealL s limit p = [] := ⟨if_neg (by rw [he]; exact h), if_neg (by rw [he]; exact h)⟩
theorem sOk {s : Ses} {limit : UInt64} {p : List UInt8} (he : sSealE s limit p = 0) : sSealS s limit p = ⟨s.lo, s.re, s.sd, s.rv, s.nx + 1, s.fe, s.wu, s.wt, s.ww, s.bo, s.ini⟩ ∧ sSealL s limit p = tranL s.re s.nx (sBody s p) := ⟨if_pos he, if_pos he⟩
theorem u64_nle {a b : UInt64} (h : decide (a ≤ b) = false) : b < a := UInt64.not_le.1 (of_decide_eq_false h)
theorem u64_le {a b : UInt64} (h : decide (a ≤ b) = true) : ¬ b < a := UInt64.not_lt.2 (of_decide_eq_true h)
theorem min3 {a b : UInt64} {x : UInt64} : x < (if UInt64.ofNat 18446744073709543423 < (if b < a then b else a) then UInt64.ofNat 18446744073709543423 else (if b < a then b else a)) ↔ x < a ∧ x < b ∧ x < maxC := by
  have e : UInt64.ofNat 18446744073709543423 = maxC := rfl
  rw [e]
  by_cases h1 : b < a
  · rw [if_pos h1]
    by_cases h2 : maxC < b
    · rw [if_pos h2]
      rw [UInt64.lt_iff_toNat_lt] at *
      rw [UInt64.lt_iff_toNat_lt, UInt64.lt_iff_toNat_lt]
      omega
    · rw [if_neg h2]
      rw [UInt64.lt_iff_toNat_lt] at *
      rw [UInt64.lt_iff_toNat_lt, UInt64.lt_iff_toNat_lt]
      omega
  · rw [if_neg h1]
    by_cases h2 : maxC < a
    · rw [if_pos h2]
      rw [UInt64.lt_iff_toNat_lt] at *
      rw [UInt64.lt_iff_toNat_lt, UInt64.lt_iff_toNat_lt]
      omega
    · rw [if_neg h2]
      rw [UInt64.lt_iff_toNat_lt] at *
      rw [UInt64.lt_iff_toNat_lt, UInt64.lt_iff_toNat_lt]
      omega
theorem body_len (s : Ses) (p : List UInt8) (h : p.length ≤ 2000) : ¬ (sBody s p).length < 16 ∧ ¬ 2084 < (sBody s p).length := by
  unfold sBody
  rw [sealL_len, fillL_len]
  have := zp_le p.length
  omega
set_option maxRecDepth 100000 in
theorem conSSeal : Con Try.prog 8 gSSeal := con_of_vcs fun args ps res h hp => by
  unfold gSSeal at h
  split at h <;> cases h
  rename_i lo re sd rv nx fe wu wt ww bo ini limit m p
  obtain ⟨rfl, hp1⟩ := all_cons.1 hp
  refine ⟨SEs, 200, rfl, ese, ?_⟩
  rw [vcSSeal]
  have eB : sealL sd (countL nx) (fillL p) [] = sBody ⟨lo, re, sd, rv, nx, fe, wu, wt, ww, bo, ini⟩ p := rfl
  simp only [forall_eq, dropL_zero, List.take_length, Nat.zero_add, List.replicate_zero, eB]
  refine ⟨fun h => ?_, fun h => ⟨fun h1 => ?_, fun h1 => ⟨fun h2 => ?_, fun h2 => ⟨fun h3 => ?_, fun h3 => ?_⟩⟩⟩⟩
  · have hd : (2000 : Int) < (p.length : Int) := of_decide_eq_true h
    have he : sSealE ⟨lo, re, sd, rv, nx, fe, wu, wt, ww, bo, ini⟩ limit p = 3 := if_pos (by omega)
    obtain ⟨a, b⟩ := sBad he (by decide)
    rw [a, b, he]
    exact ⟨rfl, rfl, rfl, rfl, rfl, rfl, rfl, rfl, rfl, rfl, rfl, rfl, rfl, rfl, trivial⟩
  all_goals have hd : ¬ (2000 : Int) < (p.length : Int) := of_decide_eq_false h
  all_goals have hpl : ¬ 2000 < p.length := by omega
  · have he : sSealE ⟨lo, re, sd, rv, nx, fe, wu, wt, ww, bo, ini⟩ limit p = 12 := by unfold sSealE; rw [if_neg hpl, if_neg fun h => u64_le h1 h.1]
    obtain ⟨a, b⟩ := sBad he (by decide)
    rw [a, b, he]
    exact ⟨rfl, rfl, rfl, rfl, rfl, rfl, rfl, rfl, rfl, rfl, rfl, rfl, rfl, rfl, trivial⟩
  · have he : sSealE ⟨lo, re, sd, rv, nx, fe, wu, wt, ww, bo, ini⟩ limit p = 12 := by unfold sSealE; rw [if_neg hpl, if_neg fun h => u64_le h2 h.2.1]
    obtain ⟨a, b⟩ := sBad he (by decide)
    rw [a, b, he]
    exact ⟨rfl, rfl, rfl, rfl, rfl, rfl, rfl, rfl, rfl, rfl, rfl, rfl, rfl, rfl, trivial⟩
  · have he : sSealE ⟨lo, re, sd, rv, nx, fe, wu, wt, ww, bo, ini⟩ limit p = 12 := by unfold sSealE; rw [if_neg hpl, if_neg fun h => u64_le h3 h.2.2]
    obtain ⟨a, b⟩ := sBad he (by decide)
    rw [a, b, he]
    exact ⟨rfl, rfl, rfl, rfl, rfl, rfl, rfl, rfl, rfl, rfl, rfl, rfl, rfl, rfl, trivial⟩
  · have he : sSealE ⟨lo, re, sd, rv, nx, fe, wu, wt, ww, bo, ini⟩ limit p = 0 := by unfold sSealE; rw [if_neg hpl, if_pos ⟨u64_nle h1, u64_nle h2, u64_nle h3⟩]
    obtain ⟨a, b⟩ := sOk he
    obtain ⟨b1, b2⟩ := body_len ⟨lo, re, sd, rv, nx, fe, wu, wt, ww, bo, ini⟩ p (by omega)
    have hfl := fillL_len p
    have hzz := zp_le p.length
    rw [a, b, he, (tranR_ok (r := re) (c := nx) b1 b2).1, (tranR_ok (r := re) (c := nx) b1 b2).2]
    and_intros <;> first | omega | exact trivial | rfl | decide | (intro h; exact absurd h (by decide)) | (intro _; and_intros <;> first | omega | exact trivial | rfl | decide)
set_option maxRecDepth 100000 in
theorem conSSealR : Con Try.prog 9 gSSeal := con_of_vcs fun args ps res h hp => by
  unfold gSSeal at h
  split at h <;> cases h
  rename_i lo re sd rv nx fe wu wt ww bo ini limit m p
  obtain ⟨rfl, hp1⟩ := all_cons.1 hp
  refine ⟨SEr, 200, rfl, esr, ?_⟩
  rw [vcSSealR]
  have eB : sealL sd (countL nx) (fillL p) [] = sBody ⟨lo, re, sd, rv, nx, fe, wu, wt, ww, bo, ini⟩ p := rfl
  simp only [forall_eq, dropL_zero, List.take_length, Nat.zero_add, List.replicate_zero, eB]
  refine ⟨fun h => ?_, fun h => ⟨fun h1 => ?_, fun h1 => ?_⟩⟩
  · have hd : (2000 : Int) < (p.length : Int) := of_decide_eq_true h
    have he : sSealE ⟨lo, re, sd, rv, nx, fe, wu, wt, ww, bo, ini⟩ limit p = 3 := if_pos (by omega)
    obtain ⟨a, b⟩ := sBad he (by decide)
    rw [a, b, he]
    exact ⟨rfl, rfl, rfl, rfl, rfl, rfl, rfl, rfl, rfl, rfl, rfl, rfl, rfl, rfl, trivial⟩
  all_goals have hd : ¬ (2000 : Int) < (p.length : Int) := of_decide_eq_false h
  all_goals have hpl : ¬ 2000 < p.length := by omega
  · have he : sSealE ⟨lo, re, sd, rv, nx, fe, wu, wt, ww, bo, ini⟩ limit p = 12 := by unfold sSealE; rw [if_neg hpl, if_neg fun h => u64_le h1 (min3.2 h)]
    obtain ⟨a, b⟩ := sBad he (by decide)
    rw [a, b, he]
    exact ⟨rfl, rfl, rfl, rfl, rfl, rfl, rfl, rfl, rfl, rfl, rfl, rfl, rfl, rfl, trivial⟩
  · have he : sSealE ⟨lo, re, sd, rv, nx, fe, wu, wt, ww, bo, ini⟩ limit p = 0 := by unfold sSealE; rw [if_neg hpl, if_pos (min3.1 (u64_nle h1))]
    obtain ⟨a, b⟩ := sOk he
    obtain ⟨b1, b2⟩ := body_len ⟨lo, re, sd, rv, nx, fe, wu, wt, ww, bo, ini⟩ p (by omega)
    have hfl := fillL_len p
    have hzz := zp_le p.length
    rw [a, b, he, (tranR_ok (r := re) (c := nx) b1 b2).1]
    and_intros <;> first | omega | exact trivial | rfl | decide | (intro h; exact absurd h (by decide)) | (intro _; and_intros <;> first | omega | exact trivial | rfl | decide)
end Go.Proofs.Ytimjfjlaoekfkaa

/- A step towards SessionOpensSaid: no conditions. -/
namespace Go.Proofs.Ytimjfjlaoekfkaa
open Go Go.Eng Go.Cod Go.Cha Go.Pol Go.Aed Go.Msg Go.Win Go.Ses
theorem oBad {s : Ses} {limit : UInt64} {b : List UInt8} {e : Int} (he : sOpenE s limit b = e) (h : e ≠ 0) : sOpenS s limit b = zS ∧ sOpenL s limit b = [] := ⟨if_neg (by rw [he]; exact h), if_neg (by rw [he]; exact h)⟩
theorem oOk {s : Ses} {limit : UInt64} {b : List UInt8} (he : sOpenE s limit b = 0) : sOpenS s limit b = ⟨s.lo, s.re, s.sd, s.rv, s.nx, s.fe, (acc ⟨s.wu, s.wt, s.ww⟩ (fld64 4 b 8)).u, (acc ⟨s.wu, s.wt, s.ww⟩ (fld64 4 b 8)).t, (acc ⟨s.wu, s.wt, s.ww⟩ (fld64 4 b 8)).ws, s.bo, s.ini⟩ ∧ sOpenL s limit b = openL s.rv (countL (fld64 4 b 8)) (fldR 4 b 16) [] := ⟨if_pos he, if_pos he⟩
theorem min2 {a : UInt64} {x : UInt64} : x < (if UInt64.ofNat 18446744073709543423 < a then UInt64.ofNat 18446744073709543423 else a) ↔ x < a ∧ x < maxC := by
  have e : UInt64.ofNat 18446744073709543423 = maxC := rfl
  rw [e]
  by_cases h1 : maxC < a
  · rw [if_pos h1]
    rw [UInt64.lt_iff_toNat_lt] at *
    rw [UInt64.lt_iff_toNat_lt]
    omega
  · rw [if_neg h1]
    rw [UInt64.lt_iff_toNat_lt] at *
    rw [UInt64.lt_iff_toNat_lt]
    omega
theorem fldR_le (b : List UInt8) : (fldR 4 b 16).length ≤ b.length := by
  unfold fldR
  split
  · rw [List.length_drop]; omega
  · exact Nat.zero_le _
theorem decE_ne {b : List UInt8} (h : decide (decE 4 b ≠ Int.ofNat 0) = true) : kindL b ≠ 4 ∧ decE 4 b = 4 := by
  have h := of_decide_eq_true h
  unfold decE at *
  by_cases hk : kindL b = 4
  · rw [if_pos hk] at h; exact absurd rfl h
  · exact ⟨hk, if_neg hk⟩
theorem decE_eq {b : List UInt8} (h : decide (decE 4 b ≠ Int.ofNat 0) = false) : kindL b = 4 := by
  have h := Decidable.not_not.1 (of_decide_eq_false h)
  unfold decE at h
  by_cases hk : kindL b = 4
  · exact hk
  · rw [if_neg hk] at h; exact absurd h (by decide)
theorem nn {p : Prop} [Decidable p] (h : decide (¬ p) = false) : p := Decidable.not_not.1 (of_decide_eq_false h)
set_option maxRecDepth 100000 in
theorem conSealed : Con Try.prog 16 gSealed := con_of_vcs fun args ps res h hp => by
  unfold gSealed at h
  split at h <;> cases h
  rename_i lo re sd rv nx fe wu wt ww bo ini c m p
  obtain ⟨rfl, hp1⟩ := all_cons.1 hp
  have hx := (all_cons.1 hp1).1
  refine ⟨SEr, 200, rfl, esr, ?_⟩
  rw [vcSealed]
  have hfl := fillL_len p
  have hzz := zp_le p.length
  have hs := sealL_len rv (countL c) (fillL p) []
  have e : tranR lo c (sealL rv (countL c) (fillL p) []) = sealedL ⟨lo, re, sd, rv, nx, fe, wu, wt, ww, bo, ini⟩ c p := (tranR_ok (by omega) (by omega)).1
  simp only [forall_eq, dropL_zero, List.take_length, Nat.zero_add, List.replicate_zero, e]
  and_intros <;> first | omega | exact trivial | rfl | decide
set_option maxRecDepth 100000 in
theorem conSOpenR : Con Try.prog 18 gSOpen := con_of_vcs fun args ps res h hp => by
  unfold gSOpen at h
  split at h <;> cases h
  rename_i lo re sd rv nx fe wu wt ww bo ini limit m b
  obtain ⟨rfl, hp1⟩ := all_cons.1 hp
  have hx := (all_cons.1 hp1).1
  refine ⟨SEr, 200, rfl, esr, ?_⟩
  rw [vcSOpenR]
  have hfr := fldR_le b
  simp only [forall_eq, dropL_zero, List.take_length, Nat.zero_add, List.replicate_zero]
  refine ⟨trivial, by omega, fun h0 => ?_, fun h0 => ⟨fun h1 => ?_, fun h1 => ⟨fun h2 => ?_, fun h2 => ⟨fun h3 => ?_, fun h3 => ⟨trivial, trivial, by omega, by decide, fun h4 => ?_, fun h4 => ?_⟩⟩⟩⟩⟩
  · obtain ⟨hk, h4⟩ := decE_ne h0
    have he : sOpenE ⟨lo, re, sd, rv, nx, fe, wu, wt, ww, bo, ini⟩ limit b = 4 := by unfold sOpenE; rw [if_pos hk]
    obtain ⟨a, q⟩ := oBad he (by decide)
    rw [a, q, he, h4]
    exact ⟨rfl, rfl, rfl, rfl, rfl, rfl, rfl, rfl, rfl, rfl, rfl, rfl, rfl, rfl, trivial⟩
  all_goals have hk : kindL b = 4 := decE_eq h0
  · have he : sOpenE ⟨lo, re, sd, rv, nx, fe, wu, wt, ww, bo, ini⟩ limit b = 9 := by unfold sOpenE; rw [if_neg (not_not_intro hk), if_pos (by simpa using h1)]
    obtain ⟨a, q⟩ := oBad he (by decide)
    rw [a, q, he]
    exact ⟨rfl, rfl, rfl, rfl, rfl, rfl, rfl, rfl, rfl, rfl, rfl, rfl, rfl, rfl, trivial⟩
  · have he : sOpenE ⟨lo, re, sd, rv, nx, fe, wu, wt, ww, bo, ini⟩ limit b = 12 := by unfold sOpenE; rw [if_neg (not_not_intro hk), if_neg (fun hh => hh (by simpa using h1)), if_pos (fun hh => u64_le h2 (min2.2 hh))]
    obtain ⟨a, q⟩ := oBad he (by decide)
    rw [a, q, he]
    exact ⟨rfl, rfl, rfl, rfl, rfl, rfl, rfl, rfl, rfl, rfl, rfl, rfl, rfl, rfl, trivial⟩
  · have he : sOpenE ⟨lo, re, sd, rv, nx, fe, wu, wt, ww, bo, ini⟩ limit b = 10 := by unfold sOpenE; rw [if_neg (not_not_intro hk), if_neg (fun hh => hh (by simpa using h1)), if_neg (not_not_intro (min2.1 (u64_nle h2))), if_pos (by simpa using h3)]
    obtain ⟨a, q⟩ := oBad he (by decide)
    rw [a, q, he]
    exact ⟨rfl, rfl, rfl, rfl, rfl, rfl, rfl, rfl, rfl, rfl, rfl, rfl, rfl, rfl, trivial⟩
  · have he : sOpenE ⟨lo, re, sd, rv, nx, fe, wu, wt, ww, bo, ini⟩ limit b = 6 := by unfold sOpenE; rw [if_neg (not_not_intro hk), if_neg (fun hh => hh (by simpa using h1)), if_neg (not_not_intro (min2.1 (u64_nle h2))), if_neg (by simpa using h3)]; exact if_pos (of_decide_eq_true h4)
    obtain ⟨a, q⟩ := oBad he (by decide)
    rw [a, q, he]
    exact ⟨rfl, rfl, rfl, rfl, rfl, rfl, rfl, rfl, rfl, rfl, rfl, rfl, rfl, rfl, trivial⟩
  · have he : sOpenE ⟨lo, re, sd, rv, nx, fe, wu, wt, ww, bo, ini⟩ limit b = 0 := by unfold sOpenE; rw [if_neg (not_not_intro hk), if_neg (fun hh => hh (by simpa using h1)), if_neg (not_not_intro (min2.1 (u64_nle h2))), if_neg (by simpa using h3)]; exact if_neg (of_decide_eq_false h4)
    obtain ⟨a, q⟩ := oOk he
    rw [a, q, he]
    and_intros <;> first | omega | exact trivial | rfl | decide
set_option maxRecDepth 100000 in
theorem conSOpen : Con Try.prog 17 gSOpen := con_of_vcs fun args ps res h hp => by
  unfold gSOpen at h
  split at h <;> cases h
  rename_i lo re sd rv nx fe wu wt ww bo ini limit m b
  obtain ⟨rfl, hp1⟩ := all_cons.1 hp
  have hx := (all_cons.1 hp1).1
  refine ⟨SEs, 200, rfl, ese, ?_⟩
  rw [vcSOpen]
  have hfr := fldR_le b
  simp only [forall_eq, dropL_zero, List.take_length, Nat.zero_add, List.replicate_zero]
  refine ⟨trivial, by omega, fun h0 => ?_, fun h0 => ⟨fun h1 => ?_, fun h1 => ⟨fun h2 => ?_, fun h2 => ⟨fun h5 => ?_, fun h5 => ⟨fun h3 => ?_, fun h3 => ⟨trivial, trivial, by omega, by decide, fun h4 => ?_, fun h4 => ?_⟩⟩⟩⟩⟩⟩
  · obtain ⟨hk, h4⟩ := decE_ne h0
    have he : sOpenE ⟨lo, re, sd, rv, nx, fe, wu, wt, ww, bo, ini⟩ limit b = 4 := by unfold sOpenE; rw [if_pos hk]
    obtain ⟨a, q⟩ := oBad he (by decide)
    rw [a, q, he, h4]
    exact ⟨rfl, rfl, rfl, rfl, rfl, rfl, rfl, rfl, rfl, rfl, rfl, rfl, rfl, rfl, trivial⟩
  all_goals have hk : kindL b = 4 := decE_eq h0
  · have he : sOpenE ⟨lo, re, sd, rv, nx, fe, wu, wt, ww, bo, ini⟩ limit b = 9 := by unfold sOpenE; rw [if_neg (not_not_intro hk), if_pos (by simpa using h1)]
    obtain ⟨a, q⟩ := oBad he (by decide)
    rw [a, q, he]
    exact ⟨rfl, rfl, rfl, rfl, rfl, rfl, rfl, rfl, rfl, rfl, rfl, rfl, rfl, rfl, trivial⟩
  · have he : sOpenE ⟨lo, re, sd, rv, nx, fe, wu, wt, ww, bo, ini⟩ limit b = 12 := by unfold sOpenE; rw [if_neg (not_not_intro hk), if_neg (fun hh => hh (by simpa using h1)), if_pos (fun hh => u64_le h2 hh.1)]
    obtain ⟨a, q⟩ := oBad he (by decide)
    rw [a, q, he]
    exact ⟨rfl, rfl, rfl, rfl, rfl, rfl, rfl, rfl, rfl, rfl, rfl, rfl, rfl, rfl, trivial⟩
  · have he : sOpenE ⟨lo, re, sd, rv, nx, fe, wu, wt, ww, bo, ini⟩ limit b = 12 := by unfold sOpenE; rw [if_neg (not_not_intro hk), if_neg (fun hh => hh (by simpa using h1)), if_pos (fun hh => u64_le h5 hh.2)]
    obtain ⟨a, q⟩ := oBad he (by decide)
    rw [a, q, he]
    exact ⟨rfl, rfl, rfl, rfl, rfl, rfl, rfl, rfl, rfl, rfl, rfl, rfl, rfl, rfl, trivial⟩
  · have he : sOpenE ⟨lo, re, sd, rv, nx, fe, wu, wt, ww, bo, ini⟩ limit b = 10 := by unfold sOpenE; rw [if_neg (not_not_intro hk), if_neg (fun hh => hh (by simpa using h1)), if_neg (not_not_intro ⟨u64_nle h2, u64_nle h5⟩), if_pos (by simpa using h3)]
    obtain ⟨a, q⟩ := oBad he (by decide)
    rw [a, q, he]
    exact ⟨rfl, rfl, rfl, rfl, rfl, rfl, rfl, rfl, rfl, rfl, rfl, rfl, rfl, rfl, trivial⟩
  · have he : sOpenE ⟨lo, re, sd, rv, nx, fe, wu, wt, ww, bo, ini⟩ limit b = 6 := by unfold sOpenE; rw [if_neg (not_not_intro hk), if_neg (fun hh => hh (by simpa using h1)), if_neg (not_not_intro ⟨u64_nle h2, u64_nle h5⟩), if_neg (by simpa using h3)]; exact if_pos (of_decide_eq_true h4)
    obtain ⟨a, q⟩ := oBad he (by decide)
    rw [a, q, he]
    exact ⟨rfl, rfl, rfl, rfl, rfl, rfl, rfl, rfl, rfl, rfl, rfl, rfl, rfl, rfl, trivial⟩
  · have he : sOpenE ⟨lo, re, sd, rv, nx, fe, wu, wt, ww, bo, ini⟩ limit b = 0 := by unfold sOpenE; rw [if_neg (not_not_intro hk), if_neg (fun hh => hh (by simpa using h1)), if_neg (not_not_intro ⟨u64_nle h2, u64_nle h5⟩), if_neg (by simpa using h3)]; exact if_neg (of_decide_eq_false h4)
    obtain ⟨a, q⟩ := oOk he
    rw [a, q, he]
    and_intros <;> first | omega | exact trivial | rfl | decide
end Go.Proofs.Ytimjfjlaoekfkaa

/- A step towards SessionOpensSaid: no conditions. -/
namespace Go.Proofs.Ytimjfjlaoekfkaa
open Go Go.Eng Go.Cod Go.Cha Go.Pol Go.Aed Go.Msg Go.Win Go.Ses
set_option maxRecDepth 100000 in
set_option maxHeartbeats 4000000 in
theorem conSBeg : Con Try.prog 10 Go.Pol.gTrue0 := con_of_vcs fun args ps res h hp => by
  unfold Go.Pol.gTrue0 at h
  split at h <;> cases h
  refine ⟨SLb, 300, rfl, eok (gs := [(11, gNew), (8, gSSeal), (28, gKind)]) ⟨conNew, conSSeal, conKind, trivial⟩, ?_⟩
  rw [vcSBeg]
  simp only [forall_eq]
  decide +kernel
end Go.Proofs.Ytimjfjlaoekfkaa

/- A step towards SessionOpensSaid: no conditions. -/
namespace Go.Proofs.Ytimjfjlaoekfkaa
open Go Go.Eng Go.Cod Go.Msg
theorem cutAt {a b c : List UInt8} {o n : Nat} (ha : a.length = o) (hb : b.length = n) : ((a ++ (b ++ c)).drop o).take n = b := by
  subst ha hb
  rw [List.drop_append_of_le_length (Nat.le_refl _), List.drop_of_length_le (Nat.le_refl _), List.nil_append, List.take_append_of_le_length (Nat.le_refl _), List.take_length]
theorem cutEnd {a b : List UInt8} {o : Nat} (ha : a.length = o) : (a ++ b).drop o = b := by
  subst ha
  rw [List.drop_append_of_le_length (Nat.le_refl _), List.drop_of_length_le (Nat.le_refl _), List.nil_append]
theorem kind_of {b : List UInt8} {k : Int} {x : UInt8} (h0 : b.getD 0 0 = x) (hx : (x.toNat : Int) = k) (h1 : b.getD 1 0 = 0) (h2 : b.getD 2 0 = 0) (h3 : b.getD 3 0 = 0) (h4 : 4 ≤ b.length)
    (h : (x = 1 ∧ b.length = 148) ∨ (x = 2 ∧ b.length = 92) ∨ (x = 3 ∧ b.length = 64) ∨ (x = 4 ∧ 32 ≤ b.length ∧ b.length ≤ 2100)) : kindL b = k := by
  rw [← hx, ← h0]
  symm
  refine kind_some ?_ (by rw [h0]; exact h)
  rintro (h | h | h | h)
  · omega
  · exact h h1
  · exact h h2
  · exact h h3
section
variable {s r : UInt32} {e st t m1 m2 em n c : List UInt8}
theorem init_ok (he : e.length = 32) (hst : st.length = 48) (ht : t.length = 28) (h1 : m1.length = 16) (h2 : m2.length = 16) : (initL s e st t m1 m2).length = 148 ∧ kindL (initL s e st t m1 m2) = 1 ∧
    fld32 1 (initL s e st t m1 m2) 4 = s ∧ fld 1 (initL s e st t m1 m2) 8 32 = e ∧ fld 1 (initL s e st t m1 m2) 40 48 = st ∧ fld 1 (initL s e st t m1 m2) 88 28 = t ∧ fld 1 (initL s e st t m1 m2) 116 16 = m1 ∧ fld 1 (initL s e st t m1 m2) 132 16 = m2 := by
  have l4 := littleL_len s.toUInt64 4
  have hl : (initL s e st t m1 m2).length = 148 := by
    unfold initL
    simp only [List.length_append, l4, he, hst, ht, h1, h2]
    rfl
  have hk : kindL (initL s e st t m1 m2) = 1 := kind_of (x := 1) rfl rfl rfl rfl rfl (by omega) (.inl ⟨rfl, hl⟩)
  obtain ⟨f1, f2, f3, f4, f5⟩ := fld_yes hk
  refine ⟨hl, hk, ?_, ?_, ?_, ?_, ?_, ?_⟩
  · rw [f1]; unfold initL; rw [cutAt (a := [1, 0, 0, 0]) (o := 4) rfl l4, readL_little4]
  · rw [f3, show initL s e st t m1 m2 = ([1, 0, 0, 0] ++ littleL s.toUInt64 4) ++ (e ++ (st ++ (t ++ (m1 ++ m2)))) by simp [initL]]
    exact cutAt (by simp [l4]) he
  · rw [f3, show initL s e st t m1 m2 = ([1, 0, 0, 0] ++ littleL s.toUInt64 4 ++ e) ++ (st ++ (t ++ (m1 ++ m2))) by simp [initL]]
    exact cutAt (by simp [l4, he]) hst
  · rw [f3, show initL s e st t m1 m2 = ([1, 0, 0, 0] ++ littleL s.toUInt64 4 ++ e ++ st) ++ (t ++ (m1 ++ m2)) by simp [initL]]
    exact cutAt (by simp [l4, he, hst]) ht
  · rw [f3, show initL s e st t m1 m2 = ([1, 0, 0, 0] ++ littleL s.toUInt64 4 ++ e ++ st ++ t) ++ (m1 ++ m2) by simp [initL]]
    exact cutAt (by simp [l4, he, hst, ht]) h1
  · rw [f3, show initL s e st t m1 m2 = ([1, 0, 0, 0] ++ littleL s.toUInt64 4 ++ e ++ st ++ t ++ m1) ++ (m2 ++ []) by simp [initL]]
    exact cutAt (by simp [l4, he, hst, ht, h1]) h2
theorem resp_ok (he : e.length = 32) (hst : em.length = 16) (h1 : m1.length = 16) (h2 : m2.length = 16) : (respL s r e em m1 m2).length = 92 ∧ kindL (respL s r e em m1 m2) = 2 ∧
    fld32 2 (respL s r e em m1 m2) 4 = s ∧ fld32 2 (respL s r e em m1 m2) 8 = r ∧ fld 2 (respL s r e em m1 m2) 12 32 = e ∧ fld 2 (respL s r e em m1 m2) 44 16 = em ∧ fld 2 (respL s r e em m1 m2) 60 16 = m1 ∧ fld 2 (respL s r e em m1 m2) 76 16 = m2 := by
  have l4 := littleL_len s.toUInt64 4
  have l5 := littleL_len r.toUInt64 4
  have hl : (respL s r e em m1 m2).length = 92 := by
    unfold respL
    simp only [List.length_append, l4, l5, he, hst, h1, h2]
    rfl
  have hk : kindL (respL s r e em m1 m2) = 2 := kind_of (x := 2) rfl rfl rfl rfl rfl (by omega) (.inr (.inl ⟨rfl, hl⟩))
  obtain ⟨f1, f2, f3, f4, f5⟩ := fld_yes hk
  refine ⟨hl, hk, ?_, ?_, ?_, ?_, ?_, ?_⟩
  · rw [f1]; unfold respL; rw [cutAt (a := [2, 0, 0, 0]) (o := 4) rfl l4, readL_little4]
  · rw [f1, show respL s r e em m1 m2 = ([2, 0, 0, 0] ++ littleL s.toUInt64 4) ++ (littleL r.toUInt64 4 ++ (e ++ (em ++ (m1 ++ m2)))) by simp [respL], cutAt (by simp [l4]) l5, readL_little4]
  · rw [f3, show respL s r e em m1 m2 = ([2, 0, 0, 0] ++ littleL s.toUInt64 4 ++ littleL r.toUInt64 4) ++ (e ++ (em ++ (m1 ++ m2))) by simp [respL]]
    exact cutAt (by simp [l4, l5]) he
  · rw [f3, show respL s r e em m1 m2 = ([2, 0, 0, 0] ++ littleL s.toUInt64 4 ++ littleL r.toUInt64 4 ++ e) ++ (em ++ (m1 ++ m2)) by simp [respL]]
    exact cutAt (by simp [l4, l5, he]) hst
  · rw [f3, show respL s r e em m1 m2 = ([2, 0, 0, 0] ++ littleL s.toUInt64 4 ++ littleL r.toUInt64 4 ++ e ++ em) ++ (m1 ++ m2) by simp [respL]]
    exact cutAt (by simp [l4, l5, he, hst]) h1
  · rw [f3, show respL s r e em m1 m2 = ([2, 0, 0, 0] ++ littleL s.toUInt64 4 ++ littleL r.toUInt64 4 ++ e ++ em ++ m1) ++ (m2 ++ []) by simp [respL]]
    exact cutAt (by simp [l4, l5, he, hst, h1]) h2
theorem cook_ok (hn : n.length = 24) (hc : c.length = 32) : (cookL r n c).length = 64 ∧ kindL (cookL r n c) = 3 ∧ fld32 3 (cookL r n c) 4 = r ∧ fld 3 (cookL r n c) 8 24 = n ∧ fld 3 (cookL r n c) 32 32 = c := by
  have l4 := littleL_len r.toUInt64 4
  have hl : (cookL r n c).length = 64 := by
    unfold cookL
    simp only [List.length_append, l4, hn, hc]
    rfl
  have hk : kindL (cookL r n c) = 3 := kind_of (x := 3) rfl rfl rfl rfl rfl (by omega) (.inr (.inr (.inl ⟨rfl, hl⟩)))
  obtain ⟨f1, f2, f3, f4, f5⟩ := fld_yes hk
  refine ⟨hl, hk, ?_, ?_, ?_⟩
  · rw [f1]; unfold cookL; rw [cutAt (a := [3, 0, 0, 0]) (o := 4) rfl l4, readL_little4]
  · rw [f3, show cookL r n c = ([3, 0, 0, 0] ++ littleL r.toUInt64 4) ++ (n ++ c) by simp [cookL]]
    exact cutAt (by simp [l4]) hn
  · rw [f3, show cookL r n c = ([3, 0, 0, 0] ++ littleL r.toUInt64 4 ++ n) ++ (c ++ []) by simp [cookL]]
    exact cutAt (by simp [l4, hn]) hc
theorem tran_ok {ct : UInt64} {b : List UInt8} (hb : 16 ≤ b.length) (hb2 : b.length ≤ 2084) : tranR r ct b = tranL r ct b ∧ tranE b = 0 ∧ (tranL r ct b).length = 16 + b.length ∧ kindL (tranL r ct b) = 4 ∧
    fld32 4 (tranL r ct b) 4 = r ∧ fld64 4 (tranL r ct b) 8 = ct ∧ fldR 4 (tranL r ct b) 16 = b := by
  have l4 := littleL_len r.toUInt64 4
  have l8 := littleL_len ct 8
  have hl : (tranL r ct b).length = 16 + b.length := by
    unfold tranL
    simp only [List.length_append, l4, l8, List.length_cons, List.length_nil]
    omega
  have hk : kindL (tranL r ct b) = 4 := kind_of (x := 4) rfl rfl rfl rfl rfl (by omega) (.inr (.inr (.inr ⟨rfl, by omega, by omega⟩)))
  obtain ⟨f1, f2, f3, f4, f5⟩ := fld_yes hk
  refine ⟨by unfold tranR; rw [if_neg (by omega), if_neg (by omega)], by unfold tranE; rw [if_neg (by omega), if_neg (by omega)], hl, hk, ?_, ?_, ?_⟩
  · rw [f1]; unfold tranL; rw [cutAt (a := [4, 0, 0, 0]) (o := 4) rfl l4, readL_little4]
  · rw [f2, show tranL r ct b = ([4, 0, 0, 0] ++ littleL r.toUInt64 4) ++ (littleL ct 8 ++ b) by simp [tranL], cutAt (by simp [l4]) l8, readL_little8]
  · rw [f4, show tranL r ct b = ([4, 0, 0, 0] ++ littleL r.toUInt64 4 ++ littleL ct 8) ++ b by simp [tranL]]
    exact cutEnd (by simp [l4, l8])
end
end Go.Proofs.Ytimjfjlaoekfkaa
