/- Steps towards SessionValuesSaid. -/
import Derived.Test.YtimjfjlaoekfkaaGreatJDaoVc
import Derived.Test.YtimjfjlaoekfkaaGreatJDawVc
import Derived.Test.YtimjfjlaoekfkaaGreatJDaqCon
import Derived.Test.YtimjfjlaoekfkaaGreatJDafSpec
import Derived.Test.YtimjfjlaoekfkaaGreatBase
import Derived.Test.YtimjfjlaoekfkaaGreatJDauSpec
import Derived.Test.YtimjfjlaoekfkaaGreatJDamCon
/- A step towards SessionValuesSaid: no conditions. -/

namespace Go.Proofs.YtimjfjlaoekfkaaGreat
open Go Go.Eng Go.Dae
set_option maxRecDepth 100000
theorem startN {n : Nat} : ∃ x : Nat, x ≤ n ∧ (0 : Int) = (x : Int) := ⟨0, Nat.zero_le _, rfl⟩
theorem startP {n : Nat} {e : Int} : ∃ x : Nat × Int, (x.1 ≤ n ∧ e ≤ x.2 ∧ x.2 ≤ e + (x.1 : Int)) ∧ e = x.2 ∧ (0 : Int) = (x.1 : Int) := ⟨(0, e), ⟨Nat.zero_le _, by dsimp only; omega, by dsimp only; omega⟩, rfl, rfl⟩
theorem stepN {n x : Nat} (h : x < n) : ∃ y : Nat, y ≤ n ∧ n - y < n - x ∧ (x : Int) + 1 = (y : Int) := ⟨x + 1, h, by omega, by omega⟩
theorem stepP {n x : Nat} {e m : Int} (h : x < n) (h2 : e ≤ m) (h3 : m ≤ e + x + 1) : ∃ y : Nat × Int, (y.1 ≤ n ∧ e ≤ y.2 ∧ y.2 ≤ e + (y.1 : Int)) ∧ n - y.1 < n - x ∧ m = y.2 ∧ (x : Int) + 1 = (y.1 : Int) :=
  ⟨(x + 1, m), ⟨h, h2, by dsimp only; omega⟩, by dsimp only; omega, rfl, by dsimp only; omega⟩
theorem step4 {n x : Nat} {m : Int} (h : x < n) (h2 : 0 ≤ m) (h3 : m ≤ 4 * x + 4) : ∃ y : Nat × Int, (y.1 ≤ n ∧ 0 ≤ y.2 ∧ y.2 ≤ 4 * (y.1 : Int)) ∧ n - y.1 < n - x ∧ m = y.2 ∧ (x : Int) + 1 = (y.1 : Int) :=
  ⟨(x + 1, m), ⟨h, h2, by dsimp only; omega⟩, by dsimp only; omega, rfl, by dsimp only; omega⟩
theorem fin3 (L : List UInt32) (h : L.length ≤ 3) : ∃ a : List UInt32, a.length ≤ 3 ∧ 0 + L.length ≤ L.length ∧ L.length = a.length ∧ List.take L.length (dropL (dropL L 0) 0) = a ∧ True :=
  ⟨L, h, by omega, rfl, by simp only [dropL, List.take_length], trivial⟩
theorem conLcs : ConH Tryz.prog 84 gLcs := by
  refine conH_of_vcl fun args ps H hg hp hl => ?_
  unfold gLcs at hg
  split at hg
  · rename_i l
    cases hg
    have hw := (all_cons.1 hp).1
    have hwl := WT_len hw
    have w0 : WT ksPlace (l.take 77) := WT_sub [] ksPlace (ksPlace ++ ksPlace) hw
    have w1 : WT ksPlace ((dropL l 77).take 77) := by rw [dropL_eq]; exact WT_sub ksPlace ksPlace ksPlace hw
    have w2 : WT ksPlace ((dropL l 154).take 77) := by rw [dropL_eq]; exact WT_sub (ksPlace ++ ksPlace) ksPlace [] (by simpa [ringW] using hw)
    have hpl : ∀ {k : VL}, WT ksPlace k → (Sn.mk (d32 (k.getD 1 (.bool false))) (d32 (k.getD 2 (.bool false))) (List.map d8 (List.take 32 (List.drop 3 k))) (List.map d8 (List.take 32 (List.drop 35 k))) (d64 (k.getD 67 (.bool false))) (d64 (k.getD 68 (.bool false))) (dB (k.getD 69 (.bool false))) (d64 (k.getD 70 (.bool false))) (List.map d64 (List.take 4 (List.drop 71 k))) (dI (k.getD 75 (.bool false))) (dB (k.getD 76 (.bool false)))).Ok := fun {k} h => by
      have := WT_len h
      have e : szTK ksPlace = 77 := by decide
      rw [e] at this
      refine ⟨?_, ?_, ?_⟩ <;> simp [this]
    have r0 := rowPl (p := ⟨dB ((l.take 77).getD 0 (.bool false)), _⟩) (hpl w0)
    have r1 := rowPl (p := ⟨dB (((dropL l 77).take 77).getD 0 (.bool false)), _⟩) (hpl w1)
    have r2 := rowPl (p := ⟨dB (((dropL l 154).take 77).getD 0 (.bool false)), _⟩) (hpl w2)
    have r := (r0.app r1).app r2
    rw [List.append_assoc, encPl_app, encPl_app] at r
    refine ⟨ELc, 200, rfl, eok (gs := [(_, gLocals)]) ⟨conLocals, trivial⟩, ?_⟩
    rw [vcLcs]
    refine ⟨by omega, w0, by omega, w1, by omega, w2, by omega, r, ?_⟩
    exact fin3 _ (locN_len _ 3)
  · cases hg
theorem conEach : ConH Tryz.prog 71 gEach := by
  refine conH_of_vcl fun args ps H hg hp hl => ?_
  unfold gEach at hg
  split at hg
  · rename_i cs r
    split at hg
    · rename_i d hd
      cases hg
      have e := dmOf_eq hd
      subst e
      have hd := (all_cons.1 hp).1
      have hdl := hd.len
      have hnp := hd.np
      have hpl := hd.hp.1.1
      refine ⟨EEa, 200, rfl, mkEH_ok namesOk mx (gs := []) trivial trivial trivial (hs := [(_, gPB), (_, gPB), (_, gPB)]) ⟨conFld, conHnd, conRng, trivial⟩, Eq.mpr (vcEach d r) ?_⟩
      have e1 : ((1 : Nat) : Int) = 1 := rfl
      have e0 : ((0 : Nat) : Int) = 0 := rfl
      simp only [dSm, dmL, io, e1, e0, Int.toNat_natCast, decide_eq_true_eq, decide_eq_false_iff_not, true_and, and_true]
      refine ⟨⟨0, Nat.zero_le _, rfl⟩, fun i hi => ⟨fun h => ?_, fun h => ⟨_, rfl⟩⟩⟩
      have hlt : i < d.np := by omega
      have hq := hd.hp.at hlt
      have hI : InI ((i : Int) + 1) := by unfold InI; omega
      have h1 : (i + 1) * 464 ≤ d.np * 464 := Nat.mul_le_mul_right _ hlt
      repeat' first
        | exact ⟨_, rfl⟩
        | exact hq | exact hdl
        | exact ⟨hI, i + 1, hlt, by omega, by omega⟩
        | refine ⟨?_, ?_⟩
        | intro h
        | omega
    · cases hg
  · cases hg
theorem conTim : ConH Tryz.prog 74 gPeers := by
  refine conH_of_vcl fun args ps H hg hp hl => ?_
  unfold gPeers at hg
  split at hg
  · split at hg
    · rename_i d hd
      cases hg
      have e := dmOf_eq hd
      subst e
      have hd := (all_cons.1 hp).1
      have hdl := hd.len
      have hnp := hd.np
      have hnt := hd.nt
      have hpl := hd.hp.1.1
      have htl := hd.ht.1
      have hrt := hd.ht
      refine ⟨ETm, 200, rfl, mkEH_ok namesOk mx (gs := [(_, gHas)]) ⟨conHas, trivial⟩ trivial trivial (hs := [(_, gVTi), (_, gFindP)]) ⟨conVTi, conFindP, trivial⟩, Eq.mpr (vcTim d) ?_⟩
      have e1 : ((1 : Nat) : Int) = 1 := rfl
      have e0 : ((0 : Nat) : Int) = 0 := rfl
      have e4 : ((4 : Nat) : Int) = 4 := rfl
      simp only [dSm, dmL, io, e1, e0, e4, Int.toNat_natCast, decide_eq_true_eq, decide_eq_false_iff_not, true_and, and_true]
      have hn1 : d.nt ≤ 100000 := by omega
      refine ⟨hn1, hrt, fun a _ => ⟨fun _ => ⟨_, rfl⟩, fun _ => ⟨⟨0, Nat.zero_le _, rfl⟩, fun i hi => ⟨fun h => ?_, fun h => ⟨⟨0, Nat.zero_le _, rfl⟩, fun i hi => ⟨fun h => ?_, fun h => ⟨_, rfl⟩⟩⟩⟩⟩⟩⟩
      · have hlt : i < d.nt := by omega
        obtain ⟨a1, a2, a3⟩ := hd.ht.at hlt
        have hI : InI ((i : Int) + 1) := by unfold InI; omega
        refine ⟨by omega, a1, a2, hdl, fun j ⟨hj1, hj2⟩ => ?_⟩
        have h83 : 0 ≤ j → (d.ps.getD (j.toNat * 464 + 83) (.bool false)) = ei64 (dI (d.ps.getD (j.toNat * 464 + 83) (.bool false))) := fun h0 => by
          have hq := WT_one (ksP.take 6) (ksP.drop 7) (k := .i64) (hd.hp.1.2 j.toNat (by omega))
          rw [getD_sub (by decide)] at hq
          exact hq
        have h1 : 0 ≤ j → (j.toNat + 1) * 464 ≤ d.np * 464 := fun h0 => Nat.mul_le_mul_right _ (by omega)
        repeat' first
          | exact ⟨_, rfl⟩
          | exact h83 (by omega)
          | exact ⟨hI, i + 1, hlt, by omega, by omega⟩
          | refine ⟨?_, ?_⟩
          | intro h
          | omega
      · have hlt : i < d.np := by omega
        have hq := hd.hp.at hlt
        have hI : InI ((i : Int) + 1) := by unfold InI; omega
        have h1 : (i + 1) * 464 ≤ d.np * 464 := Nat.mul_le_mul_right _ hlt
        have w : WT [.vec 32 .u8] (((dropL d.ps (i * 464)).take 464).take 32) := WT_sub [] [.vec 32 .u8] (ksP.drop 1) hq.1
        have g98 := WT_one (ksP.take 10) (ksP.drop 11) (k := .b) hq.1
        refine ⟨by omega, by omega, by omega, w, hn1, hrt, g98, fun _ => ⟨_, rfl⟩, fun _ => ⟨hI, i + 1, hlt, by omega, by omega⟩⟩
    · cases hg
  · cases hg
theorem conSlo : ConH Tryz.prog 73 gPeers := by
  refine conH_of_vcl fun args ps H hg hp hl => ?_
  unfold gPeers at hg
  split at hg
  · split at hg
    · rename_i d hd
      cases hg
      have e := dmOf_eq hd
      subst e
      have hd := (all_cons.1 hp).1
      have hdl := hd.len
      have hnp := hd.np
      have hns := hd.ns
      have hpl := hd.hp.1.1
      have hrs := hd.hs
      refine ⟨ESl, 200, rfl, mkEH_ok namesOk mx (gs := []) trivial trivial trivial (hs := [(_, gVSl), (_, gFindS), (_, gLcs)]) ⟨conVSl, conFindS, conLcs, trivial⟩, Eq.mpr (vcSlo d) ?_⟩
      have e1 : ((1 : Nat) : Int) = 1 := rfl
      have e0 : ((0 : Nat) : Int) = 0 := rfl
      simp only [dSm, dmL, io, e1, e0, Int.toNat_natCast, decide_eq_true_eq, decide_eq_false_iff_not, true_and, and_true, Nat.sub_zero, Nat.zero_add]
      have hn1 : d.ns ≤ 100000 := by omega
      refine ⟨hn1, hrs, fun a _ => ⟨fun _ => ⟨_, rfl⟩, fun _ => ⟨⟨(0, 0), ⟨Nat.zero_le _, by omega, by dsimp only; omega⟩, rfl, rfl⟩, fun ⟨i, m⟩ ⟨hi, hm1, hm2⟩ => ⟨fun h => ?_, fun h => ⟨_, rfl⟩⟩⟩⟩⟩
      dsimp only at *
      have hlt : i < d.np := by omega
      have hq := hd.hp.at hlt
      have hI : InI ((i : Int) + 1) := by unfold InI; omega
      have h1 : (i + 1) * 464 ≤ d.np * 464 := Nat.mul_le_mul_right _ hlt
      have w : WT [.vec 32 .u8] (((dropL d.ps (i * 464)).take 464).take 32) := WT_sub [] [.vec 32 .u8] (ksP.drop 1) hq.1
      have w2 : WT ringW ((dropL ((dropL d.ps (i * 464)).take 464) 232).take 231) := by rw [dropL_eq _ 232]; exact WT_sub (ksP.take 21) ringW [.one .nil] hq.1
      have g98 := WT_one (ksP.take 10) (ksP.drop 11) (k := .b) hq.1
      have g99 := WT_one (ksP.take 11) (ksP.drop 12) (k := .u32) hq.1
      clear hd hdl hp hl
      repeat' first
        | exact ⟨_, rfl⟩
        | exact hn1 | exact hrs | exact w | exact w2 | exact g98 | exact g99 | exact hI
        | exact startN | exact startP
        | exact stepN (by omega) | exact stepP (by omega) (by omega) (by omega) | exact step4 (by omega) (by omega) (by omega)
        | refine ⟨?_, ?_⟩
        | intro h
        | omega
        | (unfold InI; omega)
    · cases hg
  · cases hg
theorem conVal : ConH Tryz.prog 37 gValD := by
  refine conH_of_vcl fun args ps H hg hp hl => ?_
  unfold gValD at hg
  split at hg
  · split at hg
    · rename_i d hd
      cases hg
      have e := dmOf_eq hd
      subst e
      have hd := (all_cons.1 hp).1
      have hdl := hd.len
      refine ⟨ECk, 200, rfl, mkEH_ok namesOk mx (gs := []) trivial trivial trivial (hs := [(_, gRules), (_, gPeers), (_, gEach), (_, gPeers), (_, gPeers), (_, gPeers), (_, gPeers)]) ⟨conRules, conPeers, conEach, conRou, conSlo, conTim, conLd, trivial⟩, Eq.mpr (vcVal d) ?_⟩
      clear hd hp hl
      repeat' first
        | exact ⟨_, trivial, rfl, trivial⟩
        | exact hdl
        | refine ⟨?_, ?_⟩
        | intro h
    · cases hg
  · cases hg
end Go.Proofs.YtimjfjlaoekfkaaGreat

/- A step towards SessionValuesSaid: no conditions. -/

namespace Go.Dae
open Go Go.Eng
def mskN (ip : BS) (b : Nat) : Nat → BS
  | 0 => ip
  | j + 1 => (mskN ip b j).set ((b + j) / 8) ((mskN ip b j).getD ((b + j) / 8) 0 &&& ~~~(shr8 (UInt8.ofNat 128) ((b + j) % 8)))
noncomputable def gMask : SpecF := fun args => match args with
  | [.w (.agg [.one (.b s), .vec (.n 16) (.u8 ip)]), .w (.s (.i64 b))] => match b with
    | .ofNat b => some ([b ≤ 128], .w (.agg [.one (.b s), .vec (.n 16) (.u8 (mskN ip b (128 - b))), .one (.i64 b)]))
    | _ => none
  | _ => none
noncomputable def JMsk (s : Bool) (ip : BS) (b : Nat) (σ : St) : Option Inv :=
  match names σ.fr 2 with
  | some ka => some {
      α := Nat
      ok := fun j => b + j ≤ 128
      mu := fun j => 128 - j
      keep := [1, 2, 4]
      slots := fun j => [(5, .s (.i64 (Int.ofNat (b + j))))]
      own := fun j => [(ka, some [.one (.b s), .vec (.n 16) (.u8 (mskN ip b j))])]
      ext := fun _ => [] }
  | none => none
end Go.Dae
namespace Go.Proofs.YtimjfjlaoekfkaaGreat
open Go Go.Eng Go.Dae
noncomputable def EMs (s : Bool) (ip : BS) (b : Nat) : Env := mkE Tryz.prog [] [(0, JMsk s ip b)] 3 false
set_option maxRecDepth 100000 in
theorem vcMsk (s : Bool) (ip : BS) (b : Nat) : (vcFn (EMs s ip b) 200 23 [.w (.agg [.one (.b s), .vec (.n 16) (.u8 ip)]), .s (.i64 (Int.ofNat b))] (.w (.agg [.one (.b s), .vec (.n 16) (.u8 (mskN ip b (128 - b))), .one (.i64 (Int.ofNat b))]))) =
  ((∃ (x : Nat), b + x ≤ 128 ∧ Int.ofNat b = Int.ofNat b ∧ Int.ofNat b = Int.ofNat (b + x) ∧ s = s ∧ ip = mskN ip b x ∧ false = false ∧ List.replicate 16 (0 : UInt8) = List.replicate 16 (0 : UInt8) ∧ Int.ofNat 0 = Int.ofNat 0 ∧ True) ∧ ∀ (x : Nat), b + x ≤ 128 → (decide (Int.ofNat (b + x) < Int.ofNat 128) = true → (Int.ofNat 8 ≠ (0 : Int) ∧ InI ((Int.ofNat (b + x)).tdiv (Int.ofNat 8))) ∧ ((0 : Int) ≤ (Int.ofNat (b + x)).tdiv (Int.ofNat 8) ∧ (Int.ofNat (b + x)).tdiv (Int.ofNat 8) < (↑(16 : Nat) : Int)) ∧ ((Int.ofNat (b + x)).tdiv (Int.ofNat 8)).toNat < 16 ∧ Int.ofNat 8 ≠ (0 : Int) ∧ (0 : Int) ≤ (Int.ofNat (b + x)).tmod (Int.ofNat 8) ∧ ((0 : Int) ≤ (Int.ofNat (b + x)).tdiv (Int.ofNat 8) ∧ (Int.ofNat (b + x)).tdiv (Int.ofNat 8) < (↑(16 : Nat) : Int)) ∧ ((Int.ofNat (b + x)).tdiv (Int.ofNat 8)).toNat < 16 ∧ InI (Int.ofNat (b + x) + Int.ofNat 1) ∧ ∃ (y : Nat), b + y ≤ 128 ∧ 128 - y < 128 - x ∧ Int.ofNat b = Int.ofNat b ∧ Int.ofNat (b + x) + Int.ofNat 1 = Int.ofNat (b + y) ∧ s = s ∧ List.set (mskN ip b x) ((Int.ofNat (b + x)).tdiv (Int.ofNat 8)).toNat (List.getD (mskN ip b x) ((Int.ofNat (b + x)).tdiv (Int.ofNat 8)).toNat (0 : UInt8) &&& ~~~shr8 (UInt8.ofNat (nat_lit 128)) ((Int.ofNat (b + x)).tmod (Int.ofNat 8)).toNat) = mskN ip b y ∧ false = false ∧ List.replicate 16 (0 : UInt8) = List.replicate 16 (0 : UInt8) ∧ Int.ofNat 0 = Int.ofNat 0 ∧ True) ∧ (decide (Int.ofNat (b + x) < Int.ofNat 128) = false → s = s ∧ mskN ip b x = mskN ip b (128 - b) ∧ Int.ofNat b = Int.ofNat b ∧ True)) := by kernel_rfl
end Go.Proofs.YtimjfjlaoekfkaaGreat

/- A step towards SessionValuesSaid: no conditions. -/

namespace Go.Proofs.YtimjfjlaoekfkaaGreat
open Go Go.Eng Go.Dae
set_option maxRecDepth 100000
theorem conMask : Con Tryz.prog 23 gMask := by
  refine con_of_vcs fun args ps res hg hp => ?_
  unfold gMask at hg
  split at hg
  · split at hg
    · rename_i s ip _ b
      cases hg
      have hb := (all_cons.1 hp).1
      refine ⟨EMs s ip b, 200, rfl, eok (gs := []) trivial, Eq.mpr (vcMsk s ip b) ?_⟩
      have e1 : ((1 : Nat) : Int) = 1 := rfl
      have e8 : ((8 : Nat) : Int) = 8 := rfl
      simp only [io, e1, e8]
      refine ⟨⟨0, by omega, by and_intros <;> first | trivial | rfl⟩, fun j hj => ⟨fun hd => ?_, fun hd => ?_⟩⟩
      · have hlt : b + j < 128 := by have := of_decide_eq_true hd; omega
        have hq : ((b + j : Nat) : Int).tdiv 8 = (((b + j) / 8 : Nat) : Int) := rfl
        have hm : ((b + j : Nat) : Int).tmod 8 = (((b + j) % 8 : Nat) : Int) := rfl
        have hmb := Nat.mod_lt (b + j) (show 0 < 8 by omega)
        simp only [hq, hm, Int.toNat_natCast]
        refine ⟨⟨by omega, by unfold InI; omega⟩, by omega, by omega, by omega, by omega, by omega, by omega, by unfold InI; omega, j + 1, by omega, by omega, ?_⟩
        and_intros <;> first | trivial | rfl | omega
      · have h12 : j = 128 - b := by have := of_decide_eq_false hd; omega
        subst h12
        and_intros <;> first | trivial | rfl
    · cases hg
  · cases hg
end Go.Proofs.YtimjfjlaoekfkaaGreat

/- A step towards SessionValuesSaid: no conditions. -/

namespace Go.Dae
open Go Go.Eng
def zRul : Rul := ⟨0, 0, 0, 0, 0, 0, 0, 0, 0, 0⟩
def zDm : Dm := ⟨zRul, List.replicate 32 0, List.replicate 32 0, 0, List.replicate 32 0, 0, 0, [], 0, [], 0, [], 0, [], List.replicate 32 0, 0, 0, [], 0, [], 0⟩
theorem zDm_ok : zDm.Ok := ⟨⟨Row.nil, fun i h => absurd h (Nat.not_lt_zero i)⟩, Row.nil, Row.nil, Row.nil, rfl, rfl, rfl, rfl, Nat.zero_le _, Nat.zero_le _, Nat.zero_le _, Nat.zero_le _⟩
theorem zDm_bd : zDm.Bd := ⟨by decide, by decide, by decide, by decide⟩
theorem hasS_sub {l k : VL} {n m : Nat} {x : UInt32} (h : SubS l n k m) (hh : hasS l n x = false) : hasS k m x = false := by
  unfold hasS at *
  rw [List.any_eq_false] at *
  intro j hj
  obtain ⟨i, h1, h2⟩ := h j (List.mem_range.1 hj)
  have := hh i (List.mem_range.2 h1)
  rw [h2]; exact this
theorem over_getD {y s : VL} {p q : Nat} (h : p + s.length ≤ y.length) (hq : q < p ∨ p + s.length ≤ q) : (over y p s).getD q (.bool false) = y.getD q (.bool false) := by
  unfold over
  rw [List.append_assoc, List.getD_eq_getElem?_getD, List.getD_eq_getElem?_getD]
  rcases hq with hq | hq
  · rw [List.getElem?_append_left (by rw [List.length_take]; omega), List.getElem?_take, if_pos hq]
  · have e1 : (y.take p).length = p := by rw [List.length_take]; omega
    rw [List.getElem?_append_right (by omega), e1, List.getElem?_append_right (by omega), List.getElem?_drop]
    congr 2
    omega
theorem drop_sub {l : VL} {k m n z : Nat} (h : m + n ≤ z) : (((l.drop k).take z).drop m).take n = (l.drop (k + m)).take n := by
  rw [List.drop_take, List.take_take, Nat.min_eq_left (by omega), List.drop_drop]
theorem overP {n i : Nat} {y s : VL} (hy : PRow n y) (hi : i < n) (hs : WU ringW s) : PRow n (over y (i * 464 + 232) s) := by
  have hyl := hy.1.1
  have h1 : (i + 1) * 464 ≤ n * 464 := Nat.mul_le_mul_right _ hi
  have hsl : s.length = 231 := hs.len
  constructor
  · rw [over_put (by omega) (by omega)]
    refine hy.1.put hi (Row.one (WT_of ?_) ?_)
    · have h0 : WU (ksP.take 21 ++ (ringW ++ [.one .nil])) ((y.drop (i * 464)).take 464) := WU_of_WT (hy.1.2 i hi)
      have h2 := h0.split.1
      have h3 := h0.split.2.split.2
      have e2 : ((y.drop (i * 464)).take 464).take (szTK (ksP.take 21)) = (y.drop (i * 464)).take 232 := by rw [List.take_take]; rfl
      have e3 : (((y.drop (i * 464)).take 464).drop (szTK (ksP.take 21))).drop (szTK ringW) = ((y.drop (i * 464)).drop (232 + s.length)).take (464 - (232 + s.length)) := by
        rw [List.drop_drop, List.drop_take, hsl]; rfl
      rw [e2] at h2
      rw [e3] at h3
      exact h2.app (hs.app h3)
    · simp [hsl]; omega
  · intro j hj
    have h2 : (j + 1) * 464 ≤ n * 464 := Nat.mul_le_mul_right _ hj
    have h0 := hy.2 j hj
    rw [getD_sub (by omega)] at h0 ⊢
    rw [over_getD (by omega) ?_]
    · exact h0
    · rcases Nat.lt_or_ge i j with h | h
      · have := Nat.mul_le_mul_right 464 (show i + 1 ≤ j from h); omega
      · have := Nat.mul_le_mul_right 464 (show j ≤ i from h); omega
noncomputable def gInst : SpecH := fun args => match args with
  | [.w (.agg cs), .w (.agg [.vec (.n 32) (.u8 _)]), .w (.agg cn), .w (.s (.b _))] => match dmOf cs, snOf cn with
    | some d, some _ => some ([d.Ok, d.Bd, d.ns ≤ 999, d.nt ≤ 999], HInst d)
    | _, _ => none
  | _ => none
end Go.Dae
namespace Go.Proofs.YtimjfjlaoekfkaaGreat
open Go Go.Eng Go.Dae
set_option maxRecDepth 100000
set_option maxHeartbeats 4000000 in
theorem lawInst (d : Dm) (k : BS) (s : Sn) (own : Bool) (hd : d.Ok) (hbd : d.Bd) (hns : d.ns ≤ 999) (hnt : d.nt ≤ 999) (hk : k.length = 32) (hs : s.Ok) :
    vcFnH EIn 200 25 [.w (.agg (dmC d)), .w (.agg [.vec (.n 32) (.u8 k)]), .w (.agg (snC s)), .s (.b own)] (HInst d) := by
  refine Eq.mpr (vcInst d k s own) ?_
  have e1 : ((1 : Nat) : Int) = 1 := rfl
  have e0 : ((0 : Nat) : Int) = 0 := rfl
  have e2 : ((2 : Nat) : Int) = 2 := rfl
  have e3 : ((3 : Nat) : Int) = 3 := rfl
  have e5 : ((5 : Nat) : Int) = 5 := rfl
  have t2 := hd.hr.all
  have t3 := hd.hs.all
  have t4 := hd.ht.all
  have hnp := hd.np
  have hnr := hd.nr
  have hc := hd.hc
  have hb := hd.hb
  have hrc := hd.hrc
  have hbk := hd.hbk
  have hdl := hd.len
  have trc : List.take d.nc d.rc = d.rc := by rw [hrc]; exact List.take_nil
  have tbk : List.take (d.nb * 19) d.bk = d.bk := by rw [hbk]; exact List.take_nil
  have hz : ∀ e : Int, ∃ a : Dm × Int, (a.1.Ok ∧ a.1.Bd ∧ a.1.ns ≤ d.ns + 1 ∧ a.1.nt ≤ d.nt + 1) ∧ a = (zDm, e) := fun e => ⟨(zDm, e), ⟨zDm_ok, zDm_bd, Nat.zero_le _, Nat.zero_le _⟩, rfl⟩
  simp only [dSm, dmL, io, e1, e0, e2, e3, e5, Int.toNat_natCast, decide_eq_true_eq, decide_eq_false_iff_not, true_and, and_true, true_implies, Nat.zero_add, dropL, t2, t3, t4, Nat.le_refl]
  refine ⟨hdl, fun _ => ⟨fun _ => ?_, fun _ => ⟨hdl, fun a ha => ⟨fun _ => ?_, fun ha0 => ⟨by omega, hd.hs, fun f hf => ⟨fun _ => ?_, fun hlo => ⟨fun _ => ?_, fun hf0 => fun b => ⟨fun _ => ?_, fun _ => ?_⟩⟩⟩⟩⟩⟩⟩⟩
  · obtain ⟨w, h1, h2⟩ := hz 13
    refine ⟨w, h1, ?_⟩
    subst h2
    and_intros <;> first | trivial | rfl
  · obtain ⟨w, h1, h2⟩ := hz 8
    refine ⟨w, h1, ?_⟩
    subst h2
    and_intros <;> first | trivial | rfl
  · obtain ⟨w, h1, h2⟩ := hz 9
    refine ⟨w, h1, ?_⟩
    subst h2
    and_intros <;> first | trivial | rfl
  · obtain ⟨w, h1, h2⟩ := hz 9
    refine ⟨w, h1, ?_⟩
    subst h2
    and_intros <;> first | trivial | rfl
  · obtain ⟨w, h1, h2⟩ := hz 1
    refine ⟨w, h1, ?_⟩
    subst h2
    and_intros <;> first | trivial | rfl
  · obtain ⟨f0, f1, f2, f3⟩ := f
    dsimp only at hf hf0
    obtain ⟨hf1, hf2⟩ := hf
    rw [hf2] at hf0
    have hlo : s.lo ≠ 0 := by
      intro h
      rw [h] at hlo
      exact absurd hlo (by decide)
    obtain ⟨ham, ha1⟩ := ha
    have hlt : a.toNat < d.np := by omega
    have hA : (a.toNat + 1) * 464 ≤ d.np * 464 := Nat.mul_le_mul_right _ hlt
    refine ⟨by omega, ⟨(0, d.ps), ⟨Nat.zero_le _, hd.hp⟩, rfl, rfl⟩, fun x hx => ⟨fun h => ?_, fun _ => ?_⟩⟩
    · obtain ⟨i, q⟩ := x
      obtain ⟨hi, hq⟩ := hx
      dsimp only at *
      have hilt : i < d.np := by omega
      have h1 : (i + 1) * 464 ≤ d.np * 464 := Nat.mul_le_mul_right _ hilt
      have hql := hq.1.1
      have hn := nil_at hq hilt
      rw [set_same hn (by omega)]
      exact ⟨⟨by omega, by omega⟩, by omega, hn, ⟨by omega, by omega⟩, by omega, by unfold InI; omega, (i + 1, q), ⟨hilt, hq⟩, by dsimp only; omega, by dsimp only; omega, rfl⟩
    · obtain ⟨_, hx⟩ := hx
      have w0 : WT ringW ((((x.2.drop (a.toNat * 464)).take 464).drop 232).take 231) := WT_sub (ksP.take 21) ringW [.one .nil] (hx.1.2 a.toNat hlt)
      rw [drop_sub (by omega)] at w0
      have ham2 : 0 ≤ a := by omega
      refine ⟨by omega, by omega, by omega, by omega, by omega, ⟨ham2, ha1⟩, fun _ => ?_, fun _ => ?_, fun y hy => ?_⟩
      · have hb := begC_ok w0 hs
        refine ⟨by omega, w0, by omega, (_, _), ⟨overP hx hlt hb.1, hb.2⟩, ?_⟩
        and_intros <;> first | trivial | rfl
      · have hb := ansC_ok w0 hs
        refine ⟨by omega, w0, by omega, (_, _), ⟨overP hx hlt hb.1, hb.2⟩, ?_⟩
        and_intros <;> first | trivial | rfl
      · obtain ⟨y, l⟩ := y
        obtain ⟨hy, hl⟩ := hy
        dsimp only at *
        have hkey : WT [.vec 32 .u8] ((y.drop (a.toNat * 464)).take 32) := by
          have h : WT [.vec 32 .u8] ((((y.drop (a.toNat * 464)).take 464).drop 0).take 32) := WT_sub [] [.vec 32 .u8] (ksP.drop 1) (hy.1.2 a.toNat hlt)
          rw [drop_sub (by omega)] at h
          exact h
        have hkl : (List.map d8 (List.take 32 (List.drop 0 (List.take 32 (List.drop (a.toNat * 464) y))))).length = 32 := by
          have := WT_len hkey
          rw [List.length_map, List.drop_zero, List.length_take, this]; rfl
        have hset : Row ksT 34 ((canL d.ts (List.map d8 (List.take 32 (List.drop 0 (List.take 32 (List.drop (a.toNat * 464) y))))) 5 d.nt).1 + 1) (setL d.ts d.nt (d.now + 3 * d.r.jt) (List.map d8 (List.take 32 (List.drop 0 (List.take 32 (List.drop (a.toNat * 464) y))))) 5) := setRow hd.ht hkl
        have hcl := (canRow (k := (List.map d8 (List.take 32 (List.drop 0 (List.take 32 (List.drop (a.toNat * 464) y)))))) (q := 5) hd.ht d.nt (Nat.le_refl _)).2
        have hj0 := hbd.jt0
        have hj1 := hbd.jt
        have hn0 := hbd.now0
        have hn1 := hbd.now
        refine ⟨fun h0 => ⟨by omega, by omega, by omega, hd.hs, fun m3 h3 => ?_⟩, fun h0 => ?_⟩
        · obtain ⟨m3, q3⟩ := m3
          obtain ⟨h31, h32, h33⟩ := h3
          dsimp only at *
          have t3a := h32.all
          have hh3 := hasS_sub h33 hf0
          rw [t3a]
          refine ⟨fun h1 => ⟨by omega, by omega, by omega, h32, fun m4 h4 => ?_⟩, fun h1 => ?_⟩
          · obtain ⟨m4, q4⟩ := m4
            obtain ⟨h41, h42, h43⟩ := h4
            dsimp only at *
            have t4a := h42.all
            have hh4 := hasS_sub h43 hh3
            rw [t4a]
            refine ⟨fun h2 => by omega, fun h2 => ?_⟩
            refine ⟨by omega, h42, hlo, hh4, hk, fun n5 h5 => ?_⟩
            obtain ⟨n5, s5, _, _⟩ := n5
            obtain ⟨h51, h52⟩ := h5
            dsimp only at h51 h52
            have t5 := h52.all
            refine ⟨by unfold InI; omega, by unfold InI; omega, ⟨ham2, ha1⟩, by omega, hkey, by omega, hd.ht, ({ d with ps := y, ns := n5, ss := s5, nt := (canL d.ts (List.map d8 (List.take 32 (List.drop 0 (List.take 32 (List.drop (a.toNat * 464) y))))) 5 d.nt).1 + 1, ts := setL d.ts d.nt (d.now + 3 * d.r.jt) (List.map d8 (List.take 32 (List.drop 0 (List.take 32 (List.drop (a.toNat * 464) y))))) 5 }, 0), ⟨⟨hy, hd.hr, h52, hset, hd.hc, hd.hrc, hd.hb, hd.hbk, hd.np, hd.nr, by dsimp only; omega, by dsimp only; omega⟩, ⟨hbd.jt0, hbd.jt, hbd.now0, hbd.now⟩, by dsimp only; omega, by dsimp only; omega⟩, ?_⟩
            and_intros <;> first | trivial | rfl | exact hy.1.all | exact t5 | exact hset.all | exact trc | exact tbk | omega
          · refine ⟨by omega, h32, hlo, hh3, hk, fun n5 h5 => ?_⟩
            obtain ⟨n5, s5, _, _⟩ := n5
            obtain ⟨h51, h52⟩ := h5
            dsimp only at h51 h52
            have t5 := h52.all
            refine ⟨by unfold InI; omega, by unfold InI; omega, ⟨ham2, ha1⟩, by omega, hkey, by omega, hd.ht, ({ d with ps := y, ns := n5, ss := s5, nt := (canL d.ts (List.map d8 (List.take 32 (List.drop 0 (List.take 32 (List.drop (a.toNat * 464) y))))) 5 d.nt).1 + 1, ts := setL d.ts d.nt (d.now + 3 * d.r.jt) (List.map d8 (List.take 32 (List.drop 0 (List.take 32 (List.drop (a.toNat * 464) y))))) 5 }, 0), ⟨⟨hy, hd.hr, h52, hset, hd.hc, hd.hrc, hd.hb, hd.hbk, hd.np, hd.nr, by dsimp only; omega, by dsimp only; omega⟩, ⟨hbd.jt0, hbd.jt, hbd.now0, hbd.now⟩, by dsimp only; omega, by dsimp only; omega⟩, ?_⟩
            and_intros <;> first | trivial | rfl | exact hy.1.all | exact t5 | exact hset.all | exact trc | exact tbk | omega
        · refine ⟨by omega, hd.hs, hlo, hf0, hk, fun n5 h5 => ?_⟩
          obtain ⟨n5, s5, _, _⟩ := n5
          obtain ⟨h51, h52⟩ := h5
          dsimp only at h51 h52
          have t5 := h52.all
          refine ⟨by unfold InI; omega, by unfold InI; omega, ⟨ham2, ha1⟩, by omega, hkey, by omega, hd.ht, ({ d with ps := y, ns := n5, ss := s5, nt := (canL d.ts (List.map d8 (List.take 32 (List.drop 0 (List.take 32 (List.drop (a.toNat * 464) y))))) 5 d.nt).1 + 1, ts := setL d.ts d.nt (d.now + 3 * d.r.jt) (List.map d8 (List.take 32 (List.drop 0 (List.take 32 (List.drop (a.toNat * 464) y))))) 5 }, 0), ⟨⟨hy, hd.hr, h52, hset, hd.hc, hd.hrc, hd.hb, hd.hbk, hd.np, hd.nr, by dsimp only; omega, by dsimp only; omega⟩, ⟨hbd.jt0, hbd.jt, hbd.now0, hbd.now⟩, by dsimp only; omega, by dsimp only; omega⟩, ?_⟩
          and_intros <;> first | trivial | rfl | exact hy.1.all | exact t5 | exact hset.all | exact trc | exact tbk | omega
theorem conInst : ConH Tryz.prog 25 gInst := by
  refine conH_of_vcl fun args ps H hg hp hl => ?_
  unfold gInst at hg
  split at hg
  · rename_i cs k cn own
    split at hg
    · rename_i d s h1 h2
      cases hg
      have h1 := dmOf_eq h1
      subst h1
      have h2 := snOf_eq h2
      subst h2
      obtain ⟨g1, hp⟩ := all_cons.1 hp
      obtain ⟨g2, hp⟩ := all_cons.1 hp
      obtain ⟨g3, hp⟩ := all_cons.1 hp
      have g4 := (all_cons.1 hp).1
      refine ⟨EIn, 200, rfl, mkEH_ok namesOk mx (gs := [(_, gRingC begC), (_, gRingC ansC), (_, gSetG)]) ⟨conBegC, conAnsC, conSetG, trivial⟩ trivial trivial (hs := [(_, gValD), (_, gSnd), (_, gFindP), (_, gFindS), (_, gTake), (_, gDrop)]) ⟨conVal, conSnd, conFindP, conFindS, conTake, conDrop, trivial⟩, lawInst d k s own g1 g2 g3 g4 hl.2.1.1 (lenSn hl.2.2.1)⟩
    · cases hg
  · cases hg
end Go.Proofs.YtimjfjlaoekfkaaGreat
