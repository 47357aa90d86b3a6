/- Steps towards SessionValuesSaid. -/
import Derived.Test.YtimjfjlaoekfkaaGreatJDawVc
/- A step towards SessionValuesSaid: no conditions. -/

namespace Go.Proofs.YtimjfjlaoekfkaaGreat
open Go Go.Eng Go.Dae
set_option maxRecDepth 100000
theorem conVTi : ConH Tryz.prog 85 gVTi := by
  refine conH_of_vcl fun args ps H hg hp hl => ?_
  unfold gVTi at hg
  split at hg
  · rename_i n l
    cases hg
    obtain ⟨hn, hp⟩ := all_cons.1 hp
    obtain ⟨hr, _⟩ := all_cons.1 hp
    have hrl := hr.1
    refine ⟨EVt, 200, rfl, eok (gs := [(_, gLessT)]) ⟨conLessT, trivial⟩, Eq.mpr (vcVTi n l) ?_⟩
    have e1 : ((1 : Nat) : Int) = 1 := rfl
    have e0 : ((0 : Nat) : Int) = 0 := rfl
    simp only [dSm, dmL, io, e1, e0, Int.toNat_natCast, Nat.sub_zero]
    refine ⟨⟨0, Nat.zero_le _, by and_intros <;> first | trivial | rfl⟩, fun i hi => ⟨fun h => ?_, fun h => ⟨_, trivial, rfl, trivial⟩⟩⟩
    have hlt : i < n := by have := of_decide_eq_true h; omega
    obtain ⟨a1, a2, a3⟩ := hr.at hlt
    have hI : InI ((i : Int) + 1) := by unfold InI; omega
    have ht := hr.take i hi
    have htl := ht.1
    have inner : ∀ x, x ≤ i → x < i → (x * 34 + 34 ≤ (l.take (i * 34)).length ∧ WT ksT ((dropL (l.take (i * 34)) (x * 34)).take 34)) := fun x _ hx => ⟨(ht.at hx).1, (ht.at hx).2.1⟩
    refine ⟨by omega, a1, a2, fun _ => ⟨_, trivial, rfl, trivial⟩, fun _ => ⟨fun _ => ⟨_, trivial, rfl, trivial⟩, fun _ => ⟨fun _ => ⟨_, trivial, rfl, trivial⟩, fun _ => ⟨fun _ => ⟨_, trivial, rfl, trivial⟩, fun _ => ⟨fun h0 => ?_, fun h0 => ?_⟩⟩⟩⟩⟩
    · have h0 : 0 < i := by have := of_decide_eq_true h0; omega
      have ei : ((i : Int) - 1).toNat = i - 1 := by omega
      obtain ⟨b1, b2, b3⟩ := hr.at (show i - 1 < n by omega)
      rw [ei]
      refine ⟨by unfold InI; omega, by omega, b1, b2, fun _ => ⟨_, trivial, rfl, trivial⟩, fun _ => ⟨by omega, ⟨0, Nat.zero_le _, by and_intros <;> first | trivial | rfl⟩, fun x hx => ⟨fun h2 => ?_, fun h2 => ⟨hI, i + 1, hlt, by omega, ?_⟩⟩⟩⟩
      · have hxl : x < i := by have := of_decide_eq_true h2; omega
        have hI2 : InI ((x : Int) + 1) := by unfold InI; omega
        refine ⟨by omega, (inner x hx hxl).1, (inner x hx hxl).2, fun _ => ⟨fun _ => ⟨_, trivial, rfl, trivial⟩, fun _ => ⟨hI2, x + 1, hxl, by omega, ?_⟩⟩, fun _ => ⟨hI2, x + 1, hxl, by omega, ?_⟩⟩
        · and_intros <;> first | trivial | rfl
        · and_intros <;> first | trivial | rfl
      · and_intros <;> first | trivial | rfl
    · refine ⟨by omega, ⟨0, Nat.zero_le _, by and_intros <;> first | trivial | rfl⟩, fun x hx => ⟨fun h2 => ?_, fun h2 => ⟨hI, i + 1, hlt, by omega, ?_⟩⟩⟩
      · have hxl : x < i := by have := of_decide_eq_true h2; omega
        have hI2 : InI ((x : Int) + 1) := by unfold InI; omega
        refine ⟨by omega, (inner x hx hxl).1, (inner x hx hxl).2, fun _ => ⟨fun _ => ⟨_, trivial, rfl, trivial⟩, fun _ => ⟨hI2, x + 1, hxl, by omega, ?_⟩⟩, fun _ => ⟨hI2, x + 1, hxl, by omega, ?_⟩⟩
        · and_intros <;> first | trivial | rfl
        · and_intros <;> first | trivial | rfl
      · and_intros <;> first | trivial | rfl
  · cases hg
end Go.Proofs.YtimjfjlaoekfkaaGreat

/- A step towards SessionValuesSaid: no conditions. -/

namespace Go.Dae
open Go Go.Eng
theorem Dm.Ok.len {d : Dm} (h : d.Ok) : (Dm.mk d.r d.priv d.pub d.port d.rnd d.now d.np d.ps d.nr d.rs d.ns d.ss d.nt d.ts d.sec d.sat d.rc.length d.rc d.nb d.bk d.bad).Ok :=
  ⟨h.hp, h.hr, h.hs, h.ht, by dsimp only; rw [h.hrc]; rfl, h.hrc, h.hb, h.hbk, h.np, h.nr, h.ns, h.nt⟩
end Go.Dae
namespace Go.Proofs.YtimjfjlaoekfkaaGreat
open Go Go.Eng Go.Dae
set_option maxRecDepth 100000
theorem conRou : ConH Tryz.prog 72 gPeers := by
  refine conH_of_vcl fun args ps H hg hp hl => ?_
  unfold gPeers at hg
  split at hg
  · split at hg
    · rename_i d hd
      cases hg
      have e := dmOf_eq hd
      subst e
      have hd := (all_cons.1 hp).1
      have hr := hd.hr
      have hnr := hd.nr
      have hrl := hr.1
      refine ⟨ERo, 200, rfl, mkEH_ok namesOk mx (gs := []) trivial trivial trivial (hs := [(_, gFindP), (_, gVRo)]) ⟨conFindP, conVRo, trivial⟩, Eq.mpr (vcRou d) ?_⟩
      have e1 : ((1 : Nat) : Int) = 1 := rfl
      have e0 : ((0 : Nat) : Int) = 0 := rfl
      simp only [dSm, dmL, io, e1, e0, Int.toNat_natCast]
      refine ⟨⟨0, Nat.zero_le _, by and_intros <;> first | trivial | rfl⟩, fun i hi => ⟨fun h => ?_, fun h => ⟨by omega, hr, fun a _ => ⟨a, trivial, rfl, trivial⟩⟩⟩⟩
      have hlt : i < d.nr := by have := of_decide_eq_true h; omega
      obtain ⟨a1, a2, a3⟩ := hr.at hlt
      have hI : InI ((i : Int) + 1) := by unfold InI; omega
      refine ⟨by omega, a1, a2, hd.len, fun a ha => ⟨fun _ => ⟨_, trivial, rfl, trivial⟩, fun _ => ⟨hI, i + 1, hlt, by omega, ?_⟩⟩⟩
      and_intros <;> first | trivial | rfl
    · cases hg
  · cases hg
end Go.Proofs.YtimjfjlaoekfkaaGreat

/- A step towards SessionValuesSaid: no conditions. -/

namespace Go.Proofs.YtimjfjlaoekfkaaGreat
open Go Go.Eng Go.Dae
noncomputable def ELd : Env := mkE Tryz.prog [(52, gSound), (55, gLess)] [(0, JRow 25 27 [1, 2, 26]), (2, JRow 52 54 [1, 2, 53])] 3 false
set_option maxRecDepth 100000 in
theorem vcLd (d : Dm) : (vcFnH ELd 200 75 [.w (.agg (dmC d))] HBool) =
  ((decide (Int.ofNat 0 ≤ d.sat) = true → ((!decide (d.sat ≤ d.now)) = true → ∃ (a : Bool), True ∧ false = a ∧ True) ∧ ((!decide (d.sat ≤ d.now)) = false → (decide (Int.ofNat 64 < (↑d.nc : Int)) = true → ∃ (a : Bool), True ∧ false = a ∧ True) ∧ (decide (Int.ofNat 64 < (↑d.nc : Int)) = false → (decide (Int.ofNat 16 < (↑d.nb : Int)) = true → ∃ (a : Bool), True ∧ false = a ∧ True) ∧ (decide (Int.ofNat 16 < (↑d.nb : Int)) = false → (∃ (x : Nat), x ≤ d.nc ∧ false = false ∧ d.nc = d.nc ∧ d.rc = d.rc ∧ (↑d.nc : Int) = (↑d.nc : Int) ∧ Int.ofNat 0 = (↑x : Int) ∧ dSm d (dSm d (True))) ∧ ∀ (x : Nat), x ≤ d.nc → (decide ((↑x : Int) < (↑d.nc : Int)) = true → ((0 : Int) ≤ (↑x : Int) ∧ (↑x : Int) < (↑d.nc : Int)) ∧ (↑x : Int).toNat < List.length d.rc ∧ False) ∧ (decide ((↑x : Int) < (↑d.nc : Int)) = false → (∃ (x : Nat), x ≤ d.nb ∧ false = false ∧ d.nb = d.nb ∧ d.bk = d.bk ∧ (↑d.nb : Int) = (↑d.nb : Int) ∧ Int.ofNat 0 = (↑x : Int) ∧ dSm d (dSm d (True))) ∧ ∀ (x : Nat), x ≤ d.nb → (decide ((↑x : Int) < (↑d.nb : Int)) = true → ((0 : Int) ≤ (↑x : Int) ∧ (↑x : Int) < (↑d.nb : Int)) ∧ (↑x : Int).toNat * 19 + 19 ≤ List.length d.bk ∧ WT [TK.one Kd.b, TK.vec 16 Kd.u8, TK.one Kd.i64, TK.one Kd.i64] (List.take 19 (dropL d.bk ((↑x : Int).toNat * 19))) ∧ ((!soundP (dB ((List.take 19 (dropL d.bk ((↑x : Int).toNat * 19))).getD 0 (Value.bool false))) (List.map d8 (List.take 16 (List.drop 1 (List.take 19 (dropL d.bk ((↑x : Int).toNat * 19))))))) = true → ∃ (a : Bool), True ∧ false = a ∧ True) ∧ ((!soundP (dB ((List.take 19 (dropL d.bk ((↑x : Int).toNat * 19))).getD 0 (Value.bool false))) (List.map d8 (List.take 16 (List.drop 1 (List.take 19 (dropL d.bk ((↑x : Int).toNat * 19))))))) = false → False)) ∧ (decide ((↑x : Int) < (↑d.nb : Int)) = false → ∃ (a : Bool), True ∧ true = a ∧ True)))))) ∧ (decide (Int.ofNat 0 ≤ d.sat) = false → ∃ (a : Bool), True ∧ false = a ∧ True)) := by kernel_rfl
end Go.Proofs.YtimjfjlaoekfkaaGreat

/- A step towards SessionValuesSaid: no conditions. -/

namespace Go.Proofs.YtimjfjlaoekfkaaGreat
open Go Go.Eng Go.Dae
set_option maxRecDepth 100000
theorem conLd : ConH Tryz.prog 75 gPeers := by
  refine conH_of_vcl fun args ps H hg hp hl => ?_
  unfold gPeers at hg
  split at hg
  · split at hg
    · rename_i d hd
      cases hg
      have e := dmOf_eq hd
      subst e
      have hd := (all_cons.1 hp).1
      have hc := hd.hc
      have hb := hd.hb
      refine ⟨ELd, 200, rfl, eok (gs := [(_, gSound), (_, gLess)]) ⟨conSound, conLess, trivial⟩, Eq.mpr (vcLd d) ?_⟩
      simp only [dSm, dmL, io]
      refine ⟨fun _ => ⟨fun _ => ⟨_, trivial, rfl, trivial⟩, fun _ => ⟨fun _ => ⟨_, trivial, rfl, trivial⟩, fun _ => ⟨fun _ => ⟨_, trivial, rfl, trivial⟩, fun _ => ⟨⟨0, Nat.zero_le _, by and_intros <;> first | trivial | rfl⟩, fun i hi => ⟨fun h => ?_, fun _ => ⟨⟨0, Nat.zero_le _, by and_intros <;> first | trivial | rfl⟩, fun j hj => ⟨fun h => ?_, fun _ => ⟨_, trivial, rfl, trivial⟩⟩⟩⟩⟩⟩⟩⟩, fun _ => ⟨_, trivial, rfl, trivial⟩⟩
      · have := of_decide_eq_true h; omega
      · have := of_decide_eq_true h; omega
    · cases hg
  · cases hg
end Go.Proofs.YtimjfjlaoekfkaaGreat
