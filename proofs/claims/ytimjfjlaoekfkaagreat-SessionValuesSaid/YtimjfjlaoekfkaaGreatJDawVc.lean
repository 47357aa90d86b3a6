/- Steps towards SessionValuesSaid. -/
import Derived.Test.YtimjfjlaoekfkaaGreatJDauSpec
import Derived.Test.YtimjfjlaoekfkaaGreatBase
import Derived.Test.YtimjfjlaoekfkaaGreatJDamCon
import Derived.Test.YtimjfjlaoekfkaaGreatJDaoVc
/- A step towards SessionValuesSaid: no conditions. -/

namespace Go.Dae
open Go Go.Eng
noncomputable def JRng (_ : St) : Option Inv := some {
  α := Nat
  ok := fun a => 1 ≤ a ∧ a ≤ 4
  mu := fun a => 4 - a
  keep := [2, 3, 4]
  slots := fun a => [(5, .s (.i64 a))]
  own := fun _ => []
  ext := fun _ => [] }
end Go.Dae
namespace Go.Proofs.YtimjfjlaoekfkaaGreat
open Go Go.Eng Go.Dae
noncomputable def ERg : Env := mkE Tryz.prog [] [(0, JRng)] 3 false [] [] [(40, gSnd), (95, gGet)]
set_option maxRecDepth 100000 in
theorem vcRng (d : Dm) (l : VL) : (vcFnH ERg 200 81 [.w (.agg (dmC d)), .w (.agg [.vec (.n 464) (.va l)])] HBool) =
  ((∃ (x : Nat), (1 ≤ x ∧ x ≤ 4) ∧ false = false ∧ Int.ofNat 1 = (↑x : Int) ∧ dSm d (l = l ∧ True)) ∧ ∀ (x : Nat), 1 ≤ x ∧ x ≤ 4 → (decide ((↑x : Int) ≤ Int.ofNat 3) = true → 463 ≤ 464 ∧ WT ringW (List.take 231 (dropL l 232)) ∧ ∀ (a : Pl), a.s.Ok → (a.has = true → ∀ (a_1 : Bool), True → ((!a_1) = true → ∃ (a : Bool), True ∧ false = a ∧ True) ∧ ((!a_1) = false → ((!a.has) = true → ((!(a.has == false && (a.s.lo == (0 : UInt32) && (a.s.re == (0 : UInt32) && (a.s.sd == List.replicate 32 (0 : UInt8) && (a.s.rv == List.replicate 32 (0 : UInt8) && (a.s.nx == (0 : UInt64) && (a.s.fe == (0 : UInt64) && (a.s.wu == false && (a.s.wt == (0 : UInt64) && a.s.ww == List.replicate 4 (0 : UInt64)) && (a.s.bo == Int.ofNat 0 && a.s.ini == false)))))))))) = true → ∃ (a : Bool), True ∧ false = a ∧ True) ∧ ((!(a.has == false && (a.s.lo == (0 : UInt32) && (a.s.re == (0 : UInt32) && (a.s.sd == List.replicate 32 (0 : UInt8) && (a.s.rv == List.replicate 32 (0 : UInt8) && (a.s.nx == (0 : UInt64) && (a.s.fe == (0 : UInt64) && (a.s.wu == false && (a.s.wt == (0 : UInt64) && a.s.ww == List.replicate 4 (0 : UInt64)) && (a.s.bo == Int.ofNat 0 && a.s.ini == false)))))))))) = false → InI ((↑x : Int) + Int.ofNat 1) ∧ ∃ (y : Nat), (1 ≤ y ∧ y ≤ 4) ∧ 4 - y < 4 - x ∧ false = false ∧ (↑x : Int) + Int.ofNat 1 = (↑y : Int) ∧ dSm d (l = l ∧ True))) ∧ ((!a.has) = false → InI ((↑x : Int) + Int.ofNat 1) ∧ ∃ (y : Nat), (1 ≤ y ∧ y ≤ 4) ∧ 4 - y < 4 - x ∧ false = false ∧ (↑x : Int) + Int.ofNat 1 = (↑y : Int) ∧ dSm d (l = l ∧ True)))) ∧ (a.has = false → ((!a.has) = true → ((!(a.has == false && (a.s.lo == (0 : UInt32) && (a.s.re == (0 : UInt32) && (a.s.sd == List.replicate 32 (0 : UInt8) && (a.s.rv == List.replicate 32 (0 : UInt8) && (a.s.nx == (0 : UInt64) && (a.s.fe == (0 : UInt64) && (a.s.wu == false && (a.s.wt == (0 : UInt64) && a.s.ww == List.replicate 4 (0 : UInt64)) && (a.s.bo == Int.ofNat 0 && a.s.ini == false)))))))))) = true → ∃ (a : Bool), True ∧ false = a ∧ True) ∧ ((!(a.has == false && (a.s.lo == (0 : UInt32) && (a.s.re == (0 : UInt32) && (a.s.sd == List.replicate 32 (0 : UInt8) && (a.s.rv == List.replicate 32 (0 : UInt8) && (a.s.nx == (0 : UInt64) && (a.s.fe == (0 : UInt64) && (a.s.wu == false && (a.s.wt == (0 : UInt64) && a.s.ww == List.replicate 4 (0 : UInt64)) && (a.s.bo == Int.ofNat 0 && a.s.ini == false)))))))))) = false → InI ((↑x : Int) + Int.ofNat 1) ∧ ∃ (y : Nat), (1 ≤ y ∧ y ≤ 4) ∧ 4 - y < 4 - x ∧ false = false ∧ (↑x : Int) + Int.ofNat 1 = (↑y : Int) ∧ dSm d (l = l ∧ True))) ∧ ((!a.has) = false → InI ((↑x : Int) + Int.ofNat 1) ∧ ∃ (y : Nat), (1 ≤ y ∧ y ≤ 4) ∧ 4 - y < 4 - x ∧ false = false ∧ (↑x : Int) + Int.ofNat 1 = (↑y : Int) ∧ dSm d (l = l ∧ True)))) ∧ (decide ((↑x : Int) ≤ Int.ofNat 3) = false → ∃ (a : Bool), True ∧ true = a ∧ True)) := by kernel_rfl
end Go.Proofs.YtimjfjlaoekfkaaGreat

/- A step towards SessionValuesSaid: no conditions. -/

namespace Go.Dae
open Go Go.Eng
theorem PeerOk.len {l : VL} (h : PeerOk l) : l.length = 464 := WT_len h.1
theorem PRow.at {n i : Nat} {l : VL} (h : PRow n l) (hi : i < n) : PeerOk ((dropL l (i * 464)).take 464) := by
  rw [dropL_eq]
  exact ⟨h.1.2 i hi, h.2 i hi⟩
end Go.Dae
namespace Go.Proofs.YtimjfjlaoekfkaaGreat
open Go Go.Eng Go.Dae
set_option maxRecDepth 100000
theorem conFld : ConH Tryz.prog 79 gPB := by
  refine conH_of_vcl fun args ps H hg hp hl => ?_
  unfold gPB at hg
  split at hg
  · rename_i l
    split at hg
    · rename_i d hd
      cases hg
      have e := dmOf_eq hd
      subst e
      obtain ⟨_, hp⟩ := all_cons.1 hp
      have hq := (all_cons.1 hp).1
      have h1 := hq.1
      have g64 := WT_one (ksP.take 2) (ksP.drop 3) (k := .b) h1
      have g83 := WT_one (ksP.take 6) (ksP.drop 7) (k := .i64) h1
      have g96 := WT_one (ksP.take 8) (ksP.drop 9) (k := .b) h1
      have g97 := WT_one (ksP.take 9) (ksP.drop 10) (k := .i64) h1
      have g198 := WT_one (ksP.take 17) (ksP.drop 18) (k := .b) h1
      have g215 := WT_one (ksP.take 19) (ksP.drop 20) (k := .i64) h1
      have g463 := WT_one (ksP.take 57) [] (k := .nil) h1
      have w65 : WT [.one .b, .vec 16 .u8, .one .i64] ((dropL l 65).take 18) := by rw [dropL_eq]; exact WT_sub (ksP.take 3) [.one .b, .vec 16 .u8, .one .i64] (ksP.drop 6) h1
      have w199 : WT [.vec 16 .u8] ((dropL l 199).take 16) := by rw [dropL_eq]; exact WT_sub (ksP.take 18) [.vec 16 .u8] (ksP.drop 19) h1
      have s65 : dB (((dropL l 65).take 18).getD 0 (.bool false)) = false := by rw [dropL_eq, getD_sub (by omega)]; exact hq.2
      refine ⟨EFl, 200, rfl, mkEH_ok namesOk mx (gs := []) trivial trivial trivial (hs := [(_, gFen), (_, gPast), (_, gTimed)]) ⟨conFen, conPast, conTimed, trivial⟩, Eq.mpr (vcFld d l) ?_⟩
      change l.getD 64 (.bool false) = .bool (dB (l.getD 64 (.bool false))) at g64
      change l.getD 83 (.bool false) = ei64 (dI (l.getD 83 (.bool false))) at g83
      change l.getD 96 (.bool false) = .bool (dB (l.getD 96 (.bool false))) at g96
      change l.getD 97 (.bool false) = ei64 (dI (l.getD 97 (.bool false))) at g97
      change l.getD 198 (.bool false) = .bool (dB (l.getD 198 (.bool false))) at g198
      change l.getD 215 (.bool false) = ei64 (dI (l.getD 215 (.bool false))) at g215
      change l.getD 463 (.bool false) = .slice none 0 0 at g463
      clear h1 hq hp hd hl
      repeat' first
        | exact ⟨_, trivial, rfl, trivial⟩
        | exact g64 | exact g83 | exact g96 | exact g97 | exact g198 | exact g215 | exact g463 | exact w65 | exact w199 | exact s65
        | refine ⟨?_, ?_⟩
        | intro h
        | omega
    · cases hg
  · cases hg
theorem conHnd : ConH Tryz.prog 80 gPB := by
  refine conH_of_vcl fun args ps H hg hp hl => ?_
  unfold gPB at hg
  split at hg
  · rename_i l
    split at hg
    · rename_i d hd
      cases hg
      have e := dmOf_eq hd
      subst e
      obtain ⟨_, hp⟩ := all_cons.1 hp
      have hq := (all_cons.1 hp).1
      have h1 := hq.1
      have g64 := WT_one (ksP.take 2) (ksP.drop 3) (k := .b) h1
      have w98 : WT ksHand ((dropL l 98).take 100) := by rw [dropL_eq]; exact WT_sub (ksP.take 10) ksHand (ksP.drop 17) h1
      refine ⟨EHd, 200, rfl, mkEH_ok namesOk mx (gs := []) trivial trivial trivial (hs := [(_, gPast), (_, gSnd), (_, gGet)]) ⟨conPast, conSnd, conGet, trivial⟩, Eq.mpr (vcHnd d l) ?_⟩
      change l.getD 64 (.bool false) = .bool (dB (l.getD 64 (.bool false))) at g64
      clear h1 hq hp hd hl
      repeat' first
        | exact ⟨_, trivial, rfl, trivial⟩
        | exact g64 | exact w98
        | refine ⟨?_, ?_⟩
        | intro h
        | omega
    · cases hg
  · cases hg
theorem conRng : ConH Tryz.prog 81 gPB := by
  refine conH_of_vcl fun args ps H hg hp hl => ?_
  unfold gPB at hg
  split at hg
  · rename_i l
    split at hg
    · rename_i d hd
      cases hg
      have e := dmOf_eq hd
      subst e
      obtain ⟨_, hp⟩ := all_cons.1 hp
      have hq := (all_cons.1 hp).1
      have h1 := hq.1
      have w232 : WT ringW ((dropL l 232).take 231) := by rw [dropL_eq]; exact WT_sub (ksP.take 21) ringW [.one .nil] h1
      refine ⟨ERg, 200, rfl, mkEH_ok namesOk mx (gs := []) trivial trivial trivial (hs := [(_, gSnd), (_, gGet)]) ⟨conSnd, conGet, trivial⟩, Eq.mpr (vcRng d l) ?_⟩
      clear h1 hq hp hd hl
      have e1 : ((1 : Nat) : Int) = 1 := rfl
      have e3 : ((3 : Nat) : Int) = 3 := rfl
      simp only [dSm, dmL, io, e1, e3]
      refine ⟨⟨1, by omega, by and_intros <;> first | trivial | rfl⟩, fun i hi => ⟨fun h => ?_, fun h => ⟨_, trivial, rfl, trivial⟩⟩⟩
      have hlt : i ≤ 3 := by have := of_decide_eq_true h; omega
      have hI : InI ((i : Int) + 1) := by unfold InI; omega
      repeat' first
        | exact ⟨_, trivial, rfl, trivial⟩
        | exact w232
        | exact ⟨hI, i + 1, ⟨by omega, by omega⟩, by omega, by and_intros <;> first | trivial | rfl⟩
        | refine ⟨?_, ?_⟩
        | intro h
        | omega
    · cases hg
  · cases hg
end Go.Proofs.YtimjfjlaoekfkaaGreat

/- A step towards SessionValuesSaid: no conditions. -/

namespace Go.Proofs.YtimjfjlaoekfkaaGreat
open Go Go.Eng Go.Dae
noncomputable def ERo : Env := mkE Tryz.prog [] [(0, JRow 6 8 [1, 2, 7])] 3 false [] [] [(38, gFindP), (82, gVRo)]
set_option maxRecDepth 100000 in
theorem vcRou (d : Dm) : (vcFnH ERo 200 72 [.w (.agg (dmC d))] HBool) =
  ((∃ (x : Nat), x ≤ d.nr ∧ false = false ∧ d.nr = d.nr ∧ d.rs = d.rs ∧ (↑d.nr : Int) = (↑d.nr : Int) ∧ Int.ofNat 0 = (↑x : Int) ∧ dSm d (True)) ∧ ∀ (x : Nat), x ≤ d.nr → (decide ((↑x : Int) < (↑d.nr : Int)) = true → ((0 : Int) ≤ (↑x : Int) ∧ (↑x : Int) < (↑d.nr : Int)) ∧ (↑x : Int).toNat * 50 + 50 ≤ List.length d.rs ∧ WT [TK.one Kd.b, TK.vec 16 Kd.u8, TK.one Kd.i64, TK.vec 32 Kd.u8] (List.take 50 (dropL d.rs ((↑x : Int).toNat * 50))) ∧ (dmL d).Ok ∧ ∀ (a : Int), (-1 : Int) ≤ a ∧ a < (↑(dmL d).np : Int) → (decide (a < Int.ofNat 0) = true → ∃ (a : Bool), True ∧ false = a ∧ True) ∧ (decide (a < Int.ofNat 0) = false → InI ((↑x : Int) + Int.ofNat 1) ∧ ∃ (y : Nat), y ≤ d.nr ∧ d.nr - y < d.nr - x ∧ false = false ∧ d.nr = d.nr ∧ d.rs = d.rs ∧ (↑d.nr : Int) = (↑d.nr : Int) ∧ (↑x : Int) + Int.ofNat 1 = (↑y : Int) ∧ dSm d (True))) ∧ (decide ((↑x : Int) < (↑d.nr : Int)) = false → d.nr ≤ 100000 ∧ Row ksR 50 d.nr d.rs ∧ ∀ (a : Bool), True → ∃ (a_1 : Bool), True ∧ a = a_1 ∧ True)) := by kernel_rfl
end Go.Proofs.YtimjfjlaoekfkaaGreat

/- A step towards SessionValuesSaid: no conditions. -/

namespace Go.Proofs.YtimjfjlaoekfkaaGreat
open Go Go.Eng Go.Dae
set_option maxRecDepth 100000
theorem conHas : Con Tryz.prog 86 gHas := by
  refine con_of_vcs fun args ps res hg hp => ?_
  unfold gHas at hg
  split at hg
  · rename_i n l k q
    cases hg
    obtain ⟨hn, hp⟩ := all_cons.1 hp
    obtain ⟨hr, _⟩ := all_cons.1 hp
    refine ⟨EHas l n k q, 200, rfl, eok (gs := []) trivial, Eq.mpr (vcHas n l k q) ?_⟩
    have e1 : ((1 : Nat) : Int) = 1 := rfl
    simp only [dSm, dmL, io, e1, Int.toNat_natCast, h81]
    refine ⟨⟨0, ⟨Nat.zero_le _, fun j h => by omega⟩, by and_intros <;> first | trivial | rfl⟩, fun i ⟨hi, hall⟩ => ⟨fun hd => ?_, fun hd => ⟨?_, trivial⟩⟩⟩
    · have hlt : i < n := by have := of_decide_eq_true hd; omega
      obtain ⟨a1, a2, a3⟩ := hr.at hlt
      have hI : InI ((i : Int) + 1) := by unfold InI; omega
      have go : isT l k q i = false → ∃ y, (y ≤ n ∧ ∀ j, j < y → isT l k q j = false) ∧ n - y < n - i ∧ True ∧ True ∧ True ∧ True ∧ True ∧ (i : Int) + 1 = (y : Int) ∧ True ∧ True := fun hf => by
        refine ⟨i + 1, ⟨hlt, fun j hj => ?_⟩, by omega, trivial, trivial, trivial, trivial, trivial, by omega, trivial, trivial⟩
        rcases Nat.lt_or_ge j i with h | h
        · exact hall j h
        · have : j = i := by omega
          subst this
          exact hf
      refine ⟨by omega, a1, a2, fun h1 => ⟨fun h2 => ⟨?_, trivial⟩, fun h2 => ⟨hI, ?_⟩⟩, fun h1 => ⟨hI, ?_⟩⟩
      · symm
        unfold hasT
        rw [List.any_eq_true]
        refine ⟨i, List.mem_range.2 hlt, ?_⟩
        unfold isT
        rw [show (kyT l i == k) = true from h1, show decide (dI ((elT l i).getD 33 (.bool false)) = q) = true from h2]; rfl
      · have hf : isT l k q i = false := by
          unfold isT
          rw [show decide (dI ((elT l i).getD 33 (.bool false)) = q) = false from h2, Bool.and_false]
        obtain ⟨y, g1, g2, _, _, _, _, _, g3, _⟩ := go hf
        refine ⟨y, g1, g2, ?_⟩
        and_intros <;> first | trivial | rfl | exact g3
      · have hf : isT l k q i = false := by
          unfold isT
          rw [show (kyT l i == k) = false from h1, Bool.false_and]
        obtain ⟨y, g1, g2, _, _, _, _, _, g3, _⟩ := go hf
        refine ⟨y, g1, g2, ?_⟩
        and_intros <;> first | trivial | rfl | exact g3
    · have h12 : i = n := by have := of_decide_eq_false hd; omega
      subst h12
      symm
      unfold hasT
      rw [List.any_eq_false]
      intro j hj
      rw [hall j (List.mem_range.1 hj)]
      decide
  · cases hg
end Go.Proofs.YtimjfjlaoekfkaaGreat
