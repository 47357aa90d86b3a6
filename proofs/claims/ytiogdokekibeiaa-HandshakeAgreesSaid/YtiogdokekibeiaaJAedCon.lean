/- Steps towards HandshakeAgreesSaid. -/
import Derived.Test.YtiogdokekibeiaaJHapVc
import Derived.Test.YtiogdokekibeiaaJCodVc
import Derived.Test.YtiogdokekibeiaaJPolVc
import Derived.Test.YtiogdokekibeiaaJBlaSpec
import Derived.Test.YtiogdokekibeiaaBase
/- A step towards HandshakeAgreesSaid: no conditions. -/

namespace Go.Proofs.Ytiogdokekibeiaa
open Go Go.Eng Go.Cod Go.Cha Go.Pol Go.Aed
theorem dif_zero {a b : List UInt8} (h : a.length = b.length) : ∀ {i}, i ≤ a.length → (dif a b i = 0 ↔ a.take i = b.take i)
  | 0, _ => by simp [dif]
  | i + 1, hi => by
    have ih := dif_zero h (i := i) (by omega)
    rw [dif, UInt8.or_eq_zero_iff, UInt8.xor_eq_zero_iff, ih, List.take_add_one, List.take_add_one, List.getElem?_eq_getElem (show i < a.length by omega), List.getElem?_eq_getElem (show i < b.length by omega)]
    rw [List.getD_eq_getElem?_getD, List.getD_eq_getElem?_getD, List.getElem?_eq_getElem (show i < a.length by omega), List.getElem?_eq_getElem (show i < b.length by omega)]
    constructor
    · rintro ⟨h1, h2⟩
      rw [h1]
      simp only [Option.getD_some] at h2
      rw [h2]
    · intro h1
      have hl : (a.take i).length = (b.take i).length := by rw [List.length_take, List.length_take]; omega
      obtain ⟨h2, h3⟩ := List.append_inj h1 hl
      exact ⟨h2, by simpa using h3⟩
theorem inI_lt {x : Nat} (h : x < 4611686018427387904) : InI ((x : Int) + Int.ofNat 1) := by
  show InI ((x : Int) + 1)
  unfold InI; omega
theorem beq_ff {a b : List UInt8} (h : a ≠ b) : (a == b) = false := by simpa using h
set_option maxRecDepth 100000 in
theorem conEqual : Con Try.prog 66 gEqual := con_of_vcs fun args ps res h hp => by
  unfold gEqual at h
  split at h <;> cases h
  rename_i m a n b
  obtain ⟨rfl, hp1⟩ := all_cons.1 hp
  obtain ⟨rfl, hp2⟩ := all_cons.1 hp1
  have ha := (all_cons.1 hp2).1
  refine ⟨AEe, 100, rfl, eok (gs := []) trivial, ?_⟩
  rw [vcEqual a b]
  refine ⟨fun hd => ⟨?_, trivial⟩, fun hd => ?_⟩
  · have hd := of_decide_eq_true hd
    refine (beq_ff fun e => hd ?_).symm
    rw [e]
  · have hd := of_decide_eq_false hd
    have hl : a.length = b.length := by omega
    refine ⟨⟨0, by omega, rfl, rfl, rfl, rfl, rfl, rfl, rfl, trivial⟩, fun x hx => ⟨fun hx2 => ?_, fun hx2 => ?_⟩⟩
    · have hx2 := of_decide_eq_true hx2
      rw [Int.toNat_natCast]
      exact ⟨by omega, by omega, by omega, by omega, inI_lt (by omega), x + 1, by omega, by omega, rfl, rfl, rfl, rfl, rfl, rfl, rfl, trivial⟩
    · have hx2 := of_decide_eq_false hx2
      have hxe : x = a.length := by omega
      subst hxe
      refine ⟨?_, trivial⟩
      have := dif_zero hl (i := a.length) (Nat.le_refl _)
      rw [List.take_length, List.take_of_length_le (by omega)] at this
      by_cases e : a = b
      · rw [this.2 e, beq_iff_eq.2 e]; rfl
      · rw [beq_ff e]
        have : ¬ dif a b a.length = 0 := fun h => e (this.1 h)
        simpa using this
theorem zp_int (n : Nat) : (Int.ofNat 16 - (n : Int).tmod (Int.ofNat 16)).tmod (Int.ofNat 16) = ((zp n : Nat) : Int) := by
  have e : Int.ofNat 16 - (n : Int).tmod (Int.ofNat 16) = ((16 - n % 16 : Nat) : Int) := by
    show (16 : Int) - ((n % 16 : Nat) : Int) = _
    omega
  rw [e]; rfl
theorem zp_le (n : Nat) : zp n ≤ 15 := by unfold zp; omega
theorem zerosL_len (n : Nat) : (zerosL n).length = zp n := List.length_replicate ..
set_option maxRecDepth 100000 in
theorem conFilled : Con Try.prog 73 gFilled := con_of_vcs fun args ps res h hp => by
  unfold gFilled at h
  split at h <;> cases h
  rename_i m b
  obtain ⟨rfl, hp⟩ := all_cons.1 hp
  refine ⟨AE0, 100, rfl, eok (gs := []) trivial, ?_⟩
  rw [vcFilled b]
  have hz := zp_le b.length
  have hi : InI (Int.ofNat 16 - (b.length : Int).tmod (Int.ofNat 16)) := by
    have e : Int.ofNat 16 - (b.length : Int).tmod (Int.ofNat 16) = ((16 - b.length % 16 : Nat) : Int) := by
      show (16 : Int) - ((b.length % 16 : Nat) : Int) = _
      omega
    rw [e]; unfold InI; omega
  rw [zp_int, Int.toNat_natCast, dropL_zero, dropL_zero]
  exact ⟨by decide, hi, by decide, by omega, by omega, rfl, by omega, rfl, List.take_of_length_le (by rw [List.length_replicate]; exact Nat.le_refl _), trivial⟩
theorem little8 (x : UInt64) : [(shr64 x 0).toUInt8, (shr64 x 8).toUInt8, (shr64 x 16).toUInt8, (shr64 x 24).toUInt8, (shr64 x 32).toUInt8, (shr64 x 40).toUInt8, (shr64 x 48).toUInt8, (shr64 x 56).toUInt8] = littleL x 8 := rfl
theorem flat6 (a b c d e f : List UInt8) : [a, b, c, d, e, f].flatten = a ++ (b ++ (c ++ (d ++ (e ++ f)))) := by simp
theorem flat2 (a b : List UInt8) : [a, b].flatten = a ++ b := by simp
theorem macL_len (c m : List UInt8) : (macL c m).length ≤ m.length + c.length + 46 := by
  have h1 := zp_le m.length
  have h2 := zp_le c.length
  unfold macL
  simp only [List.length_append, zerosL_len, littleL_len]
  omega
theorem polyL_len (k d : List UInt8) : (polyL k d).length = 16 := by unfold polyL; rw [List.length_append, littleL_len, littleL_len]
theorem tagL_len (k n c m : List UInt8) : (tagL k n c m).length = 16 := polyL_len ..
set_option maxRecDepth 100000 in
theorem conTag : Con Try.prog 65 gTag := con_of_vcs fun args ps res h hp => by
  unfold gTag at h
  split at h <;> cases h
  rename_i k n u c v m
  obtain ⟨rfl, hp1⟩ := all_cons.1 hp
  obtain ⟨rfl, hp2⟩ := all_cons.1 hp1
  obtain ⟨hc, hp3⟩ := all_cons.1 hp2
  have hm := (all_cons.1 hp3).1
  refine ⟨AEt, 200, rfl, eok (gs := [(71, gBlock), (73, gFilled), (60, gLittleN), (44, gJoin), (72, gPoly)]) ⟨conBlock, conFilled, conLittleN4, conJoin, conPoly, trivial⟩, ?_⟩
  rw [vcTag k n c m]
  have t : ∀ q, List.take (zp q) (zerosL q) = zerosL q := fun q => List.take_of_length_le (by rw [zerosL_len]; exact Nat.le_refl _)
  have hl := macL_len c m
  have e : m ++ (zerosL m.length ++ (c ++ (zerosL c.length ++ (littleL (to64 m.length) 8 ++ littleL (to64 c.length) 8)))) = macL c m := rfl
  simp only [forall_eq, true_and, and_true, dropL_zero, Nat.zero_add, little8, t, flat6, e, List.take_length, Nat.le_refl]
  refine ⟨by decide, by omega, by omega, rfl, by decide, by omega, by omega, rfl⟩
theorem sealL_len (k n p m : List UInt8) : (sealL k n p m).length = p.length + 16 := by unfold sealL; rw [List.length_append, tagL_len, xorL_len]
set_option maxRecDepth 100000 in
theorem conSeal : Con Try.prog 54 gSeal := con_of_vcs fun args ps res h hp => by
  unfold gSeal at h
  split at h <;> cases h
  rename_i k n u p v m
  obtain ⟨rfl, hp1⟩ := all_cons.1 hp
  obtain ⟨rfl, hp2⟩ := all_cons.1 hp1
  obtain ⟨hc, hp3⟩ := all_cons.1 hp2
  have hm := (all_cons.1 hp3).1
  refine ⟨AEs, 200, rfl, eok (gs := [(64, gXor), (65, gTag), (44, gJoin)]) ⟨conXor, conTag, conJoin, trivial⟩, ?_⟩
  rw [vcSeal k n p m]
  have t : List.take p.length (xorL k n (UInt32.ofNat 1) p) = xorL k n 1 p := List.take_of_length_le (by rw [xorL_len]; exact Nat.le_refl _)
  have e : xorL k n 1 p ++ tagL k n (xorL k n 1 p) m = sealL k n p m := rfl
  simp only [forall_eq, true_and, and_true, dropL_zero, Nat.zero_add, t, flat2, e, List.take_length, Nat.le_refl, xorL_len, sealL_len]
  refine ⟨by omega, hc, hm, rfl, by decide, by omega⟩
set_option maxRecDepth 100000 in
theorem conOpen : Con Try.prog 56 gOpen := con_of_vcs fun args ps res h hp => by
  unfold gOpen at h
  split at h <;> cases h
  rename_i k n u s v m
  obtain ⟨rfl, hp1⟩ := all_cons.1 hp
  obtain ⟨rfl, hp2⟩ := all_cons.1 hp1
  obtain ⟨hc, hp3⟩ := all_cons.1 hp2
  have hm := (all_cons.1 hp3).1
  refine ⟨AEo, 200, rfl, eok (gs := [(64, gXor), (65, gTag), (66, gEqual)]) ⟨conXor, conTag, conEqual, trivial⟩, ?_⟩
  rw [vcOpen k n s m]
  intro y hy
  refine ⟨fun hd => ?_, fun hd y0 hy0 => ⟨?_, fun y1 hy1 => ?_⟩⟩
  · have hd := of_decide_eq_true hd
    have h16 : s.length < 16 := by have : y < 16 := hd; omega
    have e : openE k n s m = 2 := by unfold openE; rw [if_pos h16]
    have e2 : openL k n s m = [] := by unfold openL; rw [e]; rfl
    rw [e, e2]
    exact ⟨rfl, rfl, rfl, trivial⟩
  · subst hy0
    show InI ((s.length : Int) - 16)
    unfold InI; omega
  · have hd := of_decide_eq_false hd
    have h16 : ¬ s.length < 16 := by have : ¬ y < 16 := hd; omega
    have hy1' : y1 = ((s.length - 16 : Nat) : Int) := by
      rw [hy1, hy0]
      show (s.length : Int) - 16 = _
      omega
    subst hy1'
    rw [Int.toNat_natCast]
    have l1 : (s.take (s.length - 16)).length = s.length - 16 := by rw [List.length_take]; omega
    have l2 : (s.drop (s.length - 16)).length ≤ s.length := by rw [List.length_drop]; omega
    refine ⟨by omega, rfl, rfl, by omega, hm, fun z hz z2 hz2 => ⟨by omega, rfl, rfl, by rw [hz2, hz, tagL_len]; decide, by omega, fun hd => ?_, fun hd => ?_⟩⟩
    · rw [hz2, hz] at hd
      have hne : tagL k n (s.take (s.length - 16)) m ≠ s.drop (s.length - 16) := by simpa using hd
      have e : openE k n s m = 6 := by unfold openE; rw [if_neg h16, if_neg hne]
      have e2 : openL k n s m = [] := by unfold openL; rw [e]; rfl
      rw [e, e2]
      exact ⟨rfl, rfl, rfl, trivial⟩
    · rw [hz2, hz] at hd
      have hne : tagL k n (s.take (s.length - 16)) m = s.drop (s.length - 16) := by simpa using hd
      have e : openE k n s m = 0 := by unfold openE; rw [if_neg h16, if_pos hne]
      have e2 : openL k n s m = xorL k n 1 (s.take (s.length - 16)) := by unfold openL; rw [if_pos e]
      rw [e, e2]
      refine ⟨by omega, rfl, by omega, fun q hq => ⟨by omega, by rw [xorL_len], ?_, rfl, trivial⟩⟩
      rw [hq, dropL_zero, dropL_zero]
      exact List.take_of_length_le (by rw [xorL_len]; exact Nat.le_refl _)
theorem countL_len (c : UInt64) : (countL c).length = 12 := by unfold countL; rw [List.length_append, littleL_len]; rfl
set_option maxRecDepth 100000 in
theorem conCounter : Con Try.prog 55 gCounter := con_of_vcs fun args ps res h hp => by
  unfold gCounter at h
  split at h <;> cases h
  rename_i c
  refine ⟨AEc, 200, rfl, eok (gs := [(60, gLittleN), (44, gJoin)]) ⟨conLittleN4, conJoin, trivial⟩, ?_⟩
  rw [vcCounter c]
  have e : List.replicate 4 0 ++ littleL c 8 = countL c := rfl
  simp only [forall_eq, true_and, and_true, little8, flat2, e, countL_len]
  exact ⟨rfl, by decide, by decide, Nat.le_refl _, Nat.le_refl _, List.take_of_length_le (by rw [countL_len]; exact Nat.le_refl _)⟩
end Go.Proofs.Ytiogdokekibeiaa

/- A step towards HandshakeAgreesSaid: no conditions. -/

namespace Go.Proofs.Ytiogdokekibeiaa
open Go Go.Eng Go.Cod Go.Cha Go.Bla
noncomputable def BEh : Env := mkE Try.prog [(44, gJoin), (43, gSum)] [] 2 true
set_option maxRecDepth 100000 in
theorem vcHash (ls : List (List UInt8)) : (vcFn BEh 100 28 [.s (.xs 1 (.s ls.length) (.sl ls))] (.w (.agg [.vec (.n 32) (.u8 (sumL 32 [] ls.flatten))]))) =
  (ls.length = ls.length ∧ ls.length < (4611686018427387904 : Nat) ∧ ls.flatten.length ≤ (4294967296 : Nat) ∧ ∀ (y : List UInt8), y = ls.flatten → (0 : Nat) + ls.flatten.length ≤ ls.flatten.length ∧ (0 : Nat) = (0 : Nat) ∧ (List.take ls.flatten.length (dropL (dropL y (0 : Nat)) (0 : Nat))).length = (List.take ls.flatten.length (dropL (dropL y (0 : Nat)) (0 : Nat))).length ∧ (List.take ls.flatten.length (dropL (dropL y (0 : Nat)) (0 : Nat))).length ≤ (4294967000 : Nat) ∧ ∀ (y_1 : Int), y_1 = sumE (Int.ofNat (32 : Nat)) (List.replicate (0 : Nat) (0 : UInt8)) → ∀ (y_2 : List UInt8), y_2 = sumR (Int.ofNat (32 : Nat)) (List.replicate (0 : Nat) (0 : UInt8)) (List.take ls.flatten.length (dropL (dropL y (0 : Nat)) (0 : Nat))) → ∀ (y_3 : Int), y_3 = y_1 → (32 : Nat) ≤ (sumR (Int.ofNat (32 : Nat)) (List.replicate (0 : Nat) (0 : UInt8)) (List.take ls.flatten.length (dropL (dropL y (0 : Nat)) (0 : Nat)))).length ∧ (32 : Nat) ≤ (sumR (Int.ofNat (32 : Nat)) (List.replicate (0 : Nat) (0 : UInt8)) (List.take ls.flatten.length (dropL (dropL y (0 : Nat)) (0 : Nat)))).length ∧ ∀ (y : List UInt8), y = List.take (32 : Nat) y_2 → y = sumL (32 : Int) [] ls.flatten ∧ True) := by kernel_rfl
end Go.Proofs.Ytiogdokekibeiaa
