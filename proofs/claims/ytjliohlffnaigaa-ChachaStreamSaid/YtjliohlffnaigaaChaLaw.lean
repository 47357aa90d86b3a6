/- A step towards ChachaStreamSaid: no conditions. -/
import Derived.Test.YtjliohlffnaigaaChaLawVc
import Derived.Test.YtjliohlffnaigaaXorCon
namespace Go.Proofs.Ytjliohlffnaigaa
open Go Go.Eng Go.Cod Go.Cha
set_option maxRecDepth 100000 in
theorem conBeg : Con Try.prog 11 gTrue0 := con_of_vcs fun args ps res h hp => by
  unfold gTrue0 at h
  split at h <;> cases h
  refine ⟨EBeg, 200, rfl, eok (gs := [(9, gBlock)]) ⟨conBlock, trivial⟩, ?_⟩
  refine Eq.mpr vcBeg ?_
  decide +kernel
set_option maxRecDepth 100000 in
theorem elaw : EnvOk ELaw := eok (gs := [(7, gCore), (8, gCore), (9, gBlock), (10, gBlock), (13, gXor), (14, gXor), (11, gTrue0)]) ⟨conCore, conCoreR, conBlock, conBlockR, conXor, conXorR, conBeg, trivial⟩
set_option maxRecDepth 100000 in
theorem law_blocks (w : List UInt32) (k n : List UInt8) (c : UInt32) (hw : w.length = 16) : vcFn ELaw 200 3 [.agg [.vec (.n 16) (.u32 w)], .agg [.vec (.n 32) (.u8 k)], .s (.u32 c), .agg [.vec (.n 12) (.u8 n)]] (.s (.b true)) := by
  refine Eq.mpr (vcBlocks w k n c) ?_
  simp [hw]
theorem cut300 {d e : List UInt8} (h : e = List.take (min (d.length : Int) ((300 : Nat) : Int)).toNat d) : e.length ≤ 300 := by
  rw [h, List.length_take]; omega
theorem min_ok (a b : Nat) : (0 : Int) ≤ min (a : Int) (b : Int) ∧ min (a : Int) (b : Int) ≤ (a : Int) := by omega
set_option maxRecDepth 100000 in
theorem law_xors (k n d : List UInt8) (c : UInt32) : vcFn ELaw 200 4 [.agg [.vec (.n 32) (.u8 k)], .s (.u32 c), .agg [.vec (.n 12) (.u8 n)], .s (.xs 1 (.s d.length) (.u8 d))] (.s (.b true)) := by
  refine Eq.mpr (vcXors k n d c) ?_
  simp only [io]
  generalize hd : List.take (min (d.length : Int) ((300 : Nat) : Int)).toNat d = e
  have hl := cut300 hd.symm
  have h4 : e.length ≤ 4294967296 := by omega
  simp [h4, min_ok]
  omega
theorem xorL_xorL (k n : List UInt8) (c : UInt32) (d : List UInt8) : xorL k n c (xorL k n c d) = d := by
  apply List.ext_getElem?
  intro i
  rw [xorL_get, xorL_get]
  cases d[i]? with
  | none => rfl
  | some x =>
    show some (x ^^^ _ ^^^ _) = some x
    rw [UInt8.xor_assoc, UInt8.xor_self, UInt8.xor_zero]
theorem xorL_take (k n : List UInt8) (c : UInt32) (d : List UInt8) (m : Nat) : xorL k n c (d.take m) = (xorL k n c d).take m := by
  apply List.ext_getElem?
  intro i
  rw [xorL_get, List.getElem?_take, List.getElem?_take, xorL_get]
  split <;> rfl
theorem padB_64 (k n : List UInt8) (c : UInt32) (i : Nat) : padB k n (c + 1) i = padB k n c (64 + i) := by
  unfold padB
  rw [show (64 + i) / 64 = 1 + i / 64 by omega, show (64 + i) % 64 = i % 64 by omega, UInt32.ofNat_add, ← UInt32.add_assoc]
  rfl
theorem xorL_drop (k n : List UInt8) (c : UInt32) (d : List UInt8) : xorL k n (c + 1) (d.drop 64) = (xorL k n c d).drop 64 := by
  apply List.ext_getElem?
  intro i
  rw [xorL_get, List.getElem?_drop, List.getElem?_drop, xorL_get]
  simp only [padB_64]
set_option maxRecDepth 100000 in
theorem law_returns (k n d : List UInt8) (c : UInt32) (a : UInt8) : vcFn ELaw 200 5 [.agg [.vec (.n 32) (.u8 k)], .s (.u32 c), .agg [.vec (.n 12) (.u8 n)], .s (.xs 1 (.s d.length) (.u8 d)), .s (.u8 a)] (.s (.b true)) := by
  refine Eq.mpr (vcReturns k n d c a) ?_
  simp only [io]
  have hm : (min (d.length : Int) ((300 : Nat) : Int)).toNat = min d.length 300 := by omega
  simp only [hm, dropL_eq, List.drop_zero, Nat.sub_zero, Nat.zero_add]
  have hd : (List.take (min d.length 300) d).length = min d.length 300 := by rw [List.length_take]; omega
  have h0 := min_ok d.length 300
  have hh : min d.length 300 ≤ 300 := Nat.min_le_right ..
  generalize he : List.take (min d.length 300) d = e at *
  generalize min d.length 300 = q at *
  have hf : List.take q (xorL k n c e) = xorL k n c e := List.take_of_length_le (by rw [xorL_len]; omega)
  subst hd
  have tk : ∀ (c : UInt32) (x : List UInt8), List.take x.length (xorL k n c x) = xorL k n c x := fun c x => List.take_of_length_le (by rw [xorL_len]; exact Nat.le_refl _)
  have d1 : UInt32.ofNat 1 = 1 := rfl
  have td : List.take (e.length - 64) (List.drop 64 (xorL k n c e)) = List.drop 64 (xorL k n c e) := List.take_of_length_le (by rw [List.length_drop, xorL_len]; exact Nat.le_refl _)
  simp only [tk]
  simp only [xorL_xorL, xorL_take, d1, xorL_drop, td, ne_eq, not_true_eq_false, decide_false, decide_true, Bool.false_eq_true, false_implies, true_implies, true_and, and_true, Nat.le_refl, Bool.true_eq_false, xorL_len, implies_true]
  refine ⟨h0, by omega, by omega, by omega, by rw [List.length_take]; omega, by omega, by omega, fun h => ?_⟩
  have h := of_decide_eq_false h
  refine ⟨by omega, ?_, by omega⟩
  rw [List.length_drop]; omega
set_option maxRecDepth 100000 in
theorem law_stream (k n : List UInt8) (c : UInt32) (a : UInt8) : vcFn ELaw 200 6 [.agg [.vec (.n 32) (.u8 k)], .s (.u32 c), .agg [.vec (.n 12) (.u8 n)], .s (.u8 a)] (.s (.b true)) := by
  refine Eq.mpr (vcStream k n c a) ?_
  simp only [io]
  have h64 : UInt8.ofNat 64 = 64 := rfl
  have ha := a.toNat_lt
  have e1 : (xorL k n c (List.replicate 256 0)).getD a.toNat 0 = (block k (c + (a / 64).toUInt32) n).getD (a % 64).toNat 0 := by
    rw [List.getD_eq_getElem?_getD, xorL_get, List.getElem?_replicate, if_pos ha]
    show (0 : UInt8) ^^^ padB k n c a.toNat = _
    rw [UInt8.zero_xor]
    unfold padB
    have e2 : UInt32.ofNat (a.toNat / 64) = (a / 64).toUInt32 := by
      apply UInt32.toNat.inj
      rw [UInt8.toNat_toUInt32, UInt8.toNat_div, UInt32.toNat_ofNat_of_lt']
      · rfl
      · have : UInt32.size = 4294967296 := rfl
        omega
    rw [e2, UInt8.toNat_mod]; rfl
  simp only [h64, Nat.zero_add, e1]
  simp
  omega
end Go.Proofs.Ytjliohlffnaigaa
