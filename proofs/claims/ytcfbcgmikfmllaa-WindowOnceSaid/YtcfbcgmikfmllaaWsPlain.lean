/- A step towards WindowOnceSaid: no conditions. -/
import Derived.Test.YtcfbcgmikfmllaaWsSpec
namespace Go.Proofs.Ytcfbcgmikfmllaa
open Go Go.Eng
def ix (c : UInt64) : Nat := (c / 64 % 4).toNat
theorem ix_eq (c : UInt64) : ix c = c.toNat / 64 % 4 := by
  unfold ix
  rw [UInt64.toNat_mod, UInt64.toNat_div]; rfl
theorem getD_set_eq {l : List UInt64} {i : Nat} {x : UInt64} (h : i < l.length) : (l.set i x).getD i 0 = x := by
  rw [List.getD_eq_getElem?_getD, List.getElem?_set_self h]; rfl
theorem getD_set_ne {l : List UInt64} {i j : Nat} {x : UInt64} (h : i ≠ j) : (l.set i x).getD j 0 = l.getD j 0 := by
  rw [List.getD_eq_getElem?_getD, List.getD_eq_getElem?_getD, List.getElem?_set_ne h]
theorem set_self {l : List UInt64} {i : Nat} {x : UInt64} (h : l.getD i 0 = x) : l.set i x = l := by
  by_cases hi : i < l.length
  · rw [List.getD_eq_getElem?_getD, List.getElem?_eq_getElem hi] at h
    have h : l[i] = x := h
    subst h
    exact List.set_getElem_self hi
  · exact List.set_eq_of_length_le (by omega)
theorem orAt_comm (l : List UInt64) (c d : UInt64) : orAt (orAt l c) d = orAt (orAt l d) c := by
  show (l.set (ix c) (l.getD (ix c) 0 ||| _)).set (ix d) ((l.set (ix c) (l.getD (ix c) 0 ||| _)).getD (ix d) 0 ||| _) = (l.set (ix d) (l.getD (ix d) 0 ||| _)).set (ix c) ((l.set (ix d) (l.getD (ix d) 0 ||| _)).getD (ix c) 0 ||| _)
  by_cases h : ix c = ix d
  · rw [h]
    by_cases hl : ix d < l.length
    · rw [getD_set_eq hl, getD_set_eq hl, List.set_set, List.set_set, UInt64.or_assoc, UInt64.or_assoc, UInt64.or_comm (shl64 1 (c % 64).toNat)]
    · have hn : ∀ x, l.set (ix d) x = l := fun x => List.set_eq_of_length_le (by omega)
      simp only [hn]
  · rw [getD_set_ne h, getD_set_ne (Ne.symm h), List.set_comm _ _ h]
def mxu (a b : UInt64) : UInt64 := if a < b then b else a
theorem mxu_toNat (a b : UInt64) : (mxu a b).toNat = max a.toNat b.toNat := by
  unfold mxu
  split
  · rename_i h; rw [UInt64.lt_iff_toNat_lt] at h; omega
  · rename_i h; rw [UInt64.lt_iff_toNat_lt] at h; omega
theorem mxu_comm (a b c : UInt64) : mxu (mxu a b) c = mxu (mxu a c) b := by
  apply UInt64.toNat.inj
  rw [mxu_toNat, mxu_toNat, mxu_toNat, mxu_toNat]; omega
theorem foldl_move {α β : Type} (f : α → β → α) (hf : ∀ a x y, f (f a x) y = f (f a y) x) : ∀ (l : List β) (a : α) (x : β), l.foldl f (f a x) = f (l.foldl f a) x
  | [], _, _ => rfl
  | y :: l, a, x => by
    show l.foldl f (f (f a x) y) = f (l.foldl f (f a y)) x
    rw [hf, foldl_move f hf l]
theorem foldl_swap {α β : Type} (f : α → β → α) (hf : ∀ a x y, f (f a x) y = f (f a y) x) : ∀ (x y : List β) (a : α), (x ++ y).foldl f a = (y ++ x).foldl f a
  | [], y, a => by rw [List.nil_append, List.append_nil]
  | c :: x, y, a => by
    show (x ++ y).foldl f (f a c) = (y ++ c :: x).foldl f a
    rw [foldl_swap f hf x y, List.foldl_append, List.foldl_append, foldl_move f hf y]; rfl
def fin (cs : List UInt64) : Win := ⟨!cs.isEmpty, cs.foldl mxu 0, cs.foldl orAt (List.replicate 4 0)⟩
theorem fin_swap (x y : List UInt64) : fin (x ++ y) = fin (y ++ x) := by
  unfold fin
  rw [foldl_swap mxu mxu_comm, foldl_swap orAt orAt_comm]
  congr 1
  cases x <;> cases y <;> rfl
theorem clr_self {ws : List UInt64} {b : UInt64} : ∀ {n : Nat}, (∀ i, i < n → ws.getD ((b + 1 + UInt64.ofNat i) % 4).toNat 0 = 0) → clr ws b n = ws
  | 0, _ => rfl
  | n + 1, h => by
    rw [clr, clr_self fun i hi => h i (by omega)]
    exact set_self (h n (by omega))
theorem words_zero {j : Nat} : ∀ (cs : List UInt64) (w : List UInt64), (∀ c ∈ cs, ix c ≠ j) → (cs.foldl orAt w).getD j 0 = w.getD j 0
  | [], _, _ => rfl
  | c :: cs, w, h => by
    show (cs.foldl orAt (orAt w c)).getD j 0 = _
    rw [words_zero cs _ fun d hd => h d (by simp [hd])]
    exact getD_set_ne (h c (by simp))
theorem le_max : ∀ (cs : List UInt64) (a : UInt64), a.toNat ≤ (cs.foldl mxu a).toNat ∧ (∀ c ∈ cs, c.toNat ≤ (cs.foldl mxu a).toNat) ∧ ((cs.foldl mxu a) = a ∨ (cs.foldl mxu a) ∈ cs)
  | [], _ => ⟨Nat.le_refl _, by simp, .inl rfl⟩
  | c :: cs, a => by
    obtain ⟨h1, h2, h3⟩ := le_max cs (mxu a c)
    rw [mxu_toNat] at h1
    refine ⟨by show a.toNat ≤ (cs.foldl mxu (mxu a c)).toNat; omega, fun d hd => ?_, ?_⟩
    · show d.toNat ≤ (cs.foldl mxu (mxu a c)).toNat
      rcases List.mem_cons.1 hd with rfl | hd
      · omega
      · exact h2 d hd
    · show cs.foldl mxu (mxu a c) = a ∨ cs.foldl mxu (mxu a c) ∈ c :: cs
      have e : mxu a c = a ∨ mxu a c = c := by
        unfold mxu
        split
        · exact .inr rfl
        · exact .inl rfl
      rcases h3 with h3 | h3
      · rw [h3]
        rcases e with e | e
        · exact .inl e
        · exact .inr (by simp [e])
      · exact .inr (by simp [h3])
theorem bit_set {x : UInt64} {k : Nat} (hk : k < 64) (h : (shr64 x k &&& 1 == 0) = false) : x ||| shl64 1 k = x := by
  have h : shr64 x k &&& 1 ≠ 0 := by simpa using h
  have hb : x.toBitVec.getLsbD k = true := by
    by_cases hg : x.toBitVec.getLsbD k = true
    · exact hg
    · exfalso
      apply h
      apply UInt64.toBitVec_inj.1
      show (x.toBitVec >>> k) &&& 1#64 = 0#64
      apply BitVec.eq_of_getLsbD_eq
      intro i hi
      rw [BitVec.getLsbD_and, BitVec.getLsbD_ushiftRight]
      by_cases h0 : i = 0
      · subst h0; simp [hg]
      · simp [h0, BitVec.getLsbD_one]
  apply UInt64.toBitVec_inj.1
  show x.toBitVec ||| (1#64 <<< k) = x.toBitVec
  apply BitVec.eq_of_getLsbD_eq
  intro i hi
  rw [BitVec.getLsbD_or, BitVec.getLsbD_shiftLeft]
  by_cases h0 : i = k
  · subst h0; simp [hb]
  · by_cases h1 : i < k
    · simp [h1]
    · have : ¬ i - k = 0 := by omega
      simp [h1, this, BitVec.getLsbD_one]
def InR (b0 : Nat) (c : UInt64) : Prop := 64 * b0 ≤ c.toNat ∧ c.toNat < 64 * b0 + 256
theorem sub_toNat {a b : UInt64} (h : b.toNat ≤ a.toNat) : (a - b).toNat = a.toNat - b.toNat := UInt64.toNat_sub_of_le a b (UInt64.le_iff_toNat_le.2 h)
theorem div64 (c : UInt64) : (c / 64).toNat = c.toNat / 64 := by rw [UInt64.toNat_div]; rfl
theorem acc_no' {w : Win} {c : UInt64} (h : chk w c = false) : acc w c = w := by simp [acc, h]
theorem acc_yes' {w : Win} {c : UInt64} (h : chk w c = true) : acc w c = ⟨(acc1 w c).u, (acc1 w c).t, orAt (acc1 w c).ws c⟩ := by simp [acc, h]
theorem fin_step (b0 : Nat) (hb0 : b0 < 67108864) (cs : List UInt64) (c : UInt64) (hcs : ∀ d ∈ cs, InR b0 d) (hc : InR b0 c) : acc (fin cs) c = fin (cs ++ [c]) := by
  cases cs with
  | nil =>
    have e : mxu 0 c = c := by
      apply UInt64.toNat.inj
      rw [mxu_toNat]
      have : (0 : UInt64).toNat = 0 := rfl
      omega
    show acc (fin []) c = ⟨true, mxu 0 c, orAt (List.replicate 4 0) c⟩
    rw [e]
    rfl
  | cons d r =>
    obtain ⟨_, hall, hin⟩ := le_max (d :: r) 0
    have hd := hall d (by simp)
    have hdr := hcs d (by simp)
    generalize hT : (d :: r).foldl mxu 0 = T at hall hin hd
    have hTr : InR b0 T := by
      rcases hin with h | h
      · subst h
        have e : (0 : UInt64).toNat = 0 := rfl
        unfold InR at hdr ⊢
        omega
      · exact hcs T h
    generalize hW : (d :: r).foldl orAt (List.replicate 4 0) = W
    have e1 : fin (d :: r) = ⟨true, T, W⟩ := by unfold fin; rw [hT, hW]; rfl
    have e2 : fin ((d :: r) ++ [c]) = ⟨true, mxu T c, orAt W c⟩ := by
      unfold fin
      rw [List.foldl_append, List.foldl_append, hT, hW]; rfl
    rw [e1, e2]
    unfold InR at hTr hc
    by_cases h : T < c
    · have hn := UInt64.lt_iff_toNat_lt.1 h
      have hck : chk ⟨true, T, W⟩ c = true := by simp [chk, h]
      have hsub : (c / 64 - T / 64).toNat = c.toNat / 64 - T.toNat / 64 := by rw [sub_toNat (by rw [div64, div64]; omega), div64, div64]
      have hm : (m4 (c / 64 - T / 64)).toNat = c.toNat / 64 - T.toNat / 64 := by
        unfold m4
        split
        · rename_i h4
          have := UInt64.lt_iff_toNat_lt.1 h4
          have e : (4 : UInt64).toNat = 4 := rfl
          omega
        · exact hsub
      have hcl : clr W (T / 64) (m4 (c / 64 - T / 64)).toNat = W := by
        apply clr_self
        intro i hi
        rw [hm] at hi
        have ei : ((T / 64 + 1 + UInt64.ofNat i) % 4).toNat = (T.toNat / 64 + 1 + i) % 4 := by
          rw [UInt64.toNat_mod, UInt64.toNat_add, UInt64.toNat_add, div64, UInt64.toNat_ofNat_of_lt' (by have : UInt64.size = 18446744073709551616 := rfl; omega)]
          have e : (4 : UInt64).toNat = 4 := rfl
          have e' : (1 : UInt64).toNat = 1 := rfl
          rw [e, e']; omega
        rw [ei, ← hW, words_zero]
        · have : (T.toNat / 64 + 1 + i) % 4 < 4 := Nat.mod_lt _ (by decide)
          generalize (T.toNat / 64 + 1 + i) % 4 = j at *
          match j, this with
          | 0, _ => rfl
          | 1, _ => rfl
          | 2, _ => rfl
          | 3, _ => rfl
        · intro q hq
          have h1 := hall q hq
          have h2 := hcs q hq
          unfold InR at h2
          rw [ix_eq]
          omega
      rw [acc_yes' hck]
      simp only [acc1, h, if_true, hcl]
      simp [mxu, h]
    · have hn : c.toNat ≤ T.toNat := by have := mt UInt64.lt_iff_toNat_lt.2 h; omega
      have hsub : (T / 64 - c / 64).toNat = T.toNat / 64 - c.toNat / 64 := by rw [sub_toNat (by rw [div64, div64]; omega), div64, div64]
      have hlt : T / 64 - c / 64 < 4 := by
        rw [UInt64.lt_iff_toNat_lt, hsub]
        have e : (4 : UInt64).toNat = 4 := rfl
        omega
      have hmx : mxu T c = T := by simp [mxu, h]
      have hk : (c % 64).toNat < 64 := by
        rw [UInt64.toNat_mod]; exact Nat.mod_lt _ (by decide)
      cases hbit : (shr64 (W.getD (c / 64 % 4).toNat 0) (c % 64).toNat &&& 1 == 0)
      · have hck : chk ⟨true, T, W⟩ c = false := by simp only [chk, h, hlt, hbit]; rfl
        rw [acc_no' hck, hmx]
        have : orAt W c = W := by
          unfold orAt
          rw [bit_set hk hbit]
          exact set_self rfl
        rw [this]
      · have hck : chk ⟨true, T, W⟩ c = true := by simp only [chk, h, hlt, hbit]; rfl
        rw [acc_yes' hck, hmx]
        simp only [acc1, h, if_true, if_false]
end Go.Proofs.Ytcfbcgmikfmllaa
