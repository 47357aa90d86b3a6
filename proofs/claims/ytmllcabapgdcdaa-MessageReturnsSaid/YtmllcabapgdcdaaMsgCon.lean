/- A step towards MessageReturnsSaid: no conditions. -/
import Derived.Test.YtmllcabapgdcdaaMsgVc
import Derived.Test.YtmllcabapgdcdaaCodCon
namespace Go.Proofs.Ytmllcabapgdcdaa
open Go Go.Eng Go.Cod Go.Msg
theorem fl_take {l r : List UInt8} (h : l = r) : List.take l.length l = r := by rw [List.take_length]; exact h
abbrev b4 (n : UInt32) : List UInt8 := [(shr64 n.toUInt64 0).toUInt8, (shr64 n.toUInt64 8).toUInt8, (shr64 n.toUInt64 16).toUInt8, (shr64 n.toUInt64 24).toUInt8]
abbrev b8 (c : UInt64) : List UInt8 := [(shr64 c 0).toUInt8, (shr64 c 8).toUInt8, (shr64 c 16).toUInt8, (shr64 c 24).toUInt8, (shr64 c 32).toUInt8, (shr64 c 40).toUInt8, (shr64 c 48).toUInt8, (shr64 c 56).toUInt8]
set_option maxRecDepth 100000 in
theorem conU32 : Con Try.prog 27 gU32 := con_of_vcl fun args ps res h hp hlen => by
  unfold gU32 at h
  split at h <;> cases h
  rename_i n
  refine ⟨EM0, 100, rfl, eok (gs := [(28, gLittleN)]) ⟨conLittleRN4, trivial⟩, ?_⟩
  rw [vcU32]
  exact ⟨rfl, trivial⟩
set_option maxRecDepth 100000 in
theorem conInit : Con Try.prog 9 gInit := con_of_vcl fun args ps res h hp hlen => by
  unfold gInit at h
  split at h <;> cases h
  rename_i s e st t m1 m2
  refine ⟨EM, 100, rfl, eok (gs := [(39, gLittleN)]) ⟨conLittleN4, trivial⟩, ?_⟩
  rw [vcInit]
  refine ⟨by decide, by decide, by decide, by decide, by decide, by decide, ?_, trivial⟩
  simp only [List.append_assoc]; rfl
set_option maxRecDepth 100000 in
theorem conResp : Con Try.prog 11 gResp := con_of_vcl fun args ps res h hp hlen => by
  unfold gResp at h
  split at h <;> cases h
  rename_i s r e em m1 m2
  refine ⟨EM, 100, rfl, eok (gs := [(39, gLittleN)]) ⟨conLittleN4, trivial⟩, ?_⟩
  rw [vcResp]
  refine ⟨by decide, by decide, by decide, by decide, by decide, by decide, ?_, trivial⟩
  simp only [List.append_assoc]; rfl
set_option maxRecDepth 100000 in
theorem conCook : Con Try.prog 13 gCook := con_of_vcl fun args ps res h hp hlen => by
  unfold gCook at h
  split at h <;> cases h
  rename_i r n c
  refine ⟨EM, 100, rfl, eok (gs := [(39, gLittleN)]) ⟨conLittleN4, trivial⟩, ?_⟩
  rw [vcCook]
  refine ⟨by decide, by decide, by decide, ?_, trivial⟩
  simp only [List.append_assoc]; rfl
theorem tranR_16 {r : UInt32} {c : UInt64} {b : List UInt8} (h : b.length < 16) : tranR r c b = [] ∧ tranE b = 2 := by simp [tranR, tranE, h]
theorem tranR_big {r : UInt32} {c : UInt64} {b : List UInt8} (h1 : ¬ b.length < 16) (h : 2084 < b.length) : tranR r c b = [] ∧ tranE b = 3 := by simp [tranR, tranE, h, h1]
theorem tranR_ok {r : UInt32} {c : UInt64} {b : List UInt8} (h1 : ¬ b.length < 16) (h : ¬ 2084 < b.length) : tranR r c b = tranL r c b ∧ tranE b = 0 := by simp [tranR, tranE, h, h1]
theorem tranL_len (r : UInt32) (c : UInt64) (b : List UInt8) : (tranL r c b).length = 16 + b.length := by
  simp only [tranL, List.length_append, littleL_len, List.length_cons, List.length_nil]; omega
set_option maxRecDepth 100000 in
theorem conTran : Con Try.prog 7 gTran := con_of_vcl fun args ps res h hp hlen => by
  unfold gTran at h
  split at h <;> cases h
  rename_i r c m b
  obtain ⟨rfl, hp2⟩ := all_cons.1 hp
  refine ⟨EM, 100, rfl, eok (gs := [(39, gLittleN)]) ⟨conLittleN4, trivial⟩, ?_⟩
  rw [vcTran]
  simp only [io, dropL_zero]
  refine ⟨fun h1 => ?_, fun h1 => ⟨fun h2 => ?_, fun h2 => ?_⟩⟩
  · have h1 : b.length < 16 := by have := of_decide_eq_true h1; omega
    rw [(tranR_16 h1).1, (tranR_16 (r := r) (c := c) h1).2]; exact ⟨rfl, rfl, rfl, trivial⟩
  · have h1 : ¬ b.length < 16 := by have := of_decide_eq_false h1; omega
    have h2 : 2084 < b.length := by have := of_decide_eq_true h2; omega
    rw [(tranR_big h1 h2).1, (tranR_big (r := r) (c := c) h1 h2).2]; exact ⟨rfl, rfl, rfl, trivial⟩
  · have h1 : ¬ b.length < 16 := by have := of_decide_eq_false h1; omega
    have h2 : ¬ 2084 < b.length := by have := of_decide_eq_false h2; omega
    rw [(tranR_ok h1 h2).1, (tranR_ok (r := r) (c := c) h1 h2).2, tranL_len]
    refine ⟨by omega, by omega, by omega, by omega, rfl, ?_, rfl, trivial⟩
    have hl := tranL_len r c b
    exact (List.take_of_length_le (by show (tranL r c b).length ≤ _; omega)).trans rfl
set_option maxRecDepth 100000 in
theorem eMr : EnvOk EMr := eok (gs := [(28, gLittleN), (27, gU32), (26, gJoin)]) ⟨conLittleRN4, conU32, conJoinR, trivial⟩
theorem joined {l r : List UInt8} {n : Nat} (h : l = r) (hn : r.length = n) (hb : n ≤ 4294967296) : l.length ≤ 4294967296 ∧ 0 + l.length ≤ l.length ∧ l.length = n ∧ List.take l.length (dropL (dropL l 0) 0) = r ∧ True := by
  subst h
  exact ⟨by omega, by omega, hn, by rw [dropL_zero, dropL_zero, List.take_length], trivial⟩
theorem init_len {s : UInt32} {e st t m1 m2 : List UInt8} (h1 : e.length = 32) (h2 : st.length = 48) (h3 : t.length = 28) (h4 : m1.length = 16) (h5 : m2.length = 16) : (initL s e st t m1 m2).length = 148 := by
  simp only [initL, List.length_append, littleL_len, List.length_cons, List.length_nil]; omega
theorem resp_len {s r : UInt32} {e em m1 m2 : List UInt8} (h1 : e.length = 32) (h2 : em.length = 16) (h4 : m1.length = 16) (h5 : m2.length = 16) : (respL s r e em m1 m2).length = 92 := by
  simp only [respL, List.length_append, littleL_len, List.length_cons, List.length_nil]; omega
theorem cook_len {r : UInt32} {n c : List UInt8} (h1 : n.length = 24) (h2 : c.length = 32) : (cookL r n c).length = 64 := by
  simp only [cookL, List.length_append, littleL_len, List.length_cons, List.length_nil]; omega
set_option maxRecDepth 100000 in
theorem conInitR : Con Try.prog 10 gInit := con_of_vcl fun args ps res h hp hlen => by
  unfold gInit at h
  split at h <;> cases h
  rename_i s e st t m1 m2
  simp only [lenL, lenV, lenCs, lenS, Vec.len, I.val, true_and, and_true] at hlen
  obtain ⟨h1, h2, h3, h4, h5⟩ := hlen
  refine ⟨EMr, 100, rfl, eMr, ?_⟩
  have hl : (initL s e st t m1 m2).length = 148 := init_len h1 h2 h3 h4 h5
  have fl : [[UInt8.ofNat 1, UInt8.ofNat 0, UInt8.ofNat 0, UInt8.ofNat 0], b4 s, e, st, t, m1, m2].flatten = initL s e st t m1 m2 := by
    simp only [List.flatten_cons, List.flatten_nil, List.append_nil]; rfl
  have j := joined fl hl (by decide)
  rw [vcInitR]
  exact ⟨rfl, by decide, j⟩
set_option maxRecDepth 100000 in
theorem conRespR : Con Try.prog 12 gResp := con_of_vcl fun args ps res h hp hlen => by
  unfold gResp at h
  split at h <;> cases h
  rename_i s r e em m1 m2
  simp only [lenL, lenV, lenCs, lenS, Vec.len, I.val, true_and, and_true] at hlen
  obtain ⟨h1, h2, h3, h4⟩ := hlen
  refine ⟨EMr, 100, rfl, eMr, ?_⟩
  have hl : (respL s r e em m1 m2).length = 92 := resp_len h1 h2 h3 h4
  have fl : [[UInt8.ofNat 2, UInt8.ofNat 0, UInt8.ofNat 0, UInt8.ofNat 0], b4 s, b4 r, e, em, m1, m2].flatten = respL s r e em m1 m2 := by
    simp only [List.flatten_cons, List.flatten_nil, List.append_nil]; rfl
  have j := joined fl hl (by decide)
  rw [vcRespR]
  exact ⟨rfl, by decide, j⟩
set_option maxRecDepth 100000 in
theorem conCookR : Con Try.prog 14 gCook := con_of_vcl fun args ps res h hp hlen => by
  unfold gCook at h
  split at h <;> cases h
  rename_i r n c
  obtain ⟨⟨_, h1, h2, _⟩, _⟩ := hlen
  refine ⟨EMr, 100, rfl, eMr, ?_⟩
  rw [vcCookR]
  refine ⟨rfl, by decide, joined ?_ (cook_len h1 h2) (by decide)⟩
  simp only [List.flatten_cons, List.flatten_nil, List.append_nil]; rfl
set_option maxRecDepth 100000 in
theorem conTranR : Con Try.prog 8 gTran := con_of_vcl fun args ps res h hp hlen => by
  unfold gTran at h
  split at h <;> cases h
  rename_i r c m b
  obtain ⟨rfl, hp2⟩ := all_cons.1 hp
  refine ⟨EMr, 100, rfl, eMr, ?_⟩
  rw [vcTranR]
  simp only [io]
  refine ⟨fun h1 => ?_, fun h1 => ⟨fun h2 => ?_, fun h2 => ?_⟩⟩
  · have h1 : b.length < 16 := by have := of_decide_eq_true h1; omega
    rw [(tranR_16 h1).1, (tranR_16 (r := r) (c := c) h1).2]; exact ⟨rfl, rfl, rfl, trivial⟩
  · have h1 : ¬ b.length < 16 := by have := of_decide_eq_false h1; omega
    have h2 : 2084 < b.length := by have := of_decide_eq_true h2; omega
    rw [(tranR_big h1 h2).1, (tranR_big (r := r) (c := c) h1 h2).2]; exact ⟨rfl, rfl, rfl, trivial⟩
  · have h1 : ¬ b.length < 16 := by have := of_decide_eq_false h1; omega
    have h2 : ¬ 2084 < b.length := by have := of_decide_eq_false h2; omega
    have fl : [[UInt8.ofNat 4, UInt8.ofNat 0, UInt8.ofNat 0, UInt8.ofNat 0], b4 r, b8 c, b].flatten = tranL r c b := by
      simp only [List.flatten_cons, List.flatten_nil, List.append_nil]; rfl
    rw [(tranR_ok h1 h2).1, (tranR_ok (r := r) (c := c) h1 h2).2]
    obtain ⟨j1, j2, j3, j4, j5⟩ := joined fl (tranL_len r c b) (by omega)
    exact ⟨rfl, by decide, j1, j2, j3.trans (tranL_len r c b).symm, j4, rfl, trivial⟩
end Go.Proofs.Ytmllcabapgdcdaa
