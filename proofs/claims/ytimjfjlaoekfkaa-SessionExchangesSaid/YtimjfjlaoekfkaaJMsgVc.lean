/- Steps towards SessionExchangesSaid. -/
import Derived.Test.YtimjfjlaoekfkaaJMsgSpec
import Derived.Test.YtimjfjlaoekfkaaBase
import Derived.Test.YtimjfjlaoekfkaaJMdcVc
import Derived.Test.YtimjfjlaoekfkaaJCodNum
/- A step towards SessionExchangesSaid: no conditions. -/
namespace Go.Proofs.Ytimjfjlaoekfkaa
open Go Go.Eng Go.Cod Go.Msg
noncomputable def EM0 : Env := mkE Try.prog [(47, gLittleN)] [] 2
noncomputable def EM : Env := mkE Try.prog [(36, gLittleN)] [] 10
noncomputable def EMr : Env := mkE Try.prog [(47, gLittleN), (49, gU32), (48, gJoin)] [] 10
set_option maxRecDepth 100000 in
theorem vcU32 (n : UInt32) : (vcFn EM0 100 49 [.s (.u32 n)] (.s (.xs 1 (.n 4) (.u8 [(shr64 n.toUInt64 0).toUInt8, (shr64 n.toUInt64 8).toUInt8, (shr64 n.toUInt64 16).toUInt8, (shr64 n.toUInt64 24).toUInt8])))) =
  ([(shr64 n.toUInt64 (0 : Nat)).toUInt8, (shr64 n.toUInt64 (8 : Nat)).toUInt8, (shr64 n.toUInt64 (16 : Nat)).toUInt8, (shr64 n.toUInt64 (24 : Nat)).toUInt8] = [(shr64 n.toUInt64 (0 : Nat)).toUInt8, (shr64 n.toUInt64 (8 : Nat)).toUInt8, (shr64 n.toUInt64 (16 : Nat)).toUInt8, (shr64 n.toUInt64 (24 : Nat)).toUInt8] ∧ True) := by kernel_rfl
set_option maxRecDepth 100000 in
theorem vcTran (r : UInt32) (c : UInt64) (b : List UInt8) : (vcFn EM 100 21 [.agg [.one (.u32 r), .one (.u64 c), .one (.xs 1 (.s b.length) (.u8 b))]] (.tup [.s (.xs 1 (.s (tranR r c b).length) (.u8 (tranR r c b))), .s (.i64 (tranE b))])) =
  ((decide ((↑b.length : Int) < Int.ofNat (16 : Nat)) = true → (tranR r c b).length = (0 : Nat) ∧ (tranR r c b).length = (0 : Nat) ∧ Int.ofNat (2 : Nat) = tranE b ∧ True) ∧ (decide ((↑b.length : Int) < Int.ofNat (16 : Nat)) = false → (decide (Int.ofNat (2084 : Nat) < (↑b.length : Int)) = true → (tranR r c b).length = (0 : Nat) ∧ (tranR r c b).length = (0 : Nat) ∧ Int.ofNat (3 : Nat) = tranE b ∧ True) ∧ (decide (Int.ofNat (2084 : Nat) < (↑b.length : Int)) = false → (8 : Nat) ≤ (4294967296 : Nat) ∧ (16 : Nat) ≤ (4294967296 : Nat) ∧ (16 : Nat) + b.length ≤ (4294967296 : Nat) ∧ (0 : Nat) + ((16 : Nat) + b.length) ≤ (16 : Nat) + b.length ∧ (16 : Nat) + b.length = (tranR r c b).length ∧ List.take ((16 : Nat) + b.length) (dropL (dropL ([to8 (Int.ofNat (4 : Nat)), UInt8.ofNat (nat_lit 0), UInt8.ofNat (nat_lit 0), UInt8.ofNat (nat_lit 0), (shr64 r.toUInt64 (0 : Nat)).toUInt8, (shr64 r.toUInt64 (8 : Nat)).toUInt8, (shr64 r.toUInt64 (16 : Nat)).toUInt8, (shr64 r.toUInt64 (24 : Nat)).toUInt8, (shr64 c (0 : Nat)).toUInt8, (shr64 c (8 : Nat)).toUInt8, (shr64 c (16 : Nat)).toUInt8, (shr64 c (24 : Nat)).toUInt8, (shr64 c (32 : Nat)).toUInt8, (shr64 c (40 : Nat)).toUInt8, (shr64 c (48 : Nat)).toUInt8, (shr64 c (56 : Nat)).toUInt8] ++ b) (0 : Nat)) (0 : Nat)) = tranR r c b ∧ Int.ofNat (0 : Nat) = tranE b ∧ True))) := by kernel_rfl
set_option maxRecDepth 100000 in
theorem vcTranR (r : UInt32) (c : UInt64) (b : List UInt8) : (vcFn EMr 100 27 [.agg [.one (.u32 r), .one (.u64 c), .one (.xs 1 (.s b.length) (.u8 b))]] (.tup [.s (.xs 1 (.s (tranR r c b).length) (.u8 (tranR r c b))), .s (.i64 (tranE b))])) =
  ((decide ((↑b.length : Int) < Int.ofNat (16 : Nat)) = true → (tranR r c b).length = (0 : Nat) ∧ (tranR r c b).length = (0 : Nat) ∧ Int.ofNat (2 : Nat) = tranE b ∧ True) ∧ (decide ((↑b.length : Int) < Int.ofNat (16 : Nat)) = false → (decide (Int.ofNat (2084 : Nat) < (↑b.length : Int)) = true → (tranR r c b).length = (0 : Nat) ∧ (tranR r c b).length = (0 : Nat) ∧ Int.ofNat (3 : Nat) = tranE b ∧ True) ∧ (decide (Int.ofNat (2084 : Nat) < (↑b.length : Int)) = false → [[UInt8.ofNat (nat_lit 4), UInt8.ofNat (nat_lit 0), UInt8.ofNat (nat_lit 0), UInt8.ofNat (nat_lit 0)], [(shr64 r.toUInt64 (0 : Nat)).toUInt8, (shr64 r.toUInt64 (8 : Nat)).toUInt8, (shr64 r.toUInt64 (16 : Nat)).toUInt8, (shr64 r.toUInt64 (24 : Nat)).toUInt8], [(shr64 c (0 : Nat)).toUInt8, (shr64 c (8 : Nat)).toUInt8, (shr64 c (16 : Nat)).toUInt8, (shr64 c (24 : Nat)).toUInt8, (shr64 c (32 : Nat)).toUInt8, (shr64 c (40 : Nat)).toUInt8, (shr64 c (48 : Nat)).toUInt8, (shr64 c (56 : Nat)).toUInt8], b].length = (4 : Nat) ∧ (4 : Nat) < (4611686018427387904 : Nat) ∧ [[UInt8.ofNat (nat_lit 4), UInt8.ofNat (nat_lit 0), UInt8.ofNat (nat_lit 0), UInt8.ofNat (nat_lit 0)], [(shr64 r.toUInt64 (0 : Nat)).toUInt8, (shr64 r.toUInt64 (8 : Nat)).toUInt8, (shr64 r.toUInt64 (16 : Nat)).toUInt8, (shr64 r.toUInt64 (24 : Nat)).toUInt8], [(shr64 c (0 : Nat)).toUInt8, (shr64 c (8 : Nat)).toUInt8, (shr64 c (16 : Nat)).toUInt8, (shr64 c (24 : Nat)).toUInt8, (shr64 c (32 : Nat)).toUInt8, (shr64 c (40 : Nat)).toUInt8, (shr64 c (48 : Nat)).toUInt8, (shr64 c (56 : Nat)).toUInt8], b].flatten.length ≤ (4294967296 : Nat) ∧ (0 : Nat) + [[UInt8.ofNat (nat_lit 4), UInt8.ofNat (nat_lit 0), UInt8.ofNat (nat_lit 0), UInt8.ofNat (nat_lit 0)], [(shr64 r.toUInt64 (0 : Nat)).toUInt8, (shr64 r.toUInt64 (8 : Nat)).toUInt8, (shr64 r.toUInt64 (16 : Nat)).toUInt8, (shr64 r.toUInt64 (24 : Nat)).toUInt8], [(shr64 c (0 : Nat)).toUInt8, (shr64 c (8 : Nat)).toUInt8, (shr64 c (16 : Nat)).toUInt8, (shr64 c (24 : Nat)).toUInt8, (shr64 c (32 : Nat)).toUInt8, (shr64 c (40 : Nat)).toUInt8, (shr64 c (48 : Nat)).toUInt8, (shr64 c (56 : Nat)).toUInt8], b].flatten.length ≤ [[UInt8.ofNat (nat_lit 4), UInt8.ofNat (nat_lit 0), UInt8.ofNat (nat_lit 0), UInt8.ofNat (nat_lit 0)], [(shr64 r.toUInt64 (0 : Nat)).toUInt8, (shr64 r.toUInt64 (8 : Nat)).toUInt8, (shr64 r.toUInt64 (16 : Nat)).toUInt8, (shr64 r.toUInt64 (24 : Nat)).toUInt8], [(shr64 c (0 : Nat)).toUInt8, (shr64 c (8 : Nat)).toUInt8, (shr64 c (16 : Nat)).toUInt8, (shr64 c (24 : Nat)).toUInt8, (shr64 c (32 : Nat)).toUInt8, (shr64 c (40 : Nat)).toUInt8, (shr64 c (48 : Nat)).toUInt8, (shr64 c (56 : Nat)).toUInt8], b].flatten.length ∧ [[UInt8.ofNat (nat_lit 4), UInt8.ofNat (nat_lit 0), UInt8.ofNat (nat_lit 0), UInt8.ofNat (nat_lit 0)], [(shr64 r.toUInt64 (0 : Nat)).toUInt8, (shr64 r.toUInt64 (8 : Nat)).toUInt8, (shr64 r.toUInt64 (16 : Nat)).toUInt8, (shr64 r.toUInt64 (24 : Nat)).toUInt8], [(shr64 c (0 : Nat)).toUInt8, (shr64 c (8 : Nat)).toUInt8, (shr64 c (16 : Nat)).toUInt8, (shr64 c (24 : Nat)).toUInt8, (shr64 c (32 : Nat)).toUInt8, (shr64 c (40 : Nat)).toUInt8, (shr64 c (48 : Nat)).toUInt8, (shr64 c (56 : Nat)).toUInt8], b].flatten.length = (tranR r c b).length ∧ List.take [[UInt8.ofNat (nat_lit 4), UInt8.ofNat (nat_lit 0), UInt8.ofNat (nat_lit 0), UInt8.ofNat (nat_lit 0)], [(shr64 r.toUInt64 (0 : Nat)).toUInt8, (shr64 r.toUInt64 (8 : Nat)).toUInt8, (shr64 r.toUInt64 (16 : Nat)).toUInt8, (shr64 r.toUInt64 (24 : Nat)).toUInt8], [(shr64 c (0 : Nat)).toUInt8, (shr64 c (8 : Nat)).toUInt8, (shr64 c (16 : Nat)).toUInt8, (shr64 c (24 : Nat)).toUInt8, (shr64 c (32 : Nat)).toUInt8, (shr64 c (40 : Nat)).toUInt8, (shr64 c (48 : Nat)).toUInt8, (shr64 c (56 : Nat)).toUInt8], b].flatten.length (dropL (dropL [[UInt8.ofNat (nat_lit 4), UInt8.ofNat (nat_lit 0), UInt8.ofNat (nat_lit 0), UInt8.ofNat (nat_lit 0)], [(shr64 r.toUInt64 (0 : Nat)).toUInt8, (shr64 r.toUInt64 (8 : Nat)).toUInt8, (shr64 r.toUInt64 (16 : Nat)).toUInt8, (shr64 r.toUInt64 (24 : Nat)).toUInt8], [(shr64 c (0 : Nat)).toUInt8, (shr64 c (8 : Nat)).toUInt8, (shr64 c (16 : Nat)).toUInt8, (shr64 c (24 : Nat)).toUInt8, (shr64 c (32 : Nat)).toUInt8, (shr64 c (40 : Nat)).toUInt8, (shr64 c (48 : Nat)).toUInt8, (shr64 c (56 : Nat)).toUInt8], b].flatten (0 : Nat)) (0 : Nat)) = tranR r c b ∧ Int.ofNat (0 : Nat) = tranE b ∧ True))) := by kernel_rfl
end Go.Proofs.Ytimjfjlaoekfkaa

/- A step towards SessionExchangesSaid: no conditions. -/
namespace Go.Proofs.Ytimjfjlaoekfkaa
open Go Go.Eng Go.Cod Go.Msg
theorem fl_take {l r : List UInt8} (h : l = r) : List.take l.length l = r := by rw [List.take_length]; exact h
abbrev b4 (n : UInt32) : List UInt8 := [(shr64 n.toUInt64 0).toUInt8, (shr64 n.toUInt64 8).toUInt8, (shr64 n.toUInt64 16).toUInt8, (shr64 n.toUInt64 24).toUInt8]
abbrev b8 (c : UInt64) : List UInt8 := [(shr64 c 0).toUInt8, (shr64 c 8).toUInt8, (shr64 c 16).toUInt8, (shr64 c 24).toUInt8, (shr64 c 32).toUInt8, (shr64 c 40).toUInt8, (shr64 c 48).toUInt8, (shr64 c 56).toUInt8]
set_option maxRecDepth 100000 in
theorem conU32 : Con Try.prog 49 gU32 := con_of_vcl fun args ps res h hp hlen => by
  unfold gU32 at h
  split at h <;> cases h
  rename_i n
  refine ⟨EM0, 100, rfl, eok (gs := [(47, gLittleN)]) ⟨conLittleRN4, trivial⟩, ?_⟩
  rw [vcU32]
  exact ⟨rfl, trivial⟩
theorem tranR_16 {r : UInt32} {c : UInt64} {b : List UInt8} (h : b.length < 16) : tranR r c b = [] ∧ tranE b = 2 := by simp [tranR, tranE, h]
theorem tranR_big {r : UInt32} {c : UInt64} {b : List UInt8} (h1 : ¬ b.length < 16) (h : 2084 < b.length) : tranR r c b = [] ∧ tranE b = 3 := by simp [tranR, tranE, h, h1]
theorem tranR_ok {r : UInt32} {c : UInt64} {b : List UInt8} (h1 : ¬ b.length < 16) (h : ¬ 2084 < b.length) : tranR r c b = tranL r c b ∧ tranE b = 0 := by simp [tranR, tranE, h, h1]
theorem tranL_len (r : UInt32) (c : UInt64) (b : List UInt8) : (tranL r c b).length = 16 + b.length := by
  simp only [tranL, List.length_append, littleL_len, List.length_cons, List.length_nil]; omega
set_option maxRecDepth 100000 in
theorem conTran : Con Try.prog 21 gTran := con_of_vcl fun args ps res h hp hlen => by
  unfold gTran at h
  split at h <;> cases h
  rename_i r c m b
  obtain ⟨rfl, hp2⟩ := all_cons.1 hp
  refine ⟨EM, 100, rfl, eok (gs := [(36, gLittleN)]) ⟨conLittleN4, trivial⟩, ?_⟩
  rw [vcTran]
  simp only [io, dropL_zero]
  refine ⟨fun h1 => ?_, fun h1 => ⟨fun h2 => ?_, fun h2 => ?_⟩⟩
  · have h1 : b.length < 16 := by have := of_decide_eq_true h1; omega
    rw [(tranR_16 h1).1, (tranR_16 (r := r) (c := c) h1).2]; exact ⟨rfl, rfl, rfl, trivial⟩
  · have h1 : ¬ b.length < 16 := by have := of_decide_eq_false h1; omega
    have h2 : 2084 < b.length := by have := of_decide_eq_true h2; omega
    rw [(tranR_big h1 h2).1, (tranR_big (r := r) (c := c) h1 h2).2]; exact ⟨rfl, rfl, rfl, trivial⟩
  · have h1 : ¬ b.length < 16 := by have := of_decide_eq_false h1; omega
    have h2 : ¬ 2084 < b.length := by have := of_decide_eq_false h2; omega
    rw [(tranR_ok h1 h2).1, (tranR_ok (r := r) (c := c) h1 h2).2, tranL_len]
    refine ⟨by omega, by omega, by omega, by omega, rfl, ?_, rfl, trivial⟩
    have hl := tranL_len r c b
    exact (List.take_of_length_le (by show (tranL r c b).length ≤ _; omega)).trans rfl
set_option maxRecDepth 100000 in
theorem eMr : EnvOk EMr := eok (gs := [(47, gLittleN), (49, gU32), (48, gJoin)]) ⟨conLittleRN4, conU32, conJoinR, trivial⟩
theorem joined {l r : List UInt8} {n : Nat} (h : l = r) (hn : r.length = n) (hb : n ≤ 4294967296) : l.length ≤ 4294967296 ∧ 0 + l.length ≤ l.length ∧ l.length = n ∧ List.take l.length (dropL (dropL l 0) 0) = r ∧ True := by
  subst h
  exact ⟨by omega, by omega, hn, by rw [dropL_zero, dropL_zero, List.take_length], trivial⟩
theorem init_len {s : UInt32} {e st t m1 m2 : List UInt8} (h1 : e.length = 32) (h2 : st.length = 48) (h3 : t.length = 28) (h4 : m1.length = 16) (h5 : m2.length = 16) : (initL s e st t m1 m2).length = 148 := by
  simp only [initL, List.length_append, littleL_len, List.length_cons, List.length_nil]; omega
theorem resp_len {s r : UInt32} {e em m1 m2 : List UInt8} (h1 : e.length = 32) (h2 : em.length = 16) (h4 : m1.length = 16) (h5 : m2.length = 16) : (respL s r e em m1 m2).length = 92 := by
  simp only [respL, List.length_append, littleL_len, List.length_cons, List.length_nil]; omega
theorem cook_len {r : UInt32} {n c : List UInt8} (h1 : n.length = 24) (h2 : c.length = 32) : (cookL r n c).length = 64 := by
  simp only [cookL, List.length_append, littleL_len, List.length_cons, List.length_nil]; omega
set_option maxRecDepth 100000 in
theorem conTranR : Con Try.prog 27 gTran := con_of_vcl fun args ps res h hp hlen => by
  unfold gTran at h
  split at h <;> cases h
  rename_i r c m b
  obtain ⟨rfl, hp2⟩ := all_cons.1 hp
  refine ⟨EMr, 100, rfl, eMr, ?_⟩
  rw [vcTranR]
  simp only [io]
  refine ⟨fun h1 => ?_, fun h1 => ⟨fun h2 => ?_, fun h2 => ?_⟩⟩
  · have h1 : b.length < 16 := by have := of_decide_eq_true h1; omega
    rw [(tranR_16 h1).1, (tranR_16 (r := r) (c := c) h1).2]; exact ⟨rfl, rfl, rfl, trivial⟩
  · have h1 : ¬ b.length < 16 := by have := of_decide_eq_false h1; omega
    have h2 : 2084 < b.length := by have := of_decide_eq_true h2; omega
    rw [(tranR_big h1 h2).1, (tranR_big (r := r) (c := c) h1 h2).2]; exact ⟨rfl, rfl, rfl, trivial⟩
  · have h1 : ¬ b.length < 16 := by have := of_decide_eq_false h1; omega
    have h2 : ¬ 2084 < b.length := by have := of_decide_eq_false h2; omega
    have fl : [[UInt8.ofNat 4, UInt8.ofNat 0, UInt8.ofNat 0, UInt8.ofNat 0], b4 r, b8 c, b].flatten = tranL r c b := by
      simp only [List.flatten_cons, List.flatten_nil, List.append_nil]; rfl
    rw [(tranR_ok h1 h2).1, (tranR_ok (r := r) (c := c) h1 h2).2]
    obtain ⟨j1, j2, j3, j4, j5⟩ := joined fl (tranL_len r c b) (by omega)
    exact ⟨rfl, by decide, j1, j2, j3.trans (tranL_len r c b).symm, j4, rfl, trivial⟩
end Go.Proofs.Ytimjfjlaoekfkaa

/- A step towards SessionExchangesSaid: no conditions. -/
namespace Go.Proofs.Ytimjfjlaoekfkaa
open Go Go.Eng Go.Cod Go.Msg
theorem cutAt {a b c : List UInt8} {o n : Nat} (ha : a.length = o) (hb : b.length = n) : ((a ++ (b ++ c)).drop o).take n = b := by
  subst ha hb
  rw [List.drop_append_of_le_length (Nat.le_refl _), List.drop_of_length_le (Nat.le_refl _), List.nil_append, List.take_append_of_le_length (Nat.le_refl _), List.take_length]
theorem cutEnd {a b : List UInt8} {o : Nat} (ha : a.length = o) : (a ++ b).drop o = b := by
  subst ha
  rw [List.drop_append_of_le_length (Nat.le_refl _), List.drop_of_length_le (Nat.le_refl _), List.nil_append]
theorem kind_of {b : List UInt8} {k : Int} {x : UInt8} (h0 : b.getD 0 0 = x) (hx : (x.toNat : Int) = k) (h1 : b.getD 1 0 = 0) (h2 : b.getD 2 0 = 0) (h3 : b.getD 3 0 = 0) (h4 : 4 ≤ b.length)
    (h : (x = 1 ∧ b.length = 148) ∨ (x = 2 ∧ b.length = 92) ∨ (x = 3 ∧ b.length = 64) ∨ (x = 4 ∧ 32 ≤ b.length ∧ b.length ≤ 2100)) : kindL b = k := by
  rw [← hx, ← h0]
  symm
  refine kind_some ?_ (by rw [h0]; exact h)
  rintro (h | h | h | h)
  · omega
  · exact h h1
  · exact h h2
  · exact h h3
section
variable {s r : UInt32} {e st t m1 m2 em n c : List UInt8}
theorem init_ok (he : e.length = 32) (hst : st.length = 48) (ht : t.length = 28) (h1 : m1.length = 16) (h2 : m2.length = 16) : (initL s e st t m1 m2).length = 148 ∧ kindL (initL s e st t m1 m2) = 1 ∧
    fld32 1 (initL s e st t m1 m2) 4 = s ∧ fld 1 (initL s e st t m1 m2) 8 32 = e ∧ fld 1 (initL s e st t m1 m2) 40 48 = st ∧ fld 1 (initL s e st t m1 m2) 88 28 = t ∧ fld 1 (initL s e st t m1 m2) 116 16 = m1 ∧ fld 1 (initL s e st t m1 m2) 132 16 = m2 := by
  have l4 := littleL_len s.toUInt64 4
  have hl : (initL s e st t m1 m2).length = 148 := by
    unfold initL
    simp only [List.length_append, l4, he, hst, ht, h1, h2]
    rfl
  have hk : kindL (initL s e st t m1 m2) = 1 := kind_of (x := 1) rfl rfl rfl rfl rfl (by omega) (.inl ⟨rfl, hl⟩)
  obtain ⟨f1, f2, f3, f4, f5⟩ := fld_yes hk
  refine ⟨hl, hk, ?_, ?_, ?_, ?_, ?_, ?_⟩
  · rw [f1]; unfold initL; rw [cutAt (a := [1, 0, 0, 0]) (o := 4) rfl l4, readL_little4]
  · rw [f3, show initL s e st t m1 m2 = ([1, 0, 0, 0] ++ littleL s.toUInt64 4) ++ (e ++ (st ++ (t ++ (m1 ++ m2)))) by simp [initL]]
    exact cutAt (by simp [l4]) he
  · rw [f3, show initL s e st t m1 m2 = ([1, 0, 0, 0] ++ littleL s.toUInt64 4 ++ e) ++ (st ++ (t ++ (m1 ++ m2))) by simp [initL]]
    exact cutAt (by simp [l4, he]) hst
  · rw [f3, show initL s e st t m1 m2 = ([1, 0, 0, 0] ++ littleL s.toUInt64 4 ++ e ++ st) ++ (t ++ (m1 ++ m2)) by simp [initL]]
    exact cutAt (by simp [l4, he, hst]) ht
  · rw [f3, show initL s e st t m1 m2 = ([1, 0, 0, 0] ++ littleL s.toUInt64 4 ++ e ++ st ++ t) ++ (m1 ++ m2) by simp [initL]]
    exact cutAt (by simp [l4, he, hst, ht]) h1
  · rw [f3, show initL s e st t m1 m2 = ([1, 0, 0, 0] ++ littleL s.toUInt64 4 ++ e ++ st ++ t ++ m1) ++ (m2 ++ []) by simp [initL]]
    exact cutAt (by simp [l4, he, hst, ht, h1]) h2
theorem resp_ok (he : e.length = 32) (hst : em.length = 16) (h1 : m1.length = 16) (h2 : m2.length = 16) : (respL s r e em m1 m2).length = 92 ∧ kindL (respL s r e em m1 m2) = 2 ∧
    fld32 2 (respL s r e em m1 m2) 4 = s ∧ fld32 2 (respL s r e em m1 m2) 8 = r ∧ fld 2 (respL s r e em m1 m2) 12 32 = e ∧ fld 2 (respL s r e em m1 m2) 44 16 = em ∧ fld 2 (respL s r e em m1 m2) 60 16 = m1 ∧ fld 2 (respL s r e em m1 m2) 76 16 = m2 := by
  have l4 := littleL_len s.toUInt64 4
  have l5 := littleL_len r.toUInt64 4
  have hl : (respL s r e em m1 m2).length = 92 := by
    unfold respL
    simp only [List.length_append, l4, l5, he, hst, h1, h2]
    rfl
  have hk : kindL (respL s r e em m1 m2) = 2 := kind_of (x := 2) rfl rfl rfl rfl rfl (by omega) (.inr (.inl ⟨rfl, hl⟩))
  obtain ⟨f1, f2, f3, f4, f5⟩ := fld_yes hk
  refine ⟨hl, hk, ?_, ?_, ?_, ?_, ?_, ?_⟩
  · rw [f1]; unfold respL; rw [cutAt (a := [2, 0, 0, 0]) (o := 4) rfl l4, readL_little4]
  · rw [f1, show respL s r e em m1 m2 = ([2, 0, 0, 0] ++ littleL s.toUInt64 4) ++ (littleL r.toUInt64 4 ++ (e ++ (em ++ (m1 ++ m2)))) by simp [respL], cutAt (by simp [l4]) l5, readL_little4]
  · rw [f3, show respL s r e em m1 m2 = ([2, 0, 0, 0] ++ littleL s.toUInt64 4 ++ littleL r.toUInt64 4) ++ (e ++ (em ++ (m1 ++ m2))) by simp [respL]]
    exact cutAt (by simp [l4, l5]) he
  · rw [f3, show respL s r e em m1 m2 = ([2, 0, 0, 0] ++ littleL s.toUInt64 4 ++ littleL r.toUInt64 4 ++ e) ++ (em ++ (m1 ++ m2)) by simp [respL]]
    exact cutAt (by simp [l4, l5, he]) hst
  · rw [f3, show respL s r e em m1 m2 = ([2, 0, 0, 0] ++ littleL s.toUInt64 4 ++ littleL r.toUInt64 4 ++ e ++ em) ++ (m1 ++ m2) by simp [respL]]
    exact cutAt (by simp [l4, l5, he, hst]) h1
  · rw [f3, show respL s r e em m1 m2 = ([2, 0, 0, 0] ++ littleL s.toUInt64 4 ++ littleL r.toUInt64 4 ++ e ++ em ++ m1) ++ (m2 ++ []) by simp [respL]]
    exact cutAt (by simp [l4, l5, he, hst, h1]) h2
theorem cook_ok (hn : n.length = 24) (hc : c.length = 32) : (cookL r n c).length = 64 ∧ kindL (cookL r n c) = 3 ∧ fld32 3 (cookL r n c) 4 = r ∧ fld 3 (cookL r n c) 8 24 = n ∧ fld 3 (cookL r n c) 32 32 = c := by
  have l4 := littleL_len r.toUInt64 4
  have hl : (cookL r n c).length = 64 := by
    unfold cookL
    simp only [List.length_append, l4, hn, hc]
    rfl
  have hk : kindL (cookL r n c) = 3 := kind_of (x := 3) rfl rfl rfl rfl rfl (by omega) (.inr (.inr (.inl ⟨rfl, hl⟩)))
  obtain ⟨f1, f2, f3, f4, f5⟩ := fld_yes hk
  refine ⟨hl, hk, ?_, ?_, ?_⟩
  · rw [f1]; unfold cookL; rw [cutAt (a := [3, 0, 0, 0]) (o := 4) rfl l4, readL_little4]
  · rw [f3, show cookL r n c = ([3, 0, 0, 0] ++ littleL r.toUInt64 4) ++ (n ++ c) by simp [cookL]]
    exact cutAt (by simp [l4]) hn
  · rw [f3, show cookL r n c = ([3, 0, 0, 0] ++ littleL r.toUInt64 4 ++ n) ++ (c ++ []) by simp [cookL]]
    exact cutAt (by simp [l4, hn]) hc
theorem tran_ok {ct : UInt64} {b : List UInt8} (hb : 16 ≤ b.length) (hb2 : b.length ≤ 2084) : tranR r ct b = tranL r ct b ∧ tranE b = 0 ∧ (tranL r ct b).length = 16 + b.length ∧ kindL (tranL r ct b) = 4 ∧
    fld32 4 (tranL r ct b) 4 = r ∧ fld64 4 (tranL r ct b) 8 = ct ∧ fldR 4 (tranL r ct b) 16 = b := by
  have l4 := littleL_len r.toUInt64 4
  have l8 := littleL_len ct 8
  have hl : (tranL r ct b).length = 16 + b.length := by
    unfold tranL
    simp only [List.length_append, l4, l8, List.length_cons, List.length_nil]
    omega
  have hk : kindL (tranL r ct b) = 4 := kind_of (x := 4) rfl rfl rfl rfl rfl (by omega) (.inr (.inr (.inr ⟨rfl, by omega, by omega⟩)))
  obtain ⟨f1, f2, f3, f4, f5⟩ := fld_yes hk
  refine ⟨by unfold tranR; rw [if_neg (by omega), if_neg (by omega)], by unfold tranE; rw [if_neg (by omega), if_neg (by omega)], hl, hk, ?_, ?_, ?_⟩
  · rw [f1]; unfold tranL; rw [cutAt (a := [4, 0, 0, 0]) (o := 4) rfl l4, readL_little4]
  · rw [f2, show tranL r ct b = ([4, 0, 0, 0] ++ littleL r.toUInt64 4) ++ (littleL ct 8 ++ b) by simp [tranL], cutAt (by simp [l4]) l8, readL_little8]
  · rw [f4, show tranL r ct b = ([4, 0, 0, 0] ++ littleL r.toUInt64 4 ++ littleL ct 8) ++ b by simp [tranL]]
    exact cutEnd (by simp [l4, l8])
end
end Go.Proofs.Ytimjfjlaoekfkaa

/- A step towards SessionExchangesSaid: no conditions. -/
namespace Go.Proofs.Ytimjfjlaoekfkaa
open Go Go.Eng Go.Cod Go.Cha Go.Pol Go.Aed
noncomputable def AEe : Env := mkE Try.prog [] [(0, JEqual)] 2
noncomputable def AE0 : Env := mkE Try.prog [] [] 2
noncomputable def AEr : Env := mkE Try.prog [] [(0, JFilledR)] 2
noncomputable def AEt : Env := mkE Try.prog [(50, gBlock), (52, gFilled), (36, gLittleN), (35, gJoin), (51, gPoly)] [] 10 true
noncomputable def AEs : Env := mkE Try.prog [(34, gXor), (32, gTag), (35, gJoin)] [] 10 true
noncomputable def AEo : Env := mkE Try.prog [(34, gXor), (32, gTag), (33, gEqual)] [] 10 true
noncomputable def AEc : Env := mkE Try.prog [(36, gLittleN), (35, gJoin)] [] 10 true
set_option maxRecDepth 100000 in
theorem vcEqual (a b : List UInt8) : (vcFn AEe 100 33 [.s (.xs 1 (.s a.length) (.u8 a)), .s (.xs 1 (.s b.length) (.u8 b))] (.s (.b (a == b)))) =
  ((decide ((↑a.length : Int) ≠ (↑b.length : Int)) = true → false = (a == b) ∧ True) ∧ (decide ((↑a.length : Int) ≠ (↑b.length : Int)) = false → (∃ (x : Nat), x ≤ a.length ∧ a.length = a.length ∧ a = a ∧ b.length = b.length ∧ b = b ∧ UInt8.ofNat (nat_lit 0) = dif a b x ∧ (↑a.length : Int) = (↑a.length : Int) ∧ Int.ofNat (0 : Nat) = (↑x : Int) ∧ True) ∧ ∀ (x : Nat), x ≤ a.length → (decide ((↑x : Int) < (↑a.length : Int)) = true → ((0 : Int) ≤ (↑x : Int) ∧ (↑x : Int) < (↑a.length : Int)) ∧ (↑x : Int).toNat < a.length ∧ ((0 : Int) ≤ (↑x : Int) ∧ (↑x : Int) < (↑b.length : Int)) ∧ (↑x : Int).toNat < b.length ∧ InI ((↑x : Int) + Int.ofNat (1 : Nat)) ∧ ∃ (y : Nat), y ≤ a.length ∧ a.length - y < a.length - x ∧ a.length = a.length ∧ a = a ∧ b.length = b.length ∧ b = b ∧ dif a b x ||| a.getD (↑x : Int).toNat (0 : UInt8) ^^^ b.getD (↑x : Int).toNat (0 : UInt8) = dif a b y ∧ (↑a.length : Int) = (↑a.length : Int) ∧ (↑x : Int) + Int.ofNat (1 : Nat) = (↑y : Int) ∧ True) ∧ (decide ((↑x : Int) < (↑a.length : Int)) = false → (dif a b x == UInt8.ofNat (nat_lit 0)) = (a == b) ∧ True))) := by kernel_rfl
set_option maxRecDepth 100000 in
theorem vcFilled (b : List UInt8) : (vcFn AE0 100 52 [.s (.xs 1 (.s b.length) (.u8 b))] (.s (.xs 1 (.s (zp b.length)) (.u8 (zerosL b.length))))) =
  (Int.ofNat (16 : Nat) ≠ (0 : Int) ∧ InI (Int.ofNat (16 : Nat) - (↑b.length : Int).tmod (Int.ofNat (16 : Nat))) ∧ Int.ofNat (16 : Nat) ≠ (0 : Int) ∧ ((0 : Int) ≤ (Int.ofNat (16 : Nat) - (↑b.length : Int).tmod (Int.ofNat (16 : Nat))).tmod (Int.ofNat (16 : Nat)) ∧ (Int.ofNat (16 : Nat) - (↑b.length : Int).tmod (Int.ofNat (16 : Nat))).tmod (Int.ofNat (16 : Nat)) ≤ (4294967296 : Int)) ∧ ((0 : Int) ≤ (Int.ofNat (16 : Nat) - (↑b.length : Int).tmod (Int.ofNat (16 : Nat))).tmod (Int.ofNat (16 : Nat)) ∧ (Int.ofNat (16 : Nat) - (↑b.length : Int).tmod (Int.ofNat (16 : Nat))).tmod (Int.ofNat (16 : Nat)) ≤ (4294967296 : Int)) ∧ ((Int.ofNat (16 : Nat) - (↑b.length : Int).tmod (Int.ofNat (16 : Nat))).tmod (Int.ofNat (16 : Nat))).toNat = ((Int.ofNat (16 : Nat) - (↑b.length : Int).tmod (Int.ofNat (16 : Nat))).tmod (Int.ofNat (16 : Nat))).toNat ∧ (0 : Nat) + ((Int.ofNat (16 : Nat) - (↑b.length : Int).tmod (Int.ofNat (16 : Nat))).tmod (Int.ofNat (16 : Nat))).toNat ≤ ((Int.ofNat (16 : Nat) - (↑b.length : Int).tmod (Int.ofNat (16 : Nat))).tmod (Int.ofNat (16 : Nat))).toNat ∧ ((Int.ofNat (16 : Nat) - (↑b.length : Int).tmod (Int.ofNat (16 : Nat))).tmod (Int.ofNat (16 : Nat))).toNat = zp b.length ∧ List.take ((Int.ofNat (16 : Nat) - (↑b.length : Int).tmod (Int.ofNat (16 : Nat))).tmod (Int.ofNat (16 : Nat))).toNat (dropL (dropL (List.replicate ((Int.ofNat (16 : Nat) - (↑b.length : Int).tmod (Int.ofNat (16 : Nat))).tmod (Int.ofNat (16 : Nat))).toNat (0 : UInt8)) (0 : Nat)) (0 : Nat)) = zerosL b.length ∧ True) := by kernel_rfl
set_option maxRecDepth 100000 in
theorem vcTag (k n c m : List UInt8) : (vcFn AEt 200 32 [.agg [.vec (.n 32) (.u8 k)], .agg [.vec (.n 12) (.u8 n)], .s (.xs 1 (.s c.length) (.u8 c)), .s (.xs 1 (.s m.length) (.u8 m))] (.w (.agg [.vec (.n 16) (.u8 (tagL k n c m))]))) =
  (∀ (y : List UInt8), y = block k (UInt32.ofNat (nat_lit 0)) n → ∀ (y_1 : List UInt8), y_1 = y → (32 : Nat) ≤ (64 : Nat) ∧ m.length = m.length ∧ m.length ≤ (4294967296 : Nat) ∧ ∀ (y : List UInt8), y = zerosL m.length → c.length = c.length ∧ c.length ≤ (4294967296 : Nat) ∧ ∀ (y_2 : List UInt8), y_2 = zerosL c.length → ∀ (y_3 : Int), y_3 = (↑m.length : Int) → ∀ (y_4 : List UInt8), y_4 = [(shr64 (to64 y_3) (0 : Nat)).toUInt8, (shr64 (to64 y_3) (8 : Nat)).toUInt8, (shr64 (to64 y_3) (16 : Nat)).toUInt8, (shr64 (to64 y_3) (24 : Nat)).toUInt8, (shr64 (to64 y_3) (32 : Nat)).toUInt8, (shr64 (to64 y_3) (40 : Nat)).toUInt8, (shr64 (to64 y_3) (48 : Nat)).toUInt8, (shr64 (to64 y_3) (56 : Nat)).toUInt8] → ∀ (y_5 : Int), y_5 = (↑c.length : Int) → ∀ (y_6 : List UInt8), y_6 = [(shr64 (to64 y_5) (0 : Nat)).toUInt8, (shr64 (to64 y_5) (8 : Nat)).toUInt8, (shr64 (to64 y_5) (16 : Nat)).toUInt8, (shr64 (to64 y_5) (24 : Nat)).toUInt8, (shr64 (to64 y_5) (32 : Nat)).toUInt8, (shr64 (to64 y_5) (40 : Nat)).toUInt8, (shr64 (to64 y_5) (48 : Nat)).toUInt8, (shr64 (to64 y_5) (56 : Nat)).toUInt8] → (0 : Nat) + zp m.length ≤ zp m.length ∧ (0 : Nat) + zp c.length ≤ zp c.length ∧ [m, List.take (zp m.length) (dropL (dropL y (0 : Nat)) (0 : Nat)), c, List.take (zp c.length) (dropL (dropL y_2 (0 : Nat)) (0 : Nat)), y_4, y_6].length = (6 : Nat) ∧ (6 : Nat) < (4611686018427387904 : Nat) ∧ [m, List.take (zp m.length) (dropL (dropL y (0 : Nat)) (0 : Nat)), c, List.take (zp c.length) (dropL (dropL y_2 (0 : Nat)) (0 : Nat)), y_4, y_6].flatten.length ≤ (4294967296 : Nat) ∧ ∀ (y_7 : List UInt8), y_7 = [m, List.take (zp m.length) (dropL (dropL y (0 : Nat)) (0 : Nat)), c, List.take (zp c.length) (dropL (dropL y_2 (0 : Nat)) (0 : Nat)), y_4, y_6].flatten → (0 : Nat) + [m, List.take (zp m.length) (dropL (dropL y (0 : Nat)) (0 : Nat)), c, List.take (zp c.length) (dropL (dropL y_2 (0 : Nat)) (0 : Nat)), y_4, y_6].flatten.length ≤ [m, List.take (zp m.length) (dropL (dropL y (0 : Nat)) (0 : Nat)), c, List.take (zp c.length) (dropL (dropL y_2 (0 : Nat)) (0 : Nat)), y_4, y_6].flatten.length ∧ (List.take [m, List.take (zp m.length) (dropL (dropL y (0 : Nat)) (0 : Nat)), c, List.take (zp c.length) (dropL (dropL y_2 (0 : Nat)) (0 : Nat)), y_4, y_6].flatten.length (dropL (dropL y_7 (0 : Nat)) (0 : Nat))).length = (List.take [m, List.take (zp m.length) (dropL (dropL y (0 : Nat)) (0 : Nat)), c, List.take (zp c.length) (dropL (dropL y_2 (0 : Nat)) (0 : Nat)), y_4, y_6].flatten.length (dropL (dropL y_7 (0 : Nat)) (0 : Nat))).length ∧ (List.take [m, List.take (zp m.length) (dropL (dropL y (0 : Nat)) (0 : Nat)), c, List.take (zp c.length) (dropL (dropL y_2 (0 : Nat)) (0 : Nat)), y_4, y_6].flatten.length (dropL (dropL y_7 (0 : Nat)) (0 : Nat))).length ≤ (4294967296 : Nat) ∧ ∀ (y_8 : List UInt8), y_8 = polyL (List.take (32 : Nat) y_1) (List.take [m, List.take (zp m.length) (dropL (dropL y (0 : Nat)) (0 : Nat)), c, List.take (zp c.length) (dropL (dropL y_2 (0 : Nat)) (0 : Nat)), y_4, y_6].flatten.length (dropL (dropL y_7 (0 : Nat)) (0 : Nat))) → ∀ (y : List UInt8), y = y_8 → y = tagL k n c m ∧ True) := by kernel_rfl
set_option maxRecDepth 100000 in
theorem vcSeal (k n p m : List UInt8) : (vcFn AEs 200 22 [.agg [.vec (.n 32) (.u8 k)], .agg [.vec (.n 12) (.u8 n)], .s (.xs 1 (.s p.length) (.u8 p)), .s (.xs 1 (.s m.length) (.u8 m))] (.s (.xs 1 (.s (sealL k n p m).length) (.u8 (sealL k n p m))))) =
  (p.length = p.length ∧ p.length ≤ (4294967296 : Nat) ∧ ∀ (y : List UInt8), y = xorL k n (UInt32.ofNat (nat_lit 1)) p → (0 : Nat) + p.length ≤ p.length ∧ (List.take p.length (dropL (dropL y (0 : Nat)) (0 : Nat))).length = (List.take p.length (dropL (dropL y (0 : Nat)) (0 : Nat))).length ∧ m.length = m.length ∧ (List.take p.length (dropL (dropL y (0 : Nat)) (0 : Nat))).length ≤ (1073741824 : Nat) ∧ m.length ≤ (1073741824 : Nat) ∧ ∀ (y_1 : List UInt8), y_1 = tagL k n (List.take p.length (dropL (dropL y (0 : Nat)) (0 : Nat))) m → ∀ (y_2 : List UInt8), y_2 = y_1 → (0 : Nat) + p.length ≤ p.length ∧ [List.take p.length (dropL (dropL y (0 : Nat)) (0 : Nat)), y_2].length = (2 : Nat) ∧ (2 : Nat) < (4611686018427387904 : Nat) ∧ [List.take p.length (dropL (dropL y (0 : Nat)) (0 : Nat)), y_2].flatten.length ≤ (4294967296 : Nat) ∧ ∀ (y_3 : List UInt8), y_3 = [List.take p.length (dropL (dropL y (0 : Nat)) (0 : Nat)), y_2].flatten → (0 : Nat) + [List.take p.length (dropL (dropL y (0 : Nat)) (0 : Nat)), y_2].flatten.length ≤ [List.take p.length (dropL (dropL y (0 : Nat)) (0 : Nat)), y_2].flatten.length ∧ [List.take p.length (dropL (dropL y (0 : Nat)) (0 : Nat)), y_2].flatten.length = (sealL k n p m).length ∧ List.take [List.take p.length (dropL (dropL y (0 : Nat)) (0 : Nat)), y_2].flatten.length (dropL (dropL y_3 (0 : Nat)) (0 : Nat)) = sealL k n p m ∧ True) := by kernel_rfl
set_option maxRecDepth 100000 in
theorem vcOpen (k n s m : List UInt8) : (vcFn AEo 200 13 [.agg [.vec (.n 32) (.u8 k)], .agg [.vec (.n 12) (.u8 n)], .s (.xs 1 (.s s.length) (.u8 s)), .s (.xs 1 (.s m.length) (.u8 m))] (.tup [.s (.xs 1 (.s (openL k n s m).length) (.u8 (openL k n s m))), .s (.i64 (openE k n s m))])) =
  (∀ (y : Int), y = (↑s.length : Int) → (decide (y < Int.ofNat (16 : Nat)) = true → (openL k n s m).length = (0 : Nat) ∧ (openL k n s m).length = (0 : Nat) ∧ Int.ofNat (2 : Nat) = openE k n s m ∧ True) ∧ (decide (y < Int.ofNat (16 : Nat)) = false → ∀ (y : Int), y = (↑s.length : Int) → InI (y - Int.ofNat (16 : Nat)) ∧ ∀ (y_1 : Int), y_1 = y - Int.ofNat (16 : Nat) → ((0 : Int) ≤ y_1 ∧ y_1 ≤ (↑s.length : Int)) ∧ (List.take y_1.toNat s).length = (List.take y_1.toNat s).length ∧ m.length = m.length ∧ (List.take y_1.toNat s).length ≤ (1073741824 : Nat) ∧ m.length ≤ (1073741824 : Nat) ∧ ∀ (y : List UInt8), y = tagL k n (List.take y_1.toNat s) m → ∀ (y_2 : List UInt8), y_2 = y → ((0 : Int) ≤ y_1 ∧ y_1 ≤ (↑s.length : Int)) ∧ y_2.length = y_2.length ∧ (List.drop y_1.toNat s).length = (List.drop y_1.toNat s).length ∧ y_2.length < (4611686018427387904 : Nat) ∧ (List.drop y_1.toNat s).length < (4611686018427387904 : Nat) ∧ ((!y_2 == List.drop y_1.toNat s) = true → (openL k n s m).length = (0 : Nat) ∧ (openL k n s m).length = (0 : Nat) ∧ Int.ofNat (6 : Nat) = openE k n s m ∧ True) ∧ ((!y_2 == List.drop y_1.toNat s) = false → ((0 : Int) ≤ y_1 ∧ y_1 ≤ (↑s.length : Int)) ∧ (List.take y_1.toNat s).length = (List.take y_1.toNat s).length ∧ (List.take y_1.toNat s).length ≤ (4294967296 : Nat) ∧ ∀ (y : List UInt8), y = xorL k n (UInt32.ofNat (nat_lit 1)) (List.take y_1.toNat s) → (0 : Nat) + (List.take y_1.toNat s).length ≤ (List.take y_1.toNat s).length ∧ (List.take y_1.toNat s).length = (openL k n s m).length ∧ List.take (List.take y_1.toNat s).length (dropL (dropL y (0 : Nat)) (0 : Nat)) = openL k n s m ∧ Int.ofNat (0 : Nat) = openE k n s m ∧ True))) := by kernel_rfl
set_option maxRecDepth 100000 in
theorem vcCounter (c : UInt64) : (vcFn AEc 200 14 [.s (.u64 c)] (.w (.agg [.vec (.n 12) (.u8 (countL c))]))) =
  (∀ (y : List UInt8), y = [(shr64 c (0 : Nat)).toUInt8, (shr64 c (8 : Nat)).toUInt8, (shr64 c (16 : Nat)).toUInt8, (shr64 c (24 : Nat)).toUInt8, (shr64 c (32 : Nat)).toUInt8, (shr64 c (40 : Nat)).toUInt8, (shr64 c (48 : Nat)).toUInt8, (shr64 c (56 : Nat)).toUInt8] → [List.replicate (4 : Nat) (0 : UInt8), y].length = (2 : Nat) ∧ (2 : Nat) < (4611686018427387904 : Nat) ∧ [List.replicate (4 : Nat) (0 : UInt8), y].flatten.length ≤ (4294967296 : Nat) ∧ ∀ (y_1 : List UInt8), y_1 = [List.replicate (4 : Nat) (0 : UInt8), y].flatten → (12 : Nat) ≤ [List.replicate (4 : Nat) (0 : UInt8), y].flatten.length ∧ (12 : Nat) ≤ [List.replicate (4 : Nat) (0 : UInt8), y].flatten.length ∧ ∀ (y : List UInt8), y = List.take (12 : Nat) y_1 → y = countL c ∧ True) := by kernel_rfl
end Go.Proofs.Ytimjfjlaoekfkaa
