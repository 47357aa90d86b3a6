/- A step towards MessageDecodesSaid: no conditions. -/
import Derived.Test.YtmllcabapgdcdaaMdlVc
import Derived.Test.YtmllcabapgdcdaaMdcCon
import Derived.Test.YtmllcabapgdcdaaMsgCon
namespace Go.Proofs.Ytmllcabapgdcdaa
open Go Go.Eng Go.Cod Go.Msg
theorem minNN (a b : Nat) : min (a : Int) (b : Int) = ((min a b : Nat) : Int) := by omega
theorem maxNN (a b : Nat) : max (a : Int) (b : Int) = ((max a b : Nat) : Int) := by omega
theorem natNN (a b : Nat) : (0 ≤ ((min a b : Nat) : Int) ∧ ((min a b : Nat) : Int) ≤ (a : Int)) = True := eq_true ⟨by omega, by omega⟩
theorem addNN (a b : Nat) : (a : Int) + (b : Int) = ((a + b : Nat) : Int) := rfl
theorem tmodNN (x m : Nat) : ((x : Int).tmod (m : Int)) = ((x % m : Nat) : Int) := rfl
theorem cutAt {a b c : List UInt8} {o n : Nat} (ha : a.length = o) (hb : b.length = n) : ((a ++ (b ++ c)).drop o).take n = b := by
  subst ha hb
  rw [List.drop_append_of_le_length (Nat.le_refl _), List.drop_of_length_le (Nat.le_refl _), List.nil_append, List.take_append_of_le_length (Nat.le_refl _), List.take_length]
theorem cutEnd {a b : List UInt8} {o : Nat} (ha : a.length = o) : (a ++ b).drop o = b := by
  subst ha
  rw [List.drop_append_of_le_length (Nat.le_refl _), List.drop_of_length_le (Nat.le_refl _), List.nil_append]
theorem kind_of {b : List UInt8} {k : Int} {x : UInt8} (h0 : b.getD 0 0 = x) (hx : (x.toNat : Int) = k) (h1 : b.getD 1 0 = 0) (h2 : b.getD 2 0 = 0) (h3 : b.getD 3 0 = 0) (h4 : 4 ≤ b.length)
    (h : (x = 1 ∧ b.length = 148) ∨ (x = 2 ∧ b.length = 92) ∨ (x = 3 ∧ b.length = 64) ∨ (x = 4 ∧ 32 ≤ b.length ∧ b.length ≤ 2100)) : kindL b = k := by
  rw [← hx, ← h0]
  symm
  refine kind_some ?_ (by rw [h0]; exact h)
  rintro (h | h | h | h)
  · omega
  · exact h h1
  · exact h h2
  · exact h h3
section
variable {s r : UInt32} {e st t m1 m2 em n c : List UInt8}
theorem init_ok (he : e.length = 32) (hst : st.length = 48) (ht : t.length = 28) (h1 : m1.length = 16) (h2 : m2.length = 16) : (initL s e st t m1 m2).length = 148 ∧ kindL (initL s e st t m1 m2) = 1 ∧
    fld32 1 (initL s e st t m1 m2) 4 = s ∧ fld 1 (initL s e st t m1 m2) 8 32 = e ∧ fld 1 (initL s e st t m1 m2) 40 48 = st ∧ fld 1 (initL s e st t m1 m2) 88 28 = t ∧ fld 1 (initL s e st t m1 m2) 116 16 = m1 ∧ fld 1 (initL s e st t m1 m2) 132 16 = m2 := by
  have l4 := littleL_len s.toUInt64 4
  have hl : (initL s e st t m1 m2).length = 148 := by
    unfold initL
    simp only [List.length_append, l4, he, hst, ht, h1, h2]
    rfl
  have hk : kindL (initL s e st t m1 m2) = 1 := kind_of (x := 1) rfl rfl rfl rfl rfl (by omega) (.inl ⟨rfl, hl⟩)
  obtain ⟨f1, f2, f3, f4, f5⟩ := fld_yes hk
  refine ⟨hl, hk, ?_, ?_, ?_, ?_, ?_, ?_⟩
  · rw [f1]; unfold initL; rw [cutAt (a := [1, 0, 0, 0]) (o := 4) rfl l4, readL_little4]
  · rw [f3, show initL s e st t m1 m2 = ([1, 0, 0, 0] ++ littleL s.toUInt64 4) ++ (e ++ (st ++ (t ++ (m1 ++ m2)))) by simp [initL]]
    exact cutAt (by simp [l4]) he
  · rw [f3, show initL s e st t m1 m2 = ([1, 0, 0, 0] ++ littleL s.toUInt64 4 ++ e) ++ (st ++ (t ++ (m1 ++ m2))) by simp [initL]]
    exact cutAt (by simp [l4, he]) hst
  · rw [f3, show initL s e st t m1 m2 = ([1, 0, 0, 0] ++ littleL s.toUInt64 4 ++ e ++ st) ++ (t ++ (m1 ++ m2)) by simp [initL]]
    exact cutAt (by simp [l4, he, hst]) ht
  · rw [f3, show initL s e st t m1 m2 = ([1, 0, 0, 0] ++ littleL s.toUInt64 4 ++ e ++ st ++ t) ++ (m1 ++ m2) by simp [initL]]
    exact cutAt (by simp [l4, he, hst, ht]) h1
  · rw [f3, show initL s e st t m1 m2 = ([1, 0, 0, 0] ++ littleL s.toUInt64 4 ++ e ++ st ++ t ++ m1) ++ (m2 ++ []) by simp [initL]]
    exact cutAt (by simp [l4, he, hst, ht, h1]) h2
theorem resp_ok (he : e.length = 32) (hst : em.length = 16) (h1 : m1.length = 16) (h2 : m2.length = 16) : (respL s r e em m1 m2).length = 92 ∧ kindL (respL s r e em m1 m2) = 2 ∧
    fld32 2 (respL s r e em m1 m2) 4 = s ∧ fld32 2 (respL s r e em m1 m2) 8 = r ∧ fld 2 (respL s r e em m1 m2) 12 32 = e ∧ fld 2 (respL s r e em m1 m2) 44 16 = em ∧ fld 2 (respL s r e em m1 m2) 60 16 = m1 ∧ fld 2 (respL s r e em m1 m2) 76 16 = m2 := by
  have l4 := littleL_len s.toUInt64 4
  have l5 := littleL_len r.toUInt64 4
  have hl : (respL s r e em m1 m2).length = 92 := by
    unfold respL
    simp only [List.length_append, l4, l5, he, hst, h1, h2]
    rfl
  have hk : kindL (respL s r e em m1 m2) = 2 := kind_of (x := 2) rfl rfl rfl rfl rfl (by omega) (.inr (.inl ⟨rfl, hl⟩))
  obtain ⟨f1, f2, f3, f4, f5⟩ := fld_yes hk
  refine ⟨hl, hk, ?_, ?_, ?_, ?_, ?_, ?_⟩
  · rw [f1]; unfold respL; rw [cutAt (a := [2, 0, 0, 0]) (o := 4) rfl l4, readL_little4]
  · rw [f1, show respL s r e em m1 m2 = ([2, 0, 0, 0] ++ littleL s.toUInt64 4) ++ (littleL r.toUInt64 4 ++ (e ++ (em ++ (m1 ++ m2)))) by simp [respL], cutAt (by simp [l4]) l5, readL_little4]
  · rw [f3, show respL s r e em m1 m2 = ([2, 0, 0, 0] ++ littleL s.toUInt64 4 ++ littleL r.toUInt64 4) ++ (e ++ (em ++ (m1 ++ m2))) by simp [respL]]
    exact cutAt (by simp [l4, l5]) he
  · rw [f3, show respL s r e em m1 m2 = ([2, 0, 0, 0] ++ littleL s.toUInt64 4 ++ littleL r.toUInt64 4 ++ e) ++ (em ++ (m1 ++ m2)) by simp [respL]]
    exact cutAt (by simp [l4, l5, he]) hst
  · rw [f3, show respL s r e em m1 m2 = ([2, 0, 0, 0] ++ littleL s.toUInt64 4 ++ littleL r.toUInt64 4 ++ e ++ em) ++ (m1 ++ m2) by simp [respL]]
    exact cutAt (by simp [l4, l5, he, hst]) h1
  · rw [f3, show respL s r e em m1 m2 = ([2, 0, 0, 0] ++ littleL s.toUInt64 4 ++ littleL r.toUInt64 4 ++ e ++ em ++ m1) ++ (m2 ++ []) by simp [respL]]
    exact cutAt (by simp [l4, l5, he, hst, h1]) h2
theorem cook_ok (hn : n.length = 24) (hc : c.length = 32) : (cookL r n c).length = 64 ∧ kindL (cookL r n c) = 3 ∧ fld32 3 (cookL r n c) 4 = r ∧ fld 3 (cookL r n c) 8 24 = n ∧ fld 3 (cookL r n c) 32 32 = c := by
  have l4 := littleL_len r.toUInt64 4
  have hl : (cookL r n c).length = 64 := by
    unfold cookL
    simp only [List.length_append, l4, hn, hc]
    rfl
  have hk : kindL (cookL r n c) = 3 := kind_of (x := 3) rfl rfl rfl rfl rfl (by omega) (.inr (.inr (.inl ⟨rfl, hl⟩)))
  obtain ⟨f1, f2, f3, f4, f5⟩ := fld_yes hk
  refine ⟨hl, hk, ?_, ?_, ?_⟩
  · rw [f1]; unfold cookL; rw [cutAt (a := [3, 0, 0, 0]) (o := 4) rfl l4, readL_little4]
  · rw [f3, show cookL r n c = ([3, 0, 0, 0] ++ littleL r.toUInt64 4) ++ (n ++ c) by simp [cookL]]
    exact cutAt (by simp [l4]) hn
  · rw [f3, show cookL r n c = ([3, 0, 0, 0] ++ littleL r.toUInt64 4 ++ n) ++ (c ++ []) by simp [cookL]]
    exact cutAt (by simp [l4, hn]) hc
theorem tran_ok {ct : UInt64} {b : List UInt8} (hb : 16 ≤ b.length) (hb2 : b.length ≤ 2084) : tranR r ct b = tranL r ct b ∧ tranE b = 0 ∧ (tranL r ct b).length = 16 + b.length ∧ kindL (tranL r ct b) = 4 ∧
    fld32 4 (tranL r ct b) 4 = r ∧ fld64 4 (tranL r ct b) 8 = ct ∧ fldR 4 (tranL r ct b) 16 = b := by
  have l4 := littleL_len r.toUInt64 4
  have l8 := littleL_len ct 8
  have hl : (tranL r ct b).length = 16 + b.length := by
    unfold tranL
    simp only [List.length_append, l4, l8, List.length_cons, List.length_nil]
    omega
  have hk : kindL (tranL r ct b) = 4 := kind_of (x := 4) rfl rfl rfl rfl rfl (by omega) (.inr (.inr (.inr ⟨rfl, by omega, by omega⟩)))
  obtain ⟨f1, f2, f3, f4, f5⟩ := fld_yes hk
  refine ⟨by unfold tranR; rw [if_neg (by omega), if_neg (by omega)], by unfold tranE; rw [if_neg (by omega), if_neg (by omega)], hl, hk, ?_, ?_, ?_⟩
  · rw [f1]; unfold tranL; rw [cutAt (a := [4, 0, 0, 0]) (o := 4) rfl l4, readL_little4]
  · rw [f2, show tranL r ct b = ([4, 0, 0, 0] ++ littleL r.toUInt64 4) ++ (littleL ct 8 ++ b) by simp [tranL], cutAt (by simp [l4]) l8, readL_little8]
  · rw [f4, show tranL r ct b = ([4, 0, 0, 0] ++ littleL r.toUInt64 4 ++ littleL ct 8) ++ b by simp [tranL]]
    exact cutEnd (by simp [l4, l8])
end
set_option maxRecDepth 100000 in
theorem conBegM : Con Try.prog 15 gTrue0 := con_of_vcs fun args ps res h hp => by
  unfold gTrue0 at h
  split at h <;> cases h
  refine ⟨MLb, 200, rfl, eok (gs := [(7, gTran), (22, gKind)]) ⟨conTran, conKind, trivial⟩, ?_⟩
  rw [vcBegM]
  have e1 : tranR (UInt32.ofNat 1) (UInt64.ofNat 2) (List.replicate 16 0) = [4, 0, 0, 0, 1, 0, 0, 0, 2, 0, 0, 0, 0, 0, 0, 0, 0, 0, 0, 0, 0, 0, 0, 0, 0, 0, 0, 0, 0, 0, 0, 0] := by decide +kernel
  have e2 : tranE (List.replicate 16 0) = 0 := by decide +kernel
  have e3 : kindL [4, 0, 0, 0, 1, 0, 0, 0, 2, 0, 0, 0, 0, 0, 0, 0, 0, 0, 0, 0, 0, 0, 0, 0, 0, 0, 0, 0, 0, 0, 0, 0] = 4 := by decide +kernel
  simp only [e1, e2, io, dropL_zero]
  simp [e3]
set_option maxRecDepth 100000 in
theorem conDecodes : Con Try.prog 16 gDecodes := con_of_vcl fun args ps res h hp hlen => by
  unfold gDecodes at h
  split at h <;> cases h
  rename_i m b
  obtain ⟨rfl, hp2⟩ := all_cons.1 hp
  have hl := (all_cons.1 hp2).1
  refine ⟨MLs, 200, rfl, eok (gs := [(17, gDec dInit), (29, gDec dInit), (18, gDec dResp), (30, gDec dResp), (19, gDec dCook), (31, gDec dCook), (20, gDec dTran), (32, gDec dTran), (22, gKind), (33, gKind)]) ⟨conDInit, conDInitR, conDResp, conDRespR, conDCook, conDCookR, conDTran, conDTranR, conKind, conKindR, trivial⟩, ?_⟩
  rw [vcDecodes b]
  simp [hl]
theorem emld : EnvOk MLd := eok (gs := [(10, gInit), (12, gResp), (14, gCook), (16, gDecodes), (15, gTrue0)]) ⟨conInitR, conRespR, conCookR, conDecodes, conBegM, trivial⟩
theorem emlr : EnvOk MLr := eok (gs := [(7, gTran), (9, gInit), (11, gResp), (13, gCook), (17, gDec dInit), (18, gDec dResp), (19, gDec dCook), (20, gDec dTran), (22, gKind), (15, gTrue0)]) ⟨conTran, conInit, conResp, conCook, conDInit, conDResp, conDCook, conDTran, conKind, conBegM, trivial⟩
set_option maxRecDepth 100000 in
set_option maxHeartbeats 4000000 in
theorem law_ret (s : UInt32) (e st t m1 m2 : List UInt8) (s' r' : UInt32) (e' em' m1' m2' : List UInt8) (cr : UInt32) (cn cc : List UInt8) (rc : UInt32) (ct : UInt64) (body : List UInt8)
    (h0 : e.length = 32) (h1 : st.length = 48) (h2 : t.length = 28) (h3 : m1.length = 16) (h4 : m2.length = 16) (h5 : e'.length = 32) (h6 : em'.length = 16) (h7 : m1'.length = 16) (h8 : m2'.length = 16) (h9 : cn.length = 24) (h10 : cc.length = 32) :
    vcFn MLr 300 5 [.agg [.one (.u32 s), .vec (.n 32) (.u8 e), .vec (.n 48) (.u8 st), .vec (.n 28) (.u8 t), .vec (.n 16) (.u8 m1), .vec (.n 16) (.u8 m2)], .agg [.one (.u32 s'), .one (.u32 r'), .vec (.n 32) (.u8 e'), .vec (.n 16) (.u8 em'), .vec (.n 16) (.u8 m1'), .vec (.n 16) (.u8 m2')], .agg [.one (.u32 cr), .vec (.n 24) (.u8 cn), .vec (.n 32) (.u8 cc)], .s (.u32 rc), .s (.u64 ct), .s (.xs 1 (.s body.length) (.u8 body))] (.s (.b true)) := by
  rw [vcLRet]
  obtain ⟨i1, i2, i3, i4, i5, i6, i7, i8⟩ := init_ok (s := s) h0 h1 h2 h3 h4
  obtain ⟨p1, p2, p3, p4, p5, p6, p7, p8⟩ := resp_ok (s := s') (r := r') h5 h6 h7 h8
  obtain ⟨c1, c2, c3, c4, c5⟩ := cook_ok (r := cr) h9 h10
  have i9 : decE 1 (initL s e st t m1 m2) = 0 := if_pos i2
  have i10 : decE 2 (initL s e st t m1 m2) = 4 := if_neg (by rw [i2]; decide)
  have p9 : decE 2 (respL s' r' e' em' m1' m2') = 0 := if_pos p2
  have c9 : decE 3 (cookL cr cn cc) = 0 := if_pos c2
  have lb : (List.take (min body.length 60) body).length = min body.length 60 := by rw [List.length_take]; omega
  have lb2 : min body.length 60 ≤ 60 := Nat.min_le_right ..
  simp only [forall_eq, true_and, and_true, io, dropL_zero, Nat.zero_add, Nat.sub_zero, Int.toNat_natCast, minNN, natNN, i1, i2, i3, i4, i5, i6, i7, i8, i9, i10, p1, p2, p3, p4, p5, p6, p7, p8, p9, c1, c2, c3, c4, c5, c9]
  have lB : (List.replicate 16 (0 : UInt8) ++ List.take (min body.length 60) body).length = 16 + min body.length 60 := by rw [List.length_append, List.length_replicate, lb]
  rw [← lB]
  have hB : 16 ≤ (List.replicate 16 (0 : UInt8) ++ List.take (min body.length 60) body).length ∧ (List.replicate 16 (0 : UInt8) ++ List.take (min body.length 60) body).length ≤ 2084 := by omega
  clear lB lb
  generalize List.replicate 16 (0 : UInt8) ++ List.take (min body.length 60) body = B at *
  obtain ⟨t1, t2, t3, t4, t5, t6, t7⟩ := tran_ok (r := rc) (ct := ct) hB.1 hB.2
  have t9 : decE 4 (tranL rc ct B) = 0 := if_pos t4
  have t10 : decE 3 (tranL rc ct B) = 4 := if_neg (by rw [t4]; decide)
  simp only [List.take_length, t1, t2, t3, t4, t5, t6, t7, t9, t10]
  have hI : InI (((16 : Nat) : Int) + (B.length : Int)) := inI_of (by omega) (by omega)
  have hb1 : B.length ≤ 4294967296 := by omega
  have hb2 : 16 + B.length ≤ 4294967296 := by omega
  have tl : List.take (16 + B.length) (tranL rc ct B) = tranL rc ct B := List.take_of_length_le (by omega)
  simp only [hI, hb1, hb2, tl, t3, t4, t5, t6, t7, t9, t10, addNN]
  simp
  exact hI
set_option maxRecDepth 100000 in
set_option maxHeartbeats 4000000 in
theorem law_dec (s : UInt32) (e st t m1 m2 : List UInt8) (s' r' : UInt32) (e' em' m1' m2' : List UInt8) (cr : UInt32) (cn cc : List UInt8) (n : UInt16) (raw : List UInt8) (which at_ by_ : UInt8)
    (h0 : e.length = 32) (h1 : st.length = 48) (h2 : t.length = 28) (h3 : m1.length = 16) (h4 : m2.length = 16) (h5 : e'.length = 32) (h6 : em'.length = 16) (h7 : m1'.length = 16) (h8 : m2'.length = 16) (h9 : cn.length = 24) (h10 : cc.length = 32) :
    vcFn MLd 300 4 [.agg [.one (.u32 s), .vec (.n 32) (.u8 e), .vec (.n 48) (.u8 st), .vec (.n 28) (.u8 t), .vec (.n 16) (.u8 m1), .vec (.n 16) (.u8 m2)], .agg [.one (.u32 s'), .one (.u32 r'), .vec (.n 32) (.u8 e'), .vec (.n 16) (.u8 em'), .vec (.n 16) (.u8 m1'), .vec (.n 16) (.u8 m2')], .agg [.one (.u32 cr), .vec (.n 24) (.u8 cn), .vec (.n 32) (.u8 cc)], .s (.u16 n), .s (.xs 1 (.s raw.length) (.u8 raw)), .s (.u8 which), .s (.u8 at_), .s (.u8 by_)] (.s (.b true)) := by
  rw [vcLDec]
  have i1 := (init_ok (s := s) h0 h1 h2 h3 h4).1
  have p1 := (resp_ok (s := s') (r := r') h5 h6 h7 h8).1
  have c1 := (cook_ok (r := cr) h9 h10).1
  have lb : (List.take (min raw.length 160) raw).length ≤ 160 := by rw [List.length_take]; omega
  simp only [forall_eq, true_and, and_true, io, dropL_zero, Nat.zero_add, Nat.sub_zero, Int.toNat_natCast, minNN, natNN, addNN, tmodNN, List.length_append, List.length_replicate, List.length_cons, List.length_nil, forall_const, implies_true, Bool.true_eq_false, false_implies]
  have hN : 24 + n.toNat % 2080 ≤ 2103 := by omega
  generalize List.take (min raw.length 160) raw = R at *
  generalize initL s e st t m1 m2 = x0 at *
  generalize respL s' r' e' em' m1' m2' = x1 at *
  generalize cookL cr cn cc = x2 at *
  have hw : (which % UInt8.ofNat 4).toNat < 4 := by
    rw [UInt8.toNat_mod]
    exact Nat.mod_lt _ (by decide)
  have n4 : UInt8.ofNat 4 ≠ 0 := by decide
  have n6 : UInt8.ofNat 6 ≠ 0 := by decide
  generalize (which % UInt8.ofNat 4).toNat = q at *
  have hN2 : 24 ≤ 24 + n.toNat % 2080 := by omega
  generalize 24 + n.toNat % 2080 = N at *
  have ha := at_.toNat_lt
  have hz : at_.toNat % (4 + N) < 4 + N := Nat.mod_lt _ (by omega)
  generalize at_.toNat % (4 + N) = z at *
  simp only [List.length_take, List.length_set, List.length_append, List.length_cons, List.length_nil, List.length_replicate]
  repeat' first | apply And.intro | intro
  all_goals first | omega | contradiction
end Go.Proofs.Ytmllcabapgdcdaa
