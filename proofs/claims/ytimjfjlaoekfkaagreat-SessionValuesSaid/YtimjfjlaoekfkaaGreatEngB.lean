/- A symbolic executor over abstract states, its conditions shown to be enough for the model (part 2). -/
import Derived.Test.YtimjfjlaoekfkaaGreatEngA
import Derived.Lib.Strings
import Derived.Laws.Tables
import Derived.Laws.StructEq
/- The operations on abstract values do what the model's do: slices. -/
namespace Go.Eng
open Go Go.RowKit

theorem bd_ok {A : Ad} {w : World} {top j : I} {x : S} {p : List Prop} {xv : Value} (h : bd x top = some (p, j)) (hp : all p) (hx : x.rel A w xv) : ∃ k, xv = .int k (j.val : Int) ∧ j.val ≤ top.val := by
  unfold bd at h
  split at h
  · split at h
    · rename_i m k
      split at h <;> cases h
      rename_i hm
      have := Nat.le_of_ble_eq_true hm
      exact ⟨.i64, hx, by simp only [I.val]; omega⟩
    · rename_i m k
      cases h
      exact ⟨.i64, hx, (all_cons.1 hp).1⟩
    · cases h
  · rename_i x
    cases h
    obtain ⟨h1, h2⟩ := (all_cons.1 hp).1
    refine ⟨.i64, ?_, ?_⟩
    · rw [show xv = ei64 x from hx]; simp only [ei64, I.val]; congr 1; omega
    · simp only [I.val] at h2 ⊢; omega
  all_goals first
    | (cases h; exact ⟨_, hx, (all_cons.1 hp).1⟩)
    | cases h
theorem run_sliceBound {P : Program} {w : World} {k : IntKind} {n y : Nat} {code : BoundsCode} (h : n ≤ y) : (Instr.sliceBound (.int k (n : Int)) y code).run P w = .ok n w := by
  unfold Instr.sliceBound
  rw [Sem.run_bind, run_asIntOf]
  simp only []
  rw [if_pos ⟨by omega, by omega⟩]
  simp [run_pure]
def oRel (A : Ad) (w : World) : Option S → Option Value → Prop
  | none, none => True
  | some s, some v => s.rel A w v
  | _, _ => False
theorem bds_ok {P : Program} {A : Ad} {w : World} {len l h : I} {lo hi mx : Option S} {lov hiv mxv : Option Value} {p : List Prop} {cap : Nat} {b : Bool} (e : bds len lo hi mx = some (p, l, h)) (hp : all p)
    (hl : oRel A w lo lov) (hh : oRel A w hi hiv) (hm : oRel A w mx mxv) (hc : len.val ≤ cap) :
    ∃ m, (Instr.sliceBounds b len.val cap lov hiv mxv).run P w = .ok (l.val, h.val, m) w ∧ l.val ≤ h.val ∧ h.val ≤ len.val ∧ h.val ≤ m ∧ m ≤ cap ∧
      (lo = none → l = .n 0) ∧ (hi = none → h = len) := by
  unfold bds at e
  split at e
  · cases e
  rename_i p1 m1 em
  split at e
  · cases e
  rename_i hne
  split at e
  · cases e
  rename_i p2 h1 eh
  split at e
  · cases e
  rename_i p3 l1 el
  cases e
  obtain ⟨hp12, hp3⟩ := all_append.1 hp
  obtain ⟨hp1, hp2⟩ := all_append.1 hp12
  -- max
  have key1 : (mx = none ∧ mxv = none ∧ m1 = len) ∨ ∃ x k, mx = some x ∧ mxv = some (.int k (m1.val : Int)) ∧ m1.val ≤ len.val := by
    cases mx with
    | none =>
      cases mxv with
      | none => simp only [bdO, Option.some.injEq, Prod.mk.injEq] at em; exact .inl ⟨rfl, rfl, em.2.symm⟩
      | some v => exact hm.elim
    | some x =>
      cases mxv with
      | none => exact hm.elim
      | some v =>
        obtain ⟨k, rfl, hle⟩ := bd_ok em hp1 hm
        exact .inr ⟨x, k, rfl, rfl, hle⟩
  have key2 : (hi = none ∧ hiv = none ∧ h = len) ∨ ∃ x k, hi = some x ∧ hiv = some (.int k (h.val : Int)) ∧ h.val ≤ m1.val := by
    cases hi with
    | none =>
      cases hiv with
      | none => simp only [bdO, Option.some.injEq, Prod.mk.injEq] at eh; exact .inl ⟨rfl, rfl, eh.2.symm⟩
      | some v => exact hh.elim
    | some x =>
      cases hiv with
      | none => exact hh.elim
      | some v =>
        obtain ⟨k, rfl, hle⟩ := bd_ok eh hp2 hh
        exact .inr ⟨x, k, rfl, rfl, hle⟩
  have key3 : (lo = none ∧ lov = none ∧ l = .n 0) ∨ ∃ x k, lo = some x ∧ lov = some (.int k (l.val : Int)) ∧ l.val ≤ h.val := by
    cases lo with
    | none =>
      cases lov with
      | none => simp only [bdO, Option.some.injEq, Prod.mk.injEq] at el; exact .inl ⟨rfl, rfl, el.2.symm⟩
      | some v => exact hl.elim
    | some x =>
      cases lov with
      | none => exact hl.elim
      | some v =>
        obtain ⟨k, rfl, hle⟩ := bd_ok el hp3 hl
        exact .inr ⟨x, k, rfl, rfl, hle⟩
  clear em eh el hl hh hm hp hp1 hp2 hp3 hp12
  unfold Instr.sliceBounds
  rcases key1 with ⟨rfl, rfl, rfl⟩ | ⟨mx, mk, rfl, rfl, hm1⟩ <;> rcases key2 with ⟨rfl, rfl, rfl⟩ | ⟨hx, hk, rfl, rfl, hh1⟩ <;> rcases key3 with ⟨rfl, rfl, rfl⟩ | ⟨lx, lk, rfl, rfl, hl1⟩ <;> simp only []
  · exact ⟨cap, rfl, Nat.zero_le _, Nat.le_refl _, hc, Nat.le_refl _, (fun _ => by trivial), (fun _ => by trivial)⟩
  · refine ⟨cap, ?_, hl1, Nat.le_refl _, hc, Nat.le_refl _, (fun e => by first | cases e | trivial), (fun _ => by trivial)⟩
    rw [Sem.run_bind, run_pure]; simp only []
    rw [Sem.run_bind, run_pure]; simp only []
    rw [Sem.run_bind, run_sliceBound hl1]; rfl
  · refine ⟨cap, ?_, Nat.zero_le _, hh1, by omega, Nat.le_refl _, (fun _ => by trivial), (fun e => by first | cases e | trivial)⟩
    rw [Sem.run_bind, run_pure]; simp only []
    rw [Sem.run_bind, run_sliceBound (by omega)]; rfl
  · refine ⟨cap, ?_, hl1, hh1, by omega, Nat.le_refl _, (fun e => by first | cases e | trivial), (fun e => by first | cases e | trivial)⟩
    rw [Sem.run_bind, run_pure]; simp only []
    rw [Sem.run_bind, run_sliceBound (by omega)]; simp only []
    rw [Sem.run_bind, run_sliceBound hl1]; rfl
  · exact absurd rfl (hne mx rfl)
  · exact absurd rfl (hne mx rfl)
  · refine ⟨m1.val, ?_, Nat.zero_le _, by omega, hh1, by omega, (fun _ => by trivial), (fun e => by first | cases e | trivial)⟩
    rw [Sem.run_bind, run_sliceBound (by omega)]; simp only []
    rw [Sem.run_bind, run_sliceBound hh1]; rfl
  · refine ⟨m1.val, ?_, hl1, by omega, hh1, by omega, (fun e => by first | cases e | trivial), (fun e => by first | cases e | trivial)⟩
    rw [Sem.run_bind, run_sliceBound (by omega)]; simp only []
    rw [Sem.run_bind, run_sliceBound hh1]; simp only []
    rw [Sem.run_bind, run_sliceBound hl1]; rfl
theorem Vec.dropI_ok {A : Ad} {w : World} {v : Vec} {cs : List Value} {i : I} (h : v.rel A w cs) : (v.dropI i).rel A w (cs.drop i.val) := by
  cases i with
  | n i => exact Vec.drop_ok h
  | s i => exact Vec.dropS_ok h
theorem vcut_ok {A : Ad} {w : World} {v : Vec} {cs : List Value} {z : Nat} {lo hi : Option S} {l h : I} {len : Nat} (hv : v.rel A w cs) (hcs : cs.length = len * z) (h1 : l.val ≤ h.val) (h2 : h.val ≤ len)
    (h3 : lo = none → l = .n 0) (h4 : hi = none → h.val = len) : (vcut v z lo hi l h).rel A w ((cs.drop (l.val * z)).take ((h.val - l.val) * z)) := by
  have hmul : h.val * z ≤ len * z := Nat.mul_le_mul_right z h2
  have hsub : (h.val - l.val) * z = h.val * z - l.val * z := Nat.sub_mul _ _ _
  cases lo with
  | none =>
    have := h3 rfl; subst this
    rw [show (I.n 0).val = 0 from rfl] at h1 ⊢
    cases hi with
    | none =>
      have := h4 rfl
      simp only [vcut]
      rw [Nat.zero_mul, List.drop_zero, List.take_of_length_le (by rw [hcs, this]; simp)]
      exact hv
    | some x =>
      simp only [vcut, I.val_mul]
      simpa using Vec.take_ok (i := h.val * z) hv
  | some y =>
    cases hi with
    | none =>
      have := h4 rfl
      simp only [vcut]
      rw [List.take_of_length_le (by simp; rw [hcs, hsub, this]; omega), ← I.val_mul]
      exact Vec.dropI_ok hv
    | some x =>
      simp only [vcut]
      rw [← I.val_mul, ← I.val_sub, ← I.val_mul]
      exact Vec.take_ok (Vec.dropI_ok hv)
theorem scut_ok {v : List UInt8} {lo hi : Option S} {l h : I} (h1 : l.val ≤ h.val) (h2 : h.val ≤ v.length) (h3 : lo = none → l = .n 0) (h4 : hi = none → h.val = v.length) :
    scut v lo hi l h = (v.drop l.val).take (h.val - l.val) := by
  cases lo with
  | none =>
    have := h3 rfl; subst this
    rw [show (I.n 0).val = 0 from rfl] at h1 ⊢
    cases hi with
    | none => have := h4 rfl; simp only [scut]; rw [List.drop_zero, List.take_of_length_le (by omega)]
    | some x => simp [scut]
  | some y =>
    cases hi with
    | none => have := h4 rfl; simp only [scut]; rw [List.take_of_length_le (by simp; omega)]
    | some x => simp [scut, I.val_sub]
theorem XB.sub {A : Ad} {w : World} {cs : List Value} {z n cap off blk l h m : Nat} {arr : Array Value} {T : TypeId} {fz : Nat × Nat} (h1 : n ≤ cap) (h2 : n * z = cs.length) (h3 : ∀ b, A b ≠ some blk) (h4 : w.heap[blk]? = some (.cells arr T fz))
    (h5 : (arr.toList.drop off).take (n * z) = cs) (hl : l ≤ h) (hh : h ≤ n) (hm : h ≤ m) (hmc : m ≤ cap) :
    XB A w ((cs.drop (l * z)).take ((h - l) * z)) z (.slice (if m = l then some ⟨blk, off, none⟩ else Option.map (fun a : Addr => a.add (l * z)) (some ⟨blk, off, none⟩)) (h - l) (m - l)) := by
  have hsub : (h - l) * z = h * z - l * z := Nat.sub_mul _ _ _
  have hhz : h * z ≤ n * z := Nat.mul_le_mul_right z hh
  have hlz : l * z ≤ h * z := Nat.mul_le_mul_right z hl
  by_cases e : m = l
  · rw [if_pos e]
    have : h = l := by omega
    subst this
    exact .inr ⟨blk, off, 0, 0, arr, T, fz, by simp [e], Nat.le_refl _, by simp, h3, h4, by simp⟩
  · rw [if_neg e]
    refine .inr ⟨blk, off + l * z, h - l, m - l, arr, T, fz, by simp [add_none], by omega, by simp; omega, h3, h4, ?_⟩
    rw [← h5, List.drop_take, List.take_take, List.drop_drop, Nat.min_eq_left (by omega)]

theorem aSlice_ok {P : Program} {A : Ad} {w : World} {own : List Blk} {T : TypeId} {p : List Prop} {x : S} {lo hi mx : Option S} {v : V} {u : U} {xv : Value} {lov hiv mxv : Option Value} (h : aSlice P T x lo hi mx own = some (p, v, u)) (hp : all p)
    (ho : OwnOK A w own) (hx : x.rel A w xv) (hl : oRel A w lo lov) (hh : oRel A w hi hiv) (hm : oRel A w mx mxv) : MemOk P A w (Instr.sliceAt T xv lov hiv mxv) (applyU own u) v := by
  unfold aSlice at h
  split at h
  · rename_i n e hT
    split at h
    · cases h
    rename_i he
    obtain ⟨ie, hie⟩ := info_of_cells (Nat.le_of_ble_eq_true he)
    split at h
    · rename_i k o
      split at h
      · cases h
      rename_i cs hg
      split at h
      · cases h
      rename_i tot htot
      split at h
      · cases h
      rename_i hle
      have hle := Nat.le_of_ble_eq_true hle
      split at h
      · cases h
      rename_i p' l h' hb
      cases h
      obtain ⟨a, ha, rfl⟩ := hx
      obtain ⟨arr, E, fz, cells, spare, g1, g2, g3, g4⟩ := ho.at (getO_some hg) ha (szL_nm htot)
      have hs : arr.size = cells.length + spare.length := by have := congrArg List.length g3; simpa using this
      have hct := szL_ok g4 htot
      obtain ⟨m, hrun, q1, q2, q3, q4, _, _⟩ := bds_ok (P := P) (cap := n) (b := false) hb hp hl hh hm (Nat.le_refl _)
      refine MemOk.pure (x := .slice (some (if m = l.val then ⟨a, o, none⟩ else ⟨a, o + l.val * P.cellsOf e, none⟩)) (h'.val - l.val) (m - l.val)) ho ?_ ?_
      · unfold Instr.sliceAt
        rw [Sem.run_bind, run_underlying hT]
        simp only []
        rw [Sem.run_bind, run_sureAddr]
        simp only []
        rw [Sem.run_bind]
        have hrun' : (Instr.sliceBounds false n n lov hiv mxv).run P w = _ := hrun
        rw [hrun']
        simp only []
        rw [Sem.run_bind, run_sizeOf hie]
        simp only [run_pure, add_none]
      · refine .inr ⟨a, if m = l.val then o else o + l.val * P.cellsOf e, m - l.val, arr, E, fz, ha, ?_, ?_, ?_, g1, ?_⟩
        · rw [I.val_sub]; split <;> rfl
        · rw [I.val_sub]; omega
        · rw [I.val_mul, I.val_sub]
          split
          · rename_i em; right; omega
          · left; rfl
        · have h1 : m * P.cellsOf e ≤ n * P.cellsOf e := Nat.mul_le_mul_right _ q4
          have h2 : (m - l.val) * P.cellsOf e = m * P.cellsOf e - l.val * P.cellsOf e := Nat.sub_mul _ _ _
          have h3 : l.val * P.cellsOf e ≤ m * P.cellsOf e := Nat.mul_le_mul_right _ (by omega)
          split
          · rename_i em; have e0 : m - l.val = 0 := by omega
            rw [e0, Nat.zero_mul]; omega
          · omega
    · rename_i y i
      split at h
      · rename_i l
        split at h
        · rename_i kd hkd hone
          have hone := Nat.eq_of_beq_eq_true hone
          cases h
          obtain ⟨hi1, hp⟩ := all_cons.1 hp
          obtain ⟨hi2, _⟩ := all_cons.1 hp
          obtain ⟨cs, blk, off, arr, T', fz, ⟨rfl, k0⟩, rfl, k2, k3, k4⟩ := hx
          have hlo : lov = none := by cases lov with | none => rfl | some _ => cases hl
          have hhi : hiv = none := by cases hiv with | none => rfl | some _ => cases hh
          have hmx : mxv = none := by cases mxv with | none => rfl | some _ => cases hm
          have hb : bds (.n n) none none none = some ([], .n 0, .n n) := rfl
          obtain ⟨m, hrun, q1, q2, q3, q4, _, _⟩ := bds_ok (P := P) (w := w) (A := A) (cap := n) (b := false) hb all_nil hl hh hm (Nat.le_refl _)
          simp only [I.val] at hrun q1 q2 q3 q4
          refine MemOk.pure (x := .slice (some ⟨blk, off + i, none⟩) n m) ho ?_ ?_
          · unfold Instr.sliceAt
            rw [Sem.run_bind, run_underlying hT]
            simp only []
            rw [Sem.run_bind, run_sureAddr]
            simp only []
            rw [Sem.run_bind]
            have hrun' : (Instr.sliceBounds false n n lov hiv mxv).run P w = _ := hrun
            rw [hrun']
            simp only []
            rw [Sem.run_bind, run_sizeOf hie]
            simp only [run_pure, add_none, Nat.zero_mul, Nat.add_zero, Nat.sub_zero, ite_self]
          · refine ⟨Nat.one_pos, (cs.drop i).take n, Kd.decV_ok hi2, .inr ⟨blk, off + i, n, m, arr, T', fz, rfl, by omega, ?_, k2, k3, ?_⟩, ?_⟩
            · simp; omega
            · have ee : (cs.drop i).take n = (((arr.toList.drop off).take cs.length).drop i).take n := by rw [k4]
              rw [Nat.mul_one, ee, List.drop_take, List.take_take, List.drop_drop, Nat.min_eq_left (by omega)]
            · simp [I.val]; omega
        · cases h
      · cases h
    · cases h
  · rename_i e hT
    split at h
    · cases h
    rename_i he
    have hez := Nat.le_of_ble_eq_true he
    obtain ⟨ie, hie⟩ := info_of_cells hez
    have hrunS : ∀ (a : Option Addr) (len cap l h m : Nat), (Instr.sliceBounds true len cap lov hiv mxv).run P w = .ok (l, h, m) w →
        (Instr.sliceAt T (.slice a len cap) lov hiv mxv).run P w = .ok (.slice (if m = l then a else a.map (·.add (l * P.cellsOf e))) (h - l) (m - l)) w := by
      intro a len cap l h m hr
      unfold Instr.sliceAt
      rw [Sem.run_bind, run_underlying hT]
      simp only []
      unfold Instr.slice
      rw [Sem.run_bind, run_underlying hT]
      simp only []
      rw [Sem.run_bind, hr]
      simp only []
      rw [Sem.run_bind, run_sizeOf hie]
      rfl
    split at h
    · split at h
      · cases h
      rename_i p' l h' hb
      cases h
      simp only [S.rel] at hx
      subst hx
      obtain ⟨m, hrun, q1, q2, q3, q4, _, _⟩ := bds_ok (P := P) (cap := 0) (b := true) hb hp hl hh hm (Nat.le_refl _)
      simp only [I.val] at q2 q4
      refine MemOk.pure ho (hrunS none 0 0 _ _ _ hrun) ?_
      have e1 : h'.val - l.val = 0 := by omega
      have e2 : m - l.val = 0 := by omega
      rw [e1, e2]
      show Value.slice _ 0 0 = _
      split <;> rfl
    · rename_i k o i len z
      split at h
      · cases h
      rename_i hz
      have hz := Nat.eq_of_beq_eq_true hz
      subst hz
      split at h
      · cases h
      rename_i p' l h' hb
      cases h
      rcases hx with ⟨rfl, hlen⟩ | ⟨a, off, cap, arr, E, fz, ha, rfl, g3, g4, g5, g6⟩
      · obtain ⟨m, hrun, q1, q2, q3, q4, _, _⟩ := bds_ok (P := P) (cap := 0) (b := true) hb hp hl hh hm (by omega)
        rw [hlen] at hrun
        refine MemOk.pure ho (hrunS none 0 0 _ _ _ hrun) (.inl ⟨?_, by rw [I.val_sub]; omega⟩)
        have e1 : h'.val - l.val = 0 := by omega
        have e2 : m - l.val = 0 := by omega
        rw [e1, e2]
        split <;> rfl
      · obtain ⟨m, hrun, q1, q2, q3, q4, _, _⟩ := bds_ok (P := P) (cap := cap) (b := true) hb hp hl hh hm g3
        refine MemOk.pure ho (hrunS _ _ _ _ _ _ hrun) ?_
        have h1 : m * P.cellsOf e ≤ cap * P.cellsOf e := Nat.mul_le_mul_right _ q4
        have h2 : (m - l.val) * P.cellsOf e = m * P.cellsOf e - l.val * P.cellsOf e := Nat.sub_mul _ _ _
        have h3 : l.val * P.cellsOf e ≤ m * P.cellsOf e := Nat.mul_le_mul_right _ (by omega)
        refine .inr ⟨a, if m = l.val then off else off + l.val * P.cellsOf e, m - l.val, arr, E, fz, ha, ?_, ?_, ?_, g5, ?_⟩
        · rw [I.val_sub]; split <;> simp [add_none]
        · rw [I.val_sub]; omega
        · rw [I.val_add, I.val_mul, I.val_sub]
          split
          · rename_i em; right; omega
          · rename_i em
            rcases g4 with g4 | g4
            · left; omega
            · exfalso; omega
        · split
          · rename_i em; have e0 : m - l.val = 0 := by omega
            rw [e0, Nat.zero_mul]; omega
          · omega
    · rename_i z len y
      split at h
      · cases h
      rename_i hz
      have hz := Nat.eq_of_beq_eq_true hz
      subst hz
      split at h
      · cases h
      rename_i p' l h' hb
      cases h
      obtain ⟨h0, cs, h1, h2, h3⟩ := hx
      rcases h2 with ⟨⟨a0, rfl⟩, rfl⟩ | ⟨blk, off, n, cap, arr, E, fz, rfl, g2, g3, g4, g5, g6⟩
      · have hlen : len.val = 0 := by
          simp only [List.length_nil] at h3
          rcases Nat.mul_eq_zero.1 h3 with h4 | h4
          · exact h4
          · omega
        obtain ⟨m, hrun, q1, q2, q3, q4, q5, q6⟩ := bds_ok (P := P) (cap := 0) (b := true) hb hp hl hh hm (by omega)
        rw [hlen] at hrun
        refine MemOk.pure ho (hrunS a0 0 0 _ _ _ hrun) ⟨h0, [], ?_, .inl ⟨?_, rfl⟩, by rw [I.val_sub, show h'.val - l.val = 0 by omega]; simp⟩
        · have := vcut_ok (z := P.cellsOf e) (lo := lo) (hi := hi) (l := l) (h := h') (len := len.val) h1 (by simp [hlen]) q1 q2 q5 (fun e => by rw [q6 e])
          simpa using this
        · have e1 : h'.val - l.val = 0 := by omega
          have e2 : m - l.val = 0 := by omega
          rw [e1, e2]
          exact ⟨_, rfl⟩
      · have hn : n = len.val := Nat.eq_of_mul_eq_mul_right h0 (by omega)
        subst hn
        obtain ⟨m, hrun, q1, q2, q3, q4, q5, q6⟩ := bds_ok (P := P) (cap := cap) (b := true) hb hp hl hh hm g2
        refine MemOk.pure ho (hrunS _ _ _ _ _ _ hrun) ⟨h0, _, vcut_ok (lo := lo) (hi := hi) h1 h3.symm q1 q2 q5 (fun e => by rw [q6 e]), XB.sub g2 g3 g4 g5 g6 q1 q2 q3 q4, ?_⟩
        have hhz : h'.val * P.cellsOf e ≤ len.val * P.cellsOf e := Nat.mul_le_mul_right _ q2
        have hlz : l.val * P.cellsOf e ≤ h'.val * P.cellsOf e := Nat.mul_le_mul_right _ q1
        have hsub : (h'.val - l.val) * P.cellsOf e = h'.val * P.cellsOf e - l.val * P.cellsOf e := Nat.sub_mul _ _ _
        rw [I.val_sub]
        simp; omega
    · cases h
  · rename_i hT
    split at h
    · rename_i y
      split at h
      · cases h
      split at h
      · cases h
      rename_i p' l h' hb
      cases h
      simp only [S.rel, S.sc] at hx
      subst hx
      cases mxv with
      | some _ => exact hm.elim
      | none =>
        obtain ⟨m, hrun, q1, q2, q3, q4, q5, q6⟩ := bds_ok (P := P) (cap := y.length) (b := false) hb hp hl hh hm (Nat.le_refl _)
        refine MemOk.pure (x := .string (ByteArray.extract ⟨y.toArray⟩ l.val h'.val)) ho ?_ ?_
        · unfold Instr.sliceAt
          rw [Sem.run_bind, run_underlying hT]
          simp only []
          unfold Instr.slice
          rw [Sem.run_bind, run_underlying hT]
          simp only [Option.isSome_none, Bool.false_eq_true, if_false]
          rw [Sem.run_bind]
          have e : (ByteArray.mk y.toArray).size = y.length := by simp [ByteArray.size]
          have hrun' : (Instr.sliceBounds false y.length y.length lov hiv none).run P w = _ := hrun
          rw [e, hrun']
          rfl
        · show Value.string _ = Value.string _
          congr 1
          apply ByteArray.ext
          apply Array.ext'
          have := Lib.extract_data ⟨y.toArray⟩ l.val h'.val
          rw [this]
          rw [scut_ok q1 q2 q5 (fun e => by rw [q6 e]; rfl)]
    · cases h
  · cases h
end Go.Eng
/- The operations on abstract values do what the model's do: append, copy, make, len. -/
namespace Go.Eng
open Go Go.RowKit

structure Src (P : Program) (A : Ad) (w : World) (z : Nat) (v : Value) (n : Nat) (cs : List Value) : Prop where
  len : (Builtin.lenOf v).run P w = .ok n w
  all : cs.length = n * z
  first : ∀ w', w'.heap = w.heap → ∀ m, m ≤ n → (Builtin.firstCells z m v).run P w' = .ok (cs.take (m * z)).toArray w'
theorem Src.nil {P : Program} {A : Ad} {w : World} {z : Nat} {a : Option Addr} : Src P A w z (.slice a 0 0) 0 [] :=
  ⟨rfl, by simp, fun w' _ m hm => by
    cases a with
    | none => simp [Builtin.firstCells, run_pure]
    | some a =>
      have e : m * z = 0 := by have : m = 0 := by omega
                               rw [this, Nat.zero_mul]
      unfold Builtin.firstCells
      rw [e]; simp [loadCells, loadCellsFrom, run_pure]⟩
theorem Src.row {P : Program} {A : Ad} {w : World} {z n cap a off : Nat} {arr : Array Value} {T : TypeId} {fz : Nat × Nat} {cs : List Value} (h : w.heap[a]? = some (.cells arr T fz)) (hn : (arr.toList.drop off).take (n * z) = cs) (hl : cs.length = n * z) :
    Src P A w z (.slice (some ⟨a, off, none⟩) n cap) n cs := by
  refine ⟨rfl, hl, fun w' hw' m hm => ?_⟩
  have h : w'.heap[a]? = some (.cells arr T fz) := by rw [hw']; exact h
  have hmz : m * z ≤ n * z := Nat.mul_le_mul_right z hm
  have hlen := congrArg List.length hn
  simp at hlen
  unfold Builtin.firstCells
  by_cases h0 : m * z = 0
  · rw [h0]; simp [loadCells, loadCellsFrom, run_pure]
  · rw [run_loadCells h (by omega), ← hn, List.take_take, Nat.min_eq_left hmz]
theorem Src.str {P : Program} {A : Ad} {w : World} {l : List UInt8} : Src P A w 1 (.string ⟨l.toArray⟩) l.length (l.map eu8) := by
  refine ⟨rfl, by simp, fun w' _ m hm => ?_⟩
  unfold Builtin.firstCells
  rw [run_pure]
  congr 1
  apply Array.ext'
  simp only [Array.toList_map]
  have := Lib.extract_data ⟨l.toArray⟩ 0 m
  rw [this]
  simp [List.map_take]
  rfl
theorem szI_ok {A : Ad} {w : World} : ∀ {cs : List Ch} {l : List Value}, ChsRel A w cs l → l.length = (szI cs).val
  | [], l, h => by simp only [ChsRel] at h; subst h; rfl
  | [c], l, h => by
    obtain ⟨l1, l2, rfl, h1, h2, h3⟩ := h.cons_size
    simp only [ChsRel] at h3; subst h3
    simp [szI, h1]
  | c :: d :: r, l, h => by
    obtain ⟨l1, l2, rfl, h1, h2, h3⟩ := h.cons_size
    have := szI_ok h3
    rw [szI, I.val_add]
    · simp; omega
    · intro e; cases e
theorem srcOf0_ok {P : Program} {A : Ad} {w : World} {own : List Blk} {x : S} {p : List Prop} {n : I} {new : List Ch} {xv : Value} {z : Nat} (h : srcOf0 x own = some (p, n, new)) (hp : all p) (ho : OwnOK A w own) (hx : x.rel A w xv)
    (hz : ∀ k o i len z', x = .sl k o i len z' → z' = z) (hz2 : ∀ z' len v, x = .xs z' len v → z' = z) (hz3 : ∀ l, x = .str l → z = 1) : ∃ cs, Src P A w z xv n.val cs ∧ ChsRel A w new cs := by
  unfold srcOf0 at h
  split at h
  · cases h
    simp only [S.rel] at hx
    subst hx
    exact ⟨[], .nil, rfl⟩
  · rename_i z' len v
    cases h
    have e := hz2 _ _ _ rfl
    subst e
    obtain ⟨h0, cs, h1, h2, h3⟩ := hx
    refine ⟨cs, ?_, vec_mk (by rw [I.val_mul]; omega) h1⟩
    rcases h2 with ⟨⟨a0, rfl⟩, rfl⟩ | ⟨blk, off, nn, cap, arr, E, fz, rfl, g2, g3, g4, g5, g6⟩
    · have hlen : n.val = 0 := by
        simp only [List.length_nil] at h3
        rcases Nat.mul_eq_zero.1 h3 with h4 | h4
        · exact h4
        · omega
      rw [hlen]; exact .nil
    · have hn : nn = n.val := Nat.eq_of_mul_eq_mul_right h0 (by omega)
      subst hn
      exact .row g5 g6 h3.symm
  · rename_i l
    cases h
    have e := hz3 _ rfl
    subst e
    simp only [S.rel, S.sc] at hx
    subst hx
    exact ⟨_, .str, vec_mk (by simp [I.val]) rfl⟩
  · rename_i k o i len z'
    have e := hz _ _ _ _ _ rfl
    subst e
    split at h
    · cases h
    rename_i cs hg
    have hk := getO_some hg
    split at h
    · cases h
    rename_i hnm
    split at h
    · rename_i i len
      split at h
      · cases h
      rename_i q t hr
      cases h
      rcases hx with ⟨rfl, hlen⟩ | ⟨a, off, cap, arr, E, fz, ha, rfl, g3, g4, g5, g6⟩
      · obtain ⟨cells, hc⟩ := ho.cells hk hnm
        obtain ⟨q1, q2⟩ := rdA_ok hr hp hc
        simp only [I.val] at hlen
        subst hlen
        simp only [Nat.zero_mul, List.take_zero] at q2
        exact ⟨[], .nil, q2⟩
      · obtain ⟨arr', E', fz', cells, spare, k1, k2, k3, k4⟩ := ho.at hk ha hnm
        rw [g5] at k1; cases k1
        obtain ⟨q1, q2⟩ := rdA_ok hr hp k4
        refine ⟨_, .row g5 rfl ?_, ?_⟩
        · have := congrArg List.length k3
          simp only [I.val] at g4 g3 ⊢
          simp at this ⊢
          rcases g4 with g4 | g4
          · omega
          · rw [g4.1]; simp
        · simp only [I.val] at g4 ⊢
          rcases g4 with g4 | g4
          · rw [g4, k3, List.drop_append_of_le_length (by omega), List.take_append_of_le_length (by simp; omega)]
            exact q2
          · rw [g4.1] at q2 ⊢
            simpa using q2
    · split at h
      · rename_i b m v j a hf
        cases h
        have hlz : (n.mul z').val = n.val * z' := I.val_mul _ _
        rcases hx with ⟨rfl, hlen⟩ | ⟨a', off, cap, arr, E, fz, ha, rfl, g3, g4, g5, g6⟩
        · obtain ⟨cells, hc⟩ := ho.cells hk hnm
          obtain ⟨_, l1, l2, l3, _, _, _, h6, _, _, _⟩ := findC_ok hf hc
          have h7 := Vec.take_ok (i := (n.mul z').val) (Vec.dropI_ok (i := i) (Vec.drop_ok (i := j) (vec_rel h6).2))
          have e0 : (n.mul z').val = 0 := by rw [I.val_mul, hlen, Nat.zero_mul]
          rw [e0] at h7
          simp only [List.take_zero] at h7
          refine ⟨[], ?_, vec_mk (by rw [e0]; rfl) (by rw [e0]; exact h7)⟩
          rw [hlen]; exact .nil
        · obtain ⟨arr', E', fz', cells, spare, k1, k2, k3, k4⟩ := ho.at hk ha hnm
          rw [g5] at k1; cases k1
          obtain ⟨_, l1, l2, l3, rfl, e5, _, h6, h7, _, _⟩ := findC_ok hf k4
          obtain ⟨e8, e9⟩ := vec_rel h6
          have hle := (all_cons.1 hp).1
          have h10 := Vec.take_ok (i := (n.mul z').val) (Vec.dropI_ok (i := i) (Vec.drop_ok (i := j) e9))
          rw [List.drop_drop] at h10
          rw [hlz] at hle
          have hlen : ((l2.drop (j + i.val)).take (n.val * z')).length = n.val * z' := by simp; omega
          refine ⟨(l2.drop (j + i.val)).take (n.val * z'), .row g5 ?_ hlen, vec_mk (by rw [hlz]; exact hlen) (by rw [hlz] at h10 ⊢; exact h10)⟩
          rcases g4 with g4 | g4
          · rw [k3, List.append_assoc, List.append_assoc]
            exact sub_mid (by omega) (by omega)
          · rw [g4.1]; simp
      · split at h
        · cases h
          have hsz := (all_cons.1 hp).1
          rw [I.val_mul] at hsz
          obtain ⟨cells0, hc0⟩ := ho.cells hk hnm
          rcases hx with ⟨rfl, hlen⟩ | ⟨a', off, cap, arr, E, fz, ha, rfl, g3, g4, g5, g6⟩
          · have hl := szI_ok hc0
            rw [← hsz, hlen, Nat.zero_mul] at hl
            have : cells0 = [] := List.length_eq_zero_iff.1 hl
            subst this
            refine ⟨[], ?_, hc0⟩
            rw [hlen]; exact .nil
          · obtain ⟨arr', E', fz', cells, spare, k1, k2, k3, k4⟩ := ho.at hk ha hnm
            rw [g5] at k1; cases k1
            have hl := szI_ok k4
            rw [← hsz] at hl
            refine ⟨cells, .row g5 ?_ hl, k4⟩
            rw [k3]
            rcases g4 with g4 | g4
            · have : off = 0 := by simpa [I.val] using g4
              subst this
              rw [List.drop_zero, List.take_append_of_le_length (by omega), List.take_of_length_le (by omega)]
            · rw [g4.1, Nat.zero_mul] at hl ⊢
              have : cells = [] := List.length_eq_zero_iff.1 hl
              subst this
              simp
        · cases h
  · cases h
theorem srcOf_ok {P : Program} {A : Ad} {w : World} {own : List Blk} {x : S} {p : List Prop} {n : I} {new : List Ch} {xv : Value} {z : Nat} (h : srcOf x own z = some (p, n, new)) (hp : all p) (ho : OwnOK A w own) (hx : x.rel A w xv) :
    ∃ cs, Src P A w z xv n.val cs ∧ ChsRel A w new cs := by
  unfold srcOf at h
  split at h
  · rename_i hz
    refine srcOf0_ok h hp ho hx (fun k o i len z' e => ?_) (fun z' len v e => ?_) (fun l e => ?_) <;> subst e <;> exact Nat.eq_of_beq_eq_true hz
  · cases h
theorem eqI_ok {x y : I} {p : List Prop} {u : Unit} (h : eqI x y = some (p, u)) (hp : all p) : x.val = y.val := by
  unfold eqI at h
  split at h
  · split at h <;> cases h
    rename_i hb
    exact Nat.eq_of_beq_eq_true hb
  · cases h
    exact (all_cons.1 hp).1
theorem catC_ok {A : Ad} {w : World} {cs new : List Ch} {l k : List Value} (h : ChsRel A w cs l) (h2 : ChsRel A w new k) : ChsRel A w (catC cs new) (l ++ k) := by
  unfold catC
  split
  · simp only [ChsRel] at h; subst h; exact h2
  · simp only [ChsRel] at h2; subst h2; simpa using h
  · rename_i n v m u
    obtain ⟨a1, a2⟩ := vec_rel h
    obtain ⟨b1, b2⟩ := vec_rel h2
    split
    · rename_i t ht
      exact vec_mk (by rw [I.val_add]; simp; omega) (Vec.app_ok a2 b2 ht)
    · exact ChsRel.append (b := [.vec n v]) h h2
  · exact h.append h2

theorem cnt_ok {A : Ad} {w : World} {x : S} {n : I} {p : List Prop} {xv : Value} (h : cnt x = some (p, n)) (hp : all p) (hx : x.rel A w xv) : xv = .int .i64 (n.val : Int) ∧ n.val ≤ 4294967296 := by
  unfold cnt at h
  split at h
  · rename_i m
    split at h <;> cases h
    rename_i hb
    exact ⟨hx, Nat.le_of_ble_eq_true hb⟩
  · rename_i x
    cases h
    obtain ⟨h1, h2⟩ := (all_cons.1 hp).1
    refine ⟨?_, by simp only [I.val]; omega⟩
    rw [show xv = ei64 x from hx]; simp only [ei64, I.val]; congr 1; omega
  · cases h
theorem bytesSmall_ok {P : Program} {e : TypeId} (h : bytesSmall P e = true) : ∃ i, P.info? e = some i ∧ 0 < i.bytes ∧ i.bytes ≤ 4096 := by
  unfold bytesSmall at h
  split at h
  · rename_i i hi
    rw [Bool.and_eq_true] at h
    exact ⟨i, hi, Nat.le_of_ble_eq_true h.1, Nat.le_of_ble_eq_true h.2⟩
  · cases h
theorem kindVec_ok {A : Ad} {w : World} {d : Option TypeDesc} {n : Nat} {v : Vec} (h : zvec d n = some v) : ∃ z0 : Value, (∀ m v', zvec d m = some v' → v'.rel A w (List.replicate m z0)) := by
  unfold zvec at h
  split at h
  · rename_i k
    refine ⟨.int k 0, fun m v' h' => ?_⟩
    cases k <;> simp only [zvec, kindVec, Option.some.injEq, reduceCtorEq] at h h' <;> subst h' <;> simp only [Vec.rel, List.map_replicate] <;> rfl
  · refine ⟨.bool false, fun m v' h' => ?_⟩
    simp only [zvec, Option.some.injEq] at h'; subst h'; simp only [Vec.rel, List.map_replicate]; rfl
  · cases h
theorem zeros_list (l : List Value) (hs : 0 < l.length) : ∀ m : Nat, (List.range (m * l.length)).map (fun i => l.toArray[i % l.length]!) = (List.replicate m l).flatten
  | 0 => by simp
  | m + 1 => by
    rw [Nat.succ_mul, List.range_add, List.map_append, zeros_list l hs m, List.replicate_succ', List.flatten_append, List.map_map]
    congr 1
    simp only [List.flatten_cons, List.flatten_nil, List.append_nil]
    apply List.ext_getElem
    · simp
    · intro i h1 h2
      simp only [List.length_map, List.length_range] at h1
      simp [Nat.mod_eq_of_lt h1, h1]
theorem zeros_arr (z : Array Value) (hs : 0 < z.size) (m : Nat) : ((Array.range (m * z.size)).map (fun i => z[i % z.size]!)).toList = (List.replicate m z.toList).flatten := by
  have := zeros_list z.toList (by simpa using hs) m
  simp only [Array.length_toList, Array.toArray_toList] at this
  rw [← this]
  simp
theorem times_ok {A : Ad} {w : World} {cs : List Ch} {l : List Value} (h : ChsRel A w cs l) : ∀ (m : Nat) (acc : List Ch) (k : List Value), ChsRel A w acc k → ChsRel A w (times m cs acc) ((List.replicate m l).flatten ++ k)
  | 0, acc, k, hk => by simpa [times] using hk
  | m + 1, acc, k, hk => by
    have := times_ok h m (cs ++ acc) (l ++ k) (h.append hk)
    simp only [times]
    rw [List.replicate_succ', List.flatten_append]
    simpa using this
theorem zerosOf_ok {P : Program} {e : TypeId} {n : I} {cs : List Ch} (h : zerosOf P e n = some cs) (he : 0 < P.cellsOf e) : ∃ z, (∀ w, (zeroValue e).run P w = .ok z w) ∧ z.cells.size = P.cellsOf e ∧
    ∀ A w, ChsRel A w cs (List.replicate n.val z.cells.toList).flatten := by
  unfold zerosOf at h
  split at h
  · cases h
  rename_i i hi
  split at h
  · cases h
  rename_i z hz
  have hrun : ∀ w, (zeroValue e).run P w = .ok z w := fun w => by
    unfold zeroValue
    rw [Sem.run_bind, run_typeInfo hi]
    simp only [hz]
    rfl
  split at h
  · rename_i v hv
    split at h
    · rename_i v1 hv1 hone
      split at h
      · rename_i hc
        cases h
        have hone := Nat.eq_of_beq_eq_true hone
        refine ⟨z, hrun, ?_, fun A w => ?_⟩
        · obtain ⟨z0, hz0⟩ := kindVec_ok (A := fun _ => none) (w := default) hv1
          obtain ⟨a, ha, hr⟩ := chkVec_ok (A := fun _ => none) (w := default) hc
          have h1 := Vec.rel_len hr
          have h2 := Vec.rel_len (hz0 1 v1 hv1)
          have := congrArg List.length ha
          simp at this h2
          omega
        · obtain ⟨z0, hz0⟩ := kindVec_ok (A := A) (w := w) hv1
          obtain ⟨a, ha, hr⟩ := chkVec_ok (A := A) (w := w) hc
          have h1 := hz0 1 v1 hv1
          have h2 := hz0 n.val v hv
          have e1 : a = List.replicate 1 z0 := by
            cases v1 <;> simp only [Vec.rel] at hr h1
            case sl l =>
              exfalso
              generalize P.underlying e = d at hv1
              unfold zvec at hv1
              split at hv1
              · rename_i k; cases k <;> simp [kindVec] at hv1
              · simp at hv1
              · cases hv1
            case va l =>
              exfalso
              generalize P.underlying e = d at hv1
              unfold zvec at hv1
              split at hv1
              · rename_i k; cases k <;> simp [kindVec] at hv1
              · simp at hv1
              · cases hv1
            all_goals rw [hr, h1]
          rw [ha, e1]
          refine vec_mk (by simp) ?_
          have : (List.replicate n.val (List.replicate 1 z0 ++ [])).flatten = List.replicate n.val z0 := by simp
          rw [this]
          exact h2
      · cases h
    · cases h
  · cases n with
    | s m => cases h
    | n m =>
      simp only [] at h
      split at h
      · rename_i c hc
        split at h
        · rename_i hs
          cases h
          obtain ⟨z', h1, h2⟩ := zeroC_ok hc
          have : z' = z := by
            have := (h1 default).symm.trans (hrun default)
            cases this; rfl
          subst this
          refine ⟨z', hrun, ?_, fun A w => ?_⟩
          · have := isSz_ok (h2 (fun _ => none) default) hs
            simpa using this
          · have := times_ok (h2 A w) m [] [] rfl
            simp only [List.append_nil] at this
            exact this
        · cases h
      · cases h
theorem row_new {P : Program} {A : Ad} {w w1 : World} {own : List Blk} {f : Nat} {cs : List Ch} {cells spare : List Value} (e : TypeId) (z n cap : Nat) (ho : OwnOK A w own) (hf : A f = none) (hw : Below w.heap.size w w1) (hh : w1.heap = w.heap) (hc : ChsRel A w cs cells)
    (hn : n ≤ cap) (hcap : cap * z ≤ cells.length + spare.length) (len : I) (hlen : len.val = n) :
    Keep A w (A1 A f w.heap.size) (w1.alloc (.cells (cells ++ spare).toArray e)) ∧ OwnOK (A1 A f w.heap.size) (w1.alloc (.cells (cells ++ spare).toArray e)) (putO own f (some cs)) ∧
    (S.sl f 0 (.n 0) len z).rel (A1 A f w.heap.size) (w1.alloc (.cells (cells ++ spare).toArray e)) (.slice (some ⟨w.heap.size, 0, none⟩) n cap) := by
  have hb : Below w.heap.size w (w1.alloc (.cells (cells ++ spare).toArray e)) := hw.alloc (by rw [hh]; exact Nat.le_refl _) _
  have hk := own_new_keep (w := w) (w' := w1.alloc (.cells (cells ++ spare).toArray e)) (f := f) hf hb (Nat.le_refl _)
  have hat : (w1.alloc (.cells (cells ++ spare).toArray e)).heap[w.heap.size]? = some (.cells (cells ++ spare).toArray e (0, 0)) := by
    show (w1.heap.push _)[w.heap.size]? = _
    rw [hh]; simp
  refine ⟨hk, own_new_ok ho hf hb (Nat.le_refl _) (by rw [World.size_alloc, hh]; omega) ⟨_, e, (0, 0), cells, spare, hat, .inl rfl, by simp, hk.chs hc⟩, ?_⟩
  exact .inr ⟨w.heap.size, 0, cap, _, e, (0, 0), A1_self _ _ _, by rw [hlen], by omega, .inl rfl, hat, by simpa using hcap⟩
theorem aMake_ok {P : Program} {A : Ad} {w : World} {own : List Blk} {T : TypeId} {p : List Prop} {l c : S} {f : Nat} {v : V} {u : U} {lv cv : Value} (h : aMake P T l c f = some (p, v, u)) (hp : all p) (ho : OwnOK A w own) (hf : A f = none)
    (hl : l.rel A w lv) (hc : c.rel A w cv) : MemOk P A w (Instr.makeSlice T lv cv) (applyU own u) v := by
  unfold aMake at h
  split at h
  · rename_i e hT
    split at h
    · rename_i he hbs
      have he := Nat.le_of_ble_eq_true he
      obtain ⟨i, hi, hb1, hb2⟩ := bytesSmall_ok hbs
      split at h
      · rename_i p1 n q1 m hn hm
        split at h
        · cases h
        rename_i r1 u1 heq
        split at h
        · rename_i cs hz
          cases h
          obtain ⟨hp1, hp2⟩ := all_append.1 hp
          obtain ⟨hp2, hp3⟩ := all_append.1 hp2
          obtain ⟨rfl, hn1⟩ := cnt_ok hn hp1 hl
          obtain ⟨rfl, hm1⟩ := cnt_ok hm hp2 hc
          have hnm := eqI_ok heq hp3
          obtain ⟨z, hz1, hz2, hz3⟩ := zerosOf_ok hz he
          have hlen : ((List.replicate n.val z.cells.toList).flatten).length = n.val * P.cellsOf e := by simp [hz2]
          obtain ⟨k1, k2, k3⟩ := row_new (P := P) (w1 := w) (f := f) (cells := (List.replicate n.val z.cells.toList).flatten) (spare := []) e (P.cellsOf e) n.val n.val ho hf (Below.refl _ _) rfl (hz3 A w) (Nat.le_refl _) (by rw [hlen]; exact Nat.le_add_right _ _) n rfl
          refine ⟨_, _, .slice (some ⟨w.heap.size, 0, none⟩) n.val n.val, ?_, k1, k2, k3⟩
          unfold Instr.makeSlice
          rw [Sem.run_bind, run_underlying hT]
          simp only []
          rw [Sem.run_bind]
          have h1 : ∀ k : Nat, (asInt (.int .i64 (k : Int))).run P w = .ok (k : Int) w := fun k => rfl
          rw [h1]
          simp only []
          rw [Sem.run_bind, h1]
          simp only []
          rw [Sem.run_bind, run_typeInfo hi]
          simp only []
          have hw1 : ∀ k : Nat, k ≤ 4294967296 → IntKind.i64.wrap (k : Int) = k := fun k hk => wrap_i64 ⟨by omega, by omega⟩
          rw [hw1 _ hn1, hw1 _ hm1, ← hnm]
          have hbig : (i.bytes : Int) * (n.val : Int) ≤ 2 ^ 48 := by
            have : i.bytes * n.val ≤ 4096 * 4294967296 := Nat.mul_le_mul hb2 hn1
            have h2 : ((i.bytes * n.val : Nat) : Int) ≤ ((4096 * 4294967296 : Nat) : Int) := Int.ofNat_le.2 this
            rw [Int.natCast_mul] at h2
            omega
          have hask : ∀ b, (askRoom b).run P w = .ok () w := fun b => by unfold askRoom; split <;> rfl
          rw [if_neg]
          · rw [Sem.run_bind, hask]
            simp only []
            rw [Sem.run_bind, run_sizeOf hi]
            simp only [Int.toNat_natCast]
            have hzz : (List.replicate n.val z.cells.toList).flatten = ((Array.range (n.val * z.cells.size)).map (fun i => z.cells[i % z.cells.size]!)).toList := (zeros_arr z.cells (by omega) n.val).symm
            by_cases h0 : n.val * P.cellsOf e = 0
            · rw [if_pos h0, Sem.run_bind, run_pure]
              simp only []
              have e0 : (List.replicate n.val z.cells.toList).flatten = [] := List.length_eq_zero_iff.1 (by rw [hlen, h0])
              rw [e0, h0]
              have er : (Array.range 0).map (fun x => (#[] : Array Value)[x % (#[] : Array Value).size]!) = #[] := by simp
              rw [er]
              rfl
            · rw [if_neg h0, Sem.run_bind, hz1]
              simp only []
              rw [Sem.run_bind, run_pure]
              simp only []
              rw [hzz, hz2]
              simp only [List.append_nil, Array.toArray_toList]
              rfl
          · simp only [Bool.or_eq_true, decide_eq_true_eq]
            omega
        · cases h
      · cases h
    · cases h
  · cases h
end Go.Eng
/- The operations on abstract values do what the model's do: append. -/
namespace Go.Eng
open Go Go.RowKit

def isIntD (d : TypeDesc) : Bool := match d with | .int _ => true | _ => false
def Apd (P : Program) (w : World) (e : TypeId) (d2 : TypeDesc) (x : Value) (n : Nat) (new : List Value) (z0 : Value) : Prop :=
  (isIntD d2 = false ∧ (Builtin.lenOf x).run P w = .ok n w ∧ ∀ w', w'.heap = w.heap → (Builtin.firstCells (P.cellsOf e) n x).run P w' = .ok new.toArray w') ∨
  (isIntD d2 = true ∧ x = .int .i64 (n : Int) ∧ new = (List.replicate n z0.cells.toList).flatten)
theorem grow_le (need : Nat) : ∀ (r c : Nat), c < need → Builtin.growBy need r c ≤ 2 * need + 1000
  | 0, c, h => by simp [Builtin.growBy]; omega
  | r + 1, c, h => by
    unfold Builtin.growBy
    rw [if_neg (by omega)]
    by_cases h2 : c + (c + 768) / 4 < need
    · exact grow_le need r _ h2
    · cases r with
      | zero => simp [Builtin.growBy]; omega
      | succ r => unfold Builtin.growBy; rw [if_pos (by omega)]; omega
theorem nextcap_le (need old : Nat) (h : old < need) : Builtin.nextslicecap need old ≤ 2 * need + 1000 := by
  unfold Builtin.nextslicecap
  split
  · omega
  · split
    · omega
    · exact grow_le need 4 old h
theorem run_askRoom {P : Program} {w : World} {b : Nat} : (askRoom b).run P w = .ok () w := by unfold askRoom; split <;> rfl
theorem zeroCells_eq (z0 : Value) (n : Nat) (h : 0 < z0.cells.size) : Builtin.zeroCells z0.cells n = ((List.replicate n z0.cells.toList).flatten).toArray := by
  unfold Builtin.zeroCells
  apply Array.ext'
  simp only [zeros_arr z0.cells h n]
theorem append_start {P : Program} {w : World} {T T2 e : TypeId} {d2 : TypeDesc} {i : TypeInfo} {RT : TypeId} {base : Option Addr} {sLen sCap n : Nat} {x z0 : Value} {new : List Value} (hT : P.underlying T = some (.slice e)) (hT2 : P.underlying T2 = some d2) (hi : P.info? e = some i)
    (hb : i.bytes ≤ 4096) (hn : Apd P w e d2 x n new z0) (hbig : n ≤ 4294967296) (hz : ∀ w, (zeroValue e).run P w = .ok z0 w) (hz1 : z0.cells.size = P.cellsOf e) (hz2 : 0 < P.cellsOf e) :
    ∃ appended : Sem (Array Value), (∀ w', w'.heap = w.heap → appended.run P w' = .ok new.toArray w') ∧ ∀ r,
      (if sLen + n ≤ sCap then do
          let nw ← appended
          if let some a := base then storeCells (a.add (sLen * P.cellsOf e)) nw.toList
          pure (Value.slice base (sLen + n) sCap)
        else do
          if ((sLen + n : Nat) : Int) > IntKind.i64.max ∧ (isIntD d2 ∨ (← typeInfo e).bytes = 0) then runtimePanic (.error "growslice: len out of range")
          if Builtin.nextslicecap (sLen + n) sCap * (← typeInfo e).bytes > 2 ^ 48 then (if isIntD d2 then runtimePanic (.error "growslice: len out of range") else do
            if !(← Builtin.mayShare (P.cellsOf e) sLen n base x) then mark .noRoom
            unsupported (.resourceLimit "append: a slice or a string whose bytes no memory bears"))
          let newCap ← choose (.appendCap (sLen + n) sCap e)
          askRoom (newCap * (← typeInfo e).bytes)
          let old ← Builtin.firstCells (P.cellsOf e) sLen (.slice base sLen sCap)
          let nw ← appended
          let rest := Builtin.zeroCells (← zeroValue e).cells (newCap - (sLen + n))
          pure (.slice (some (← newRow e (old ++ nw ++ rest))) (sLen + n) newCap) : Sem Value).run P w = r →
      (Builtin.append_ #[T, T2] RT #[.slice base sLen sCap, x]).run P w = r := by
  rcases hn with ⟨h0, h1, h2⟩ | ⟨h0, rfl, rfl⟩
  · refine ⟨Builtin.firstCells (P.cellsOf e) n x, h2, fun r hr => ?_⟩
    unfold Builtin.append_
    simp only [List.getElem?_toArray, List.getElem?_cons_zero, List.getElem?_cons_succ]
    rw [Sem.run_bind, run_underlying hT]
    simp only []
    rw [Sem.run_bind, run_sizeOf hi]
    simp only []
    rw [Sem.run_bind, run_underlying hT2]
    simp only []
    rw [Sem.run_bind, run_pure]
    simp only []
    rw [h0] at hr
    cases d2
    case int => cases h0
    all_goals
      simp only [Bool.false_eq_true, if_false, Bool.not_false, if_true]
      rw [Sem.run_bind, h1]
      simp only [Bool.false_eq_true, if_false] at hr ⊢
      exact hr
  · refine ⟨if n * P.cellsOf e = 0 then pure #[] else do pure (Builtin.zeroCells (← zeroValue e).cells n), fun w' hw' => ?_, fun r hr => ?_⟩
    · split
      · rename_i h3
        have : n = 0 := by rcases Nat.mul_eq_zero.1 h3 with h4 | h4 <;> omega
        subst this
        rfl
      · rw [Sem.run_bind, hz]
        simp only []
        rw [run_pure, zeroCells_eq _ _ (by omega)]
    · unfold Builtin.append_
      simp only [List.getElem?_toArray, List.getElem?_cons_zero, List.getElem?_cons_succ]
      rw [Sem.run_bind, run_underlying hT]
      simp only []
      rw [Sem.run_bind, run_sizeOf hi]
      simp only []
      rw [Sem.run_bind, run_underlying hT2]
      simp only []
      rw [Sem.run_bind, run_pure]
      simp only []
      rw [h0] at hr
      cases d2
      case int kk =>
        simp only [if_true, Bool.not_true, Bool.false_eq_true, if_false]
        have hasI : (asInt (.int .i64 (n : Int))).run P w = .ok (n : Int) w := rfl
        rw [Sem.run_bind, hasI]
        simp only []
        rw [wrap_i64 ⟨by omega, by omega⟩, if_neg (by omega)]
        rw [Sem.run_bind, run_typeInfo hi]
        simp only []
        have hle : (n : Int) * (i.bytes : Int) ≤ 2 ^ 48 := by
          have : n * i.bytes ≤ 4294967296 * 4096 := Nat.mul_le_mul hbig hb
          have h2 : ((n * i.bytes : Nat) : Int) ≤ ((4294967296 * 4096 : Nat) : Int) := Int.ofNat_le.2 this
          rw [Int.natCast_mul] at h2
          omega
        rw [if_neg (by omega)]
        rw [Sem.run_bind, run_pure]
        simp only [Int.toNat_natCast, if_true] at hr ⊢
        exact hr
      all_goals (cases h0)
theorem append_grows {P : Program} {w : World} {T T2 e : TypeId} {d2 : TypeDesc} {i : TypeInfo} {RT : TypeId} {base : Option Addr} {sLen sCap n : Nat} {x z0 : Value} {old new : List Value} (hT : P.underlying T = some (.slice e)) (hT2 : P.underlying T2 = some d2) (hi : P.info? e = some i)
    (hb0 : 0 < i.bytes) (hb : i.bytes ≤ 4096) (hn : Apd P w e d2 x n new z0) (hbig : sLen + n ≤ 4294967296) (hneed : sCap < sLen + n)
    (hold : ∀ w', w'.heap = w.heap → (Builtin.firstCells (P.cellsOf e) sLen (.slice base sLen sCap)).run P w' = .ok old.toArray w')
    (hz : ∀ w, (zeroValue e).run P w = .ok z0 w) (hz1 : z0.cells.size = P.cellsOf e) (hz2 : 0 < P.cellsOf e) :
    ∃ cap spare, sLen + n ≤ cap ∧ spare.length = (cap - (sLen + n)) * P.cellsOf e ∧
      (Builtin.append_ #[T, T2] RT #[.slice base sLen sCap, x]).run P w = .ok (.slice (some ⟨w.heap.size, 0, none⟩) (sLen + n) cap) (w.drew.alloc (.cells (old ++ new ++ spare).toArray e)) := by
  let q : Question := .appendCap (sLen + n) sCap e
  let cap := q.cut (w.tape w.drawn q)
  have hcap : sLen + n ≤ cap := by
    show sLen + n ≤ sLen + n + _
    omega
  refine ⟨cap, (List.replicate (cap - (sLen + n)) z0.cells.toList).flatten, hcap, by simp [hz1], ?_⟩
  obtain ⟨appended, ha1, ha2⟩ := append_start (RT := RT) (base := base) (sLen := sLen) (sCap := sCap) hT hT2 hi hb hn (by omega) hz hz1 hz2
  apply ha2
  rw [if_neg (by omega)]
  have hnc := nextcap_le (sLen + n) sCap hneed
  have hle : Builtin.nextslicecap (sLen + n) sCap * i.bytes ≤ 2 ^ 48 := by
    have : Builtin.nextslicecap (sLen + n) sCap * i.bytes ≤ (2 * 4294967296 + 1000) * 4096 := Nat.mul_le_mul (by omega) hb
    omega
  have hmax : ¬ ((sLen + n : Nat) : Int) > IntKind.i64.max := by
    have : IntKind.i64.max = 9223372036854775807 := by simp [IntKind.max, IntKind.signed, IntKind.bits]
    omega
  rw [Sem.run_bind, run_typeInfo hi]
  simp only []
  rw [if_neg (fun h => hmax h.1)]
  rw [Sem.run_bind, run_typeInfo hi]
  simp only []
  rw [if_neg (by omega)]
  have hch : (choose q).run P w = .ok cap w.drew := rfl
  have hinf : (typeInfo e).run P w.drew = .ok i w.drew := run_typeInfo hi
  rw [Sem.run_bind, hch]
  simp only []
  rw [Sem.run_bind, hinf]
  simp only []
  rw [Sem.run_bind, run_askRoom]
  simp only []
  rw [Sem.run_bind, hold w.drew rfl]
  simp only []
  rw [Sem.run_bind, ha1 w.drew rfl]
  simp only []
  rw [Sem.run_bind, hz]
  simp only []
  rw [zeroCells_eq _ _ (by omega)]
  simp only [List.append_toArray]
  rfl
end Go.Eng
/- The operations on abstract values do what the model's do: append, copy, len. -/
namespace Go.Eng
open Go Go.RowKit

theorem append_fits {P : Program} {w w' : World} {T T2 e : TypeId} {d2 : TypeDesc} {i : TypeInfo} {RT : TypeId} {base : Option Addr} {sLen sCap n : Nat} {x z0 : Value} {new : List Value} (hT : P.underlying T = some (.slice e)) (hT2 : P.underlying T2 = some d2) (hi : P.info? e = some i)
    (hb : i.bytes ≤ 4096) (hn : Apd P w e d2 x n new z0) (hbig : n ≤ 4294967296) (hneed : sLen + n ≤ sCap) (hz : ∀ w, (zeroValue e).run P w = .ok z0 w) (hz1 : z0.cells.size = P.cellsOf e) (hz2 : 0 < P.cellsOf e)
    (hst : match base with | some a => (storeCells (a.add (sLen * P.cellsOf e)) new).run P w = .ok () w' | none => w' = w) :
    (Builtin.append_ #[T, T2] RT #[.slice base sLen sCap, x]).run P w = .ok (.slice base (sLen + n) sCap) w' := by
  obtain ⟨appended, ha1, ha2⟩ := append_start (RT := RT) (base := base) (sLen := sLen) (sCap := sCap) hT hT2 hi hb hn hbig hz hz1 hz2
  apply ha2
  rw [if_pos hneed, Sem.run_bind, ha1 w rfl]
  simp only []
  cases base with
  | none => subst hst; rfl
  | some a =>
    simp only []
    rw [Sem.run_bind, hst]
    rfl
theorem own_none' {A : Ad} {w : World} {own : List Blk} (h : OwnOK A w own) {f : Nat} {cs : List Ch} (hf : A f = none) (hc : ChsRel A w cs []) : OwnOK A w (putO own f (some cs)) where
  inn := h.inn
  dom := fun b x hx => by rw [putO_length]; have := h.dom b x hx; omega
  dist := fun i j x ci cj hi hj hx hy => by
    by_cases e1 : i = f
    · subst e1; rw [hf] at hx; cases hx
    · by_cases e2 : j = f
      · subst e2; rw [hf] at hy; cases hy
      · exact h.dist i j x ci cj (putO_live e1 hi) (putO_live e2 hj) hx hy
  blk := fun i c hi => by
    by_cases e : i = f
    · subst e; rw [putO_self] at hi; cases hi; exact .inr ⟨hf, hc⟩
    · exact h.blk i c (putO_live e hi)
theorem putO_putO : ∀ (own : List Blk) (k : Nat) (x y : Blk), putO (putO own k x) k y = putO own k y
  | [], 0, x, y => rfl
  | [], k + 1, x, y => by simp [putO, putO_putO [] k]
  | _ :: r, 0, x, y => rfl
  | _ :: r, k + 1, x, y => by simp [putO, putO_putO r k]
theorem news_ok {P : Program} {A : Ad} {w : World} {own : List Blk} {e : TypeId} {d2 : TypeDesc} {src : S} {p : List Prop} {n : I} {new : List Ch} {sv : Value}
    (h : aNews P e d2 src own = some (p, n, new)) (hp : all p) (ho : OwnOK A w own) (hs : src.rel A w sv) (he : 0 < P.cellsOf e) (i : TypeInfo) (hi : P.info? e = some i)
    {z0 : Value} (hz0 : ∀ w, (zeroValue e).run P w = .ok z0 w) (hz1 : z0.cells.size = P.cellsOf e) :
    ∃ cells, Apd P w e d2 sv n.val cells z0 ∧ ChsRel A w new cells ∧ cells.length = n.val * P.cellsOf e := by
  by_cases hd : isIntD d2 = true
  · cases d2
    case int kk =>
      simp only [aNews] at h
      obtain ⟨q, a, r, h1, h2, h3, h4⟩ := bindR_some h hp
      split at h3
      · rename_i cs hcs
        cases h3
        obtain ⟨rfl, hn⟩ := cnt_ok h1 h2 hs
        obtain ⟨z, g1, g2, g3⟩ := zerosOf_ok hcs he
        have : z = z0 := by have := (g1 default).symm.trans (hz0 default); cases this; rfl
        subst this
        exact ⟨_, .inr ⟨rfl, rfl, rfl⟩, g3 A w, by simp [g2]⟩
      · cases h3
    all_goals (cases hd)
  · have h' : srcOf src own (P.cellsOf e) = some (p, n, new) := by
      cases d2
      case int kk => exact absurd rfl hd
      all_goals exact h
    obtain ⟨cs, h1, h2⟩ := srcOf_ok (P := P) h' hp ho hs
    refine ⟨cs, .inl ⟨by simpa using hd, h1.len, fun w' hw' => ?_⟩, h2, h1.all⟩
    have := h1.first w' hw' n.val (Nat.le_refl _)
    rwa [List.take_of_length_le (by rw [h1.all]; exact Nat.le_refl _)] at this

theorem zeroSz_ok {P : Program} {e : TypeId} (h : zeroSz P e = true) : ∃ z0, (∀ w, (zeroValue e).run P w = .ok z0 w) ∧ z0.cells.size = P.cellsOf e := by
  unfold zeroSz at h
  split at h
  · cases h
  rename_i i hi
  split at h
  · cases h
  rename_i z hz
  refine ⟨z, fun w => ?_, Nat.eq_of_beq_eq_true h⟩
  unfold zeroValue
  rw [Sem.run_bind, run_typeInfo hi]
  simp only [hz]
  rfl
theorem first_nil {P : Program} {w : World} {z n : Nat} : (Builtin.firstCells z n (.slice none 0 0)).run P w = .ok ([] : List Value).toArray w := rfl
theorem aAppend0_ok {P : Program} {A : Ad} {w : World} {own : List Blk} {ts : Array TypeId} {RT : TypeId} {p : List Prop} {dst src : S} {f : Nat} {v : V} {u : U} {dv sv : Value} (h : aAppend0 P ts dst src own f = some (p, v, u)) (hp : all p) (ho : OwnOK A w own) (hf : A f = none)
    (hd : dst.rel A w dv) (hs : src.rel A w sv) : MemOk P A w (Builtin.append_ ts RT #[dv, sv]) (applyU own u) v := by
  unfold aAppend0 at h
  split at h
  · rename_i T T2 ets
    have ets : ts = #[T, T2] := Array.ext' (by simpa using ets)
    subst ets
    split at h
    · rename_i e d2 hT hT2
      split at h
      · rename_i he hbs hzs
        have he := Nat.le_of_ble_eq_true he
        obtain ⟨i, hi, hb1, hb2⟩ := bytesSmall_ok hbs
        obtain ⟨z0, hz0, hz1⟩ := zeroSz_ok hzs
        split at h
        · cases h
        rename_i q n new hnews
        have hdrew : Below w.heap.size w w.drew := (Below.refl _ _).drew
        split at h
        · cases h
          obtain ⟨hp1, hp2⟩ := all_append.1 hp
          have hn := (all_cons.1 hp2).1
          obtain ⟨cells, ha, hc, hlen⟩ := news_ok hnews hp1 ho hs he i hi hz0 hz1
          simp only [S.rel] at hd
          subst hd
          by_cases h0 : n.val = 0
          · have hnil : cells = [] := List.length_eq_zero_iff.1 (by rw [hlen, h0, Nat.zero_mul])
            subst hnil
            refine ⟨A, w, .slice none 0 0, ?_, .refl _ _, own_none' ho hf hc, .inl ⟨rfl, h0⟩⟩
            have := append_fits (RT := RT) (base := none) (sLen := 0) (sCap := 0) (w' := w) hT hT2 hi hb2 ha hn (by omega) hz0 hz1 he rfl
            rw [h0] at this
            exact this
          · obtain ⟨cap, spare, g1, g2, g3⟩ := append_grows (RT := RT) (base := none) (sLen := 0) (sCap := 0) (old := []) hT hT2 hi hb1 hb2 ha (by omega) (by omega) (fun w' _ => first_nil) hz0 hz1 he
            simp only [Nat.zero_add, List.nil_append] at g1 g2 g3
            have hcz : cap * P.cellsOf e = n.val * P.cellsOf e + (cap - n.val) * P.cellsOf e := by rw [← Nat.add_mul]; congr 1; omega
            obtain ⟨k1, k2, k3⟩ := row_new (P := P) (w1 := w.drew) (f := f) (cells := cells) (spare := spare) e (P.cellsOf e) n.val cap ho hf hdrew rfl hc g1 (by rw [g2, hlen]; omega) n rfl
            exact ⟨_, _, _, g3, k1, k2, k3⟩
        · rename_i k len z
          split at h
          · rename_i cs hg hz
            have hz := Nat.eq_of_beq_eq_true hz
            subst hz
            split at h
            · cases h
            rename_i hnm
            split at h
            · cases h
            rename_i r u' heq
            cases h
            obtain ⟨hp1, hp2⟩ := all_append.1 hp
            obtain ⟨hp2, hp3⟩ := all_append.1 hp2
            have hn := (all_cons.1 hp3).1
            have heq := eqI_ok heq hp2
            rw [I.val_mul] at heq
            have hk := getO_some hg
            obtain ⟨cells, ha, hc, hlen⟩ := news_ok hnews hp1 ho hs he i hi hz0 hz1
            rcases hd with ⟨rfl, hl0⟩ | ⟨a, off, cap, arr, E, fz, hA, rfl, g3, g4, g5, g6⟩
            · obtain ⟨ocells, hoc⟩ := ho.cells hk hnm
              have hol := szI_ok hoc
              have honil : ocells = [] := List.length_eq_zero_iff.1 (by rw [hol, ← heq, hl0, Nat.zero_mul])
              subst honil
              have hcat := catC_ok hoc hc
              simp only [List.nil_append] at hcat
              by_cases h0 : n.val = 0
              · have hnil : cells = [] := List.length_eq_zero_iff.1 (by rw [hlen, h0, Nat.zero_mul])
                subst hnil
                refine ⟨A, w, .slice none 0 0, ?_, .refl _ _, own_none' (own_kill ho k) hf hcat, .inl ⟨rfl, by rw [I.val_add]; omega⟩⟩
                have := append_fits (RT := RT) (base := none) (sLen := 0) (sCap := 0) (w' := w) hT hT2 hi hb2 ha (by omega) (by omega) hz0 hz1 he rfl
                rw [h0] at this
                exact this
              · obtain ⟨cap, spare, g1, g2, g3⟩ := append_grows (RT := RT) (base := none) (sLen := 0) (sCap := 0) (old := []) hT hT2 hi hb1 hb2 ha (by omega) (by omega) (fun w' _ => first_nil) hz0 hz1 he
                simp only [Nat.zero_add, List.nil_append] at g1 g2 g3
                have hcz : cap * P.cellsOf e = n.val * P.cellsOf e + (cap - n.val) * P.cellsOf e := by rw [← Nat.add_mul]; congr 1; omega
                obtain ⟨k1, k2, k3⟩ := row_new (P := P) (w1 := w.drew) (f := f) (cells := cells) (spare := spare) e (P.cellsOf e) n.val cap (own_kill ho k) hf hdrew rfl hcat g1 (by rw [g2, hlen]; omega) (len.add n) (by rw [I.val_add]; omega)
                exact ⟨_, _, _, g3, k1, k2, k3⟩
            · obtain ⟨arr', E', fz', ocells, spare0, b1, b2, b3, b4⟩ := ho.at hk hA hnm
              rw [g5] at b1; cases b1
              have hol := szI_ok b4
              rw [← heq] at hol
              have hsz : arr.size = ocells.length + spare0.length := by have := congrArg List.length b3; simpa using this
              have hkf : k ≠ f := fun e => by subst e; rw [hf] at hA; cases hA
              have g4 : off = 0 ∨ len.val = 0 ∧ cap = 0 := g4
              by_cases hneed : len.val + n.val ≤ cap
              · -- in place
                have hmul : (len.val + n.val) * P.cellsOf e ≤ cap * P.cellsOf e := Nat.mul_le_mul_right _ hneed
                rw [Nat.add_mul] at hmul
                have hst : (storeCells (Addr.add ⟨a, off, none⟩ (len.val * P.cellsOf e)) cells).run P w = .ok () (setArr w a (over arr.toList (off + len.val * P.cellsOf e) cells).toArray E fz) := by
                  rw [add_none]
                  have := run_storeCells (P := P) (T := E) (fz := fz) cells w (off + len.val * P.cellsOf e) 0 arr g5 b2 (by rw [hlen]; omega) (hc.ones)
                  simpa using this
                have hfits := append_fits (RT := RT) (base := some ⟨a, off, none⟩) (sLen := len.val) (sCap := cap) hT hT2 hi hb2 ha (by omega) hneed hz0 hz1 he hst
                -- the content behind it
                have hov : ∃ sp, over arr.toList (off + len.val * P.cellsOf e) cells = (ocells ++ cells) ++ sp := by
                  rcases g4 with g4 | g4
                  · refine ⟨spare0.drop cells.length, ?_⟩
                    rw [g4, b3, Nat.zero_add, ← hol]
                    unfold over
                    rw [List.take_left, ← List.drop_drop, List.drop_left]
                  · have hn0 : n.val = 0 := by omega
                    have hnil : cells = [] := List.length_eq_zero_iff.1 (by rw [hlen, hn0, Nat.zero_mul])
                    subst hnil
                    exact ⟨spare0, by simp [over, b3]⟩
                obtain ⟨sp, hov⟩ := hov
                have hsize : (over arr.toList (off + len.val * P.cellsOf e) cells).toArray.size = arr.size := by
                  simp only [List.size_toArray]
                  rw [over_len (by simp only [Array.length_toList]; rw [hlen]; omega)]
                  simp
                have hcat := catC_ok b4 hc
                have k1 := own_set_keep (arr' := (over arr.toList (off + len.val * P.cellsOf e) cells).toArray) (T' := E) (fz' := fz) hA g5 hsize
                have k2 := own_set_ok (T' := E) (fz' := fz) (cells := ocells ++ cells) (spare := sp) ho hk hA g5 hsize (by rw [hsize]; exact b2) (by simpa using hov) hcat
                have k3 := own_move_keep (w := setArr w a (over arr.toList (off + len.val * P.cellsOf e) cells).toArray E fz) hA hf
                have k4 := own_move_ok k2 (putO_self _ _ _) hA hf hkf
                rw [putO_putO] at k4
                refine ⟨_, _, _, hfits, k1.trans k3, k4, ?_⟩
                refine .inr ⟨a, off, cap, _, E, fz, A1_self _ _ _, by rw [I.val_add], by rw [I.val_add]; exact hneed, ?_, setArr_self (heap_lt g5), by rw [hsize]; exact g6⟩
                rcases g4 with g4 | g4
                · exact .inl g4
                · exact .inr ⟨by rw [I.val_add]; omega, g4.2⟩
              · -- a new row
                have hold : ∀ w', w'.heap = w.heap → (Builtin.firstCells (P.cellsOf e) len.val (.slice (some ⟨a, off, none⟩) len.val cap)).run P w' = .ok ocells.toArray w' := by
                  intro w' hw'
                  have hrow : Src P A w (P.cellsOf e) (.slice (some ⟨a, off, none⟩) len.val cap) len.val ocells := by
                    refine .row g5 ?_ hol
                    rcases g4 with g4 | g4
                    · rw [g4, List.drop_zero, b3, ← hol, List.take_left]
                    · have : ocells = [] := List.length_eq_zero_iff.1 (by rw [hol, g4.1, Nat.zero_mul])
                      subst this
                      rw [g4.1]; simp
                  have := hrow.first w' hw' len.val (Nat.le_refl _)
                  rwa [List.take_of_length_le (by rw [hol]; exact Nat.le_refl _)] at this
                obtain ⟨cap', spare, q1, q2, q3⟩ := append_grows (RT := RT) (base := some ⟨a, off, none⟩) (sLen := len.val) (sCap := cap) (old := ocells) hT hT2 hi hb1 hb2 ha (by omega) (by omega) hold hz0 hz1 he
                have hcat := catC_ok b4 hc
                have hcz : cap' * P.cellsOf e = (len.val + n.val) * P.cellsOf e + (cap' - (len.val + n.val)) * P.cellsOf e := by rw [← Nat.add_mul]; congr 1; omega
                have hadd : (len.val + n.val) * P.cellsOf e = len.val * P.cellsOf e + n.val * P.cellsOf e := Nat.add_mul _ _ _
                obtain ⟨k1, k2, k3⟩ := row_new (P := P) (w1 := w.drew) (f := f) (cells := ocells ++ cells) (spare := spare) e (P.cellsOf e) (len.val + n.val) cap' (own_kill ho k) hf hdrew rfl hcat q1 (by rw [q2, List.length_append, hlen, hol]; omega) (len.add n) (by rw [I.val_add])
                exact ⟨_, _, _, q3, k1, k2, k3⟩
          · cases h
        · cases h
      · cases h
    · cases h
  · cases h
theorem own_weak {A : Ad} {w : World} {own : List Blk} {k : Nat} {cs cs' : List Ch} (h : OwnOK A w own) (hk : own[k]? = some (some cs)) (hn : isM cs = false)
    (hcs : ∀ cells, ChsRel A w cs cells → ∃ c1 c2, cells = c1 ++ c2 ∧ ChsRel A w cs' c1) : OwnOK A w (putO own k (some cs')) := by
  have live : ∀ (i : Nat) (ci : List Ch), (putO own k (some cs'))[i]? = some (some ci) → ∃ c, own[i]? = some (some c) := fun i ci hi => by
    by_cases e : i = k
    · subst e; exact ⟨cs, hk⟩
    · exact ⟨ci, putO_live e hi⟩
  refine ⟨h.inn, fun b x hx => by rw [putO_length]; have := h.dom b x hx; omega, fun i j x ci cj hi hj hx hy => ?_, fun i ci hi => ?_⟩
  · obtain ⟨c1, h1⟩ := live i ci hi
    obtain ⟨c2, h2⟩ := live j cj hj
    exact h.dist i j x c1 c2 h1 h2 hx hy
  · by_cases e : i = k
    · subst e
      rw [putO_self] at hi
      cases hi
      cases hA : A i with
      | some a =>
        obtain ⟨arr, T, fz, cells, spare, g1, g2, g3, g4⟩ := h.at hk hA hn
        obtain ⟨c1, c2, rfl, g5⟩ := hcs cells g4
        exact .inl ⟨a, rfl, .inl ⟨arr, T, fz, c1, c2 ++ spare, g1, g2, by rw [g3, List.append_assoc], g5⟩⟩
      | none =>
        rcases h.blk i cs hk with ⟨x, h1, _⟩ | ⟨_, h2⟩
        · rw [hA] at h1; cases h1
        · obtain ⟨c1, c2, e, g5⟩ := hcs [] h2
          have : c1 = [] := by cases c1 with | nil => rfl | cons _ _ => cases e
          subst this
          exact .inr ⟨rfl, g5⟩
    · exact h.blk i ci (putO_live e hi)
theorem vaPre_ok {A : Ad} {w : World} {own : List Blk} {k : Nat} {n : I} {p : List Prop} {u : U} (h : vaPre own k n = some (p, u)) (hp : all p) (ho : OwnOK A w own) : OwnOK A w (applyU own u) := by
  unfold vaPre at h
  split at h
  · rename_i cs hg
    split at h
    · rename_i l hm he
      cases h
      have hn := (all_cons.1 hp).1
      refine own_weak ho (getO_some hg) hm fun cells hc => ?_
      have e := encC_ok he hc
      subst e
      refine ⟨cells.take n.val, cells.drop n.val, (List.take_append_drop _ _).symm, vec_mk (by simp; omega) ⟨rfl, fun v hv => hc.ones v (List.mem_of_mem_take hv)⟩⟩
    · cases h
  · cases h
theorem vaAll_ok {A : Ad} {w : World} {own : List Blk} {k : Nat} {u : U} (h : vaAll own k = some u) (ho : OwnOK A w own) : OwnOK A w (applyU own u) := by
  unfold vaAll at h
  split at h
  · cases h; exact ho
  · rename_i cs _ hg
    split at h
    · rename_i l hm he
      cases h
      refine own_weak ho (getO_some hg) hm fun cells hc => ?_
      have e := encC_ok he hc
      subst e
      exact ⟨cells, [], by simp, vec_mk (szI_ok hc) ⟨rfl, hc.ones⟩⟩
    · cases h; exact ho
  · cases h
theorem applyU_append (own : List Blk) (u v : U) : applyU own (u ++ v) = applyU (applyU own u) v := by
  simp [applyU, List.foldl_append]
theorem aAppend_ok {P : Program} {A : Ad} {w : World} {own : List Blk} {ts : Array TypeId} {RT : TypeId} {p : List Prop} {dst src : S} {f : Nat} {v : V} {u : U} {dv sv : Value} (h : aAppend P ts dst src own f = some (p, v, u)) (hp : all p) (ho : OwnOK A w own) (hf : A f = none)
    (hd : dst.rel A w dv) (hs : src.rel A w sv) : MemOk P A w (Builtin.append_ ts RT #[dv, sv]) (applyU own u) v := by
  unfold aAppend at h
  split at h
  · split at h
    · split at h
      · split at h
        · rename_i q u1 hdst
          split at h
          · rename_i u3 hsrc
            split at h
            · rename_i q2 v2 u2 h0
              cases h
              obtain ⟨hp1, hp2⟩ := all_append.1 hp
              have o1 : OwnOK A w (applyU own u1) := by
                unfold vaDst at hdst
                split at hdst
                · exact vaPre_ok hdst hp1 ho
                · cases hdst; exact ho
              have o2 : OwnOK A w (applyU (applyU own u1) u3) := by
                unfold vaSrc at hsrc
                split at hsrc
                · exact vaAll_ok hsrc o1
                · cases hsrc; exact o1
              rw [applyU_append, applyU_append]
              exact aAppend0_ok h0 hp2 o2 hf hd hs
            · cases h
          · cases h
        · cases h
      · exact aAppend0_ok h hp ho hf hd hs
    · cases h
  · cases h
end Go.Eng
/- The operations on abstract values do what the model's do: copy, len, conversions, aggregates. -/
namespace Go.Eng
open Go Go.RowKit

theorem own_recast {A : Ad} {w : World} {own : List Blk} {k : Nat} {cs cs' : List Ch} (h : OwnOK A w own) (hk : own[k]? = some (some cs)) (hc : ∀ cells, ChsRel A w cs cells → ChsRel A w cs' cells) (hnm : isM cs = false) : OwnOK A w (putO own k (some cs')) := by
  have live : ∀ (i : Nat) (ci : List Ch), (putO own k (some cs'))[i]? = some (some ci) → ∃ c, own[i]? = some (some c) := fun i ci hi => by
    by_cases e : i = k
    · exact ⟨cs, e ▸ hk⟩
    · exact ⟨ci, putO_live e hi⟩
  refine ⟨h.inn, fun b x hx => by rw [putO_length]; have := h.dom b x hx; omega, fun i j x ci cj hi hj hx hy => ?_, fun i c hi => ?_⟩
  · obtain ⟨c1, h1⟩ := live i ci hi
    obtain ⟨c2, h2⟩ := live j cj hj
    exact h.dist i j x c1 c2 h1 h2 hx hy
  · by_cases e : i = k
    · subst e
      rw [putO_self] at hi
      cases hi
      rcases h.blk i cs hk with ⟨x, h1, ⟨arr, T, fz, cells, spare, g1, g2, g3, g4⟩ | ⟨l, g, _⟩⟩ | ⟨h1, h2⟩
      · exact .inl ⟨x, h1, .inl ⟨arr, T, fz, cells, spare, g1, g2, g3, hc _ g4⟩⟩
      · rw [g] at hnm; cases hnm
      · exact .inr ⟨h1, hc _ h2⟩
    · exact h.blk i c (putO_live e hi)
theorem run_copy {P : Program} {w w' : World} {T T2 e RT : TypeId} {i : TypeInfo} {base : Option Addr} {dLen dCap n : Nat} {x : Value} {scells : List Value} {A : Ad} (hT : P.underlying T = some (.slice e)) (hi : P.info? e = some i) (hs : Src P A w (P.cellsOf e) x n scells)
    (hst : match base with | some a => (storeCells a (scells.take (dLen * P.cellsOf e))).run P w = .ok () w' | none => w' = w) :
    ∃ r, (Builtin.copy_ #[T, T2] RT #[.slice base dLen dCap, x]).run P w = .ok r w' := by
  have hmin : scells.take (Nat.min n dLen * P.cellsOf e) = scells.take (dLen * P.cellsOf e) := by
    have := hs.all
    rcases Nat.le_total n dLen with h | h
    · rw [show Nat.min n dLen = n from Nat.min_eq_left h, List.take_of_length_le (by omega), List.take_of_length_le (by rw [this]; exact Nat.mul_le_mul_right _ h)]
    · rw [show Nat.min n dLen = dLen from Nat.min_eq_right h]
  refine ⟨goInt (Nat.min n dLen), ?_⟩
  unfold Builtin.copy_
  simp only [List.getElem?_toArray, List.getElem?_cons_zero, List.getElem?_cons_succ]
  rw [Sem.run_bind, run_underlying hT]
  simp only []
  rw [Sem.run_bind, hs.len]
  simp only []
  rw [Sem.run_bind, run_sizeOf hi]
  simp only []
  rw [Sem.run_bind, hs.first w rfl _ (Nat.min_le_left _ _)]
  simp only []
  rw [hmin]
  cases base with
  | none => subst hst; rfl
  | some a =>
    simp only []
    rw [Sem.run_bind, hst]
    rfl
theorem copy_core {P : Program} {A : Ad} {w : World} {own : List Blk} {T T2 e RT : TypeId} {k o : Nat} {i len : I} {cs cs' : List Ch} {dv sv : Value} {n : Nat} {scells : List Value} (hT : P.underlying T = some (.slice e)) (he : 0 < P.cellsOf e) (ho : OwnOK A w own) (hk : own[k]? = some (some cs))
    (hd : (S.sl k o i len (P.cellsOf e)).rel A w dv) (hs : Src P A w (P.cellsOf e) sv n scells)
    (hw : ∀ cells, ChsRel A w cs cells → o + i.val + (scells.take (len.val * P.cellsOf e)).length ≤ cells.length ∧ ChsRel A w cs' (over cells (o + i.val) (scells.take (len.val * P.cellsOf e)))) (hone : ∀ v ∈ scells, one1 v = true) (hnm : isM cs = false) :
    MemOk P A w (Builtin.copy_ #[T, T2] RT #[dv, sv]) (putO own k (some cs')) V.any := by
  obtain ⟨ie, hie⟩ := info_of_cells he
  have knil : len.val = 0 → OwnOK A w (putO own k (some cs')) := fun h0 => own_recast ho hk (fun cells hc => by
    obtain ⟨h1, h2⟩ := hw cells hc
    rw [h0, Nat.zero_mul, List.take_zero] at h2
    simpa [over] using h2) hnm
  rcases hd with ⟨rfl, hl0⟩ | ⟨a, off, cap, arr, E, fz, hA, rfl, g3, g4, g5, g6⟩
  · obtain ⟨r, hr⟩ := run_copy (RT := RT) (T2 := T2) (base := none) (dLen := 0) (dCap := 0) (w' := w) hT hie hs rfl
    exact ⟨A, w, r, hr, .refl _ _, knil hl0, trivial⟩
  · by_cases hl0 : len.val = 0
    · obtain ⟨r, hr⟩ := run_copy (RT := RT) (T2 := T2) (base := some ⟨a, off, none⟩) (dLen := len.val) (dCap := cap) (w' := w) hT hie hs (by rw [hl0, Nat.zero_mul]; rfl)
      exact ⟨A, w, r, hr, .refl _ _, knil hl0, trivial⟩
    · have hoff : off = o + i.val := by rcases g4 with g4 | g4 <;> omega
      subst hoff
      obtain ⟨arr', E', fz', cells, spare, b1, b2, b3, b4⟩ := ho.atC hk hA g5
      rw [g5] at b1; cases b1
      obtain ⟨h1, h2⟩ := hw cells b4
      obtain ⟨k1, k2⟩ := store_over (xs := scells.take (len.val * P.cellsOf e)) ho hk hA g5 b2 b3 h1 h2
      have hsz : arr.size = cells.length + spare.length := by have := congrArg List.length b3; simpa using this
      obtain ⟨r, hr⟩ := run_copy (RT := RT) (T2 := T2) (base := some ⟨a, o + i.val, none⟩) (dLen := len.val) (dCap := cap) hT hie hs (by
        have := run_storeCells (P := P) (T := E) (fz := fz) (scells.take (len.val * P.cellsOf e)) w (o + i.val) 0 arr g5 b2 (by omega) (fun v hv => hone v (List.mem_of_mem_take hv))
        simpa using this)
      exact ⟨A, _, r, hr, k1, k2, trivial⟩
theorem wrV_ok {A : Ad} {w : World} {cs cs' : List Ch} {o : Nat} {i : I} {u : Vec} {p : List Prop} {l xs : List Value} (h : wrV cs o i u = some (p, cs')) (hp : all p) (hr : ChsRel A w cs l) (hx : u.rel A w xs) :
    o + i.val + xs.length ≤ l.length ∧ ChsRel A w cs' (over l (o + i.val) xs) := by
  unfold wrV at h
  split at h
  · rename_i b m v j a hf
    split at h
    · rename_i v' hv
      cases h
      obtain ⟨rfl, l1, l2, l3, rfl, e, k1, k2, k3, k4, k5⟩ := findC_ok hf hr
      obtain ⟨g1, g2⟩ := vec_rel k2
      have hlen := Vec.rel_len hx
      have hn' : j + i.val + u.len ≤ l2.length := by have := (all_cons.1 hp).1; omega
      refine ⟨by simp; omega, ?_⟩
      rw [over_mid (i := j + i.val) (by omega) (by omega)]
      exact k1.append (ChsRel.append (b := [.vec m v']) (vec_mk (by rw [over_len (by omega)]; exact g1) (Vec.over_ok g2 hx hv)) k4)
    · cases h
  · cases h
theorem wrV_nm {cs : List Ch} {o : Nat} {i : I} {u : Vec} {x : List Prop × List Ch} (h : wrV cs o i u = some x) : isM cs = false := by
  unfold wrV at h
  cases hf : findC cs o with
  | none => rw [hf] at h; cases h
  | some y => exact findC_nm hf
theorem aCopy_ok {P : Program} {A : Ad} {w : World} {own : List Blk} {ts : Array TypeId} {RT : TypeId} {p : List Prop} {dst src : S} {v : V} {u : U} {dv sv : Value} (h : aCopy P ts dst src own = some (p, v, u)) (hp : all p) (ho : OwnOK A w own)
    (hd : dst.rel A w dv) (hs : src.rel A w sv) : MemOk P A w (Builtin.copy_ ts RT #[dv, sv]) (applyU own u) v := by
  unfold aCopy at h
  split at h
  · rename_i T T2 ets
    have ets : ts = #[T, T2] := Array.ext' (by simpa using ets)
    subst ets
    split at h
    · rename_i e hT
      split at h
      · cases h
      rename_i he
      have he := Nat.le_of_ble_eq_true he
      split at h
      · split at h
        · rename_i q n new hsrc
          cases h
          obtain ⟨cs, h1, h2⟩ := srcOf_ok (P := P) hsrc hp ho hs
          simp only [S.rel] at hd
          subst hd
          obtain ⟨ie, hie⟩ := info_of_cells he
          obtain ⟨r, hr⟩ := run_copy (RT := RT) (T2 := T2) (base := none) (dLen := 0) (dCap := 0) (w' := w) hT hie h1 rfl
          exact ⟨A, w, r, hr, .refl _ _, ho, trivial⟩
        · cases h
      · rename_i k o i len z
        split at h
        · rename_i cs hg hz
          have hz := Nat.eq_of_beq_eq_true hz
          subst hz
          have hk := getO_some hg
          split at h
          · cases h
          rename_i q n new hsrc
          split at h
          · rename_i i d s
            split at h
            · rename_i hle
              have hle := Nat.le_of_ble_eq_true hle
              split at h
              · rename_i q' cs' hw
                cases h
                obtain ⟨hp1, hp2⟩ := all_append.1 hp
                obtain ⟨sc, h1, h2⟩ := srcOf_ok (P := P) hsrc hp1 ho hs
                have hall := h1.all
                simp only [I.val] at hall
                have htake : sc.take (d * P.cellsOf e) = sc := List.take_of_length_le (by rw [hall]; exact Nat.mul_le_mul_right _ hle)
                refine copy_core hT he ho hk hd h1 (fun cells hc => ?_) h2.ones (wrA_nm hw)
                simp only [I.val]
                rw [htake, hall]
                exact wrA_ok hw hp2 hc h2 hall
              · cases h
            · rename_i hle
              split at h
              · rename_i m u
                split at h
                · rename_i q' cs' hw
                  cases h
                  obtain ⟨hp1, hp2⟩ := all_append.1 hp
                  obtain ⟨sc, h1, h2⟩ := srcOf_ok (P := P) hsrc hp1 ho hs
                  have hall := h1.all
                  simp only [I.val] at hall
                  have hlt : d * P.cellsOf e ≤ s * P.cellsOf e := Nat.mul_le_mul_right _ (by
                    rcases Nat.lt_or_ge d s with h' | h'
                    · omega
                    · rw [Nat.ble_eq_true_of_le h'] at hle; cases hle)
                  have hlen : (sc.take (d * P.cellsOf e)).length = d * P.cellsOf e := by simp; omega
                  refine copy_core hT he ho hk hd h1 (fun cells hc => ?_) h2.ones (wrA_nm hw)
                  simp only [I.val]
                  rw [hlen]
                  exact wrA_ok hw hp2 hc (vec_mk hlen (Vec.take_ok (vec_rel h2).2)) hlen
                · cases h
              · cases h
          · split at h
            · rename_i m u
              split at h
              · rename_i q' cs' hw
                cases h
                obtain ⟨hp1, hp2⟩ := all_append.1 hp
                obtain ⟨sc, h1, h2⟩ := srcOf_ok (P := P) hsrc hp1 ho hs
                refine copy_core hT he ho hk hd h1 (fun cells hc => ?_) h2.ones (wrV_nm hw)
                have := Vec.take_ok (i := (len.mul (P.cellsOf e)).val) (vec_rel h2).2
                rw [I.val_mul] at this hw
                exact wrV_ok hw hp2 hc this
              · cases h
            · cases h
        · cases h
      · cases h
    · cases h
  · cases h
theorem I.toS_ok {A : Ad} {w : World} (i : I) : i.toS.rel A w (goInt i.val) := by cases i <;> rfl
theorem aLen_ok {P : Program} {A : Ad} {w : World} {own : List Blk} {ts : Array TypeId} {RT : TypeId} {p : List Prop} {x : S} {v : V} {u : U} {xv : Value} (h : aLen P ts x = some (p, v, u)) (ho : OwnOK A w own)
    (hx : x.rel A w xv) : MemOk P A w (Builtin.len_ ts RT #[xv]) (applyU own u) v := by
  unfold aLen at h
  split at h
  · cases h
  rename_i T hts
  have start : ∀ (d : TypeDesc) (k : Nat), P.underlying T = some d → (∀ w, (match d, xv with
        | .string, .string s => pure (goInt s.size)
        | .array n _, _ => pure (goInt n)
        | .pointer arr, _ => do
          let .array n _ ← underlying arr | stuck "len: pointer to array expected"
          pure (goInt n)
        | .slice _, .slice _ n _ => pure (goInt n)
        | _, _ => stuck "x" : Sem Value).run P w = .ok (goInt k) w) → (Builtin.len_ ts RT #[xv]).run P w = .ok (goInt k) w := by
    intro d k hd hr
    unfold Builtin.len_
    rw [hts]
    simp only [List.getElem?_toArray, List.getElem?_cons_zero]
    rw [Sem.run_bind, run_underlying hd]
    simp only []
    have := hr w
    cases d <;> first
      | exact this
      | (cases xv <;> first | exact this | (exfalso; cases this))
  split at h
  · rename_i e hT
    split at h
    · cases h
      simp only [S.rel] at hx
      subst hx
      exact MemOk.pure ho (start _ 0 hT (fun w => rfl)) rfl
    · rename_i k o i len z
      cases h
      rcases hx with ⟨rfl, hl⟩ | ⟨a, off, cap, arr, E, fz, hA, rfl, _⟩
      · exact MemOk.pure ho (start _ 0 hT (fun w => rfl)) (by have := I.toS_ok (A := A) (w := w) len; rw [hl] at this; exact this)
      · exact MemOk.pure ho (start _ len.val hT (fun w => rfl)) (I.toS_ok _)
    · rename_i z len x
      cases h
      obtain ⟨h0, cs, h1, h2, h3⟩ := hx
      rcases h2 with ⟨⟨a0, rfl⟩, rfl⟩ | ⟨blk, off, n, cap, arr, E, fz, rfl, g2, g3, g4, g5, g6⟩
      · have hl : len.val = 0 := by
          simp only [List.length_nil] at h3
          rcases Nat.mul_eq_zero.1 h3 with h4 | h4 <;> omega
        exact MemOk.pure ho (start _ 0 hT (fun w => rfl)) (by have := I.toS_ok (A := A) (w := w) len; rw [hl] at this; exact this)
      · have hn : n = len.val := Nat.eq_of_mul_eq_mul_right h0 (by omega)
        subst hn
        exact MemOk.pure ho (start _ len.val hT (fun w => rfl)) (I.toS_ok _)
    · cases h
  · rename_i hT
    split at h
    · rename_i l
      cases h
      simp only [S.rel, S.sc] at hx
      subst hx
      exact MemOk.pure ho (start _ l.length hT (fun w => rfl)) rfl
    · cases h
  · rename_i n e hT
    cases h
    exact MemOk.pure ho (start _ n hT (fun w => rfl)) rfl
  · rename_i a hT
    split at h
    · rename_i n e ha
      cases h
      exact MemOk.pure ho (start _ n hT (fun w => by simp only []; rw [Sem.run_bind, run_underlying ha]; rfl)) rfl
    · cases h
  · cases h
end Go.Eng
/- The operations on abstract values do what the model's do: conversions, parts of aggregates. -/
namespace Go.Eng
open Go Go.RowKit

theorem foldl_push (l : List UInt8) : ∀ s : ByteArray, (l.map fun x => (x.toNat : Int)).foldl (fun r n => r.push (UInt8.ofNat n.toNat)) s = ⟨s.data ++ l.toArray⟩ := by
  induction l with
  | nil => intro s; simp
  | cons x l ih =>
    intro s
    simp only [List.map_cons, List.foldl_cons, ih]
    congr 1
    apply Array.ext'
    simp [ByteArray.push]
theorem run_toString {P : Program} {w : World} {A : Ad} {x : Value} {l : List UInt8} {n : Nat} (hs : Src P A w 1 x n (l.map eu8)) (hx : (∃ a cap, x = .slice (some a) n cap) ∨ x = .slice none 0 0 ∧ l = []) :
    (Conv.bytesToString x).run P w = .ok (.string ⟨l.toArray⟩) w := by
  rcases hx with ⟨a, cap, rfl⟩ | ⟨rfl, rfl⟩
  · have h1 := hs.first w rfl n (Nat.le_refl _)
    have hall := hs.all
    rw [List.take_of_length_le (by rw [hall]; exact Nat.le_refl _)] at h1
    have h2 : (loadCells a n).run P w = .ok ((l.map fun x => (x.toNat : Int)).map (Value.int .u8)).toArray w := by
      have : (Builtin.firstCells 1 n (.slice (some a) n cap)) = loadCells a (n * 1) := rfl
      rw [this, Nat.mul_one] at h1
      rw [h1, List.map_map]
      rfl
    rw [run_bytesToString w a n cap _ h2, foldl_push]
    have : (ByteArray.empty.data ++ l.toArray) = l.toArray := by
      show (#[] : Array UInt8) ++ l.toArray = _
      simp
    rw [this]
  · rfl
theorem convS_rel {P : Program} {A : Ad} {w : World} {own : List Blk} {src dst : TypeId} {d : TypeDesc} {k : IntKind} {x s : S} {xv : Value} {p : List Prop} (h1 : P.underlying src = some d) (h2 : P.underlying dst = some (.int k)) (h : convS k x = some (p, s)) (hp : all p) (ho : OwnOK A w own)
    (hx : x.rel A w xv) : MemOk P A w (convert src dst xv) own (.s s) := by
  have hsc : x.sc xv := by
    unfold convS at h
    split at h <;> first | exact hx | cases h
  obtain ⟨kk, n, rfl, u, g1, g2⟩ := convS_ok (P := P) (w := w) h hp hsc
  refine MemOk.pure ho (x := u) ?_ ?_
  · unfold convert
    rw [Sem.run_bind, run_underlying h1]
    simp only []
    rw [Sem.run_bind, run_underlying h2]
    exact g1
  · have : s.rel A w u := by
      cases s <;> first | exact g2 | (exact g2.elim)
    exact this
theorem freeze_keep {A : Ad} {w : World} {f : Nat} {arr : Array Value} {e : TypeId} (w1 : World) (hw : Below w.heap.size w w1) (hh : w1.heap = w.heap) :
    let w' := (w1.alloc (.cells arr e)).freeze ⟨w.heap.size, arr.size, none⟩ 1
    Below w.heap.size w w' ∧ w'.heap[w.heap.size]? = some (.cells arr e (arr.size, arr.size + 1)) ∧ w'.heap.size = w.heap.size + 1 := by
  intro w'
  have hb : Below w.heap.size w (w1.alloc (.cells arr e)) := hw.alloc (by rw [hh]; exact Nat.le_refl _) _
  have hp : (w1.alloc (.cells arr e)).heap = w.heap.push (.cells arr e) := by show w1.heap.push _ = _; rw [hh]
  have hsz : w'.heap.size = w.heap.size + 1 := by
    show (World.freeze _ _ 1).heap.size = _
    unfold World.freeze
    rw [if_neg (by omega)]
    simp [hp]
  refine ⟨⟨hb.os, hb.tape, hb.output, by omega, fun k hk => ?_⟩, ?_, hsz⟩
  · show (World.freeze _ _ 1).heap[k]? = _
    unfold World.freeze
    rw [if_neg (by omega)]
    simp only [Array.getElem?_modify, hp]
    rw [if_neg (by omega), Array.getElem?_push, if_neg (by omega)]
  · show (World.freeze _ _ 1).heap[w.heap.size]? = _
    unfold World.freeze
    rw [if_neg (by omega)]
    simp only [Array.getElem?_modify, hp]
    simp
theorem run_shape {P : Program} {w : World} {a : Nat} {arr : Array Value} {T : TypeId} {fz : Nat × Nat} (h : w.heap[a]? = some (.cells arr T fz)) : (shape a).run P w = .ok (some (T, arr.size)) w := by
  simp [shape, Sem.run, World.shape?, h]
theorem str_bytes {P : Program} {A : Ad} {w : World} {own : List Blk} {e : TypeId} {f : Nat} {l : List UInt8} (ho : OwnOK A w own) (hf : A f = none) :
    MemOk P A w (Conv.stringToBytes e ⟨l.toArray⟩) (putO own f (some [.vec (.s l.length) (.u8 l)])) (.s (.sl f 0 (.n 0) (.s l.length) 1)) := by
  let q : Question := .appendCap (ByteArray.mk l.toArray).size 0 e
  let cap := q.cut (w.tape w.drawn q)
  have hsize : (ByteArray.mk l.toArray).size = l.length := by simp [ByteArray.size]
  have hcap : l.length ≤ cap := by
    show l.length ≤ (ByteArray.mk l.toArray).size + _
    omega
  let arr : Array Value := (l.map eu8).toArray ++ Array.replicate (cap - l.length) (.int .u8 0)
  have harr : arr.size = cap := by simp [arr]; omega
  obtain ⟨k1, k2, k3⟩ := freeze_keep (A := A) (f := f) (arr := arr) (e := e) w.drew (Below.refl _ _).drew rfl
  have kk := own_new_keep (f := f) hf k1 (Nat.le_refl _)
  have hc : ChsRel (A1 A f w.heap.size) ((w.drew.alloc (.cells arr e)).freeze ⟨w.heap.size, arr.size, none⟩ 1) [.vec (.s l.length) (.u8 l)] (l.map eu8) := vec_mk (by simp [I.val]) rfl
  have ko := own_new_ok ho hf k1 (Nat.le_refl _) (by omega) ⟨arr, e, (arr.size, arr.size + 1), l.map eu8, (Array.replicate (cap - l.length) (.int .u8 0)).toList, k2, .inr (Nat.le_refl _), by simp [arr], hc⟩
  refine ⟨_, _, .slice (some ⟨w.heap.size, 0, none⟩) l.length cap, ?_, kk, ko, ?_⟩
  · unfold Conv.stringToBytes
    have hch : (choose q).run P w = .ok cap w.drew := rfl
    rw [Sem.run_bind, hch]
    simp only []
    have hnew : ∀ c : Array Value, (newRow e c).run P w.drew = .ok ⟨w.heap.size, 0, none⟩ (w.drew.alloc (.cells c e)) := fun c => rfl
    rw [Sem.run_bind, hnew]
    simp only []
    have ea : (ByteArray.mk l.toArray).data.map (fun b => Value.int .u8 (b.toNat : Int)) ++ Array.replicate (cap - (ByteArray.mk l.toArray).size) (.int .u8 0) = arr := by
      rw [hsize]; simp [arr]; rfl
    rw [ea]
    have hat : (w.drew.alloc (.cells arr e)).heap[w.heap.size]? = some (.cells arr e (0, 0)) := by
      show (w.heap.push _)[w.heap.size]? = _
      simp
    have hm : (markStringish ⟨w.heap.size, 0, none⟩).run P (w.drew.alloc (.cells arr e)) = .ok () ((w.drew.alloc (.cells arr e)).freeze ⟨w.heap.size, arr.size, none⟩ 1) := by
      unfold markStringish
      rw [Sem.run_bind, run_shape hat]
      rfl
    rw [Sem.run_bind, hm]
    simp only [run_pure, hsize]
  · exact .inr ⟨w.heap.size, 0, cap, arr, e, (arr.size, arr.size + 1), A1_self _ _ _, rfl, hcap, .inl rfl, k2, by omega⟩
theorem S.slice_form {A : Ad} {w : World} {own : List Blk} {x : S} {p : List Prop} {n : I} {new : List Ch} {z : Nat} {xv : Value} (h : srcOf x own z = some (p, n, new)) (hx : x.rel A w xv) : (∃ a m cap, xv = .slice (some a) m cap) ∨ xv = .slice none 0 0 ∨ ∃ s, xv = .string s := by
  unfold srcOf at h
  split at h
  · unfold srcOf0 at h
    split at h
    · exact .inr (.inl hx)
    · obtain ⟨_, cs, _, h2, _⟩ := hx
      rcases h2 with ⟨⟨a0, rfl⟩, _⟩ | ⟨blk, off, m, cap, _, _, _, rfl, _⟩
      · cases a0 with
        | none => exact .inr (.inl rfl)
        | some a => exact .inl ⟨a, 0, 0, rfl⟩
      · exact .inl ⟨_, m, cap, rfl⟩
    · exact .inr (.inr ⟨_, hx⟩)
    · rcases hx with ⟨rfl, _⟩ | ⟨a, off, cap, _, _, _, _, rfl, _⟩
      · exact .inr (.inl rfl)
      · exact .inl ⟨_, _, cap, rfl⟩
    · cases h
  · cases h
theorem mark_ok {P : Program} {A : Ad} {w : World} {own : List Blk} {k a off : Nat} {cs : List Ch} {arr : Array Value} {T : TypeId} {fz : Nat × Nat} (ho : OwnOK A w own) (hk : own[k]? = some (some cs)) (hA : A k = some a) (hw : w.heap[a]? = some (.cells arr T fz)) :
    ∃ fz', (markStringish ⟨a, off, none⟩).run P w = .ok () (setArr w a arr T fz') ∧ Keep A w A (setArr w a arr T fz') ∧ OwnOK A (setArr w a arr T fz') (putO own k (some cs)) := by
  rcases ho.blk k cs hk with ⟨x, h1, ⟨arr', T', fz0, cells, spare, h2, h3, h4, h5⟩ | ⟨l, _, es, clk, h2, _⟩⟩ | ⟨h1, _⟩
  · rw [hA] at h1
    cases h1
    rw [hw] at h2
    cases h2
    refine ⟨if fz.1 == fz.2 then (arr.size, arr.size + 1) else (min fz.1 arr.size, max fz.2 (arr.size + 1)), ?_, own_set_keep hA hw rfl, own_set_ok ho hk hA hw rfl ?_ h4 h5⟩
    · have e : (markStringish ⟨a, off, none⟩).run P w = .ok () (w.freeze ⟨a, arr.size, none⟩ 1) := by
        unfold markStringish
        rw [Sem.run_bind, run_shape hw]
        rfl
      rw [e]
      congr 1
      unfold World.freeze setArr
      rw [if_neg (by omega)]
      congr 1
      apply Array.ext_getElem?
      intro i
      rw [Array.getElem?_modify, Array.getElem?_setIfInBounds]
      by_cases hi : a = i
      · subst hi
        obtain ⟨hlt, _⟩ := Array.getElem?_eq_some_iff.1 hw
        rw [if_pos rfl, if_pos rfl, hw, if_pos hlt]
        rfl
      · rw [if_neg hi, if_neg hi]
    · by_cases he : fz.1 = fz.2
      · rw [if_pos (by simp [he])]
        exact .inr (Nat.le_refl _)
      · rw [if_neg (by simp [he])]
        refine .inr ?_
        show arr.size ≤ min fz.1 arr.size
        omega
  · rw [hA] at h1
    cases h1
    rw [hw] at h2; cases h2
  · rw [hA] at h1
    cases h1
theorem aConv_ok {P : Program} {A : Ad} {w : World} {own : List Blk} {src dst : TypeId} {f : Nat} {p : List Prop} {x : S} {v : V} {u : U} {xv : Value} (h : aConv P src dst x own f = some (p, v, u)) (hp : all p) (ho : OwnOK A w own) (hf : A f = none)
    (hx : x.rel A w xv) : MemOk P A w (convert src dst xv) (applyU own u) v := by
  unfold aConv at h
  split at h
  · rename_i d k h1 h2
    obtain ⟨s, h3, rfl, rfl⟩ := retS_some h
    exact convS_rel h1 h2 h3 hp ho hx
  · rename_i e h1 h2
    split at h
    · rename_i h3
      have start : ∀ (l : List UInt8) (n : I) (q : List Prop) (new : List Ch), srcOf x own 1 = some (q, n, new) → Src P A w 1 xv n.val (l.map eu8) → (convert src dst xv).run P w = .ok (.string ⟨l.toArray⟩) w := by
        intro l n q new hsrc hS
        have hall := hS.all
        simp only [List.length_map, Nat.mul_one] at hall
        have hform := S.slice_form hsrc hx
        unfold convert
        rw [Sem.run_bind, run_underlying h1]
        simp only []
        rw [Sem.run_bind, run_underlying h2]
        simp only []
        rcases hform with ⟨a, m, cap, rfl⟩ | rfl | ⟨s, rfl⟩
        · simp only []
          rw [Sem.run_bind, run_underlying h3]
          have hm : m = n.val := (Result.ok.inj hS.len).1
          subst hm
          exact run_toString hS (.inl ⟨a, cap, rfl⟩)
        · simp only []
          rw [Sem.run_bind, run_underlying h3]
          have hn : 0 = n.val := (Result.ok.inj hS.len).1
          exact run_toString hS (.inr ⟨rfl, List.length_eq_zero_iff.1 (by omega)⟩)
        · have hn : s.size = n.val := (Result.ok.inj hS.len).1
          have hf := hS.first w rfl n.val (Nat.le_refl _)
          rw [List.take_of_length_le (by simp; omega)] at hf
          have e1 : ((s.extract 0 n.val).data.map fun b => Value.int .u8 (b.toNat : Int)) = (l.map eu8).toArray := by
            have : (Builtin.firstCells 1 n.val (.string s)).run P w = .ok ((s.extract 0 n.val).data.map fun b => Value.int .u8 (b.toNat : Int)) w := rfl
            rw [this] at hf
            exact (Result.ok.inj hf).1
          have e2 := congrArg Array.toList e1
          simp only [Array.toList_map] at e2
          rw [Lib.extract_data] at e2
          simp only [List.drop_zero, Nat.sub_zero] at e2
          rw [List.take_of_length_le (by simp; omega)] at e2
          have e3 : s.data.toList = l := by
            have inj : ∀ (a b : List UInt8), a.map (fun b => Value.int .u8 (b.toNat : Int)) = b.map eu8 → a = b := by
              intro a
              induction a with
              | nil => intro b h; cases b with | nil => rfl | cons y b => simp at h
              | cons x a ih =>
                intro b h
                cases b with
                | nil => simp at h
                | cons y b =>
                  simp only [List.map_cons, List.cons.injEq, eu8, Value.int.injEq, true_and] at h
                  rw [ih b h.2, UInt8.toNat_inj.1 (show x.toNat = y.toNat by omega)]
            exact inj _ _ (by simpa using e2)
          show Result.ok (Value.string s) w = _
          congr 2
          apply ByteArray.ext
          apply Array.ext'
          simpa using e3
      split at h
      · rename_i q n m l hsrc
        cases h
        obtain ⟨cs, g1, g2⟩ := srcOf_ok (P := P) hsrc hp ho hx
        have g3 := (vec_rel g2).2
        simp only [Vec.rel] at g3
        subst g3
        exact MemOk.pure ho (start l n p _ hsrc g1) rfl
      · rename_i q n m l hsrc
        cases h
        obtain ⟨hp1, hp2⟩ := all_append.1 hp
        have hall := (all_cons.1 hp2).1
        obtain ⟨cs, g1, g2⟩ := srcOf_ok (P := P) hsrc hp1 ho hx
        obtain ⟨g3, _⟩ := (vec_rel g2).2
        subst g3
        have e : cs = (cs.map d8).map eu8 := map_of hall
        exact MemOk.pure ho (start (cs.map d8) n q _ hsrc (by rw [← e]; exact g1)) rfl
      · rename_i q n hsrc
        cases h
        obtain ⟨cs, g1, g2⟩ := srcOf_ok (P := P) hsrc hp ho hx
        simp only [ChsRel] at g2
        subst g2
        exact MemOk.pure ho (start [] n p _ hsrc g1) rfl
      · cases h
    · cases h
  · rename_i e h1 h2
    split at h
    · rename_i l h3 hz
      cases h
      simp only [S.rel, S.sc] at hx
      subst hx
      obtain ⟨A', w', y, g1, g2, g3, g4⟩ := str_bytes (P := P) (e := e) (l := l) ho hf
      refine ⟨A', w', y, ?_, g2, g3, g4⟩
      unfold convert
      rw [Sem.run_bind, run_underlying h1]
      simp only []
      rw [Sem.run_bind, run_underlying h2]
      simp only []
      rw [Sem.run_bind, run_underlying h3]
      exact g1
    · cases h
  · rename_i h1 h2
    split at h
    · cases h
      refine MemOk.pure ho (x := xv) ?_ hx
      simp only [S.rel, S.sc] at hx
      subst hx
      unfold convert
      rw [Sem.run_bind, run_underlying h1]
      simp only []
      rw [Sem.run_bind, run_underlying h2]
      rfl
    · cases h
  · rename_i e0 e h1 h2
    split at h
    · rename_i k o i len z h3
      split at h
      · rename_i hb hg
        cases h
        have hlen := (all_cons.1 hp).1
        rcases hx with ⟨rfl, h0⟩ | ⟨a, off, cap, arr, T, fz, g1, rfl, g3, g4, g5, g6⟩
        · omega
        · obtain ⟨fz', k1, k2, k3⟩ := mark_ok (P := P) (off := off) ho (getO_some hg) g1 g5
          refine ⟨A, _, _, ?_, k2, k3, .inr ⟨a, off, cap, arr, T, fz', g1, rfl, g3, g4, setArr_self ?_, g6⟩⟩
          · unfold convert
            rw [Sem.run_bind, run_underlying h1]
            simp only []
            rw [Sem.run_bind, run_underlying h2]
            simp only []
            rw [Sem.run_bind, run_underlying h3]
            have hbe : (src == dst) = true := by
              rw [Nat.eq_of_beq_eq_true hb]
              exact beq_self_eq_true dst
            rw [hbe]
            simp only []
            rw [Sem.run_bind, k1]
            rfl
          · obtain ⟨hlt, _⟩ := Array.getElem?_eq_some_iff.1 g5
            exact hlt
      · cases h
    · cases h
  · cases h
end Go.Eng
/- The operations on abstract values do what the model's do: parts of aggregates, literals. -/
namespace Go.Eng
open Go Go.RowKit

theorem aToPtr_ok {P : Program} {A : Ad} {w : World} {own : List Blk} {T : TypeId} {p : List Prop} {x : S} {v : V} {u : U} {xv : Value} (h : aToPtr P T x = some (p, v, u)) (hp : all p) (ho : OwnOK A w own)
    (hx : x.rel A w xv) : MemOk P A w (Instr.arrayAt T xv) (applyU own u) v := by
  unfold aToPtr at h
  split at h
  · rename_i n e hT
    split at h
    · rename_i hn he
      have hn := Nat.le_of_ble_eq_true hn
      have he := Nat.le_of_ble_eq_true he
      have start : ∀ (a : Option Addr) (len cap : Nat), n ≤ len → (Instr.arrayAt T (.slice a len cap)).run P w = .ok (.pointer a) w := by
        intro a len cap hle
        unfold Instr.arrayAt
        rw [Sem.run_bind, run_underlying hT]
        simp only []
        rw [if_neg (by omega)]
        rfl
      have slcase : ∀ (k o : Nat) (i len : I) (z : Nat), (S.sl k o i len z).rel A w xv → n ≤ len.val → MemOk P A w (Instr.arrayAt T xv) own (.s (at_ k o i)) := by
        intro k o i len z hx hle
        rcases hx with ⟨_, h0⟩ | ⟨a, off, cap, arr, E, fz, hA, rfl, g3, g4, g5, g6⟩
        · omega
        · have hoff : off = o + i.val := by rcases g4 with g4 | g4 <;> omega
          subst hoff
          exact MemOk.pure ho (start _ _ _ hle) (at_ok hA)
      have xscase : ∀ (z : Nat) (len : I) (y : Vec), (S.xs z len y).rel A w xv → n ≤ len.val → MemOk P A w (Instr.arrayAt T xv) own (.s (.xp y 0)) := by
        intro z len y hx hle
        obtain ⟨h0, cs, h1, h2, h3⟩ := hx
        rcases h2 with ⟨⟨a0, rfl⟩, rfl⟩ | ⟨blk, off, m, cap, arr, E, fz, rfl, g2, g3, g4, g5, g6⟩
        · exfalso
          simp only [List.length_nil] at h3
          rcases Nat.mul_eq_zero.1 h3 with h4 | h4 <;> omega
        · have hm : m = len.val := Nat.eq_of_mul_eq_mul_right h0 (by omega)
          exact MemOk.pure ho (start _ _ _ (by omega)) ⟨cs, blk, off, arr, E, fz, h1, rfl, g4, g5, by rw [← g3]; exact g6⟩
      split at h
      · rename_i k o i len z
        split at h
        · rename_i m
          split at h <;> cases h
          rename_i hle
          exact slcase k o i (.n m) z hx (Nat.le_of_ble_eq_true hle)
        · rename_i m
          cases h
          exact slcase k o i (.s m) z hx (all_cons.1 hp).1
      · rename_i z len y
        split at h
        · rename_i m
          split at h <;> cases h
          rename_i hle
          exact xscase z (.n m) y hx (Nat.le_of_ble_eq_true hle)
        · rename_i m
          cases h
          exact xscase z (.s m) y hx (all_cons.1 hp).1
      · cases h
    · cases h
  · cases h
theorem part_ok {P : Program} {A : Ad} {w : World} {own : List Blk} {T : TypeId} {p : List Prop} {cs : List Ch} {cells : List Value} {j : I} {v : V} {u : U} (h : part_ P T cs j = some (p, v, u)) (hp : all p) (ho : OwnOK A w own) (hc : ChsRel A w cs cells) :
    MemOk P A w (part T cells.toArray j.val) (applyU own u) v := by
  have agg : isAggB P T = some true → (part T cells.toArray j.val).run P w = .ok (.agg ((cells.drop j.val).take (P.cellsOf T)).toArray) w := by
    intro hT
    obtain ⟨h1, i, h2⟩ := run_isAgg (w := w) hT
    unfold part
    rw [Sem.run_bind, h1]
    simp only [if_true]
    rw [Sem.run_bind, run_sizeOf h2]
    simp only [run_pure]
    congr 2
    apply Array.ext'
    simp [Array.toList_extract, List.extract_eq_take_drop]
  have one : isAggB P T = some false → ∀ y, cells[j.val]? = some y → (part T cells.toArray j.val).run P w = .ok y w := by
    intro hT y hy
    obtain ⟨h1, i, h2⟩ := run_isAgg (w := w) hT
    unfold part
    rw [Sem.run_bind, h1]
    simp only [Bool.false_eq_true, if_false, List.getElem?_toArray, hy]
    rfl
  unfold part_ at h
  split at h
  · rename_i hT
    split at h
    · obtain ⟨t, h1, rfl, rfl⟩ := retC_some h
      exact MemOk.pure ho (agg hT) ⟨_, rfl, (rdA_ok h1 hp hc).2⟩
    · obtain ⟨t, h1, rfl, rfl⟩ := retC_some h
      refine MemOk.pure ho (agg hT) ⟨_, rfl, ?_⟩
      have := (rdAI_ok h1 hp hc).2
      simpa [I.val] using this
  · rename_i hT
    split at h
    · obtain ⟨s, h1, rfl, rfl⟩ := retS_some h
      obtain ⟨y, g1, g2, g3⟩ := rdS_ok h1 hp hc
      exact MemOk.pure ho (one hT y g1) g2
    · obtain ⟨s, h1, rfl, rfl⟩ := retS_some h
      obtain ⟨y, g1, g2, g3⟩ := rdI_ok h1 hp hc
      rw [Nat.zero_add] at g1
      exact MemOk.pure ho (one hT y g1) g2
  · cases h
theorem MemOk.run {P : Program} {A : Ad} {w : World} {m m' : Sem Value} {own : List Blk} {v : V} (h : MemOk P A w m own v) (e : m'.run P w = m.run P w) : MemOk P A w m' own v := by
  obtain ⟨A', w', x, h1, h2, h3, h4⟩ := h
  exact ⟨A', w', x, e.trans h1, h2, h3, h4⟩
theorem aIndex_ok {P : Program} {A : Ad} {w : World} {own : List Blk} {T : TypeId} {p : List Prop} {x : V} {i : S} {v : V} {u : U} {xv iv : Value} (h : aIndex P T x i = some (p, v, u)) (hp : all p) (ho : OwnOK A w own) (hx : x.rel A w xv) (hi : i.rel A w iv) :
    MemOk P A w (Instr.index T xv iv) (applyU own u) v := by
  unfold aIndex at h
  split at h
  · rename_i n e hT
    split at h
    · rename_i cs
      split at h
      · rename_i p1 j hj
        split at h
        · rename_i q v' u' hpart
          cases h
          obtain ⟨hp1, hp2⟩ := all_append.1 hp
          obtain ⟨k, rfl, hlt⟩ := idx_ok hj hp1 hi
          obtain ⟨cells, rfl, hc⟩ := hx
          refine (part_ok hpart hp2 ho hc).run ?_
          unfold Instr.index
          rw [Sem.run_bind, run_asIntOf]
          simp only []
          rw [Sem.run_bind, run_underlying hT]
          simp only []
          have hlt : j.val < n := hlt
          rw [if_pos ⟨by omega, by omega⟩]
          have hinfo : ∃ ie, P.info? e = some ie := by
            unfold part_ at hpart
            split at hpart
            · rename_i hb; exact (run_isAgg (w := w) hb).2
            · rename_i hb; exact (run_isAgg (w := w) hb).2
            · cases hpart
          obtain ⟨ie, hie⟩ := hinfo
          rw [Sem.run_bind, run_sizeOf hie]
          simp only [Int.toNat_natCast]
          rw [I.val_mul]
        · cases h
      · cases h
    · cases h
  · rename_i hT
    split at h
    · rename_i l
      split at h
      · rename_i p1 j hj
        cases h
        obtain ⟨k, rfl, hlt⟩ := idx_ok hj hp hi
        have hlt' : j.val < l.length := hlt
        have hx' : xv = .string ⟨l.toArray⟩ := hx
        subst hx'
        refine MemOk.pure ho (x := eu8 (l.getD j.val 0)) ?_ rfl
        unfold Instr.index
        rw [Sem.run_bind, run_asIntOf]
        simp only []
        rw [Sem.run_bind, run_underlying hT]
        simp only []
        rw [if_pos (by omega)]
        have : (ByteArray.mk l.toArray)[(j.val : Int).toNat]? = some (l.getD j.val 0) := by
          rw [Int.toNat_natCast]
          have hs : j.val < (ByteArray.mk l.toArray).size := by simpa [ByteArray.size] using hlt'
          rw [getElem?_pos (ByteArray.mk l.toArray) j.val hs]
          congr 1
          rw [List.getD_eq_getElem?_getD, List.getElem?_eq_getElem hlt']
          rfl
        rw [this]
        rfl
      · cases h
    · cases h
  · cases h
theorem aFieldV_ok {P : Program} {A : Ad} {w : World} {own : List Blk} {T : TypeId} {fi : Nat} {p : List Prop} {x : V} {v : V} {u : U} {xv : Value} (h : aFieldV P T x fi = some (p, v, u)) (hp : all p) (ho : OwnOK A w own) (hx : x.rel A w xv) :
    MemOk P A w (Instr.field T xv fi) (applyU own u) v := by
  unfold aFieldV at h
  split at h
  · rename_i fs hT
    split at h
    · rename_i f hf
      split at h
      · rename_i cs
        obtain ⟨cells, rfl, hc⟩ := hx
        refine (part_ok h hp ho hc).run ?_
        unfold Instr.field
        rw [Sem.run_bind, run_underlying hT]
        simp only [hf]
        rfl
      · cases h
    · cases h
  · cases h
theorem WsRel.get {A : Ad} {w : World} : ∀ {xs : List W} {l : List Value} {i : Nat} {x : W}, WsRel A w xs l → xs[i]? = some x → ∃ v, l[i]? = some v ∧ x.rel A w v
  | [], _, _, _, _, e => by simp at e
  | y :: ys, _, 0, x, h, e => by
    obtain ⟨v, r, rfl, h1, h2⟩ := h
    simp only [List.getElem?_cons_zero, Option.some.injEq] at e
    subst e
    exact ⟨v, rfl, h1⟩
  | y :: ys, _, i + 1, x, h, e => by
    obtain ⟨v, r, rfl, h1, h2⟩ := h
    simp only [List.getElem?_cons_succ] at e ⊢
    exact h2.get e
theorem aExtract_ok {P : Program} {A : Ad} {w : World} {own : List Blk} {p : List Prop} {x : V} {i : Nat} {v : V} {u : U} {xv : Value} (h : aExtract x i = some (p, v, u)) (ho : OwnOK A w own) (hx : x.rel A w xv) :
    MemOk P A w (Instr.extract xv i) (applyU own u) v := by
  unfold aExtract at h
  split at h
  · rename_i l
    split at h
    · rename_i y hy
      cases h
      obtain ⟨vs, rfl, hv⟩ := hx
      obtain ⟨z, h1, h2⟩ := hv.get hy
      refine MemOk.pure ho (x := z) ?_ h2
      unfold Instr.extract
      simp only [List.getElem?_toArray, h1]
      rfl
    · cases h
  · cases h

def PartsRel (A : Ad) (w : World) : List (Nat × V) → List (Nat × Value) → Prop
  | [], l => l = []
  | (i, x) :: r, l => ∃ v l', l = (i, v) :: l' ∧ x.rel A w v ∧ PartsRel A w r l'
theorem fill_over : ∀ (vs : List Value) (k off : Nat) (arr : Array Value), off + k + vs.length ≤ arr.size →
    (vs.zipIdx k).foldl (fun cs (x : Value × Nat) => cs.setIfInBounds (off + x.2) x.1) arr = (over arr.toList (off + k) vs).toArray
  | [], k, off, arr, h => by simp [over]
  | v :: vs, k, off, arr, h => by
    simp only [List.length_cons] at h
    rw [List.zipIdx_cons, List.foldl_cons, fill_over vs (k + 1) off _ (by simp; omega)]
    apply Array.ext'
    simp only [Array.toList_setIfInBounds]
    have hlt : off + k < arr.toList.length := by simp; omega
    unfold over
    simp only [List.length_cons]
    rw [List.take_set, List.drop_set_of_lt (by omega), show off + (k + 1) = off + k + 1 by omega, List.take_succ_eq_append_getElem hlt,
      List.set_append_right _ _ (by simp only [List.length_take]; omega), show off + k - (List.take (off + k) arr.toList).length = 0 by simp only [List.length_take]; omega]
    simp [Nat.min_eq_left (show off + k ≤ arr.size by simp at hlt; omega), Nat.add_assoc, Nat.add_comm, Nat.add_left_comm]
theorem fits_ok {cs cs' new : List Ch} {o n : Nat} {p : List Prop} (hf : fits cs o n = true) (h : wrA cs o n new = some (p, cs')) : all p := by
  unfold fits at hf
  split at hf
  · rename_i b m v i a hc
    have hf := Nat.le_of_ble_eq_true hf
    unfold wrA at h
    rw [hc] at h
    cases i with
    | zero =>
      simp only [] at h
      split at h
      · cases h; exact all_nil
      · split at h
        · split at h
          · rename_i e1 e2 _ _
            cases e1
            cases h
            exact all_cons.2 ⟨by simpa [I.val] using hf, all_nil⟩
          · cases h
        · cases h
    | succ i =>
      simp only [] at h
      split at h
      · split at h
        · cases h
          exact all_cons.2 ⟨by simpa [I.val] using hf, all_nil⟩
        · cases h
      · cases h
  · cases hf
theorem lay_ok {A : Ad} {w : World} {cs cs' c : List Ch} {o : Nat} {v : V} {x : Value} {cells : List Value} (h : lay cs o v = some cs') (hv : v.rel A w x) (hc : ChsRel A w cs cells) (hch : v.chs = some c) :
    o + x.cells.size ≤ cells.length ∧ ChsRel A w cs' (over cells o x.cells.toList) := by
  have hx := V.chs_ok hch hv
  unfold lay at h
  split at h
  · rename_i s
    split at h
    · rename_i c' hw
      cases h
      have h1 : one1 x = true := by
        unfold V.chs at hch
        simp only [] at hch
        split at hch
        · rename_i ho; exact S.oneC_ok ho hv
        · cases hch
      obtain ⟨q1, q2, q3⟩ := wrS_ok hw all_nil hc hv
      rw [cells_one h1]
      exact ⟨q1, q3⟩
    · cases h
  · rename_i new
    split at h
    · rename_i n hn
      split at h
      · rename_i c' hw
        cases h
        obtain ⟨xs, rfl, hxs⟩ := hv
        have hl := szL_ok hxs hn
        obtain ⟨q1, q2⟩ := wrA_ok hw all_nil hc hxs hl
        exact ⟨by simp [Value.cells]; omega, by simpa [Value.cells] using q2⟩
      · rename_i p c' hw
        split at h
        · rename_i hf
          cases h
          obtain ⟨xs, rfl, hxs⟩ := hv
          have hl := szL_ok hxs hn
          obtain ⟨q1, q2⟩ := wrA_ok hw (fits_ok hf hw) hc hxs hl
          exact ⟨by simp [Value.cells]; omega, by simpa [Value.cells] using q2⟩
        · cases h
      · cases h
    · cases h
  · cases h
theorem layAll_ok {A : Ad} {w : World} {place : Nat → Option (Nat × Nat)} : ∀ {parts : List (Nat × V)} {cs cs' : List Ch} {ps : List (Nat × Value)} {cells : List Value}, layAll place parts cs = some cs' → PartsRel A w parts ps → ChsRel A w cs cells →
    ∃ cells', Instr.fill place cells.toArray ps = some cells'.toArray ∧ ChsRel A w cs' cells' ∧ cells'.length = cells.length
  | [], cs, cs', ps, cells, h, hp, hc => by
    simp only [PartsRel] at hp
    subst hp
    simp only [layAll, Option.some.injEq] at h
    subst h
    exact ⟨cells, rfl, hc, rfl⟩
  | (i, x) :: r, cs, cs', ps, cells, h, hp, hc => by
    obtain ⟨v, l', rfl, h1, h2⟩ := hp
    unfold layAll at h
    split at h
    · cases h
    rename_i o n hpl
    split at h
    · cases h
    rename_i c hch
    split at h
    · cases h
    rename_i hsz
    split at h
    · cases h
    rename_i cs1 hlay
    obtain ⟨q1, q2⟩ := lay_ok hlay h1 hc hch
    have hn := isSz_ok (V.chs_ok hch h1) hsz
    simp only [Array.length_toList] at hn
    obtain ⟨cells', g1, g2, g3⟩ := layAll_ok h h2 q2
    refine ⟨cells', ?_, g2, by rw [g3, over_len (by simpa using q1)]⟩
    unfold Instr.fill
    rw [hpl]
    simp only []
    rw [if_neg (by simp; omega)]
    have hf := fill_over v.cells.toList 0 o cells.toArray (by simpa using q1)
    have e : (v.cells.zipIdx.foldl (fun cs x => cs.setIfInBounds (o + x.2) x.1) cells.toArray) = (over cells o v.cells.toList).toArray := by
      rw [← Array.foldl_toList]
      simpa using hf
    have e2 : v.cells.zipIdx.foldl (fun cs (c, j) => cs.setIfInBounds (o + j) c) cells.toArray = (over cells o v.cells.toList).toArray := e
    rw [e2]
    exact g1
theorem infoAll_ok {P : Program} : ∀ {fs : List Field}, infoAll P fs = true → fs.mapM (fun f => (P.info? f.type).map fun i => (f.offset, i.size)) = some (fs.map fun f => (f.offset, P.cellsOf f.type))
  | [], _ => rfl
  | f :: fs, h => by
    unfold infoAll at h
    split at h
    · rename_i i hi
      simp [List.mapM_cons, hi, infoAll_ok h, Program.cellsOf]
    · cases h
theorem aBuild_ok {P : Program} {A : Ad} {w : World} {own : List Blk} {T : TypeId} {parts : List (Nat × V)} {ps : List (Nat × Value)} {p : List Prop} {v : V} {u : U} (h : aBuild P T parts = some (p, v, u)) (ho : OwnOK A w own) (hps : PartsRel A w parts ps) :
    MemOk P A w (Instr.build T ps.toArray) (applyU own u) v := by
  unfold aBuild at h
  split at h
  · cases h
  rename_i z hz
  obtain ⟨z0, h1, h2⟩ := zeroC_ok hz
  have hz0 : ∃ it, P.info? T = some it ∧ it.zero = some z0 := by
    unfold zeroC at hz
    split at hz
    · rename_i it hit
      split at hz
      · rename_i zz hzz
        refine ⟨it, hit, ?_⟩
        have : (zeroValue T).run P w = .ok zz w := by
          unfold zeroValue
          rw [Sem.run_bind, run_typeInfo hit]
          simp only [hzz]
          rfl
        rw [h1 w] at this
        cases this
        exact hzz
      · cases hz
    · cases hz
  obtain ⟨it, hit, hitz⟩ := hz0
  split at h
  · rename_i fs hT
    split at h
    · cases h
    rename_i hall
    split at h
    · rename_i cs hlay
      cases h
      obtain ⟨cells, g1, g2, g3⟩ := layAll_ok hlay hps (h2 A w)
      refine MemOk.pure ho (x := .agg cells.toArray) (run_build w T ps.toArray cells.toArray ?_) ⟨cells, rfl, g2⟩
      unfold Program.built
      rw [hit, hT]
      simp only [hitz, infoAll_ok hall]
      rw [← g1]
      simp only [Array.toArray_toList]
      congr 1
      funext i
      simp only [placeF, List.getElem?_toArray, List.getElem?_map, Array.getElem?_toList]
      have hall' : ∀ f, fs[i]? = some f → ∃ ii, P.info? f.type = some ii := by
        intro f hf
        have : ∀ (l : List Field) (k : Nat), infoAll P l = true → l[k]? = some f → ∃ ii, P.info? f.type = some ii := by
          intro l
          induction l with
          | nil => intro k _ hk; simp at hk
          | cons g l ih =>
            intro k hl hk
            unfold infoAll at hl
            split at hl
            · rename_i ii hii
              cases k with
              | zero => simp at hk; subst hk; exact ⟨ii, hii⟩
              | succ k => exact ih k hl (by simpa using hk)
            · cases hl
        exact this fs.toList i hall (by simpa using hf)
      cases hfi : fs[i]? with
      | none => rfl
      | some f =>
        obtain ⟨ii, hii⟩ := hall' f hfi
        simp [hii]
    · cases h
  · rename_i n e hT
    split at h
    · cases h
    rename_i he
    obtain ⟨ie, hie⟩ := info_of_cells (Nat.le_of_ble_eq_true he)
    split at h
    · rename_i cs hlay
      rw [frcP_eq] at h
      cases h
      obtain ⟨cells, g1, g2, g3⟩ := layAll_ok hlay hps (h2 A w)
      refine MemOk.pure ho (x := .agg cells.toArray) (run_build w T ps.toArray cells.toArray ?_) ⟨cells, rfl, g2⟩
      unfold Program.built
      rw [hit, hT]
      simp only [hitz, hie]
      rw [← g1]
      simp only [Array.toArray_toList]
      congr 1
      funext i
      simp [Program.cellsOf, hie]
    · cases h
  · cases h
theorem aBuildSlice_ok {P : Program} {A : Ad} {w : World} {own : List Blk} {T : TypeId} {len f : Nat} {parts : List (Nat × V)} {ps : List (Nat × Value)} {p : List Prop} {v : V} {u : U} (h : aBuildSlice P T len parts f = some (p, v, u)) (ho : OwnOK A w own) (hf : A f = none) (hps : PartsRel A w parts ps) :
    MemOk P A w (Instr.buildSlice T len ps.toArray) (applyU own u) v := by
  unfold aBuildSlice at h
  split at h
  · rename_i e hT
    split at h
    · rename_i he hle
      have he := Nat.le_of_ble_eq_true he
      have hle := Nat.le_of_ble_eq_true hle
      obtain ⟨ie, hie⟩ := info_of_cells he
      split at h
      · cases h
      rename_i z hz
      obtain ⟨z0, hz1, hz2, hz3⟩ := zerosOf_ok hz he
      split at h
      · rename_i cs hlay
        rw [frcP_eq] at h
        cases h
        simp only [I.val] at hz3
        obtain ⟨cells, g1, g2, g3⟩ := layAll_ok hlay hps (hz3 A w)
        have hlen : cells.length = len * P.cellsOf e := by rw [g3]; simp [hz2]
        obtain ⟨k1, k2, k3⟩ := row_new (P := P) (w1 := w) (f := f) (cells := cells) (spare := []) e (P.cellsOf e) len len ho hf (Below.refl _ _) rfl g2 (Nat.le_refl _) (by rw [hlen]; exact Nat.le_add_right _ _) (.n len) rfl
        refine ⟨_, _, .slice (some ⟨w.heap.size, 0, none⟩) len len, ?_, k1, k2, k3⟩
        unfold Instr.buildSlice
        rw [Sem.run_bind, run_underlying hT]
        simp only []
        rw [Sem.run_bind, run_sizeOf hie]
        simp only []
        rw [if_neg (by omega)]
        have hzz : (List.replicate len z0.cells.toList).flatten = ((Array.range (len * z0.cells.size)).map (fun i => z0.cells[i % z0.cells.size]!)).toList := (zeros_arr z0.cells (by omega) len).symm
        have hfill : Instr.fill (fun i => some (i * P.cellsOf e, P.cellsOf e)) ((Array.range (len * z0.cells.size)).map (fun i => z0.cells[i % z0.cells.size]!)) ps = some cells.toArray := by
          rw [hzz] at g1
          simpa only [Array.toArray_toList] using g1
        by_cases h0 : len * P.cellsOf e = 0
        · have hl0 : len = 0 := by rcases Nat.mul_eq_zero.1 h0 with h4 | h4 <;> omega
          subst hl0
          rw [if_pos h0, Sem.run_bind, run_pure]
          simp only []
          have e1 : (Array.range (0 * z0.cells.size)).map (fun i => z0.cells[i % z0.cells.size]!) = (Array.range (0 * P.cellsOf e)).map (fun i => (#[] : Array Value)[i % (#[] : Array Value).size]!) := by simp
          rw [e1] at hfill
          rw [hfill]
          simp only [List.append_nil]
          rfl
        · rw [if_neg h0, Sem.run_bind, hz1]
          simp only []
          rw [Sem.run_bind, run_pure]
          simp only []
          rw [show len * P.cellsOf e = len * z0.cells.size by rw [hz2]]
          rw [hfill]
          simp only [List.append_nil]
          rfl
      · cases h
    · cases h
  · cases h
end Go.Eng
/- Structs and arrays compared. -/
namespace Go.Eng
open Go Go.RowKit

def eqS (d : TypeDesc) (x y : S) : Option Bool :=
  match d with
  | .int _ => match x, y with
    | .u8 x, .u8 y => some (x == y)
    | .u16 x, .u16 y => some (x == y)
    | .u32 x, .u32 y => some (x == y)
    | .u64 x, .u64 y => some (x == y)
    | .i64 x, .i64 y => some (x == y)
    | .i64 x, .n y => some (x == y)
    | .n x, .i64 y => some (x == y)
    | .n x, .n y => some (x == y)
    | _, _ => none
  | .bool => match x, y with
    | .b x, .b y => some (x == y)
    | .lb x, .b y => some (x == y)
    | .b x, .lb y => some (x == y)
    | .lb x, .lb y => some (x == y)
    | _, _ => none
  | .string => match x, y with
    | .str x, .str y => some (x == y)
    | _, _ => none
  | _ => none
def eqVec (d : Option TypeDesc) (v u : Vec) : Option Bool :=
  match d with
  | some (.int .u8) => match v, u with | .u8 l, .u8 k => some (l == k) | _, _ => none
  | some (.int .u16) => match v, u with | .u16 l, .u16 k => some (l == k) | _, _ => none
  | some (.int .u32) => match v, u with | .u32 l, .u32 k => some (l == k) | _, _ => none
  | some (.int .u64) => match v, u with | .u64 l, .u64 k => some (l == k) | _, _ => none
  | some (.int .i64) => match v, u with | .i64 l, .i64 k => some (l == k) | _, _ => none
  | some .bool => match v, u with | .bo l, .bo k => some (l == k) | _, _ => none
  | _ => none
def partW (P : Program) (T : TypeId) (cs : List Ch) (o : Nat) : Option W :=
  match isAggB P T with
  | some true => match rdA cs o (P.cellsOf T) with
    | some ([], t) => some (.agg t)
    | _ => none
  | some false => match rdS cs o with
    | some ([], s) => some (.s s)
    | _ => none
  | none => none
def andO (x : Option Bool) (y : Option Bool) : Option Bool :=
  match x, y with
  | some a, some b => some (a && b)
  | _, _ => none
def eqFs (P : Program) (f : TypeId → W → W → Option Bool) (cs ds : List Ch) : List Field → Option Bool
  | [] => some true
  | g :: r => match decide (g.name = "_") with
    | true => none
    | false => match partW P g.type cs g.offset, partW P g.type ds g.offset with
      | some x, some y => match r with
        | [] => f g.type x y
        | h :: r => andO (f g.type x y) (eqFs P f cs ds (h :: r))
      | _, _ => none
def eqEs (P : Program) (f : TypeId → W → W → Option Bool) (e : TypeId) (z : Nat) (cs ds : List Ch) : Nat → Nat → Option Bool
  | _, 0 => some true
  | i, n + 1 => match partW P e cs (i * z), partW P e ds (i * z) with
    | some x, some y => andO (f e x y) (eqEs P f e z cs ds (i + 1) n)
    | _, _ => none
def eqW (P : Program) : Nat → TypeId → W → W → Option Bool
  | 0, _, _, _ => none
  | d + 1, T, x, y => match P.underlying T with
    | some (.struct fs) => match P.stoodInHeld T with
      | true => none
      | false => match x, y with
        | .agg cs, .agg ds => eqFs P (eqW P d) cs ds fs.toList
        | _, _ => none
    | some (.array n e) => match x, y with
      | .agg [.vec (.n m) v], .agg [.vec (.n k) u] => match Nat.beq m n, Nat.beq k n, Nat.beq (P.cellsOf e) 1, d with
        | true, true, true, _ + 1 => eqVec (P.underlying e) v u
        | _, _, _, _ => none
      | .agg cs, .agg ds => match Nat.ble n 64 && Nat.blt 0 (P.cellsOf e) with
        | true => eqEs P (eqW P d) e (P.cellsOf e) cs ds 0 n
        | false => none
      | _, _ => none
    | some t => match x, y with
      | .s x, .s y => eqS t x y
      | _, _ => none
    | none => none

theorem partW_ok {P : Program} {A : Ad} {w : World} {T : TypeId} {cs : List Ch} {cells : List Value} {o : Nat} {x : W} (h : partW P T cs o = some x) (hc : ChsRel A w cs cells) : ∃ v, (∀ w', (part T cells.toArray o).run P w' = .ok v w') ∧ x.rel A w v := by
  unfold partW at h
  split at h
  · rename_i hT
    split at h
    · rename_i t hr
      cases h
      refine ⟨.agg ((cells.drop o).take (P.cellsOf T)).toArray, fun w' => ?_, _, rfl, (rdA_ok hr all_nil hc).2⟩
      obtain ⟨h1, i, h2⟩ := run_isAgg (w := w') hT
      unfold part
      rw [Sem.run_bind, h1]
      simp only [if_true]
      rw [Sem.run_bind, run_sizeOf h2]
      simp only [run_pure]
      congr 2
      apply Array.ext'
      simp [Array.toList_extract, List.extract_eq_take_drop]
    · cases h
  · rename_i hT
    split at h
    · rename_i s hr
      cases h
      obtain ⟨v, g1, g2, g3⟩ := rdS_ok hr all_nil hc
      refine ⟨v, fun w' => ?_, g2⟩
      obtain ⟨h1, i, h2⟩ := run_isAgg (w := w') hT
      unfold part
      rw [Sem.run_bind, h1]
      simp only [Bool.false_eq_true, if_false, List.getElem?_toArray, g1]
      rfl
    · cases h
  · cases h
theorem eqS_ok {P : Program} {A : Ad} {w : World} {T : TypeId} {t : TypeDesc} {x y : S} {b : Bool} {xv yv : Value} (hT : P.underlying T = some t) (h : eqS t x y = some b) (hx : x.rel A w xv) (hy : y.rel A w yv) (d : Nat) (w' : World) :
    (Op.equalIn (d + 1) T xv yv).run P w' = .ok b w' := by
  unfold eqS at h
  split at h
  · split at h <;> (try cases h) <;> simp only [S.rel, S.sc] at hx hy <;> subst hx <;> subst hy
    case h_5 => exact run_equalIn_int w' d T _ _ _ _ hT
    case h_6 => exact run_equalIn_int w' d T _ _ _ _ hT
    case h_7 => exact run_equalIn_int w' d T _ _ _ _ hT
    case h_8 => exact run_equalIn_int w' d T _ _ _ _ hT
    all_goals
      refine (run_equalIn_int w' d T _ _ _ _ hT).trans (congrArg (fun z => Result.ok z w') ?_)
      rw [Bool.eq_iff_iff]
      simp [← UInt8.toNat_inj, ← UInt16.toNat_inj, ← UInt32.toNat_inj, ← UInt64.toNat_inj]
      try omega
  · split at h <;> (try cases h) <;> simp only [S.rel, S.sc] at hx hy <;> subst hx <;> subst hy <;> exact run_equalIn_bool' w' d T _ _ hT
  · split at h <;> (try cases h)
    simp only [S.rel, S.sc] at hx hy
    subst hx; subst hy
    rw [run_equalIn_string w' d T _ _ hT, ba_toList, ba_toList]
  · cases h

def eqElems (d : Nat) (e : TypeId) (z : Nat) (xs ys : Array Value) : Nat → Nat → Sem Bool
  | _, 0 => pure true
  | i, n + 1 => do
    let a ← part e xs (i * z)
    let b ← part e ys (i * z)
    let r ← Op.equalIn d e a b
    if (!r) = true then pure false else eqElems d e z xs ys (i + 1) n
theorem run_equalIn_array {P : Program} (w : World) (d : Nat) (T e : TypeId) (n : Nat) (ie : TypeInfo) (xs ys : Array Value) (hT : P.underlying T = some (.array n e)) (hie : P.info? e = some ie) :
    (Op.equalIn (d + 1) T (.agg xs) (.agg ys)).run P w = (eqElems d e (P.cellsOf e) xs ys 0 n).run P w := by
  unfold Op.equalIn
  rw [Sem.run_bind, run_underlying hT]
  simp only []
  rw [Sem.run_bind, run_sizeOf hie]
  simp only [Std.Legacy.Range.forIn_eq_forIn_range', Std.Legacy.Range.size]
  have e1 : (n - 0 + 1 - 1) / 1 = n := by simp
  rw [e1]
  generalize hk : (0 : Nat) = k
  clear hk e1 hT
  induction n generalizing w k with
  | zero => simp [eqElems, List.range', run_pure]
  | succ n ih =>
    rw [List.range'_succ]
    simp only [List.forIn_cons, eqElems, Sem.run_bind]
    generalize (part e xs (k * P.cellsOf e)).run P w = r1
    cases r1 with
    | ok a w1 =>
      simp only []
      generalize (part e ys (k * P.cellsOf e)).run P w1 = r2
      cases r2 with
      | ok b w2 =>
        simp only []
        generalize (Op.equalIn d e a b).run P w2 = r3
        cases r3 with
        | ok r w3 =>
          cases r
          · simp [run_pure]
          · simp only [Bool.not_true, Bool.false_eq_true, if_false, run_pure]
            have := ih w3 (k + 1)
            simp only [Sem.run_bind] at this
            exact this
        | halt x w3 => rfl
      | halt x w2 => rfl
    | halt x w1 => rfl

theorem part_one {P : Program} {e : TypeId} (he : isAggB P e = some false) {cells : List Value} {o : Nat} {v : Value} (h : cells[o]? = some v) (w : World) : (part e cells.toArray o).run P w = .ok v w := by
  obtain ⟨h1, i, h2⟩ := run_isAgg (w := w) he
  unfold part
  rw [Sem.run_bind, h1]
  simp only [Bool.false_eq_true, if_false, List.getElem?_toArray, h]
  rfl
theorem eqElems_scalar {α : Type} [BEq α] [LawfulBEq α] {P : Program} {e : TypeId} {d : Nat} (g : α → Value) (he : isAggB P e = some false) (heq : ∀ a b w, (Op.equalIn d e (g a) (g b)).run P w = .ok (a == b) w) :
    ∀ (l k p q : List α) (w : World), l.length = k.length → p.length = q.length → (eqElems d e 1 ((p ++ l).map g).toArray ((q ++ k).map g).toArray p.length l.length).run P w = .ok (l == k) w
  | [], [], p, q, w, _, _ => rfl
  | [], _ :: _, _, _, _, h, _ => by simp at h
  | _ :: _, [], _, _, _, h, _ => by simp at h
  | a :: l, b :: k, p, q, w, h, hpq => by
    simp only [List.length_cons, eqElems, Nat.mul_one]
    rw [Sem.run_bind, part_one he (v := g a) (by simp)]
    simp only []
    rw [Sem.run_bind, part_one he (v := g b) (by simp [hpq])]
    simp only []
    rw [Sem.run_bind, heq]
    simp only []
    cases hab : a == b with
    | false =>
      have : (a :: l == b :: k) = false := by simp [List.cons_beq_cons, hab]
      rw [this]
      rfl
    | true =>
      have := eqElems_scalar g he heq l k (p ++ [a]) (q ++ [b]) w (by simpa using h) (by simp [hpq])
      simp only [List.append_assoc, List.singleton_append, List.length_append, List.length_singleton] at this
      rw [List.cons_beq_cons, hab, Bool.true_and]
      simpa using this
theorem eqVec_ok {P : Program} {A : Ad} {w : World} {e : TypeId} {v u : Vec} {b : Bool} {l k : List Value} {d n : Nat} (h : eqVec (P.underlying e) v u = some b) (hv : v.rel A w l) (hu : u.rel A w k) (hl : l.length = n) (hk : k.length = n) (w' : World) :
    (eqElems (d + 1) e 1 l.toArray k.toArray 0 n).run P w' = .ok b w' := by
  have hnn : ∀ t, P.underlying e = some t → (∀ fs, t ≠ .struct fs) → (∀ n e, t ≠ .array n e) → isAggB P e = some false := by
    intro t ht h1 h2
    unfold isAggB
    rw [ht]
    cases t <;> first | rfl | (exact absurd rfl (h1 _)) | (exact absurd rfl (h2 _ _))
  unfold eqVec at h
  split at h
  · rename_i hd
    split at h <;> cases h
    simp only [Vec.rel] at hv hu
    subst hv; subst hu
    simp only [List.length_map] at hl hk
    subst hl
    exact eqElems_scalar eu8 (hnn _ hd (by intro _ h; cases h) (by intro _ _ h; cases h)) (fun a b w => eqS_ok (A := A) (w := w) (x := .u8 a) (y := .u8 b) hd rfl rfl rfl d w) _ _ [] [] w' hk.symm rfl
  · rename_i hd
    split at h <;> cases h
    simp only [Vec.rel] at hv hu
    subst hv; subst hu
    simp only [List.length_map] at hl hk
    subst hl
    exact eqElems_scalar eu16 (hnn _ hd (by intro _ h; cases h) (by intro _ _ h; cases h)) (fun a b w => eqS_ok (A := A) (w := w) (x := .u16 a) (y := .u16 b) hd rfl rfl rfl d w) _ _ [] [] w' hk.symm rfl
  · rename_i hd
    split at h <;> cases h
    simp only [Vec.rel] at hv hu
    subst hv; subst hu
    simp only [List.length_map] at hl hk
    subst hl
    exact eqElems_scalar eu32 (hnn _ hd (by intro _ h; cases h) (by intro _ _ h; cases h)) (fun a b w => eqS_ok (A := A) (w := w) (x := .u32 a) (y := .u32 b) hd rfl rfl rfl d w) _ _ [] [] w' hk.symm rfl
  · rename_i hd
    split at h <;> cases h
    simp only [Vec.rel] at hv hu
    subst hv; subst hu
    simp only [List.length_map] at hl hk
    subst hl
    exact eqElems_scalar eu64 (hnn _ hd (by intro _ h; cases h) (by intro _ _ h; cases h)) (fun a b w => eqS_ok (A := A) (w := w) (x := .u64 a) (y := .u64 b) hd rfl rfl rfl d w) _ _ [] [] w' hk.symm rfl
  · rename_i hd
    split at h <;> cases h
    simp only [Vec.rel] at hv hu
    subst hv; subst hu
    simp only [List.length_map] at hl hk
    subst hl
    exact eqElems_scalar ei64 (hnn _ hd (by intro _ h; cases h) (by intro _ _ h; cases h)) (fun a b w => eqS_ok (A := A) (w := w) (x := .i64 a) (y := .i64 b) hd rfl rfl rfl d w) _ _ [] [] w' hk.symm rfl
  · rename_i hd
    split at h <;> cases h
    simp only [Vec.rel] at hv hu
    subst hv; subst hu
    simp only [List.length_map] at hl hk
    subst hl
    exact eqElems_scalar ebo (hnn _ hd (by intro _ h; cases h) (by intro _ _ h; cases h)) (fun a b w => eqS_ok (A := A) (w := w) (x := .b a) (y := .b b) hd rfl rfl rfl d w) _ _ [] [] w' hk.symm rfl
  · cases h
theorem eqEs_ok {P : Program} {A : Ad} {w : World} {f : TypeId → W → W → Option Bool} {e : TypeId} {z d : Nat} {cs ds : List Ch} {l k : List Value} (hf : ∀ x y b xv yv, f e x y = some b → x.rel A w xv → y.rel A w yv → ∀ w', (Op.equalIn d e xv yv).run P w' = .ok b w')
    (hl : ChsRel A w cs l) (hk : ChsRel A w ds k) : ∀ (n i : Nat) (b : Bool), eqEs P f e z cs ds i n = some b → ∀ w', (eqElems d e z l.toArray k.toArray i n).run P w' = .ok b w'
  | 0, i, b, h, w' => by simp only [eqEs, Option.some.injEq] at h; subst h; rfl
  | n + 1, i, b, h, w' => by
    unfold eqEs at h
    split at h
    · rename_i x y hx hy
      unfold andO at h
      split at h
      · rename_i b1 b2 h1 h2
        cases h
        obtain ⟨xv, g1, g2⟩ := partW_ok hx hl
        obtain ⟨yv, g3, g4⟩ := partW_ok hy hk
        unfold eqElems
        rw [Sem.run_bind, g1]
        simp only []
        rw [Sem.run_bind, g3]
        simp only []
        rw [Sem.run_bind, hf _ _ _ _ _ h1 g2 g4]
        simp only []
        cases b1 with
        | false => rfl
        | true =>
          simp only [Bool.not_true, Bool.false_eq_true, if_false, Bool.true_and]
          exact eqEs_ok hf hl hk n (i + 1) b2 h2 w'
      · cases h
    · cases h
theorem eqFs_ok {P : Program} {A : Ad} {w : World} {f : TypeId → W → W → Option Bool} {d : Nat} {cs ds : List Ch} {l k : List Value} (hf : ∀ e x y b xv yv, f e x y = some b → x.rel A w xv → y.rel A w yv → ∀ w', (Op.equalIn d e xv yv).run P w' = .ok b w')
    (hl : ChsRel A w cs l) (hk : ChsRel A w ds k) : ∀ (fs : List Field) (b : Bool), eqFs P f cs ds fs = some b → ∀ w', (Op.eqFields d l.toArray k.toArray fs).run P w' = .ok b w'
  | [], b, h, w' => by simp only [eqFs, Option.some.injEq] at h; subst h; rfl
  | g :: r, b, h, w' => by
    unfold eqFs at h
    split at h
    · cases h
    rename_i hname
    have hname : g.name ≠ "_" := by simpa using hname
    split at h
    · rename_i x y hx hy
      obtain ⟨xv, g1, g2⟩ := partW_ok hx hl
      obtain ⟨yv, g3, g4⟩ := partW_ok hy hk
      unfold Op.eqFields
      rw [if_pos hname, Sem.run_bind, g1]
      simp only []
      rw [Sem.run_bind, g3]
      simp only []
      rw [Sem.run_bind]
      split at h
      · rw [hf _ _ _ _ _ _ h g2 g4]
        cases b <;> rfl
      · rename_i g' r'
        unfold andO at h
        split at h
        · rename_i b1 b2 h1 h2
          cases h
          rw [hf _ _ _ _ _ _ h1 g2 g4]
          simp only []
          cases b1 with
          | false => rfl
          | true =>
            simp only [Bool.not_true, Bool.false_eq_true, if_false, Bool.true_and]
            exact eqFs_ok hf hl hk (g' :: r') b2 h2 w'
        · cases h
    · cases h
theorem eqW_ok {P : Program} {A : Ad} {w : World} : ∀ (d : Nat) (T : TypeId) (x y : W) (b : Bool) (xv yv : Value), eqW P d T x y = some b → x.rel A w xv → y.rel A w yv → ∀ D, d ≤ D → ∀ w', (Op.equalIn D T xv yv).run P w' = .ok b w'
  | 0, T, x, y, b, xv, yv, h, _, _, _, _, _ => by simp [eqW] at h
  | d + 1, T, x, y, b, xv, yv, h, hx, hy, D, hD, w' => by
    obtain ⟨D, rfl⟩ : ∃ D', D = D' + 1 := ⟨D - 1, by omega⟩
    have ih : ∀ e x y b xv yv, eqW P d e x y = some b → x.rel A w xv → y.rel A w yv → ∀ w', (Op.equalIn D e xv yv).run P w' = .ok b w' :=
      fun e x y b xv yv h hx hy w' => eqW_ok d e x y b xv yv h hx hy D (by omega) w'
    unfold eqW at h
    split at h
    · rename_i fs hT
      split at h
      · cases h
      rename_i hst
      split at h
      · rename_i cs ds
        obtain ⟨l, rfl, hl⟩ := hx
        obtain ⟨k, rfl, hk⟩ := hy
        have hfs : P.fieldsOf T = fs := by unfold Program.fieldsOf; rw [hT]
        rw [run_equalIn_struct w' D T _ _ (by rw [hfs]; exact hT) hst, hfs]
        exact eqFs_ok ih hl hk fs.toList b h w'
      · cases h
    · rename_i n e hT
      split at h
      · rename_i m v kk u
        split at h
        · rename_i hm hkk hone
          have hm := Nat.eq_of_beq_eq_true hm
          have hkk := Nat.eq_of_beq_eq_true hkk
          have hone := Nat.eq_of_beq_eq_true hone
          obtain ⟨l, rfl, hl⟩ := hx
          obtain ⟨k, rfl, hk⟩ := hy
          obtain ⟨ie, hie⟩ := info_of_cells (P := P) (T := e) (by omega)
          obtain ⟨D, rfl⟩ : ∃ D', D = D' + 1 := ⟨D - 1, by omega⟩
          rw [run_equalIn_array w' (D + 1) T e n ie _ _ hT hie, hone]
          obtain ⟨a1, a2⟩ := vec_rel hl
          obtain ⟨b1, b2⟩ := vec_rel hk
          exact eqVec_ok h a2 b2 (by simp only [I.val] at a1; omega) (by simp only [I.val] at b1; omega) w'
        · cases h
      · rename_i cs ds _
        split at h
        · rename_i hcond
          obtain ⟨l, rfl, hl⟩ := hx
          obtain ⟨k, rfl, hk⟩ := hy
          rw [Bool.and_eq_true] at hcond
          obtain ⟨ie, hie⟩ := info_of_cells (Nat.le_of_ble_eq_true hcond.2)
          rw [run_equalIn_array w' D T e n ie _ _ hT hie]
          exact eqEs_ok (ih e) hl hk n 0 b h w'
        · cases h
      · cases h
    · rename_i t _ _ hT
      split at h
      · rename_i x y
        exact eqS_ok hT h hx hy D w'
      · cases h
    · cases h
end Go.Eng
/- One operation. -/
namespace Go.Eng
open Go Go.RowKit

structure St where
  fr : List V
  own : List Blk

noncomputable def getF (l : List V) : Nat → V :=
  List.rec (motive := fun _ => Nat → V) (fun _ => V.any) (fun x _ ih n => Nat.rec (motive := fun _ => V) x (fun m _ => ih m) n) l
noncomputable def setF (l : List V) : Nat → V → List V :=
  List.rec (motive := fun _ => Nat → V → List V) (fun _ _ => []) (fun x r ih n v => Nat.rec (motive := fun _ => List V) (v :: r) (fun m _ => x :: ih m v) n) l
noncomputable def ev (fr : List V) : Operand → V
  | .tmp t => getF fr t
  | .const v => .s (ofConst v)
  | .global _ => V.any
  | .func f => .s (.cst (.func (.func f) #[] #[]))
noncomputable def evS (fr : List V) (x : Operand) : S := oS (ev fr x)
noncomputable def evO (fr : List V) : Option Operand → Option S
  | none => none
  | some x => some (evS fr x)

def isSc : S → Bool
  | .u8 _ | .u16 _ | .u32 _ | .u64 _ | .i64 _ | .n _ | .b _ | .lb _ | .str _ => true
  | _ => false
def isBoolT (P : Program) (T : TypeId) : Bool := match P.underlying T with | some .bool => true | _ => false
def aBin (P : Program) (op : BinOp) (T : TypeId) (x y : V) : RU :=
  match x, y with
  | .w (.s a), .w (.s b) => match isSc a && isSc b with
    | true => retS (binS (isBoolT P T) op a b)
    | false => none
  | .w (.agg c), .w (.agg d) => match P.eqGuardType P.depth T with
    | true => none
    | false => match eqW P 16 T (.agg c) (.agg d), op with
      | some b, .eql => okS (.b b)
      | some b, .neq => okS (.b (!b))
      | _, _ => none
  | _, _ => none
def aPick (c a b : V) : RU :=
  match c with
  | .w (.s (.lb true)) => okV a
  | .w (.s (.lb false)) => okV b
  | .w (.s (.b c)) => match a, b with
    | .w (.s (.lb true)), .w (.s (.b y)) => okS (.b (c || y))
    | .w (.s (.b x)), .w (.s (.lb false)) => okS (.b (c && x))
    | _, _ => none
  | _ => none
def aNil (x : S) : RU :=
  match x with
  | .ptr k o => okS (.ptr k o)
  | .pti k o i => okS (.pti k o i)
  | .xp v i => okS (.xp v i)
  | .clo f k o => okS (.clo f k o)
  | .cst (.func (.func f) a b) => okS (.cst (.func (.func f) a b))
  | _ => none
noncomputable def aClo (fr : List V) (fn : Fn) (a b : List Operand) : RU :=
  match fn, a, b with
  | .func f, [], [x] => match evS fr x with
    | .ptr k o => okS (.clo f k o)
    | _ => none
  | _, _, _ => none
noncomputable def mapV (fr : List V) : List (Nat × Operand) → List (Nat × V)
  | [] => []
  | (i, x) :: r => (i, ev fr x) :: mapV fr r
def foldMin (f : S → S → R S) : List S → S → R S
  | [], acc => some ([], acc)
  | x :: r, acc => bindR (f acc x) (foldMin f r)
noncomputable def aop (P : Program) (o : Op) (fr : List V) (own : List Blk) (f : Nat) : RU :=
  match o with
  | .move x => okV (ev fr x)
  | .assign x => okV (ev fr x)
  | .pick c a b => aPick (ev fr c) (ev fr a) (ev fr b)
  | .alloc T => aAlloc P T f
  | .box _ x => aBox P (ev fr x) f
  | .build T ps => aBuild P T (mapV fr ps.toList)
  | .buildSlice T n ps => aBuildSlice P T n (mapV fr ps.toList) f
  | .load T x => aLoad P T (evS fr x) own
  | .store T x y => aStore P T (evS fr x) (ev fr y) own
  | .nilCheck x => aNil (evS fr x)
  | .binOp op T x y _ => aBin P op T (ev fr x) (ev fr y)
  | .unOp op _ x => retS (match isSc (evS fr x) with | true => unS op (evS fr x) | false => none)
  | .convert s d x => aConv P s d (evS fr x) own f
  | .sliceToArrayPointer T x => aToPtr P T (evS fr x)
  | .makeSlice T l c => aMake P T (evS fr l) (evS fr c) f
  | .slice T x lo hi mx => aSlice P T (evS fr x) (evO fr lo) (evO fr hi) (evO fr mx) own
  | .fieldAddr T x i => aField P T (evS fr x) i
  | .field T x i => aFieldV P T (ev fr x) i
  | .indexAddr T x i => aIndexAddr P T (evS fr x) (evS fr i)
  | .index T x i => aIndex P T (ev fr x) (evS fr i)
  | .extract x i => aExtract (ev fr x) i
  | .makeFunc fn a b => aClo fr fn a.toList b.toList
  | .call c => match c.callee with
    | .builtin b => match b, c.args.toList with
      | .append, [x, y] => aAppend P c.argTypes (evS fr x) (evS fr y) own f
      | .copy, [x, y] => aCopy P c.argTypes (evS fr x) (evS fr y) own
      | .len, [x] => aLen P c.argTypes (evS fr x)
      | .min, x :: r => retS (match isSc (evS fr x) with | true => foldMin minS (r.map (evS fr)) (evS fr x) | false => none)
      | .max, x :: r => retS (match isSc (evS fr x) with | true => foldMin maxS (r.map (evS fr)) (evS fr x) | false => none)
      | _, _ => none
    | _ => none
  | _ => none

theorem getF_get : ∀ (fr : List V) (i : Nat), getF fr i = (fr[i]?).getD V.any
  | [], i => rfl
  | x :: _, 0 => rfl
  | _ :: r, i + 1 => by show getF r i = _; rw [getF_get r i]; simp
theorem setF_set : ∀ (fr : List V) (i : Nat) (v : V), setF fr i v = fr.set i v
  | [], _, _ => rfl
  | _ :: _, 0, _ => rfl
  | _ :: r, i + 1, v => by show _ :: setF r i v = _; rw [setF_set r i]; simp
def FrRel (A : Ad) (w : World) (fr : List V) (tmps : Array Value) : Prop := tmps.size = fr.length ∧ ∀ (i : Nat) (x : V) (v : Value), fr[i]? = some x → tmps[i]? = some v → x.rel A w v
theorem FrRel.keep {A A' : Ad} {w w' : World} {fr : List V} {tmps : Array Value} (k : Keep A w A' w') (h : FrRel A w fr tmps) : FrRel A' w' fr tmps := ⟨h.1, fun i x v h1 h2 => k.v (h.2 i x v h1 h2)⟩
theorem FrRel.put {A : Ad} {w : World} {fr : List V} {tmps : Array Value} {x : V} {v : Value} (h : FrRel A w fr tmps) (d : Nat) (hx : x.rel A w v) : FrRel A w (setF fr d x) (tmps.setIfInBounds d v) := by
  refine ⟨by simp [setF_set, h.1], fun i y u h1 h2 => ?_⟩
  rw [setF_set] at h1
  rw [List.getElem?_set] at h1
  rw [Array.getElem?_setIfInBounds] at h2
  by_cases e : d = i
  · subst e
    simp only [if_true] at h1 h2
    split at h1
    · split at h2
      · cases h1; cases h2; exact hx
      · cases h2
    · cases h1
  · rw [if_neg e] at h1 h2
    exact h.2 i y u h1 h2
theorem FrRel.ev {A : Ad} {w : World} {fr : List V} {a : Act} (h : FrRel A w fr a.tmps) (x : Operand) : (ev fr x).rel A w (a.eval x) := by
  cases x with
  | tmp t =>
    show (getF fr t).rel A w (a.tmps.getD t undef)
    rw [getF_get]
    by_cases ht : t < fr.length
    · have ht' : t < a.tmps.size := by rw [h.1]; exact ht
      have h2 := h.2 t fr[t] a.tmps[t] (List.getElem?_eq_getElem ht) (Array.getElem?_eq_getElem ht')
      rw [List.getElem?_eq_getElem ht]
      simp only [Option.getD_some]
      rw [Array.getD_eq_getD_getElem?, Array.getElem?_eq_getElem ht']
      exact h2
    · rw [List.getElem?_eq_none (Nat.not_lt.1 ht)]
      trivial
  | const v => exact ofConst_ok v
  | global g => trivial
  | func f => rfl
theorem oS_ok {A : Ad} {w : World} {x : V} {v : Value} (h : x.rel A w v) : (oS x).rel A w v := by
  unfold oS
  split
  · exact h
  · trivial
theorem FrRel.evS {A : Ad} {w : World} {fr : List V} {a : Act} (h : FrRel A w fr a.tmps) (x : Operand) : (evS fr x).rel A w (a.eval x) := oS_ok (h.ev x)
theorem FrRel.evO {A : Ad} {w : World} {fr : List V} {a : Act} (h : FrRel A w fr a.tmps) (x : Option Operand) : oRel A w (evO fr x) (x.map a.eval) := by
  cases x with
  | none => trivial
  | some x => exact h.evS x
theorem FrRel.parts {A : Ad} {w : World} {fr : List V} {a : Act} (h : FrRel A w fr a.tmps) : ∀ ps : List (Nat × Operand), PartsRel A w (mapV fr ps) (ps.map fun (i, x) => (i, a.eval x))
  | [] => rfl
  | (i, x) :: r => ⟨_, _, rfl, h.ev x, h.parts r⟩
theorem isSc_sc {A : Ad} {w : World} {x : S} {v : Value} (h : isSc x = true) (hx : x.rel A w v) : x.sc v := by
  cases x <;> first | exact hx | (cases h)
theorem sc_rel {A : Ad} {w : World} {x : S} {v : Value} (hx : x.sc v) : x.rel A w v := by
  cases x <;> first | exact hx | exact hx.elim
theorem sc_noAgg {x : S} {v : Value} (hx : x.sc v) : (∀ c, v ≠ .agg c) ∧ v ≠ .nilIface := by
  cases x <;> simp only [S.sc] at hx <;> subst hx <;> exact ⟨(fun c h => by cases h), (fun h => by cases h)⟩
theorem eqGuard_sc {P : Program} {w : World} {op : BinOp} {T : TypeId} {x y : Operand} {a b : Value} (ha : (∀ c, a ≠ .agg c) ∧ a ≠ .nilIface) : (eqGuard op T x y a b).run P w = .ok () w := by
  unfold eqGuard
  cases a <;> first
    | (exact absurd rfl (ha.1 _))
    | (exact absurd rfl ha.2)
    | (cases op <;> cases b <;> rfl)

def ExOk (P : Program) (A : Ad) (w : World) (o : Oper) (a : Act) (own' : List Blk) (v : V) : Prop :=
  ∃ A' w', Keep A w A' w' ∧ OwnOK A' w' own' ∧ ((∃ x, (execOp a.eval o).run P w = .ok (.value x) w' ∧ v.rel A' w' x) ∨ ((execOp a.eval o).run P w = .ok .skip w' ∧ v = V.any))
theorem MemOk.ex {P : Program} {A : Ad} {w : World} {m : Sem Value} {own : List Blk} {v : V} {o : Oper} {a : Act} (h : MemOk P A w m own v) (e : execOp a.eval o = (m >>= fun x => Pure.pure (Next.value x))) : ExOk P A w o a own v := by
  obtain ⟨A', w', x, h1, h2, h3, h4⟩ := h
  refine ⟨A', w', h2, h3, .inl ⟨x, ?_, h4⟩⟩
  rw [e, Sem.run_bind, h1]
  rfl
theorem scOk_mem {P : Program} {A : Ad} {w : World} {own : List Blk} {m : Sem Value} {r : R S} {p : List Prop} {v : V} {u : U} (h : retS r = some (p, v, u)) (ho : OwnOK A w own) (hs : ∀ q s, r = some (q, s) → q = p → ScOk P w m s) : MemOk P A w m (applyU own u) v := by
  obtain ⟨s, h1, rfl, rfl⟩ := retS_some h
  obtain ⟨x, g1, g2⟩ := hs p s h1 rfl
  exact MemOk.pure ho g1 (sc_rel g2)
theorem aBin_ok {P : Program} {A : Ad} {w : World} {own : List Blk} {op : BinOp} {T : TypeId} {x y v : V} {p : List Prop} {u : U} {xv yv : Value} {xo yo : Operand} (h : aBin P op T x y = some (p, v, u)) (hp : all p) (ho : OwnOK A w own) (hx : x.rel A w xv) (hy : y.rel A w yv) :
    MemOk P A w (do eqGuard op T xo yo xv yv; binOp op T xv yv) (applyU own u) v := by
  unfold aBin at h
  split at h
  · rename_i a b
    split at h
    · rename_i hsc
      rw [Bool.and_eq_true] at hsc
      have ha := isSc_sc hsc.1 hx
      have hb := isSc_sc hsc.2 hy
      refine scOk_mem h ho fun q s e hq => ?_
      subst hq
      obtain ⟨z, g1, g2⟩ := binS_ok (P := P) (w := w) (T := T) (fun htb => by
        unfold isBoolT at htb
        split at htb
        · assumption
        · cases htb) e hp ha hb
      refine ⟨z, ?_, g2⟩
      rw [Sem.run_bind, eqGuard_sc (sc_noAgg ha)]
      exact g1
    · cases h
  · rename_i c d
    split at h
    · cases h
    rename_i hg
    obtain ⟨l, rfl, hl⟩ := hx
    obtain ⟨k, rfl, hk⟩ := hy
    split at h
    · rename_i b he
      cases h
      refine MemOk.pure ho (x := .bool b) ?_ rfl
      rw [Sem.run_bind, run_eqGuard_agg w _ T xo yo _ _ hg]
      simp only []
      rw [run_eql_struct, eqW_ok 16 T _ _ b _ _ he ⟨l, rfl, hl⟩ ⟨k, rfl, hk⟩ 10000 (by omega)]
      rfl
    · rename_i b he
      cases h
      refine MemOk.pure ho (x := .bool !b) ?_ rfl
      rw [Sem.run_bind, run_eqGuard_agg w _ T xo yo _ _ hg]
      simp only []
      rw [run_neq_struct, eqW_ok 16 T _ _ b _ _ he ⟨l, rfl, hl⟩ ⟨k, rfl, hk⟩ 10000 (by omega)]
      rfl
    · cases h
  · cases h
theorem foldMin_ok {P : Program} {A : Ad} {w : World} {f : S → S → R S} {g : Value → Value → Sem Value} (hf : ∀ x y p s v u, f x y = some (p, s) → all p → x.sc v → y.sc u → ScOk P w (g v u) s) (hf2 : ∀ x y p s, f x y = some (p, s) → isSc y = true) :
    ∀ (l : List S) (vs : List Value) (acc s : S) (av : Value) (p : List Prop), l.length = vs.length → (∀ (i : Nat) (x : S) (v : Value), l[i]? = some x → vs[i]? = some v → x.rel A w v) → acc.sc av → foldMin f l acc = some (p, s) → all p → ScOk P w (vs.foldlM g av) s
  | [], vs, acc, s, av, p, hlen, hr, ha, h, hp => by
    have : vs = [] := List.length_eq_zero_iff.1 hlen.symm
    subst this
    simp only [foldMin, Option.some.injEq, Prod.mk.injEq] at h
    obtain ⟨_, rfl⟩ := h
    exact ⟨av, rfl, ha⟩
  | x :: l, [], acc, s, av, p, hlen, hr, ha, h, hp => by simp at hlen
  | x :: l, v :: vs, acc, s, av, p, hlen, hr, ha, h, hp => by
    obtain ⟨q, b, r, h1, h2, h3, h4⟩ := bindR_some h hp
    have hx := isSc_sc (hf2 _ _ _ _ h1) (hr 0 x v rfl rfl)
    obtain ⟨z, g1, g2⟩ := hf _ _ _ _ _ _ h1 h2 ha hx
    obtain ⟨y, k1, k2⟩ := foldMin_ok hf hf2 l vs b s z r (by simpa using hlen) (fun i x v h1 h2 => hr (i + 1) x v (by simpa using h1) (by simpa using h2)) g2 h3 h4
    refine ⟨y, ?_, k2⟩
    rw [List.foldlM_cons, Sem.run_bind, g1]
    exact k1
theorem minS_sc {x y : S} {p : List Prop} {s : S} (h : minS x y = some (p, s)) : isSc y = true := by
  unfold minS at h
  split at h <;> first | rfl | cases h
theorem maxS_sc {x y : S} {p : List Prop} {s : S} (h : maxS x y = some (p, s)) : isSc y = true := by
  unfold maxS at h
  split at h <;> first | rfl | cases h
theorem aPick_ok {A : Ad} {w : World} {own : List Blk} {c a b v : V} {p : List Prop} {u : U} {cv av bv : Value} (h : aPick c a b = some (p, v, u)) (ho : OwnOK A w own) (hc : c.rel A w cv) (ha : a.rel A w av) (hb : b.rel A w bv) :
    ∃ t, cv = .bool t ∧ u = [] ∧ p = [] ∧ v.rel A w (if t then av else bv) := by
  unfold aPick at h
  split at h
  · cases h; exact ⟨true, hc, rfl, rfl, ha⟩
  · cases h; exact ⟨false, hc, rfl, rfl, hb⟩
  · rename_i c
    split at h
    · rename_i y
      cases h
      have hc' : cv = .bool c := hc
      have ha' : av = .bool true := ha
      have hb' : bv = .bool y := hb
      subst hc'; subst ha'; subst hb'
      refine ⟨c, rfl, rfl, rfl, ?_⟩
      cases c <;> rfl
    · rename_i x
      cases h
      have hc' : cv = .bool c := hc
      have ha' : av = .bool x := ha
      have hb' : bv = .bool false := hb
      subst hc'; subst ha'; subst hb'
      refine ⟨c, rfl, rfl, rfl, ?_⟩
      cases c <;> first | rfl | (cases x <;> rfl)
    · cases h
  · cases h
theorem aop_ok {P : Program} {A : Ad} {w : World} {fr : List V} {own : List Blk} {f : Nat} {o : Oper} {a : Act} {p : List Prop} {v : V} {u : U} (h : aop P o.op fr own f = some (p, v, u)) (hp : all p) (hfr : FrRel A w fr a.tmps) (ho : OwnOK A w own) (hf : A f = none) :
    ExOk P A w o a (applyU own u) v := by
  have eval : ∀ x, (ev fr x).rel A w (a.eval x) := fun x => hfr.ev x
  have evalS : ∀ x, (evS fr x).rel A w (a.eval x) := fun x => hfr.evS x
  obtain ⟨dst, op, type, pos, after, guard⟩ := o
  simp only [] at h
  cases op <;> simp only [aop] at h <;> try (cases h; done)
  case move x => cases h; exact ⟨A, w, .refl _ _, ho, .inl ⟨_, rfl, eval x⟩⟩
  case assign x => cases h; exact ⟨A, w, .refl _ _, ho, .inl ⟨_, rfl, eval x⟩⟩
  case pick c x y =>
    obtain ⟨t, h1, rfl, rfl, h2⟩ := aPick_ok h ho (eval c) (eval x) (eval y)
    refine ⟨A, w, .refl _ _, ho, .inl ⟨_, ?_, h2⟩⟩
    unfold execOp
    simp only [h1]
    rfl
  case alloc T => exact (aAlloc_ok h ho hf).ex rfl
  case box T x => exact (aBox_ok (T := T) h ho hf (eval x)).ex rfl
  case build T ps =>
    refine (aBuild_ok h ho (hfr.parts ps.toList)).ex ?_
    show (do pure (Next.value (← Instr.build T (ps.map fun (i, x) => (i, a.eval x)))) : Sem Next) = _
    have e : ∀ g : Nat × Operand → Nat × Value, ps.map g = (ps.toList.map g).toArray := fun g => Array.ext' (by simp)
    rw [e]
  case buildSlice T n ps =>
    refine (aBuildSlice_ok h ho hf (hfr.parts ps.toList)).ex ?_
    show (do pure (Next.value (← Instr.buildSlice T n (ps.map fun (i, x) => (i, a.eval x)))) : Sem Next) = _
    have e : ∀ g : Nat × Operand → Nat × Value, ps.map g = (ps.toList.map g).toArray := fun g => Array.ext' (by simp)
    rw [e]
  case load T x => exact (aLoad_ok h hp ho (evalS x)).ex rfl
  case store T x y =>
    obtain ⟨rfl, A', w', h1, h2, h3⟩ := aStore_ok h hp ho (evalS x) (eval y)
    refine ⟨A', w', h2, h3, .inr ⟨?_, rfl⟩⟩
    show (do Instr.storeAt T (a.eval x) (a.eval y); pure Next.skip : Sem Next).run P w = _
    rw [Sem.run_bind, h1]
    rfl
  case nilCheck x =>
    have hx := evalS x
    unfold aNil at h
    split at h
    · rename_i k i hxx
      cases h
      rw [hxx] at hx
      obtain ⟨b, hb, he⟩ := hx
      refine ⟨A, w, .refl _ _, ho, .inl ⟨a.eval x, ?_, b, hb, he⟩⟩
      unfold execOp; simp only [he]; rfl
    · rename_i k o i hxx
      cases h
      rw [hxx] at hx
      obtain ⟨b, hb, he⟩ := hx
      refine ⟨A, w, .refl _ _, ho, .inl ⟨a.eval x, ?_, b, hb, he⟩⟩
      unfold execOp; simp only [he]; rfl
    · rename_i v i hxx
      cases h
      rw [hxx] at hx
      have hx2 := hx
      obtain ⟨cs, blk, off, arr, T, fz, h1, he, h3, h4, h5⟩ := hx
      refine ⟨A, w, .refl _ _, ho, .inl ⟨a.eval x, ?_, hx2⟩⟩
      unfold execOp; simp only [he]; rfl
    · rename_i g k o hxx
      cases h
      rw [hxx] at hx
      obtain ⟨b, hb, he⟩ := hx
      refine ⟨A, w, .refl _ _, ho, .inl ⟨a.eval x, ?_, b, hb, he⟩⟩
      unfold execOp; simp only [he]; rfl
    · rename_i g c d hxx
      cases h
      rw [hxx] at hx
      have he : a.eval x = .func (.func g) c d := hx
      refine ⟨A, w, .refl _ _, ho, .inl ⟨a.eval x, ?_, hx⟩⟩
      unfold execOp; simp only [he]; rfl
    · cases h
  case binOp op T x y yT => exact (aBin_ok (xo := x) (yo := y) h hp ho (eval x) (eval y)).ex rfl
  case unOp op T x =>
    cases hsc : isSc (evS fr x) with
    | false => rw [hsc] at h; cases h
    | true =>
      rw [hsc] at h
      refine (scOk_mem (m := Op.unary op (a.eval x)) h ho fun q s e hq => ?_).ex rfl
      subst hq
      exact unS_ok e hp (isSc_sc hsc (evalS x))
  case convert s d x => exact (aConv_ok h hp ho hf (evalS x)).ex rfl
  case sliceToArrayPointer T x => exact (aToPtr_ok h hp ho (evalS x)).ex rfl
  case makeSlice T l c => exact (aMake_ok h hp ho hf (evalS l) (evalS c)).ex rfl
  case slice T x lo hi mx => exact (aSlice_ok h hp ho (evalS x) (hfr.evO lo) (hfr.evO hi) (hfr.evO mx)).ex rfl
  case fieldAddr T x i => exact (aField_ok h ho (evalS x)).ex rfl
  case field T x i => exact (aFieldV_ok h hp ho (eval x)).ex rfl
  case indexAddr T x i => exact (aIndexAddr_ok h hp ho (evalS x) (evalS i)).ex rfl
  case index T x i => exact (aIndex_ok h hp ho (eval x) (evalS i)).ex rfl
  case extract x i => exact (aExtract_ok h ho (eval x)).ex rfl
  case makeFunc fn x y =>
    unfold aClo at h
    split at h
    · rename_i g p hx hy
      split at h
      · rename_i k o he
        cases h
        obtain ⟨b, h1, h2⟩ : (S.ptr k o).rel A w (a.eval p) := he ▸ evalS p
        refine ⟨A, w, .refl _ _, ho, .inl ⟨_, rfl, ⟨b, h1, ?_⟩⟩⟩
        have e1 : x = #[] := Array.ext' hx
        have e2 : y = #[p] := Array.ext' hy
        subst e1 e2
        simp only [List.map_toArray, List.map_cons, List.map_nil]
        rw [h2]
      · cases h
    · cases h
  case call c =>
    obtain ⟨callee, args, argTypes⟩ := c
    simp only [] at h
    split at h
    · rename_i b
      subst_vars
      have two : ∀ x y, args.toList = [x, y] → args = #[x, y] := fun x y e => Array.ext' (by simpa using e)
      have start : ∀ (m : Sem Value) (r : Result Value), builtin b argTypes type (args.map fun | .const _ => true | _ => false) (args.map a.eval) = (do pure (Next.value (← m))) →
          execOp a.eval ⟨dst, .call ⟨.builtin b, args, argTypes⟩, type, pos, after, guard⟩ = (do pure (Next.value (← m))) := fun m r e => by
        rw [← e]; rfl
      split at h
      · rename_i x y hargs
        have hargs := two _ _ hargs
        subst hargs
        exact (aAppend_ok (RT := type) h hp ho hf (evalS x) (evalS y)).ex (start _ (.halt (.stuck "") w) (by rw [show Array.map a.eval #[x, y] = #[a.eval x, a.eval y] by simp]; rfl))
      · rename_i x y hargs
        have hargs := two _ _ hargs
        subst hargs
        exact (aCopy_ok (RT := type) h hp ho (evalS x) (evalS y)).ex (start _ (.halt (.stuck "") w) (by rw [show Array.map a.eval #[x, y] = #[a.eval x, a.eval y] by simp]; rfl))
      · rename_i x hargs
        have hargs : args = #[x] := Array.ext' (by simpa using hargs)
        subst hargs
        exact (aLen_ok (RT := type) h ho (evalS x)).ex (start _ (.halt (.stuck "") w) (by rw [show Array.map a.eval #[x] = #[a.eval x] by simp]; rfl))
      · rename_i x r hargs
        have hargs : args = (x :: r).toArray := Array.ext' (by simpa using hargs)
        subst hargs
        cases hsc : isSc (evS fr x) with
        | false => rw [hsc] at h; cases h
        | true =>
          rw [hsc] at h
          refine (scOk_mem (m := Builtin.min_ argTypes type ((x :: r).toArray.map a.eval)) h ho fun q s e hq => ?_).ex (start _ (.halt (.stuck "") w) rfl)
          subst hq
          have := foldMin_ok (P := P) (A := A) (w := w) (g := Builtin.min2) (fun x y p s v u h1 h2 h3 h4 => minS_ok h1 h3 h4) (fun x y p s h1 => minS_sc h1) (r.map (evS fr)) (r.map a.eval) (evS fr x) s (a.eval x) q (by simp) (fun i y v h1 h2 => by
            simp only [List.getElem?_map, Option.map_eq_some_iff] at h1 h2
            obtain ⟨o1, g1, rfl⟩ := h1
            obtain ⟨o2, g2, rfl⟩ := h2
            rw [g1] at g2; cases g2
            exact evalS o1) (isSc_sc hsc (evalS x)) e hp
          obtain ⟨z, g1, g2⟩ := this
          refine ⟨z, ?_, g2⟩
          unfold Builtin.min_
          simp only [List.map_toArray, List.map_cons]
          exact g1
      · rename_i x r hargs
        have hargs : args = (x :: r).toArray := Array.ext' (by simpa using hargs)
        subst hargs
        cases hsc : isSc (evS fr x) with
        | false => rw [hsc] at h; cases h
        | true =>
          rw [hsc] at h
          refine (scOk_mem (m := Builtin.max_ argTypes type ((x :: r).toArray.map a.eval)) h ho fun q s e hq => ?_).ex (start _ (.halt (.stuck "") w) rfl)
          subst hq
          have := foldMin_ok (P := P) (A := A) (w := w) (g := Builtin.max2) (fun x y p s v u h1 h2 h3 h4 => maxS_ok h1 h3 h4) (fun x y p s h1 => maxS_sc h1) (r.map (evS fr)) (r.map a.eval) (evS fr x) s (a.eval x) q (by simp) (fun i y v h1 h2 => by
            simp only [List.getElem?_map, Option.map_eq_some_iff] at h1 h2
            obtain ⟨o1, g1, rfl⟩ := h1
            obtain ⟨o2, g2, rfl⟩ := h2
            rw [g1] at g2; cases g2
            exact evalS o1) (isSc_sc hsc (evalS x)) e hp
          obtain ⟨z, g1, g2⟩ := this
          refine ⟨z, ?_, g2⟩
          unfold Builtin.max_
          simp only [List.map_toArray, List.map_cons]
          exact g1
      · cases h
    · cases h
end Go.Eng
