/- Steps towards SessionValuesSaid. -/
import Derived.Test.YtimjfjlaoekfkaaGreatJDakSpec
import Derived.Test.YtimjfjlaoekfkaaGreatJDbaVc
import Derived.Test.YtimjfjlaoekfkaaGreatBase
/- A step towards SessionValuesSaid: no conditions. -/

namespace Go.Proofs.YtimjfjlaoekfkaaGreat
open Go Go.Eng Go.Cod Go.Cds Go.Dae Go.Win
noncomputable def CDj : Env := mkE Tryz.prog [] [] 40 true [] [(18, nrm gmNext)]
noncomputable def CDk : Env := mkE Tryz.prog [] [] 40 true [] [(18, nrm gmNext), (31, nrm gmByt)]
set_option maxRecDepth 100000 in
theorem vcByt (u : Value) (m : Nat) (l : List UInt8) (a : Int) : (vcMeth CDj 300 31 u [.one (.xs 1 (.s m) (.u8 l)), .one (.i64 a)] 0 [.s (.n 32)] (.s (.xs 1 (.n 32) (.u8 (keyL l a)))) [.one (.i64 (nxA l a 256))]) =
  ((0 : Int) ≤ a ∧ a ≤ (↑l.length : Int) ∧ l.length ≤ 4294967296 ∧ ∀ y, y = nxV l a (Int.ofNat 256) → ∀ y_1, y_1 = nxA l a (Int.ofNat 256) → ∀ y_2, y_2 = y → InI (Int.ofNat 2 * y_1) ∧ InI (Int.ofNat 2 * y_1 + Int.ofNat 1) ∧ ∀ y, y = Int.ofNat 2 * y_1 + Int.ofNat 1 → InI (Int.ofNat 0 * y) ∧ InI (y_2 + Int.ofNat 0 * y) ∧ ∀ y_3, y_3 = [to8 (y_2 + Int.ofNat 0 * y), 0, 0, 0, 0, 0, 0, 0, 0, 0, 0, 0, 0, 0, 0, 0, 0, 0, 0, 0, 0, 0, 0, 0, 0, 0, 0, 0, 0, 0, 0, 0] → InI (Int.ofNat 1 * y) ∧ InI (y_2 + Int.ofNat 1 * y) ∧ ∀ y_4, y_4 = y_3.set 1 (to8 (y_2 + Int.ofNat 1 * y)) → InI (Int.ofNat 2 * y) ∧ InI (y_2 + Int.ofNat 2 * y) ∧ ∀ y_5, y_5 = y_4.set 2 (to8 (y_2 + Int.ofNat 2 * y)) → InI (Int.ofNat 3 * y) ∧ InI (y_2 + Int.ofNat 3 * y) ∧ ∀ y_6, y_6 = y_5.set 3 (to8 (y_2 + Int.ofNat 3 * y)) → InI (Int.ofNat 4 * y) ∧ InI (y_2 + Int.ofNat 4 * y) ∧ ∀ y_7, y_7 = y_6.set 4 (to8 (y_2 + Int.ofNat 4 * y)) → InI (Int.ofNat 5 * y) ∧ InI (y_2 + Int.ofNat 5 * y) ∧ ∀ y_8, y_8 = y_7.set 5 (to8 (y_2 + Int.ofNat 5 * y)) → InI (Int.ofNat 6 * y) ∧ InI (y_2 + Int.ofNat 6 * y) ∧ ∀ y_9, y_9 = y_8.set 6 (to8 (y_2 + Int.ofNat 6 * y)) → InI (Int.ofNat 7 * y) ∧ InI (y_2 + Int.ofNat 7 * y) ∧ ∀ y_10, y_10 = y_9.set 7 (to8 (y_2 + Int.ofNat 7 * y)) → InI (Int.ofNat 8 * y) ∧ InI (y_2 + Int.ofNat 8 * y) ∧ ∀ y_11, y_11 = y_10.set 8 (to8 (y_2 + Int.ofNat 8 * y)) → InI (Int.ofNat 9 * y) ∧ InI (y_2 + Int.ofNat 9 * y) ∧ ∀ y_12, y_12 = y_11.set 9 (to8 (y_2 + Int.ofNat 9 * y)) → InI (Int.ofNat 10 * y) ∧ InI (y_2 + Int.ofNat 10 * y) ∧ ∀ y_13, y_13 = y_12.set 10 (to8 (y_2 + Int.ofNat 10 * y)) → InI (Int.ofNat 11 * y) ∧ InI (y_2 + Int.ofNat 11 * y) ∧ ∀ y_14, y_14 = y_13.set 11 (to8 (y_2 + Int.ofNat 11 * y)) → InI (Int.ofNat 12 * y) ∧ InI (y_2 + Int.ofNat 12 * y) ∧ ∀ y_15, y_15 = y_14.set 12 (to8 (y_2 + Int.ofNat 12 * y)) → InI (Int.ofNat 13 * y) ∧ InI (y_2 + Int.ofNat 13 * y) ∧ ∀ y_16, y_16 = y_15.set 13 (to8 (y_2 + Int.ofNat 13 * y)) → InI (Int.ofNat 14 * y) ∧ InI (y_2 + Int.ofNat 14 * y) ∧ ∀ y_17, y_17 = y_16.set 14 (to8 (y_2 + Int.ofNat 14 * y)) → InI (Int.ofNat 15 * y) ∧ InI (y_2 + Int.ofNat 15 * y) ∧ ∀ y_18, y_18 = y_17.set 15 (to8 (y_2 + Int.ofNat 15 * y)) → InI (Int.ofNat 16 * y) ∧ InI (y_2 + Int.ofNat 16 * y) ∧ ∀ y_19, y_19 = y_18.set 16 (to8 (y_2 + Int.ofNat 16 * y)) → InI (Int.ofNat 17 * y) ∧ InI (y_2 + Int.ofNat 17 * y) ∧ ∀ y_20, y_20 = y_19.set 17 (to8 (y_2 + Int.ofNat 17 * y)) → InI (Int.ofNat 18 * y) ∧ InI (y_2 + Int.ofNat 18 * y) ∧ ∀ y_21, y_21 = y_20.set 18 (to8 (y_2 + Int.ofNat 18 * y)) → InI (Int.ofNat 19 * y) ∧ InI (y_2 + Int.ofNat 19 * y) ∧ ∀ y_22, y_22 = y_21.set 19 (to8 (y_2 + Int.ofNat 19 * y)) → InI (Int.ofNat 20 * y) ∧ InI (y_2 + Int.ofNat 20 * y) ∧ ∀ y_23, y_23 = y_22.set 20 (to8 (y_2 + Int.ofNat 20 * y)) → InI (Int.ofNat 21 * y) ∧ InI (y_2 + Int.ofNat 21 * y) ∧ ∀ y_24, y_24 = y_23.set 21 (to8 (y_2 + Int.ofNat 21 * y)) → InI (Int.ofNat 22 * y) ∧ InI (y_2 + Int.ofNat 22 * y) ∧ ∀ y_25, y_25 = y_24.set 22 (to8 (y_2 + Int.ofNat 22 * y)) → InI (Int.ofNat 23 * y) ∧ InI (y_2 + Int.ofNat 23 * y) ∧ ∀ y_26, y_26 = y_25.set 23 (to8 (y_2 + Int.ofNat 23 * y)) → InI (Int.ofNat 24 * y) ∧ InI (y_2 + Int.ofNat 24 * y) ∧ ∀ y_27, y_27 = y_26.set 24 (to8 (y_2 + Int.ofNat 24 * y)) → InI (Int.ofNat 25 * y) ∧ InI (y_2 + Int.ofNat 25 * y) ∧ ∀ y_28, y_28 = y_27.set 25 (to8 (y_2 + Int.ofNat 25 * y)) → InI (Int.ofNat 26 * y) ∧ InI (y_2 + Int.ofNat 26 * y) ∧ ∀ y_29, y_29 = y_28.set 26 (to8 (y_2 + Int.ofNat 26 * y)) → InI (Int.ofNat 27 * y) ∧ InI (y_2 + Int.ofNat 27 * y) ∧ ∀ y_30, y_30 = y_29.set 27 (to8 (y_2 + Int.ofNat 27 * y)) → InI (Int.ofNat 28 * y) ∧ InI (y_2 + Int.ofNat 28 * y) ∧ ∀ y_31, y_31 = y_30.set 28 (to8 (y_2 + Int.ofNat 28 * y)) → InI (Int.ofNat 29 * y) ∧ InI (y_2 + Int.ofNat 29 * y) ∧ ∀ y_32, y_32 = y_31.set 29 (to8 (y_2 + Int.ofNat 29 * y)) → InI (Int.ofNat 30 * y) ∧ InI (y_2 + Int.ofNat 30 * y) ∧ ∀ y_33, y_33 = y_32.set 30 (to8 (y_2 + Int.ofNat 30 * y)) → InI (Int.ofNat 31 * y) ∧ InI (y_2 + Int.ofNat 31 * y) ∧ ∀ y_34, y_34 = y_33.set 31 (to8 (y_2 + Int.ofNat 31 * y)) → u = u ∧ y_1 = nxA l a (256 : Int) ∧ y_34 = keyL l a ∧ True) := by kernel_rfl
set_option maxRecDepth 100000 in
theorem vcKey (u : Value) (m : Nat) (l : List UInt8) (a : Int) : (vcMeth CDk 300 16 u [.one (.xs 1 (.s m) (.u8 l)), .one (.i64 a)] 0 [] (.w (.agg [.vec (.n 32) (.u8 (keyL l a))])) [.one (.i64 (nxA l a 256))]) =
  ((0 : Int) ≤ a ∧ a ≤ (↑l.length : Int) ∧ l.length ≤ 4294967296 ∧ ∀ y, y = nxA l a (256 : Int) → ∀ y_1, y_1 = keyL l a → ∀ y_2, y_2 = y_1 → ∀ y_3, y_3 = y_2 → u = u ∧ y = nxA l a (256 : Int) ∧ y_3 = keyL l a ∧ True) := by kernel_rfl
set_option maxRecDepth 100000 in
theorem vcBool (u : Value) (m : Nat) (l : List UInt8) (a : Int) : (vcMeth CDj 300 26 u [.one (.xs 1 (.s m) (.u8 l)), .one (.i64 a)] 0 [] (.s (.b (decide (nxV l a 2 = 1)))) [.one (.i64 (nxA l a 2))]) =
  ((0 : Int) ≤ a ∧ a ≤ (↑l.length : Int) ∧ l.length ≤ 4294967296 ∧ ∀ y, y = nxV l a (Int.ofNat 2) → ∀ y_1, y_1 = nxA l a (Int.ofNat 2) → u = u ∧ y_1 = nxA l a (2 : Int) ∧ decide (y = Int.ofNat 1) = decide (nxV l a (2 : Int) = (1 : Int)) ∧ True) := by kernel_rfl
set_option maxRecDepth 100000 in
theorem vcBgM (u : Value) (m : Nat) (l : List UInt8) (a n : Int) : (vcMeth CDj 300 17 u [.one (.xs 1 (.s m) (.u8 l)), .one (.i64 a)] 0 [.s (.i64 n)] (.s (.i64 (bigV l a n))) [.one (.i64 (nx3 l a))]) =
  ((decide (n < Int.ofNat 1) = true → u = u ∧ a = nx3 l a ∧ Int.ofNat 0 = bigV l a n ∧ True) ∧ (decide (n < Int.ofNat 1) = false → (0 : Int) ≤ a ∧ a ≤ (↑l.length : Int) ∧ l.length ≤ 4294967296 ∧ ∀ y, y = nxV l a (Int.ofNat 256) → ∀ y_1, y_1 = nxA l a (Int.ofNat 256) → (16 ≤ 64 ∧ InI (y * (2 : Int) ^ 16)) ∧ (0 : Int) ≤ y_1 ∧ y_1 ≤ (↑l.length : Int) ∧ l.length ≤ 4294967296 ∧ ∀ y_2, y_2 = nxV l y_1 (Int.ofNat 256) → ∀ y_3, y_3 = nxA l y_1 (Int.ofNat 256) → (8 ≤ 64 ∧ InI (y_2 * (2 : Int) ^ 8)) ∧ (0 : Int) ≤ y_3 ∧ y_3 ≤ (↑l.length : Int) ∧ l.length ≤ 4294967296 ∧ ∀ y_4, y_4 = nxV l y_3 (Int.ofNat 256) → ∀ y_5, y_5 = nxA l y_3 (Int.ofNat 256) → n ≠ (0 : Int) ∧ ∀ y_6, y_6 = (ior (ior (y * (2 : Int) ^ 16) (y_2 * (2 : Int) ^ 8)) y_4).tmod n → u = u ∧ y_5 = nx3 l a ∧ y_6 = bigV l a n ∧ True)) := by kernel_rfl
end Go.Proofs.YtimjfjlaoekfkaaGreat

/- A step towards SessionValuesSaid: no conditions. -/

namespace Go.Proofs.YtimjfjlaoekfkaaGreat
open Go Go.Eng Go.Cod Go.Cds
theorem cd_nrm {A : Ad} {w : World} : ∀ {cs : List Ch} {l : List Value}, ChsRel A w cs l → ChsRel A w (Go.Cds.nrmCs cs) l
  | [], _, h => h
  | .vec n x :: r, _, h => by
    obtain ⟨a, t, h1, h2, h3, h4⟩ := h
    exact ⟨a, t, h1, h2, h3, cd_nrm h4⟩
  | .one s :: r, _, h => by
    obtain ⟨v, t, h1, h2, h3, h4⟩ := h
    have ih := cd_nrm h4
    cases s <;> exact ⟨v, t, h1, h2, h3, ih⟩
theorem cd_flat : ∀ {cs : List Ch}, flatCs cs = true → flatCs (Go.Cds.nrmCs cs) = true
  | [], h => h
  | .vec n x :: r, h => by
    unfold flatCs at h
    cases x <;> first | exact cd_flat (cs := r) h | cases h
  | .one s :: r, h => by
    unfold flatCs at h
    simp only [Bool.and_eq_true] at h
    have ih := cd_flat h.2
    cases s <;> (unfold Go.Cds.nrmCs flatCs; simp only [Bool.and_eq_true]; exact ⟨h.1, ih⟩)
theorem cd_hd (cs : List Ch) : (hdCs (Go.Cds.nrmCs cs)).length = (hdCs cs).length := by
  cases cs with
  | nil => rfl
  | cons c r =>
    cases c with
    | vec n x => rfl
    | one s => cases s <;> rfl
theorem cd_rok {cs : List Ch} (h : rokCs cs = true) : rokCs (Go.Cds.nrmCs cs) = true := by
  unfold rokCs at h
  split at h
  · exact cd_flat h
  · rename_i hn
    have h2 := cd_flat h
    unfold rokCs
    split
    · rename_i x y r e
      rw [e] at h2
      simp [flatCs, flatS] at h2
    · exact h2
theorem conM_nrmC {P : Program} {f : FuncId} {g : SpecM} (h : ConM P f g) : ConM P f (Go.Cds.nrm g) :=
  fun cs o args ps res cs' hg hp hf hf' w a arr T fz cells spare vals h1 h2 h3 h4 h5 => by
    have := h (Go.Cds.nrmCs cs) o args ps res cs' hg hp (cd_rok hf) hf' w a arr T fz cells spare vals h1 h2 h3 (cd_nrm h4) h5
    rw [cd_hd] at this
    exact this
theorem conM_of_form {P : Program} {f : FuncId} {g : SpecM} (h : ∀ cs o args ps res cs', g cs o args = some (ps, res, cs') → all ps → (∀ m x r, cs = .one (.xs 1 (.s m) (.u8 x)) :: r → m = x.length) →
    ∃ (args0 : List V) (E : Env) (n : Nat), (∀ A w vals, VsRel A w args vals → VsRel A w args0 vals) ∧ E.P = P ∧ EnvOk E ∧ ∀ u, vcMeth E n f u cs o args0 res cs') : ConM P f g := by
  intro cs o args ps res cs' hg hps hf hf' w a arr T fz cells spare vals h1 h2 h3 h4 hv
  obtain ⟨args0, E, n, hargs, rfl, hE, hvc⟩ := h cs o args ps res cs' hg hps (rok_len h4)
  obtain ⟨u, hr, hu⟩ := row_in hf h4
  have ho := one_ok h1 h2 h3 hr
  have hv' : VsRel (AOne a) w (.w (.s (.ptr 0 o)) :: args0) (Value.pointer (some ⟨a, o, none⟩) :: vals) := ⟨_, _, rfl, ⟨a, rfl, rfl⟩, hargs _ _ _ hv⟩
  refine (vcBody_ok (vc_ok hE n) (hvc u) ho hv').mono fun e w' ⟨x, v, own', A', he, hK, _, k1, k2, k3⟩ => ?_
  obtain ⟨arr', T', fz', cells', spare', q1, q2, q3, q4, q5, q6⟩ := endM_ok (P := E.P) hK hf' h1 k1 k2 k3
  rw [hu] at q3
  exact ⟨x, arr', T', fz', cells', spare', he, q1, q2, q3, q4, q5, q6⟩
theorem ecdn : EnvOk CDn := mkEM_ok namesOk mx trivial trivial trivial
set_option maxRecDepth 100000 in
theorem conNext : ConM Tryz.prog 18 gmNext := conM_of_vcl fun cs o args ps res cs' hg hp hlen hcs hrow => by
  unfold gmNext at hg
  split at hg <;> cases hg
  rename_i m l a n
  obtain rfl := hrow _ _ _ rfl
  obtain ⟨h0, hp1⟩ := all_cons.1 hp
  obtain ⟨h1, hp2⟩ := all_cons.1 hp1
  have h2 := (all_cons.1 hp2).1
  refine ⟨CDn, 200, rfl, ecdn, fun u => ?_⟩
  refine Eq.mpr (vcNext u l.length l a n) ?_
  simp only [forall_eq, io]
  refine ⟨fun hd => ?_, fun hd => ⟨fun hn => ?_, fun hn => ?_⟩⟩
  · have hd : ¬ a < l.length := by simpa using hd
    unfold nxA nxV
    rw [if_neg (fun h => hd h.1), if_neg (fun h => hd h.1)]
    exact ⟨trivial, rfl, rfl, trivial⟩
  · have hn : n < 1 := of_decide_eq_true hn
    unfold nxA nxV
    rw [if_neg (fun h => by omega), if_neg (fun h => by omega)]
    exact ⟨trivial, rfl, rfl, trivial⟩
  · have hd : a < l.length := by simpa using hd
    have hn : ¬ n < 1 := of_decide_eq_false hn
    have e : a + ((1 : Nat) : Int) - ((1 : Nat) : Int) = a := by omega
    rw [e]
    unfold nxA nxV
    rw [if_pos ⟨hd, by omega⟩, if_pos ⟨hd, by omega⟩]
    refine ⟨by unfold InI; omega, by unfold InI; omega, ⟨h0, hd⟩, by omega, by omega, trivial, rfl, rfl, trivial⟩
end Go.Proofs.YtimjfjlaoekfkaaGreat

/- A step towards SessionValuesSaid: no conditions. -/

namespace Go.Cds
open Go Go.Eng Go.Cod Go.Dae Go.Win
theorem byt_set32 (x s : Int) : [to8 (x + ((0 : Nat) : Int) * s), to8 (x + ((1 : Nat) : Int) * s), to8 (x + ((2 : Nat) : Int) * s), to8 (x + ((3 : Nat) : Int) * s), to8 (x + ((4 : Nat) : Int) * s), to8 (x + ((5 : Nat) : Int) * s), to8 (x + ((6 : Nat) : Int) * s), to8 (x + ((7 : Nat) : Int) * s), to8 (x + ((8 : Nat) : Int) * s), to8 (x + ((9 : Nat) : Int) * s), to8 (x + ((10 : Nat) : Int) * s), to8 (x + ((11 : Nat) : Int) * s), to8 (x + ((12 : Nat) : Int) * s), to8 (x + ((13 : Nat) : Int) * s), to8 (x + ((14 : Nat) : Int) * s), to8 (x + ((15 : Nat) : Int) * s), to8 (x + ((16 : Nat) : Int) * s), to8 (x + ((17 : Nat) : Int) * s), to8 (x + ((18 : Nat) : Int) * s), to8 (x + ((19 : Nat) : Int) * s), to8 (x + ((20 : Nat) : Int) * s), to8 (x + ((21 : Nat) : Int) * s), to8 (x + ((22 : Nat) : Int) * s), to8 (x + ((23 : Nat) : Int) * s), to8 (x + ((24 : Nat) : Int) * s), to8 (x + ((25 : Nat) : Int) * s), to8 (x + ((26 : Nat) : Int) * s), to8 (x + ((27 : Nat) : Int) * s), to8 (x + ((28 : Nat) : Int) * s), to8 (x + ((29 : Nat) : Int) * s), to8 (x + ((30 : Nat) : Int) * s), to8 (x + ((31 : Nat) : Int) * s)] = byt32 x s := rfl
end Go.Cds
namespace Go.Proofs.YtimjfjlaoekfkaaGreat
open Go Go.Eng Go.Cod Go.Cds
theorem ecdj : EnvOk CDj := mkEM_ok namesOk mx trivial trivial ⟨conM_nrmC conNext, trivial⟩
set_option maxRecDepth 100000 in
set_option maxHeartbeats 4000000 in
theorem conByt : ConM Tryz.prog 31 gmByt := conM_of_form fun cs o args ps res cs' hg hp hrow => by
  unfold gmByt at hg
  split at hg
  · rename_i m l a n
    split at hg
    · rename_i q
      cases hq : Nat.beq q 32
      · rw [hq] at hg; cases hg
      · rw [hq] at hg
        cases hg
        obtain rfl := Nat.eq_of_beq_eq_true hq
        obtain rfl := hrow _ _ _ rfl
        obtain ⟨h0, hp1⟩ := all_cons.1 hp
        obtain ⟨h1, hp2⟩ := all_cons.1 hp1
        have h2 := (all_cons.1 hp2).1
        refine ⟨[.w (.s (.n 32))], CDj, 300, fun _ _ _ h => h, rfl, ecdj, fun u => ?_⟩
        refine Eq.mpr (vcByt u l.length l a) ?_
        have r1 := nxA_rng (n := 256) ⟨h0, h1⟩
        have r2 := nxV_rng l a 256
        simp only [forall_eq, io, List.set_cons_zero, List.set_cons_succ]
        have e0 : ((256 : Nat) : Int) = 256 := rfl
        rw [e0]
        have hb : byt32 (nxV l a 256) (((2 : Nat) : Int) * nxA l a 256 + ((1 : Nat) : Int)) = keyL l a := rfl
        generalize nxA l a 256 = y at *
        generalize nxV l a 256 = x at *
        refine ⟨h0, h1, h2, ?_⟩
        unfold InI
        simp only [byt_set32, hb, and_true, true_and]
        omega
    · cases hg
  · cases hg
theorem ecdk : EnvOk CDk := mkEM_ok namesOk mx trivial trivial ⟨conM_nrmC conNext, conM_nrmC conByt, trivial⟩
set_option maxRecDepth 100000 in
theorem conKey : ConM Tryz.prog 16 gmKey := conM_of_vcl fun cs o args ps res cs' hg hp hlen hcs hrow => by
  unfold gmKey at hg
  split at hg <;> cases hg
  rename_i m l a
  obtain rfl := hrow _ _ _ rfl
  obtain ⟨h0, hp1⟩ := all_cons.1 hp
  obtain ⟨h1, hp2⟩ := all_cons.1 hp1
  have h2 := (all_cons.1 hp2).1
  refine ⟨CDk, 300, rfl, ecdk, fun u => ?_⟩
  refine Eq.mpr (vcKey u l.length l a) ?_
  simp only [forall_eq]
  exact ⟨h0, h1, h2, trivial, trivial, trivial, trivial⟩
set_option maxRecDepth 100000 in
theorem conBoolM : ConM Tryz.prog 26 gmBool := conM_of_vcl fun cs o args ps res cs' hg hp hlen hcs hrow => by
  unfold gmBool at hg
  split at hg <;> cases hg
  rename_i m l a
  obtain rfl := hrow _ _ _ rfl
  obtain ⟨h0, hp1⟩ := all_cons.1 hp
  obtain ⟨h1, hp2⟩ := all_cons.1 hp1
  have h2 := (all_cons.1 hp2).1
  refine ⟨CDj, 300, rfl, ecdj, fun u => ?_⟩
  refine Eq.mpr (vcBool u l.length l a) ?_
  have e1 : ((1 : Nat) : Int) = 1 := rfl
  have e2 : ((2 : Nat) : Int) = 2 := rfl
  simp only [forall_eq, io, e1, e2]
  exact ⟨h0, h1, h2, trivial, trivial, trivial, trivial⟩
set_option maxRecDepth 100000 in
theorem conBigM : ConM Tryz.prog 17 gmBig := conM_of_vcl fun cs o args ps res cs' hg hp hlen hcs hrow => by
  unfold gmBig at hg
  split at hg <;> cases hg
  rename_i m l a n
  obtain rfl := hrow _ _ _ rfl
  obtain ⟨h0, hp1⟩ := all_cons.1 hp
  obtain ⟨h1, hp2⟩ := all_cons.1 hp1
  obtain ⟨h2, hp3⟩ := all_cons.1 hp2
  have h3 := (all_cons.1 hp3).1
  refine ⟨CDj, 300, rfl, ecdj, fun u => ?_⟩
  refine Eq.mpr (vcBgM u l.length l a n) ?_
  have e0 : ((256 : Nat) : Int) = 256 := rfl
  simp only [forall_eq, io, e0]
  have r1 := nxA_rng (n := 256) ⟨h0, h1⟩
  have r2 := nxA_rng (n := 256) r1
  have v1 := nxV_rng l a 256
  have v2 := nxV_rng l (nxA l a 256) 256
  refine ⟨fun hd => absurd (of_decide_eq_true hd) (by omega), fun _ => ⟨h0, h1, h2, ⟨by decide, ?_⟩, r1.1, r1.2, h2, ⟨by decide, ?_⟩, r2.1, r2.2, h2, by omega, trivial, rfl, rfl, trivial⟩⟩
  · unfold InI; omega
  · unfold InI; omega
end Go.Proofs.YtimjfjlaoekfkaaGreat

/- A step towards SessionValuesSaid: no conditions. -/

namespace Go.Proofs.YtimjfjlaoekfkaaGreat
open Go Go.Eng Go.Win
theorem k64 : UInt64.ofNat 64 = 64 := rfl
theorem k4 : UInt64.ofNat 4 = 4 := rfl
theorem k3 : UInt64.ofNat 3 = 3 := rfl
theorem k1 : UInt64.ofNat 1 = 1 := rfl
theorem k0 : UInt64.ofNat 0 = 0 := rfl
theorem n64 : ((64 : UInt64) = 0) = False := by simp
theorem n4 : ((4 : UInt64) = 0) = False := by simp
theorem lt4 (c : UInt64) : ((c % 4).toNat < 4) = True := by simp; omega
set_option maxRecDepth 100000 in
theorem conWCheckR : Con Tryz.prog 47 gCheck := con_of_vc (E := WI0) (n := 100) (eok (gs := []) trivial) fun args ps res h hp => by
  unfold gCheck at h
  split at h <;> cases h
  rename_i u t ws c
  rw [vcWCheckR u t c ws]
  have e : ∀ x : UInt64, decide (x ≤ 3) = decide (x < 4) := fun x => by
    rw [decide_eq_decide, UInt64.le_iff_toNat_le, UInt64.lt_iff_toNat_lt]; exact Nat.lt_succ_iff.symm
  simp only [k64, k4, k3, k1, k0, n64, n4, lt4, ne_eq, not_false_eq_true, true_and, and_true, e]
  refine ⟨fun h1 => ?_, fun h1 => ⟨fun h2 => ?_, fun h2 => ⟨fun h3 => ?_, fun h3 => ?_⟩⟩⟩ <;> simp only [chk, *, Bool.true_or, Bool.false_or, Bool.true_and, Bool.false_and]
theorem m4_le (x : UInt64) : (m4 x).toNat ≤ 4 := by
  unfold m4; split
  · decide
  · rename_i h; rw [UInt64.lt_iff_toNat_lt] at h; exact Nat.not_lt.1 h
theorem m4_min (x : UInt64) : (if 4 < x then 4 else x) = m4 x := rfl
theorem ofNat_succ (x : Nat) : UInt64.ofNat x + 1 = UInt64.ofNat (x + 1) := by
  rw [← k1, ← UInt64.ofNat_add]
theorem acc_no {w : Win} {c : UInt64} (h : chk w c = false) : acc w c = w := by simp [acc, h]
theorem acc_yes {w : Win} {c : UInt64} (h : chk w c = true) : acc w c = ⟨(acc1 w c).u, (acc1 w c).t, orAt (acc1 w c).ws c⟩ := by simp [acc, h]
theorem ofNat_le {x : Nat} (h : x ≤ 4) (m : UInt64) : (1 + UInt64.ofNat x ≤ m) ↔ x < m.toNat := by
  rw [UInt64.add_comm, ofNat_succ, UInt64.le_iff_toNat_le, UInt64.toNat_ofNat_of_lt' (by have : UInt64.size = 18446744073709551616 := rfl; omega)]; exact Iff.rfl
set_option maxRecDepth 100000 in
theorem conWAccR : Con Tryz.prog 27 gAcc := con_of_vcs fun args ps res h hp => by
  unfold gAcc at h
  split at h <;> cases h
  rename_i u t ws c
  refine ⟨WIr, 100, rfl, ?_, ?_⟩
  · exact eok (gs := [(47, gCheck)]) ⟨conWCheckR, trivial⟩
  rw [vcWAccR u t c ws]
  simp only [k64, k4, k3, k1, k0, n64, n4, lt4, ne_eq, not_false_eq_true, true_and, and_true, m4_min]
  have hm := m4_le (c / 64 - t / 64)
  have hcc : decide (c < c) = false := by simp
  rw [hcc]
  refine ⟨fun h1 => ?_, fun h1 => ⟨fun h2 => ⟨fun h => Bool.noConfusion h, fun _ => ?_⟩, fun h2 => ⟨fun h3 => ⟨⟨0, ?_⟩, fun x hx => ⟨fun h4 => ⟨x + 1, ?_⟩, fun h4 => ?_⟩⟩, fun h3 => ?_⟩⟩⟩
  · have h1 : chk ⟨u, t, ws⟩ c = false := by simpa using h1
    rw [acc_no h1]; exact ⟨rfl, rfl, rfl, h1.symm⟩
  · have h1 : chk ⟨u, t, ws⟩ c = true := by simpa using h1
    have h2 : u = false := by simpa using h2
    subst h2
    rw [acc_yes h1]; exact ⟨rfl, rfl, rfl, h1.symm⟩
  · have h2 : u = true := by simpa using h2
    exact ⟨Nat.zero_le _, rfl, h2, rfl⟩
  · have h4 := (ofNat_le (by omega) _).1 (of_decide_eq_true h4)
    refine ⟨by omega, by omega, ?_, ?_⟩
    · rw [UInt64.add_assoc, ofNat_succ]
    · rw [← UInt64.add_assoc]; rfl
  · have h1 : chk ⟨u, t, ws⟩ c = true := by simpa using h1
    have h2 : u = true := by simpa using h2
    have h3 : t < c := of_decide_eq_true h3
    have h4 := mt (ofNat_le (by omega) _).2 (of_decide_eq_false h4)
    have e : x = (m4 (c / 64 - t / 64)).toNat := by omega
    subst h2
    rw [acc_yes h1]
    simp only [acc1, h3, if_true, e]
    exact ⟨trivial, trivial, rfl, h1.symm⟩
  · have h1 : chk ⟨u, t, ws⟩ c = true := by simpa using h1
    have h2 : u = true := by simpa using h2
    have h3 : ¬ t < c := of_decide_eq_false h3
    subst h2
    rw [acc_yes h1]
    simp only [acc1, h3, if_true, if_false]
    exact ⟨trivial, trivial, rfl, h1.symm⟩
end Go.Proofs.YtimjfjlaoekfkaaGreat
