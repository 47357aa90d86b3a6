/- Steps towards MacsCookiesSaid. -/
import Derived.Test.YtbannfdoiiojgaaJPsmSpec
import Derived.Test.YtbannfdoiiojgaaCdsSpec
import Derived.Test.YtbannfdoiiojgaaBase
/- A step towards MacsCookiesSaid: no conditions. -/
namespace Go.Proofs.Ytbannfdoiiojgaa
open Go Go.Eng Go.Cod Go.Bla Go.Mac Go.Cds
noncomputable def CKl : Env := mkE Try.prog [(18, gCookie), (19, gCodeA), (15, Go.Msg.gTrue0)] [] 20 true [] [(17, nrm gmEnd)]
set_option maxRecDepth 100000 in
theorem vcCookies (s l : BS) : (vcFn CKl 300 4 [.agg [.vec (.n 32) (.u8 s)], .s (.xs 1 (.s l.length) (.u8 l))] (.s (.b true))) =
  (∀ (y : Int), y = (↑(List.length l) : Int) → ∀ (y_1 : Int), y_1 = min y (Int.ofNat (40 : Nat)) → ((0 : Int) ≤ y_1 ∧ y_1 ≤ (↑(List.length l) : Int)) ∧ (0 : Int) ≤ Int.ofNat (0 : Nat) ∧ Int.ofNat (0 : Nat) ≤ (↑(List.take y_1.toNat l).length : Int) ∧ (List.take y_1.toNat l).length ≤ (4294967296 : Nat) ∧ ∀ (y : List UInt8), y = ipV (List.take y_1.toNat l) (Int.ofNat (0 : Nat)) → ∀ (y_2 : Int), y_2 = portV (List.take y_1.toNat l) (Int.ofNat (0 : Nat)) → ∀ (y_3 : Int), y_3 = nx3 (List.take y_1.toNat l) (adA (List.take y_1.toNat l) (Int.ofNat (0 : Nat))) → ∀ (y_4 : List UInt8), y_4 = y → ∀ (y : Int), y = y_2 → (sixV (List.take y_1.toNat l) (Int.ofNat (0 : Nat)) = true → (16 : Nat) ≤ (4294967296 : Nat) ∧ ∀ (y_5 : List UInt8), y_5 = y_4 → (8 : Nat) ≤ (64 : Nat) ∧ (18 : Nat) ≤ (4294967296 : Nat) ∧ ∀ (y_6 : List UInt8), y_6 = y_5 ++ [to8 (y / (2 : Int) ^ (8 : Nat)), to8 y] → ∀ (y_7 : List UInt8), y_7 = cookieL s (sixV (List.take y_1.toNat l) (Int.ofNat (0 : Nat))) y_4 y → List.length s = List.length s ∧ [y_6].length = (1 : Nat) ∧ (1 : Nat) < (4611686018427387904 : Nat) ∧ [y_6].flatten.length ≤ (4294966000 : Nat) ∧ ∀ (y : List UInt8), y = codeL s [y_6].flatten → ((y_7 == y) = true → true = true ∧ True) ∧ ((y_7 == y) = false → false = true ∧ True)) ∧ (sixV (List.take y_1.toNat l) (Int.ofNat (0 : Nat)) = false → (4 : Nat) ≤ (16 : Nat) ∧ (4 : Nat) ≤ (4294967296 : Nat) ∧ ∀ (y_5 : List UInt8), y_5 = List.take (4 : Nat) y_4 → (8 : Nat) ≤ (64 : Nat) ∧ (6 : Nat) ≤ (4294967296 : Nat) ∧ ∀ (y_6 : List UInt8), y_6 = y_5 ++ [to8 (y / (2 : Int) ^ (8 : Nat)), to8 y] → ∀ (y_7 : List UInt8), y_7 = cookieL s (sixV (List.take y_1.toNat l) (Int.ofNat (0 : Nat))) y_4 y → List.length s = List.length s ∧ [y_6].length = (1 : Nat) ∧ (1 : Nat) < (4611686018427387904 : Nat) ∧ [y_6].flatten.length ≤ (4294966000 : Nat) ∧ ∀ (y : List UInt8), y = codeL s [y_6].flatten → ((y_7 == y) = true → true = true ∧ True) ∧ ((y_7 == y) = false → false = true ∧ True))) := by kernel_rfl
end Go.Proofs.Ytbannfdoiiojgaa

/- A step towards MacsCookiesSaid: no conditions. -/
namespace Go.Proofs.Ytbannfdoiiojgaa
open Go Go.Eng Go.Cod Go.Cds
noncomputable def CDn : Env := mkE Try.prog [] [] 4 true
set_option maxRecDepth 100000 in
theorem vcNext (u : Value) (m : Nat) (l : BS) (a n : Int) : (vcMeth CDn 200 69 u [.one (.xs 1 (.s m) (.u8 l)), .one (.i64 a)] 0 [.s (.i64 n)] (.s (.i64 (nxV l a n))) [.one (.i64 (nxA l a n))]) =
  (∀ (y : Int), y = (↑m : Int) → ((!decide (a < y)) = true → u = u ∧ a = nxA l a n ∧ Int.ofNat (0 : Nat) = nxV l a n ∧ True) ∧ ((!decide (a < y)) = false → (decide (n < Int.ofNat (1 : Nat)) = true → u = u ∧ a = nxA l a n ∧ Int.ofNat (0 : Nat) = nxV l a n ∧ True) ∧ (decide (n < Int.ofNat (1 : Nat)) = false → InI (a + Int.ofNat (1 : Nat)) ∧ ∀ (y : Int), y = a + Int.ofNat (1 : Nat) → InI (y - Int.ofNat (1 : Nat)) ∧ ((0 : Int) ≤ y - Int.ofNat (1 : Nat) ∧ y - Int.ofNat (1 : Nat) < (↑m : Int)) ∧ (y - Int.ofNat (1 : Nat)).toNat < List.length l ∧ n ≠ (0 : Int) ∧ ∀ (y_1 : Int), y_1 = (↑(List.getD l (y - Int.ofNat (1 : Nat)).toNat (0 : UInt8)).toNat : Int).tmod n → u = u ∧ y = nxA l a n ∧ y_1 = nxV l a n ∧ True))) := by kernel_rfl
end Go.Proofs.Ytbannfdoiiojgaa

/- A step towards MacsCookiesSaid: no conditions. -/
namespace Go.Proofs.Ytbannfdoiiojgaa
open Go Go.Eng Go.Cod Go.Cds
noncomputable def CDb : Env := mkE Try.prog [] [] 20 true [] [(69, nrm gmNext)]
noncomputable def CDa : Env := mkE Try.prog [] [] 20 true [] [(69, nrm gmNext), (70, nrm gmBytes), (39, nrm gmBig)]
noncomputable def CDe : Env := mkE Try.prog [] [] 20 true [] [(38, nrm gmAddr), (39, nrm gmBig)]
set_option maxRecDepth 100000 in
theorem vcBytes (u : Value) (m : Nat) (l : BS) (a : Int) : (vcMeth CDb 300 70 u [.one (.xs 1 (.s m) (.u8 l)), .one (.i64 a)] 0 [.s (.n 16)] (.s (.xs 1 (.n 16) (.u8 (bytL l a)))) [.one (.i64 (nxA l a 256))]) =
  ((0 : Int) ≤ a ∧ a ≤ (↑(List.length l) : Int) ∧ List.length l ≤ (4294967296 : Nat) ∧ ∀ (y : Int), y = nxV l a (Int.ofNat (256 : Nat)) → ∀ (y_1 : Int), y_1 = nxA l a (Int.ofNat (256 : Nat)) → ∀ (y_2 : Int), y_2 = y → InI (Int.ofNat (2 : Nat) * y_1) ∧ InI (Int.ofNat (2 : Nat) * y_1 + Int.ofNat (1 : Nat)) ∧ ∀ (y : Int), y = Int.ofNat (2 : Nat) * y_1 + Int.ofNat (1 : Nat) → InI (Int.ofNat (0 : Nat) * y) ∧ InI (y_2 + Int.ofNat (0 : Nat) * y) ∧ ∀ (y_3 : List UInt8), y_3 = [to8 (y_2 + Int.ofNat (0 : Nat) * y), (0 : UInt8), (0 : UInt8), (0 : UInt8), (0 : UInt8), (0 : UInt8), (0 : UInt8), (0 : UInt8), (0 : UInt8), (0 : UInt8), (0 : UInt8), (0 : UInt8), (0 : UInt8), (0 : UInt8), (0 : UInt8), (0 : UInt8)] → InI (Int.ofNat (1 : Nat) * y) ∧ InI (y_2 + Int.ofNat (1 : Nat) * y) ∧ ∀ (y_4 : List UInt8), y_4 = y_3.set (1 : Nat) (to8 (y_2 + Int.ofNat (1 : Nat) * y)) → InI (Int.ofNat (2 : Nat) * y) ∧ InI (y_2 + Int.ofNat (2 : Nat) * y) ∧ ∀ (y_5 : List UInt8), y_5 = y_4.set (2 : Nat) (to8 (y_2 + Int.ofNat (2 : Nat) * y)) → InI (Int.ofNat (3 : Nat) * y) ∧ InI (y_2 + Int.ofNat (3 : Nat) * y) ∧ ∀ (y_6 : List UInt8), y_6 = y_5.set (3 : Nat) (to8 (y_2 + Int.ofNat (3 : Nat) * y)) → InI (Int.ofNat (4 : Nat) * y) ∧ InI (y_2 + Int.ofNat (4 : Nat) * y) ∧ ∀ (y_7 : List UInt8), y_7 = y_6.set (4 : Nat) (to8 (y_2 + Int.ofNat (4 : Nat) * y)) → InI (Int.ofNat (5 : Nat) * y) ∧ InI (y_2 + Int.ofNat (5 : Nat) * y) ∧ ∀ (y_8 : List UInt8), y_8 = y_7.set (5 : Nat) (to8 (y_2 + Int.ofNat (5 : Nat) * y)) → InI (Int.ofNat (6 : Nat) * y) ∧ InI (y_2 + Int.ofNat (6 : Nat) * y) ∧ ∀ (y_9 : List UInt8), y_9 = y_8.set (6 : Nat) (to8 (y_2 + Int.ofNat (6 : Nat) * y)) → InI (Int.ofNat (7 : Nat) * y) ∧ InI (y_2 + Int.ofNat (7 : Nat) * y) ∧ ∀ (y_10 : List UInt8), y_10 = y_9.set (7 : Nat) (to8 (y_2 + Int.ofNat (7 : Nat) * y)) → InI (Int.ofNat (8 : Nat) * y) ∧ InI (y_2 + Int.ofNat (8 : Nat) * y) ∧ ∀ (y_11 : List UInt8), y_11 = y_10.set (8 : Nat) (to8 (y_2 + Int.ofNat (8 : Nat) * y)) → InI (Int.ofNat (9 : Nat) * y) ∧ InI (y_2 + Int.ofNat (9 : Nat) * y) ∧ ∀ (y_12 : List UInt8), y_12 = y_11.set (9 : Nat) (to8 (y_2 + Int.ofNat (9 : Nat) * y)) → InI (Int.ofNat (10 : Nat) * y) ∧ InI (y_2 + Int.ofNat (10 : Nat) * y) ∧ ∀ (y_13 : List UInt8), y_13 = y_12.set (10 : Nat) (to8 (y_2 + Int.ofNat (10 : Nat) * y)) → InI (Int.ofNat (11 : Nat) * y) ∧ InI (y_2 + Int.ofNat (11 : Nat) * y) ∧ ∀ (y_14 : List UInt8), y_14 = y_13.set (11 : Nat) (to8 (y_2 + Int.ofNat (11 : Nat) * y)) → InI (Int.ofNat (12 : Nat) * y) ∧ InI (y_2 + Int.ofNat (12 : Nat) * y) ∧ ∀ (y_15 : List UInt8), y_15 = y_14.set (12 : Nat) (to8 (y_2 + Int.ofNat (12 : Nat) * y)) → InI (Int.ofNat (13 : Nat) * y) ∧ InI (y_2 + Int.ofNat (13 : Nat) * y) ∧ ∀ (y_16 : List UInt8), y_16 = y_15.set (13 : Nat) (to8 (y_2 + Int.ofNat (13 : Nat) * y)) → InI (Int.ofNat (14 : Nat) * y) ∧ InI (y_2 + Int.ofNat (14 : Nat) * y) ∧ ∀ (y_17 : List UInt8), y_17 = y_16.set (14 : Nat) (to8 (y_2 + Int.ofNat (14 : Nat) * y)) → InI (Int.ofNat (15 : Nat) * y) ∧ InI (y_2 + Int.ofNat (15 : Nat) * y) ∧ ∀ (y_18 : List UInt8), y_18 = y_17.set (15 : Nat) (to8 (y_2 + Int.ofNat (15 : Nat) * y)) → u = u ∧ y_1 = nxA l a (256 : Int) ∧ y_18 = bytL l a ∧ True) := by kernel_rfl
set_option maxRecDepth 100000 in
theorem vcBig (u : Value) (m : Nat) (l : BS) (a n : Int) : (vcMeth CDb 300 39 u [.one (.xs 1 (.s m) (.u8 l)), .one (.i64 a)] 0 [.s (.i64 n)] (.s (.i64 (bigV l a n))) [.one (.i64 (nx3 l a))]) =
  ((decide (n < Int.ofNat (1 : Nat)) = true → u = u ∧ a = nx3 l a ∧ Int.ofNat (0 : Nat) = bigV l a n ∧ True) ∧ (decide (n < Int.ofNat (1 : Nat)) = false → (0 : Int) ≤ a ∧ a ≤ (↑(List.length l) : Int) ∧ List.length l ≤ (4294967296 : Nat) ∧ ∀ (y : Int), y = nxV l a (Int.ofNat (256 : Nat)) → ∀ (y_1 : Int), y_1 = nxA l a (Int.ofNat (256 : Nat)) → ((16 : Nat) ≤ (64 : Nat) ∧ InI (y * (2 : Int) ^ (16 : Nat))) ∧ (0 : Int) ≤ y_1 ∧ y_1 ≤ (↑(List.length l) : Int) ∧ List.length l ≤ (4294967296 : Nat) ∧ ∀ (y_2 : Int), y_2 = nxV l y_1 (Int.ofNat (256 : Nat)) → ∀ (y_3 : Int), y_3 = nxA l y_1 (Int.ofNat (256 : Nat)) → ((8 : Nat) ≤ (64 : Nat) ∧ InI (y_2 * (2 : Int) ^ (8 : Nat))) ∧ (0 : Int) ≤ y_3 ∧ y_3 ≤ (↑(List.length l) : Int) ∧ List.length l ≤ (4294967296 : Nat) ∧ ∀ (y_4 : Int), y_4 = nxV l y_3 (Int.ofNat (256 : Nat)) → ∀ (y_5 : Int), y_5 = nxA l y_3 (Int.ofNat (256 : Nat)) → n ≠ (0 : Int) ∧ ∀ (y_6 : Int), y_6 = (ior (ior (y * (2 : Int) ^ (16 : Nat)) (y_2 * (2 : Int) ^ (8 : Nat))) y_4).tmod n → u = u ∧ y_5 = nx3 l a ∧ y_6 = bigV l a n ∧ True)) := by kernel_rfl
set_option maxRecDepth 100000 in
theorem vcAddr (u : Value) (m : Nat) (l : BS) (a : Int) : (vcMeth CDa 300 38 u [.one (.xs 1 (.s m) (.u8 l)), .one (.i64 a)] 0 [] (.w (.agg [.one (.b (sixV l a)), .vec (.n 16) (.u8 (ipV l a))])) [.one (.i64 (adA l a))]) =
  ((0 : Int) ≤ a ∧ a ≤ (↑(List.length l) : Int) ∧ List.length l ≤ (4294967296 : Nat) ∧ ∀ (y : Int), y = nxV l a (Int.ofNat (3 : Nat)) → ∀ (y_1 : Int), y_1 = nxA l a (Int.ofNat (3 : Nat)) → ∀ (y_2 : List UInt8), y_2 = List.replicate (16 : Nat) (0 : UInt8) → (decide (y = Int.ofNat (1 : Nat)) = true → (0 : Int) ≤ y_1 ∧ y_1 ≤ (↑(List.length l) : Int) ∧ List.length l ≤ (4294967296 : Nat) ∧ ∀ (y_3 : Int), y_3 = nxA l y_1 (256 : Int) → ∀ (y_4 : List UInt8), y_4 = bytL l y_1 → ∀ (y_5 : List UInt8), y_5 = y_4 → ∀ (y_6 : List UInt8), y_6 = y_5.set (0 : Nat) (UInt8.ofNat (nat_lit 253)) → ∀ (y_7 : List UInt8), y_7 = y_6 → u = u ∧ y_3 = adA l a ∧ decide (y = Int.ofNat (1 : Nat)) = sixV l a ∧ y_7 = ipV l a ∧ True) ∧ (decide (y = Int.ofNat (1 : Nat)) = false → (0 : Int) ≤ y_1 ∧ y_1 ≤ (↑(List.length l) : Int) ∧ List.length l ≤ (4294967296 : Nat) ∧ ∀ (y_3 : Int), y_3 = nxV l y_1 (Int.ofNat (4 : Nat)) → ∀ (y_4 : Int), y_4 = nxA l y_1 (Int.ofNat (4 : Nat)) → (0 : Int) ≤ y_4 ∧ y_4 ≤ (↑(List.length l) : Int) ∧ List.length l ≤ (4294967296 : Nat) ∧ ∀ (y_5 : Int), y_5 = nxV l y_4 (Int.ofNat (4 : Nat)) → ∀ (y_6 : Int), y_6 = nxA l y_4 (Int.ofNat (4 : Nat)) → (0 : Int) ≤ y_6 ∧ y_6 ≤ (↑(List.length l) : Int) ∧ List.length l ≤ (4294967296 : Nat) ∧ ∀ (y_7 : Int), y_7 = nxV l y_6 (Int.ofNat (256 : Nat)) → ∀ (y_8 : Int), y_8 = nxA l y_6 (Int.ofNat (256 : Nat)) → (4 : Nat) ≤ (16 : Nat) ∧ ∀ (y_9 : List UInt8), y_9 = over y_2 (0 : Nat) [UInt8.ofNat (nat_lit 10), to8 y_3, to8 y_5, to8 y_7] → ∀ (y_10 : List UInt8), y_10 = y_9 → u = u ∧ y_8 = adA l a ∧ decide (y = Int.ofNat (1 : Nat)) = sixV l a ∧ y_10 = ipV l a ∧ True)) := by kernel_rfl
set_option maxRecDepth 100000 in
theorem vcEnd (u : Value) (m : Nat) (l : BS) (a : Int) : (vcMeth CDe 300 17 u [.one (.xs 1 (.s m) (.u8 l)), .one (.i64 a)] 0 [] (.w (.agg [.one (.b (sixV l a)), .vec (.n 16) (.u8 (ipV l a)), .one (.i64 (portV l a))])) [.one (.i64 (nx3 l (adA l a)))]) =
  ((0 : Int) ≤ a ∧ a ≤ (↑(List.length l) : Int) ∧ List.length l ≤ (4294967296 : Nat) ∧ ∀ (y : List UInt8), y = ipV l a → ∀ (y_1 : Int), y_1 = adA l a → (0 : Int) ≤ y_1 ∧ y_1 ≤ (↑(List.length l) : Int) ∧ List.length l ≤ (4294967296 : Nat) ∧ (1 : Int) ≤ Int.ofNat (65535 : Nat) ∧ ∀ (y_2 : Int), y_2 = bigV l y_1 (Int.ofNat (65535 : Nat)) → ∀ (y_3 : Int), y_3 = nx3 l y_1 → InI (Int.ofNat (1 : Nat) + y_2) ∧ ∀ (y_4 : List UInt8), y_4 = y → ∀ (y : Int), y = Int.ofNat (1 : Nat) + y_2 → u = u ∧ y_3 = nx3 l (adA l a) ∧ sixV l a = sixV l a ∧ y_4 = ipV l a ∧ y = portV l a ∧ True) := by kernel_rfl
end Go.Proofs.Ytbannfdoiiojgaa

/- A step towards MacsCookiesSaid: no conditions. -/
namespace Go.Proofs.Ytbannfdoiiojgaa
open Go Go.Eng Go.Cod Go.Cds
theorem cd_nrm {A : Ad} {w : World} : ∀ {cs : List Ch} {l : List Value}, ChsRel A w cs l → ChsRel A w (Go.Cds.nrmCs cs) l
  | [], _, h => h
  | .vec n x :: r, _, h => by
    obtain ⟨a, t, h1, h2, h3, h4⟩ := h
    exact ⟨a, t, h1, h2, h3, cd_nrm h4⟩
  | .one s :: r, _, h => by
    obtain ⟨v, t, h1, h2, h3, h4⟩ := h
    have ih := cd_nrm h4
    cases s <;> exact ⟨v, t, h1, h2, h3, ih⟩
theorem cd_flat : ∀ {cs : List Ch}, flatCs cs = true → flatCs (Go.Cds.nrmCs cs) = true
  | [], h => h
  | .vec n x :: r, h => by
    unfold flatCs at h
    cases x <;> first | exact cd_flat (cs := r) h | cases h
  | .one s :: r, h => by
    unfold flatCs at h
    simp only [Bool.and_eq_true] at h
    have ih := cd_flat h.2
    cases s <;> (unfold Go.Cds.nrmCs flatCs; simp only [Bool.and_eq_true]; exact ⟨h.1, ih⟩)
theorem cd_hd (cs : List Ch) : (hdCs (Go.Cds.nrmCs cs)).length = (hdCs cs).length := by
  cases cs with
  | nil => rfl
  | cons c r =>
    cases c with
    | vec n x => rfl
    | one s => cases s <;> rfl
theorem cd_rok {cs : List Ch} (h : rokCs cs = true) : rokCs (Go.Cds.nrmCs cs) = true := by
  unfold rokCs at h
  split at h
  · exact cd_flat h
  · rename_i hn
    have h2 := cd_flat h
    unfold rokCs
    split
    · rename_i x y r e
      rw [e] at h2
      simp [flatCs, flatS] at h2
    · exact h2
theorem conM_nrmC {P : Program} {f : FuncId} {g : SpecM} (h : ConM P f g) : ConM P f (Go.Cds.nrm g) :=
  fun cs o args ps res cs' hg hp hf hf' w a arr T fz cells spare vals h1 h2 h3 h4 h5 => by
    have := h (Go.Cds.nrmCs cs) o args ps res cs' hg hp (cd_rok hf) hf' w a arr T fz cells spare vals h1 h2 h3 (cd_nrm h4) h5
    rw [cd_hd] at this
    exact this
/-- .. with the arguments in another form -/
theorem conM_of_form {P : Program} {f : FuncId} {g : SpecM} (h : ∀ cs o args ps res cs', g cs o args = some (ps, res, cs') → all ps → (∀ m x r, cs = .one (.xs 1 (.s m) (.u8 x)) :: r → m = x.length) →
    ∃ (args0 : List V) (E : Env) (n : Nat), (∀ A w vals, VsRel A w args vals → VsRel A w args0 vals) ∧ E.P = P ∧ EnvOk E ∧ ∀ u, vcMeth E n f u cs o args0 res cs') : ConM P f g := by
  intro cs o args ps res cs' hg hps hf hf' w a arr T fz cells spare vals h1 h2 h3 h4 hv
  obtain ⟨args0, E, n, hargs, rfl, hE, hvc⟩ := h cs o args ps res cs' hg hps (rok_len h4)
  obtain ⟨u, hr, hu⟩ := row_in hf h4
  have ho := one_ok h1 h2 h3 hr
  have hv' : VsRel (AOne a) w (.w (.s (.ptr 0 o)) :: args0) (Value.pointer (some ⟨a, o, none⟩) :: vals) := ⟨_, _, rfl, ⟨a, rfl, rfl⟩, hargs _ _ _ hv⟩
  refine (vcBody_ok (vc_ok hE n) (hvc u) ho hv').mono fun e w' ⟨x, v, own', A', he, hK, _, k1, k2, k3⟩ => ?_
  obtain ⟨arr', T', fz', cells', spare', q1, q2, q3, q4, q5, q6⟩ := endM_ok (P := E.P) hK hf' h1 k1 k2 k3
  rw [hu] at q3
  exact ⟨x, arr', T', fz', cells', spare', he, q1, q2, q3, q4, q5, q6⟩
theorem ecdn : EnvOk CDn := mkEM_ok namesOk mx trivial trivial trivial
set_option maxRecDepth 100000 in
theorem conNext : ConM Try.prog 69 gmNext := conM_of_vcl fun cs o args ps res cs' hg hp hlen hcs hrow => by
  unfold gmNext at hg
  split at hg <;> cases hg
  rename_i m l a n
  obtain rfl := hrow _ _ _ rfl
  obtain ⟨h0, hp1⟩ := all_cons.1 hp
  obtain ⟨h1, hp2⟩ := all_cons.1 hp1
  have h2 := (all_cons.1 hp2).1
  refine ⟨CDn, 200, rfl, ecdn, fun u => ?_⟩
  refine Eq.mpr (vcNext u l.length l a n) ?_
  simp only [forall_eq, io]
  refine ⟨fun hd => ?_, fun hd => ⟨fun hn => ?_, fun hn => ?_⟩⟩
  · have hd : ¬ a < l.length := by simpa using hd
    unfold nxA nxV
    rw [if_neg (fun h => hd h.1), if_neg (fun h => hd h.1)]
    exact ⟨trivial, rfl, rfl, trivial⟩
  · have hn : n < 1 := of_decide_eq_true hn
    unfold nxA nxV
    rw [if_neg (fun h => by omega), if_neg (fun h => by omega)]
    exact ⟨trivial, rfl, rfl, trivial⟩
  · have hd : a < l.length := by simpa using hd
    have hn : ¬ n < 1 := of_decide_eq_false hn
    have e : a + ((1 : Nat) : Int) - ((1 : Nat) : Int) = a := by omega
    rw [e]
    unfold nxA nxV
    rw [if_pos ⟨hd, by omega⟩, if_pos ⟨hd, by omega⟩]
    refine ⟨by unfold InI; omega, by unfold InI; omega, ⟨h0, hd⟩, by omega, by omega, trivial, rfl, rfl, trivial⟩
end Go.Proofs.Ytbannfdoiiojgaa
