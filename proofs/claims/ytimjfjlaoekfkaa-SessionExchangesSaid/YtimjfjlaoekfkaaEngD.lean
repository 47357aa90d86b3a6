/- A symbolic executor over abstract states, its conditions shown to be enough for the model (part 4). -/
import Derived.Test.YtimjfjlaoekfkaaEngC
import Derived.ProofKit
import Derived.SizedLaws
import Derived.Deep.Slices
import Derived.OpenShut
import Derived.Below
import Derived.Carry
/- Regions whose order is drawn: the condition is enough. -/
namespace Go.Eng
open Go Go.RowKit

theorem setBy_none {φ : Nat → Option V} (h : ∀ j, φ j = none) : ∀ (l : List Oper) (j : Nat) (fr : List V), setBy φ j l fr = fr
  | [], _, _ => rfl
  | o :: r, j, fr => by
    rw [setBy_cons, h j, setBy_none h r]
    cases o.dst <;> rfl
theorem own_nones {A : Ad} {w : World} {own : List Blk} (n : Nat) (h : OwnOK A w own) : OwnOK A w (own ++ nones n) := by
  have live : ∀ (i : Nat) (cs : List Ch), (own ++ nones n)[i]? = some (some cs) → own[i]? = some (some cs) := fun i cs hi => by
    by_cases hl : i < own.length
    · rwa [List.getElem?_append_left hl] at hi
    · rw [List.getElem?_append_right (by omega), nones_eq, List.getElem?_replicate] at hi
      split at hi <;> cases hi
  exact ⟨h.inn, fun b x hb => by have := h.dom b x hb; rw [List.length_append]; omega, fun i j x ci cj hi hj => h.dist i j x ci cj (live i ci hi) (live j cj hj), fun i cs hi => h.blk i cs (live i cs hi)⟩
theorem cntF_rep : ∀ n, cntF (List.replicate n false) = n
  | 0 => rfl
  | n + 1 => by rw [List.replicate_succ, cntF, cntF_rep n]; simp; omega
theorem lastLive_ok : ∀ (own : List Blk) (i : Nat) (cs : List Ch), own[i]? = some (some cs) → i < lastLive own
  | [], i, cs, h => by simp at h
  | some _ :: r, 0, _, _ => by simp [lastLive]
  | some _ :: r, i + 1, cs, h => by
    have := lastLive_ok r i cs (by simpa using h)
    show i + 1 < lastLive r + 1
    omega
  | none :: r, 0, cs, h => by simp at h
  | none :: r, i + 1, cs, h => by
    have := lastLive_ok r i cs (by simpa using h)
    unfold lastLive
    split <;> omega
theorem trimK_ok {n0 : Nat} {fr : List V} {own : List Blk} {K : St → Prop} (h : trimK n0 fr own K) {pre : Ad} {L : Nat} {wb : World} {a : Act} {w : World} (hL : L ≤ n0) (hg : Gst pre L wb ⟨fr, own⟩ a w) : ∃ σ, K σ ∧ Gst pre L wb σ a w := by
  unfold trimK at h
  rw [frcN_eq] at h
  split at h
  · rename_i hf hb
    rw [frcL_eq] at h
    refine ⟨_, h, ?_⟩
    generalize hk : Nat.max n0 (lastLive own) = k at *
    have hk0 : n0 ≤ k := by rw [← hk]; exact Nat.le_max_left _ _
    have hk1 : lastLive own ≤ k := by rw [← hk]; exact Nat.le_max_right _ _
    obtain ⟨A, hdom, hLo, hkp, ho, hfr, hd⟩ := hg
    have hLo : L ≤ own.length := hLo
    have o2 := ho.cut (ok := fun j => Nat.blt j k) fun i cs hi => ⟨by
      have := lastLive_ok own i cs hi
      simp; omega, allL_spec hb (some cs) (List.mem_of_getElem? hi)⟩
    refine ⟨cut (fun j => Nat.blt j k) A, hdom, by simp; omega, hkp.cut fun b x hb => by have := hdom b x hb; simp; omega, ?_, hfr.cut fun i x hi => allL_spec hf x (List.mem_of_getElem? hi), hd⟩
    have get : ∀ (i : Nat) (cs : List Ch), (own.take k)[i]? = some (some cs) → own[i]? = some (some cs) := fun i cs hi => by
      rw [List.getElem?_take] at hi
      split at hi
      · exact hi
      · cases hi
    exact ⟨o2.inn, fun b x hb => by
      have h1 : b < own.length := o2.dom b x hb
      have h2 := (cut_some hb).1
      simp at h2
      rw [List.length_take]; omega, fun i j x ci cj hi hj => o2.dist i j x ci cj (get i ci hi) (get j cj hj), fun i cs hi => o2.blk i cs (get i cs hi)⟩
  · exact ⟨_, h, hg⟩
theorem vcDraw0_any {E : Env} (hE : EnvOk E) {ops : Array Oper} {σ : St} {K : St → Prop} (h : vcDraw0 E ops.toList σ K) {pre : Ad} {L : Nat} {wb : World} {a : Act} {w : World} (hg : Gst pre L wb σ a w)
    {Q : Exit → Act → World → Prop} (hQ : ∀ σ a w, K σ → Gst pre L wb σ a w → Q .normal a w) :
    wpAny E.P .any ops Q ops.size (Array.replicate ops.size false) a { w with drawn := w.drawn + 1 } := by
  unfold vcDraw0 at h
  rw [frcL_eq, frcL_eq, frcL_eq, frcL_eq] at h
  split at h
  · rename_i hs hf ho
    have hst := statOk_spec hs
    obtain ⟨es, hK, hent⟩ := drGo_ok hst.dist _ 0 _ [] h rfl rfl rfl (fun j o hj => by omega)
    obtain ⟨rx, hdy, halt, hK⟩ : ∃ rx, DynOk rx (masks ops.toList []) ops.toList es σ.own.length ∧ AltOk E rx ops.toList (masks ops.toList []) σ.fr (σ.own ++ nones ops.toList.length) σ.own.length es ∧
        frcL (setBy (fun j => some (entV es j)) 0 ops.toList σ.fr) (fun fr => frcL (foldU (fun _ => true) 0 es (σ.own ++ nones ops.toList.length)) fun own => trimK σ.own.length fr own K) := by
      split at hK
      · rename_i hd
        exact ⟨_, dynOk_spec hd, ⟨fun i j j' h => h.elim, fun i j o e _ _ h => h.elim⟩, hK⟩
      · split at hK
        · rename_i a b _
          split at hK
          · rename_i ps hd hal
            obtain ⟨hps, hK⟩ := conj_iff.1 hK
            refine ⟨_, dynX_spec hd, ⟨fun i j j' h h' => h.2.trans h'.2.symm, fun i j o e ho he hij => ?_⟩, hK⟩
            obtain ⟨rfl, rfl⟩ := hij
            unfold altOf at hal
            rw [ho, he] at hal
            simp only [] at hal
            split at hal
            · rename_i p v hop
              split at hal
              · rename_i q hq hu
                cases hal
                refine ⟨p, v, ?_, (all_app.1 hps).1, fun A w x hx => leV_ok (ρ := fun b => some b) (A' := A) ⟨fun b x h => ⟨b, h⟩, fun b k h _ => by cases h; rfl⟩ hq (all_app.1 hps).2 hx⟩
                rw [hop, hu]
              · cases hal
            · cases hal
          · exact hK.elim
        · exact hK.elim
    · rw [frcL_eq, frcL_eq] at hK
      obtain ⟨A, hdom, hL, hk, hoo, hfr, hdef⟩ := hg
      have kd : Keep A w A { w with drawn := w.drawn + 1 } := ⟨fun _ _ h => h, fun b x h => .inl ⟨b, h⟩, fun _ _ _ => rfl, fun _ arr T fz h => ⟨arr, T, fz, h, rfl⟩, Nat.le_refl _, rfl, rfl, rfl⟩
      have hSf : ∀ j, (Array.replicate ops.size false).getD j false = false := fun j => by
        rw [Array.getD_eq_getD_getElem?, Array.getElem?_replicate]
        split <;> rfl
      refine (any_order hE halt (L := L) (pre := pre) (wb := wb) hst hdy (allL_spec hf) (allL_spec ho) hent (fun a w hg => ?_) ops.size _ a _ (by simp) (by rw [Array.toList_replicate]; exact cntF_rep _) (fun j m _ _ hj => by rw [hSf] at hj; cases hj) ?_)
      · obtain ⟨A, g1, g2, g3, g4, g5, g6, _⟩ := hg
        obtain ⟨σ', hK', hg'⟩ := trimK_ok hK hL (a := a) (w := w) ⟨A, g1, by show L ≤ (foldU (fun _ => true) 0 es (σ.own ++ nones ops.toList.length)).length; rw [(foldU_get (S := fun _ => true) es 0 _ 0 (idx_lt hdy) own0_len).2]; omega, g3, g4, g5, g6⟩
        exact hQ σ' a w hK' hg'
      · refine ⟨A, hdom, hL, hk.trans kd, ?_, ?_, hdef, fun b x hb => ?_⟩
        · have e : foldU (fun j => (Array.replicate ops.size false).getD j false) 0 es (σ.own ++ nones ops.toList.length) = σ.own ++ nones ops.toList.length := by
            rw [← foldU_take es 0 0 _ fun m _ _ => hSf _]
            simp [foldU]
          rw [e]
          exact (own_nones _ hoo).same kd fun _ _ _ => rfl
        · rw [setBy_none (φ := phiS _ es) fun j => by unfold phiS; simp only [hSf]]
          exact hfr.keep kd
        · unfold okT
          simp only [Bool.or_eq_true, decide_eq_true_eq]
          exact .inl (hoo.dom b x hb)
  · exact h.elim
end Go.Eng
/- A region whose order is drawn, with a tail of operations that come behind all others. -/
namespace Go.Eng
open Go Go.RowKit

section
variable {P : Program} {ops : Array Oper} {Q : Exit → Act → World → Prop}
theorem upon_conv {o : Oper} {a : Act} {K K' : Act → World → Prop} {Q Q' : Exit → Act → World → Prop} (hK : ∀ a w, K a w → K' a w) (hp : ∀ c a w, Q (.panic c) a w → Q' (.panic c) a w) (hl : LetsOut Q → LetsOut Q')
    {r : Result Next} (h : o.upon P a K Q r) : o.upon P a K' Q' r := by
  cases r with
  | ok n w' =>
    cases n <;> simp only [Oper.upon] at h ⊢ <;>
      first
        | exact hK _ _ h
        | exact Calls.mono h (fun e w'' he => by cases e <;> first | exact hK _ _ he | exact hp _ _ _ he | exact hl he)
        | exact Rows.mono h (fun _ _ he => hK _ _ he)
  | halt x w' => cases x <;> simp only [Oper.upon] at h ⊢ <;> exact hp _ _ _ h
theorem wpOp_conv {ops1 : Array Oper} {i : Nat} {o : Oper} {a : Act} {w : World} {K K' : Act → World → Prop} {Q Q' : Exit → Act → World → Prop} (hK : ∀ a w, K a w → K' a w) (hp : ∀ c a w, Q (.panic c) a w → Q' (.panic c) a w) (hl : LetsOut Q → LetsOut Q')
    (h1 : ops1[i]? = some o) (h2 : ops[i]? = some o) (hw : Region.wanted o (yielded ops1 a.tmps) = Region.wanted o (yielded ops a.tmps)) (h : wpOp P ops1 Q i K a w) : wpOp P ops Q' i K' a w := by
  unfold wpOp at *
  simp only [h1] at h
  simp only [h2]
  rw [hw] at h
  split
  · rename_i hh
    simp only [hh, if_true] at h
    exact h.imp (upon_conv hK hp hl) fun ⟨x, y⟩ => ⟨x, hl y⟩
  · rename_i hh
    simp only [hh] at h
    exact hK _ _ h
theorem least_false : ∀ (n : Nat) (f : Nat → Bool), ¬ (∀ j, j < n → f j = true) → ∃ i, i < n ∧ f i = false ∧ ∀ j, j < i → f j = true
  | 0, _, h => absurd (fun j hj => by omega) h
  | n + 1, f, h => by
    by_cases hn : ∀ j, j < n → f j = true
    · refine ⟨n, by omega, ?_, hn⟩
      cases hf : f n with
      | false => rfl
      | true => exact absurd (fun j hj => by
          by_cases e : j = n
          · rw [e]; exact hf
          · exact hn j (by omega)) h
    · obtain ⟨i, h1, h2, h3⟩ := least_false n f hn
      exact ⟨i, by omega, h2, h3⟩
theorem getD_ft {l : Array Bool} {j : Nat} (h : j < l.size) : l.getD j true = l.getD j false := by
  rw [Array.getD_eq_getD_getElem?, Array.getD_eq_getD_getElem?, Array.getElem?_eq_getElem h]; rfl
theorem getD_set_self' {l : Array Bool} {i : Nat} (h : i < l.size) : (l.setIfInBounds i true).getD i false = true := by
  rw [Array.getD_eq_getD_getElem?, Array.getElem?_setIfInBounds, if_pos rfl, if_pos h]; rfl
theorem getD_set_ne' {l : Array Bool} {i m : Nat} {b : Bool} (h : m ≠ i) : (l.setIfInBounds i true).getD m b = l.getD m b := by
  rw [Array.getD_eq_getD_getElem?, Array.getD_eq_getD_getElem?, Array.getElem?_setIfInBounds, if_neg (Ne.symm h)]

noncomputable def Down (ops : Array Oper) (listed : Array Bool) : Prop := ∀ k o, ops[k]? = some o → listed.getD k false = true → ∀ e ∈ o.after, Region.binds .any e = true → listed.getD e.on false = true
noncomputable def Behind (ops : Array Oper) (o : Oper) (i : Nat) : Prop :=
  (∀ listed, Down ops listed → (∀ e ∈ o.after, Region.binds .any e = true → listed.getD e.on false = true) → ∀ j, j < i → listed.getD j false = true) ∧ ∀ e ∈ o.after, Region.binds .any e = true → e.on < i
theorem wpAny_seq {p : Nat} (hdir : ∀ i o, p ≤ i → ops[i]? = some o → Behind ops o i) (hback : ∀ i o, i < p → ops[i]? = some o → ∀ e ∈ o.after, Region.binds .any e = true → e.on < i) : ∀ (m q fuel : Nat) (listed : Array Bool) (a : Act) (w : World), q + m = ops.size → p ≤ q → m ≤ fuel → listed.size = ops.size →
    (∀ j, j < q → listed.getD j false = true) → (∀ j, q ≤ j → j < ops.size → listed.getD j false = false) → wpList P ops Q (ops.toList.drop q) a w → wpAny P .any ops Q fuel listed a w := by
  have key : ∀ (q : Nat) (listed : Array Bool), p ≤ q → listed.size = ops.size → (∀ j, j < q → listed.getD j false = true) → (∀ j, q ≤ j → j < ops.size → listed.getD j false = false) →
      ∀ i, i ∈ Region.ready .any ops listed ↔ i = q ∧ q < ops.size := by
    intro q listed hpq hs h1 h2 i
    rw [ready_mem]
    constructor
    · rintro ⟨g1, g2, o, g3, g4⟩
      rw [getD_ft (by omega)] at g2
      have hqi : q ≤ i := by
        refine Nat.not_lt.1 fun hlt => ?_
        rw [h1 i hlt] at g2; cases g2
      refine ⟨?_, by omega⟩
      refine Decidable.byContradiction fun hne => ?_
      have hdn : Down ops listed := fun k o' hk hl e he hb => by
        have hks := (Array.getElem?_eq_some_iff.1 hk).1
        have hkq : k < q := Nat.not_le.1 fun hle => by rw [h2 k hle hks] at hl; cases hl
        have hlt : e.on < k := by
          by_cases hkp : k < p
          · exact hback k o' hkp hk e he hb
          · exact (hdir k o' (by omega) hk).2 e he hb
        exact h1 _ (by omega)
      have := (hdir i o (by omega) g3).1 listed hdn g4 q (by omega)
      rw [h2 q (Nat.le_refl _) (by omega)] at this
      cases this
    · rintro ⟨rfl, hlt⟩
      refine ⟨hlt, by rw [getD_ft (by omega)]; exact h2 i (Nat.le_refl _) hlt, ops[i], Array.getElem?_eq_getElem hlt, fun e he hb => ?_⟩
      exact h1 _ ((hdir i ops[i] hpq (Array.getElem?_eq_getElem hlt)).2 e he hb)
  intro m
  induction m with
  | zero =>
    intro q fuel listed a w hq hp hf hs h1 h2 h
    have hd : ops.toList.drop q = [] := List.drop_eq_nil_iff.2 (by simp; omega)
    rw [hd] at h
    have hr : Region.ready .any ops listed = [] := List.eq_nil_iff_forall_not_mem.2 fun i hi => by
      have := ((key q listed hp hs h1 h2 i).1 hi).2
      omega
    cases fuel with
    | zero => exact ⟨hr, h⟩
    | succ fuel => exact ⟨fun _ => h, fun i hi => by rw [hr] at hi; cases hi⟩
  | succ m ih =>
    intro q fuel listed a w hq hp hf hs h1 h2 h
    cases fuel with
    | zero => omega
    | succ fuel =>
      have hlt : q < ops.size := by omega
      have hd : ops.toList.drop q = ops[q] :: ops.toList.drop (q + 1) := by
        rw [List.drop_eq_getElem_cons (by simpa using hlt)]; simp
      refine ⟨fun hr => ?_, fun i hi => ?_⟩
      · have := (key q listed hp hs h1 h2 q).2 ⟨rfl, hlt⟩
        rw [hr] at this; cases this
      · obtain ⟨rfl, _⟩ := (key q listed hp hs h1 h2 i).1 hi
        rw [hd] at h
        have nxt : ∀ a w, wpList P ops Q (ops.toList.drop (i + 1)) a w → wpAny P .any ops Q fuel (listed.setIfInBounds i true) a w := fun a w hh => by
          refine ih (i + 1) fuel _ a w (by omega) (by omega) (by omega) (by simpa using hs) (fun j hj => ?_) (fun j hj hjn => ?_) hh
          · by_cases e : j = i
            · subst e; exact getD_set_self' (by omega)
            · rw [getD_set_ne' e]; exact h1 j (by omega)
          · rw [getD_set_ne' (by omega)]; exact h2 j (by omega) hjn
        unfold wpOp
        rw [Array.getElem?_eq_getElem hlt]
        simp only [wpList] at h
        simp only []
        split
        · rename_i hw
          rw [if_pos hw] at h
          exact h.imp (fun h => Oper.wp_mono nxt h) id
        · rename_i hw
          rw [if_neg hw] at h
          exact nxt _ _ h

noncomputable def headQ (P : Program) (ops : Array Oper) (Q : Exit → Act → World → Prop) (p : Nat) (e : Exit) (a : Act) (w : World) : Prop :=
  match e with
  | .normal => wpList P ops Q (ops.toList.drop p) a w
  | e => Q e a w
theorem wpAny_tail {ops1 : Array Oper} {p : Nat} (hp : p ≤ ops.size) (hsz : ops1.size = p) (heq : ∀ i, i < p → ops1[i]? = ops[i]?) (hdir : ∀ i o, p ≤ i → ops[i]? = some o → Behind ops o i)
    (hback : ∀ i o, i < p → ops[i]? = some o → ∀ e ∈ o.after, Region.binds .any e = true → e.on < i) (hgd : ∀ i o, i < p → ops[i]? = some o → ∀ j y, o.guard = some (j, y) → j < p) :
    ∀ (fuel : Nat) (l1 listed : Array Bool) (a : Act) (w : World), l1.size = p → listed.size = ops.size → (∀ j, j < p → listed.getD j false = l1.getD j false) → (∀ j, p ≤ j → j < ops.size → listed.getD j false = false) → Down ops listed →
      wpAny P .any ops1 (headQ P ops Q p) fuel l1 a w → wpAny P .any ops Q (fuel + (ops.size - p)) listed a w := by
  have rdy : ∀ (l1 : Array Bool), l1.size = p → ∀ i, i < p → l1.getD i false = false → (∀ j, j < i → l1.getD j false = true) → i ∈ Region.ready .any ops1 l1 := fun l1 hs i hi h1 h2 => by
    have h3 : ops1[i]? = some ops1[i] := Array.getElem?_eq_getElem (by omega)
    refine ready_mem.2 ⟨by omega, by rw [getD_ft (by omega)]; exact h1, ops1[i], h3, fun e he hb => ?_⟩
    exact h2 _ (hback i _ hi ((heq i hi).symm.trans h3) e he hb)
  have none : ∀ (l1 : Array Bool), l1.size = p → (∀ j, j < p → l1.getD j false = true) → Region.ready .any ops1 l1 = [] := fun l1 hs h => List.eq_nil_iff_forall_not_mem.2 fun i hi => by
    obtain ⟨h1, h2, _⟩ := ready_mem.1 hi
    rw [getD_ft (by omega), h i (by omega)] at h2
    cases h2
  intro fuel
  induction fuel with
  | zero =>
    intro l1 listed a w hs1 hs h1 h2 hdn ⟨hr, hq⟩
    by_cases hall : ∀ j, j < p → l1.getD j false = true
    · exact wpAny_seq hdir hback (ops.size - p) p _ listed a w (by omega) (Nat.le_refl _) (by omega) hs (fun j hj => by rw [h1 j hj]; exact hall j hj) h2 hq
    · obtain ⟨i, g1, g2, g3⟩ := least_false p _ hall
      have := rdy l1 hs1 i g1 g2 g3
      rw [hr] at this; cases this
  | succ fuel ih =>
    intro l1 listed a w hs1 hs h1 h2 hdn ⟨h0, hh⟩
    by_cases hall : ∀ j, j < p → l1.getD j false = true
    · exact wpAny_seq hdir hback (ops.size - p) p _ listed a w (by omega) (Nat.le_refl _) (by omega) hs (fun j hj => by rw [h1 j hj]; exact hall j hj) h2 (h0 (none l1 hs1 hall))
    · rw [show fuel + 1 + (ops.size - p) = (fuel + (ops.size - p)) + 1 by omega]
      obtain ⟨i0, g1, g2, g3⟩ := least_false p _ hall
      refine ⟨fun hr => ?_, fun i hi => ?_⟩
      · have hlt : i0 < ops.size := by omega
        have : i0 ∈ Region.ready .any ops listed := by
          refine ready_mem.2 ⟨hlt, by rw [getD_ft (by omega), h1 i0 g1]; exact g2, ops[i0], Array.getElem?_eq_getElem hlt, fun e he hb => ?_⟩
          have h5 := hback i0 _ g1 (Array.getElem?_eq_getElem hlt) e he hb
          rw [h1 _ (by omega)]
          exact g3 _ h5
        rw [hr] at this; cases this
      · obtain ⟨k1, k2, o, k3, k4⟩ := ready_mem.1 hi
        have hip : i < p := by
          refine Nat.not_le.1 fun hle => ?_
          have := (hdir i o hle k3).1 listed hdn k4 i0 (by omega)
          rw [h1 i0 g1, g2] at this
          cases this
        have k5 : ops1[i]? = some o := (heq i hip).trans k3
        have hm : i ∈ Region.ready .any ops1 l1 := by
          refine ready_mem.2 ⟨by omega, ?_, o, k5, fun e he hb => ?_⟩
          · rw [getD_ft (by omega)] at k2 ⊢
            rw [← h1 i hip]; exact k2
          · have h5 := hback i o hip k3 e he hb
            rw [← h1 _ (by omega)]
            exact k4 e he hb
        refine wpOp_conv (fun a w hK => ?_) (fun c a w hc => hc) (fun h => h) k5 k3 ?_ (hh i hm)
        · refine ih _ _ a w (by simpa using hs1) (by simpa using hs) (fun j hj => ?_) (fun j hj hjn => ?_) (fun k o' hk hl e he hb => ?_) hK
          · by_cases e : j = i
            · subst e; rw [getD_set_self' (by omega), getD_set_self' (by omega)]
            · rw [getD_set_ne' e, getD_set_ne' e]; exact h1 j hj
          · rw [getD_set_ne' (by omega)]; exact h2 j hj hjn
          · have hon : listed.getD e.on false = true := by
              by_cases e1 : k = i
              · subst e1
                rw [k3] at hk
                cases hk
                exact k4 e he hb
              · rw [getD_set_ne' e1] at hl
                exact hdn k o' hk hl e he hb
            by_cases e2 : e.on = i
            · rw [e2]; exact getD_set_self' (by omega)
            · rw [getD_set_ne' e2]; exact hon
        · unfold Region.wanted
          cases hg : o.guard with
          | none => rfl
          | some jy =>
            obtain ⟨j, y⟩ := jy
            have := hgd i o hip k3 j y hg
            simp only [yielded, heq j this]
end
theorem allL_spec' {α : Type} {p : α → Bool} : ∀ {l : List α}, allL p l = true → ∀ x ∈ l, p x = true
  | [], _, _, h => by cases h
  | y :: r, h, x, hx => by
    rw [allL_cons] at h
    split at h
    · rename_i hy
      rcases List.mem_cons.1 hx with rfl | hx
      · exact hy
      · exact allL_spec' h x hx
    · cases h
theorem mask_down {ops : Array Oper} {ms : List Nat} (hm : MaskOk ops.toList ms) {listed : Array Bool} (hd : Down ops listed) : ∀ (k : Nat) (o : Oper), k < ms.length → ops[k]? = some o →
    (∀ e ∈ o.after, Region.binds .any e = true → listed.getD e.on false = true) → ∀ j, Nat.testBit (ms.getD k 0) j = true → listed.getD j false = true := by
  intro k
  induction k using Nat.strongRecOn with
  | ind k ih =>
    intro o hk ho hl j hj
    obtain ⟨o', h1, h2⟩ := hm k hk
    rw [Array.getElem?_toList, ho] at h1
    cases h1
    rw [h2] at hj
    obtain ⟨e, he, hb, h3⟩ := maskOf_ok hj
    have he : e ∈ o.after := by simpa using he
    have h4 := hl e he hb
    rcases h3 with h3 | h3
    · rw [h3]; exact h4
    · have hlt : e.on < k := by
        refine Nat.not_le.1 fun hle => ?_
        rw [List.getD_eq_getElem?_getD, List.getElem?_eq_none (by simp; omega)] at h3
        simp at h3
      have h5 : (ms.take k).getD e.on 0 = ms.getD e.on 0 := by
        simp [List.getD, List.getElem?_take_of_lt hlt]
      rw [h5] at h3
      obtain ⟨o2, h6, _⟩ := hm e.on (by omega)
      rw [Array.getElem?_toList] at h6
      exact ih e.on hlt o2 (by omega) h6 (fun e2 he2 hb2 => hd e.on o2 h6 h4 e2 he2 hb2) j h3
theorem behindB_ok {ops : Array Oper} {o : Oper} {i : Nat} (ho : ops[i]? = some o) (h : behindB (masks ops.toList []) o i = true) : Behind ops o i := by
  have hm := masks_ok ops.toList ops.toList [] (by simp) (fun i hi => by simp at hi)
  have hlt := (Array.getElem?_eq_some_iff.1 ho).1
  unfold behindB at h
  split at h
  · rename_i h1
    have h1 := Nat.eq_of_beq_eq_true h1
    refine ⟨fun listed hd hl j hj => ?_, fun e he hb => ?_⟩
    · refine mask_down hm.1 hd i o (by rw [hm.2]; simpa using hlt) ho hl j ?_
      have : Nat.testBit (Nat.land ((masks ops.toList []).getD i 0) (2 ^ i - 1)) j = true := by
        rw [h1, Nat.testBit_two_pow_sub_one]; simpa using hj
      have : Nat.testBit ((masks ops.toList []).getD i 0 &&& (2 ^ i - 1)) j = true := this
      rw [Nat.testBit_and, Bool.and_eq_true] at this
      exact this.1
    · have := allL_spec' h e (by simpa using he)
      rw [hb] at this
      simpa using this
  · cases h
theorem tailAt_le (ms : List Nat) (ops : List Oper) : ∀ n, tailAt ms ops n ≤ n
  | 0 => Nat.le_refl _
  | k + 1 => by
    unfold tailAt
    split
    · split
      · exact Nat.le_succ_of_le (tailAt_le ms ops k)
      · exact Nat.le_refl _
    · exact Nat.le_refl _
theorem tailAt_ok (ops : Array Oper) : ∀ n i o, tailAt (masks ops.toList []) ops.toList n ≤ i → i < n → ops[i]? = some o → Behind ops o i
  | 0, _, _, _, h, _ => by omega
  | k + 1, i, o, h1, h2, h3 => by
    unfold tailAt at h1
    split at h1
    · rename_i q hq
      split at h1
      · rename_i hb
        by_cases e : i = k
        · subst e
          rw [Array.getElem?_toList, h3] at hq
          cases hq
          exact behindB_ok h3 hb
        · exact tailAt_ok ops k i o h1 (by omega) h3
      · omega
    · omega
theorem vcDraw_ok {E : Env} (hE : EnvOk E) {ih : VC} (hih : VcOk E ih) {id : Nat} {ops : Array Oper} {σ : St} {Q : Exit → St → Prop} (h : vcDraw E ih ops.toList σ fun σ => Q .normal σ) {pre : Ad} {L : Nat} {wb : World} {a : Act} {w : World} (hg : Gst pre L wb σ a w) :
    (Code.region id ops true).wp E.P (fun e a w => ∃ σ, Q e σ ∧ Gst pre L wb σ a w) a w := by
  unfold vcDraw at h
  rw [frcL_eq, frcN_eq] at h
  refine wp_region_any hE.mixed ?_
  have old : vcDraw0 E ops.toList σ (fun σ => Q .normal σ) → wpAny E.P .any ops (fun e a w => ∃ σ, Q e σ ∧ Gst pre L wb σ a w) ops.size (Array.replicate ops.size false) a { w with drawn := w.drawn + 1 } :=
    fun h => vcDraw0_any hE h hg fun σ a w hK hg => ⟨σ, hK, hg⟩
  split at h
  · rename_i hlt hgd
    generalize hp : tailAt (masks ops.toList []) ops.toList ops.toList.length = p at *
    have hlt : p < ops.size := by simpa using hlt
    have htk : (ops.extract 0 p).toList = ops.toList.take p := by simp
    have hsz : (ops.extract 0 p).size = p := by simp; omega
    have heq : ∀ i, i < p → (ops.extract 0 p)[i]? = ops[i]? := fun i hi => by
      rw [← Array.getElem?_toList, htk, List.getElem?_take_of_lt hi, Array.getElem?_toList]
    rw [← htk] at h
    have h1 := vcDraw0_any hE h hg (Q := headQ E.P ops (fun e a w => ∃ σ, Q e σ ∧ Gst pre L wb σ a w) p) fun σ a w hK hg => by
      exact vcOps_ok hE hih (fun σ a w h hg => ⟨σ, h, hg⟩) _ p σ a w hK hg
    have hst : ∃ ms, StatOk ms (ops.extract 0 p).toList := by
      unfold vcDraw0 at h
      rw [frcL_eq, frcL_eq, frcL_eq, frcL_eq] at h
      split at h
      · rename_i hs _ _
        exact ⟨_, statOk_spec hs⟩
      · exact h.elim
    obtain ⟨ms, hst⟩ := hst
    rw [hsz] at h1
    have h2 := wpAny_tail (P := E.P) (ops := ops) (ops1 := ops.extract 0 p) (p := p) (by omega) hsz heq
      (fun i o hi ho => tailAt_ok ops ops.toList.length i o (by omega) (by have := (Array.getElem?_eq_some_iff.1 ho).1; simpa using this) ho)
      (fun i o hi ho e he hb => (hst.edge i o (by rw [Array.getElem?_toList, heq i hi]; exact ho) e (by simpa using he) hb).1)
      (fun i o hi ho j y hgu => by
        have hm : o ∈ ops.toList.take p := List.mem_of_getElem? (i := i) (by rw [List.getElem?_take_of_lt hi, Array.getElem?_toList]; exact ho)
        have := allL_spec' hgd o hm
        unfold guardB at this
        rw [hgu] at this
        simpa using this)
      p (Array.replicate p false) (Array.replicate ops.size false) a _ (by simp) (by simp) (fun j hj => by
        rw [Array.getD_eq_getD_getElem?, Array.getD_eq_getD_getElem?, Array.getElem?_replicate, Array.getElem?_replicate, if_pos hj, if_pos (by omega)]) (fun j hj hjn => by
        rw [Array.getD_eq_getD_getElem?, Array.getElem?_replicate, if_pos hjn]; rfl) (fun k o' hk hl e he hb => by
        rw [Array.getD_eq_getD_getElem?, Array.getElem?_replicate] at hl
        split at hl <;> cases hl) h1
    rwa [show p + (ops.size - p) = ops.size by omega] at h2
  · exact old h
end Go.Eng
/- The conditions are enough: codes. -/
namespace Go.Eng
open Go Go.RowKit

theorem vcStep_ok {E : Env} (hE : EnvOk E) {ih : VC} (hih : VcOk E ih) : VcOk E (vcStep E ih) := by
  intro c σ Q pre L wb a w h hg
  unfold vcStep at h
  split at h
  · exact wp_skip ⟨σ, h, hg⟩
  · exact wp_region_list (vcOps_ok hE hih (fun σ a w h hg => ⟨σ, h, hg⟩) _ 0 σ a w h hg)
  · exact vcDraw_ok hE hih h hg
  · refine wp_seq (wp_mono (hih _ _ _ pre L wb a w h hg) fun e a w ⟨σ, hQ, hg⟩ => ?_)
    cases e with
    | normal => exact hih _ _ _ pre L wb a w hQ hg
    | _ => exact ⟨σ, hQ, hg⟩
  · rename_i c x y
    obtain ⟨A, hdom, hL, hk, ho, hfr, hd⟩ := hg
    have hc := hfr.evS c
    split at h
    · rename_i he
      rw [he] at hc
      exact wp_cond_true hc (hih _ _ _ pre L wb a w h ⟨A, hdom, hL, hk, ho, hfr, hd⟩)
    · rename_i he
      rw [he] at hc
      exact wp_cond_false hc (hih _ _ _ pre L wb a w h ⟨A, hdom, hL, hk, ho, hfr, hd⟩)
    · rename_i b he
      rw [he] at hc
      split at h
      · obtain ⟨h1, h2, h3⟩ := h
        exact wp_cond_split hc (fun hb => wp_mono (hih _ _ _ pre L wb a w (h1 hb) ⟨A, hdom, hL, hk, ho, hfr, hd⟩) fun e a w ⟨τ, hj, hg⟩ => joinQ_ok h3 hL hj hg)
          (fun hb => wp_mono (hih _ _ _ pre L wb a w (h2 hb) ⟨A, hdom, hL, hk, ho, hfr, hd⟩) fun e a w ⟨τ, hj, hg⟩ => joinQ_ok h3 hL hj hg)
      · exact wp_cond_split hc (fun hb => hih _ _ _ pre L wb a w (h.1 hb) ⟨A, hdom, hL, hk, ho, hfr, hd⟩) (fun hb => hih _ _ _ pre L wb a w (h.2 hb) ⟨A, hdom, hL, hk, ho, hfr, hd⟩)
    · exact h.elim
  · rename_i id c
    refine block_ok ?_
    split at h
    · exact vcLoop_ok hih h hg
    · exact wp_loop_rounds _ (vcRounds_ok hih _ _ _ _ h hg)
  · rename_i id c _
    exact block_ok (hih _ _ _ pre L wb a w h hg)
  · exact wp_exit ⟨σ, h, hg⟩
  · exact wp_ret ⟨σ, h, hg⟩
  · exact h.elim
theorem vc_ok {E : Env} (hE : EnvOk E) : ∀ n, VcOk E (vc E n)
  | 0 => fun _ _ _ _ _ _ _ _ h => h.elim
  | n + 1 => vcStep_ok hE (vc_ok hE n)
end Go.Eng
/- A function's contract, from its conditions. -/
namespace Go.Eng
open Go Go.RowKit

noncomputable def notSl : Vec → Bool
  | .sl _ => false
  | _ => true
noncomputable def outRow (own : List Blk) (s : S) (z' : Nat) (n' : I) (v' : Vec) : Option (List Prop) :=
  match s with
  | .nil => match Nat.blt 0 z' with
    | true => some [n'.val = 0, v'.len = 0]
    | false => none
  | .sl k 0 (.n 0) len z => match Nat.beq z z', Nat.blt 0 z, notSl v' with
    | true, true, true => match srcOf (.sl k 0 (.n 0) len z) own z with
      | some (p, _, [.vec _ u]) => cat2 (some p) (cat2 (leI len n') (leVec u v'))
      | some (p, _, []) => cat2 (some p) (some [n'.val = 0, v'.len = 0])
      | _ => none
    | _, _, _ => none
  | _ => none
noncomputable def outFlat (s r : S) : Option (List Prop) :=
  match flatS r with
  | true => leS (fun _ => none) s r
  | false => none
noncomputable def outS (own : List Blk) (s r : S) : Option (List Prop) :=
  match r with
  | .xs z n v => outRow own s z n v
  | r => outFlat s r
noncomputable def outCs (own : List Blk) : List Ch → List Ch → Option (List Prop)
  | [], [] => some []
  | .one s :: r, .one s' :: r' => match extS s' with
    | true => cat2 (outS own s s') (outCs own r r')
    | false => none
  | .vec n v :: r, .vec n' v' :: r' => match notSl v with
    | true => cat2 (cat2 (leI n n') (leVec v v')) (outCs own r r')
    | false => none
  | _, _ => none
noncomputable def outW (own : List Blk) (x y : W) : Option (List Prop) :=
  match x, y with
  | .s x, .s y => outS own x y
  | .agg x, .agg y => outCs own x y
  | _, _ => none
noncomputable def outWs (own : List Blk) : List W → List W → Option (List Prop)
  | [], [] => some []
  | x :: xs, y :: ys => cat2 (outW own x y) (outWs own xs ys)
  | _, _ => none
noncomputable def outV (own : List Blk) (x y : V) : Option (List Prop) :=
  match x, y with
  | .w x, .w y => outW own x y
  | .tup x, .tup y => outWs own x y
  | _, _ => none
noncomputable def vcBody (E : Env) (ih : VC) (f : FuncId) (args : List V) (own : List Blk) (K : V → List Blk → Prop) : Prop :=
  match E.P.funcs[f]? with
  | none => False
  | some fn => match fn.body with
    | none => False
    | some body => ih body ⟨args ++ anys (fn.ntmps - args.length) [], own⟩ fun e σ => match e with
        | .normal => match resOf E.P fn σ with
          | some v => K v σ.own
          | none => False
        | .ret => match resOf E.P fn σ with
          | some v => K v σ.own
          | none => False
        | _ => False
noncomputable def vcFn (E : Env) (n : Nat) (f : FuncId) (args : List V) (res : V) : Prop :=
  vcBody E (vc E n) f args [] fun v own => match outV own v res with
    | some ps => conj ps True
    | none => False

theorem vcBody_ok {E : Env} {ih : VC} (hih : VcOk E ih) {f : FuncId} {args : List V} {own : List Blk} {K : V → List Blk → Prop} (h : vcBody E ih f args own K)
    {A : Ad} {w : World} (ho : OwnOK A w own) {vals : List Value} (hv : VsRel A w args vals) : Calls E.P f vals.toArray w (CallPost A own.length w K) := by
  unfold vcBody at h
  split at h
  · exact h.elim
  rename_i fn hf
  split at h
  · exact h.elim
  rename_i body hb
  refine calls_of_wp hf hb (wp_mono (hih body _ _ A own.length w _ w h ⟨A, ho.dom, Nat.le_refl _, .refl A w, ho, ?_, rfl⟩) ?_)
  · exact enter_fr (n := fn.ntmps) hv
  · intro e a' w' ⟨σ, hQ, A', _, hL, hk, hoo, hfr, hd⟩
    cases e with
    | normal =>
      simp only [] at hQ
      split at hQ
      · rename_i v hv
        obtain ⟨x, h1, h2⟩ := resOf_ok hv hfr hoo
        exact ⟨hd, x, h1, x, v, _, A', rfl, hQ, hL, hk, hoo, h2⟩
      · exact hQ.elim
    | ret =>
      simp only [] at hQ
      split at hQ
      · rename_i v hv
        obtain ⟨x, h1, h2⟩ := resOf_ok hv hfr hoo
        exact ⟨hd, x, h1, x, v, _, A', rfl, hQ, hL, hk, hoo, h2⟩
      · exact hQ.elim
    | _ => exact hQ.elim
theorem Keep.below0 {A : Ad} {w w' : World} (h : Keep A0 w A w') : Below w.heap.size w w' :=
  ⟨h.os, h.tape, h.output, h.size, fun k hk => h.old k hk fun _ => by simp⟩
theorem Keep.fresh0 {A : Ad} {w w' : World} (h : Keep A0 w A w') {b x : Nat} (hb : A b = some x) : w.heap.size ≤ x := by
  rcases h.new b x hb with ⟨b', hb'⟩ | hx
  · cases hb'
  · exact hx
theorem len_nil {A : Ad} {w : World} {v : Vec} (h : v.len = 0) : v.rel A w [] := by
  cases v <;> simp only [Vec.len, List.length_eq_zero_iff] at h <;> subst h <;> first | rfl | exact ⟨rfl, fun i x v h _ => by simp at h⟩
theorem outRow_ok {P : Program} {A : Ad} {w0 w : World} {own : List Blk} (hk : Keep A0 w0 A w) (ho : OwnOK A w own) {s : S} {z' : Nat} {n' : I} {v' : Vec} {p : List Prop} {v : Value} (h : outRow own s z' n' v' = some p) (hp : all p) (hs : s.rel A w v) :
    RowNew w0.heap.size w z' n' v' v ∧ (S.xs z' n' v').rel A0 w v := by
  unfold outRow at h
  split at h
  · split at h <;> cases h
    rename_i hz
    have h1 := all_cons.1 hp
    have h2 := (all_cons.1 h1.2).1
    exact ⟨.inl ⟨hs, h1.1, len_nil h2⟩, by simpa using hz, [], len_nil h2, .inl ⟨⟨_, hs⟩, rfl⟩, by simp [h1.1]⟩
  · rename_i k len z
    split at h
    · rename_i hz hz0 hns
      have hz := Nat.eq_of_beq_eq_true hz
      have hz0 : 0 < z := by simpa using hz0
      subst hz
      have main : ∀ (q : List Prop) (n : I) (new : List Ch), srcOf (.sl k 0 (.n 0) len z) own z = some (q, n, new) → all q → len.val = n'.val → (∀ cs, ChsRel A w new cs → v'.rel A w cs) → RowNew w0.heap.size w z n' v' v ∧ (S.xs z n' v').rel A0 w v := by
        intro q n new e hq hn hrel
        obtain ⟨cs, h1, h2⟩ := srcOf_ok (P := P) e hq ho hs
        have hx := src_xb h1 (sl_form hs)
        have hr := Vec.none (hrel cs h2)
        have hall := h1.all
        have hl := h1.len
        rcases hs with ⟨rfl, hl0⟩ | ⟨a, off, cap, arr, T, fz, g1, rfl, g3, g4, g5, g6⟩
        · have e : (Builtin.lenOf (.slice none 0 0)).run P w = .ok 0 w := rfl
          rw [e] at hl
          have hn0 : 0 = n.val := by injection hl
          have hc : cs = [] := List.length_eq_zero_iff.1 (by rw [hall, ← hn0]; simp)
          subst hc
          exact ⟨.inl ⟨rfl, by omega, hr⟩, hz0, [], hr, hx, by rw [← hn, hl0]; simp⟩
        · have e0 : (Builtin.lenOf (.slice (some ⟨a, off, none⟩) len.val cap)).run P w = .ok len.val w := rfl
          rw [e0] at hl
          have hn0 : len.val = n.val := by injection hl
          obtain ⟨arr', E', fz', cells, spare, k1, k2, k3, k4⟩ : ∃ arr' E' fz' cells spare, w.heap[a]? = some (.cells arr' E' fz') ∧ (fz'.2 = fz'.1 ∨ arr'.size ≤ fz'.1) ∧ arr'.toList = cells ++ spare ∧ True := by
            have hg : ∃ c, own[k]? = some (some c) := by
              unfold srcOf at e
              split at e
              · unfold srcOf0 at e
                simp only [] at e
                split at e
                · cases e
                · rename_i c hg
                  exact ⟨c, getO_some hg⟩
              · cases e
            obtain ⟨c, hc⟩ := hg
            obtain ⟨arr', E', fz', cells, spare, k1, k2, k3, _⟩ := ho.atC hc g1 g5
            exact ⟨arr', E', fz', cells, spare, k1, k2, k3, trivial⟩
          rw [g5] at k1; cases k1
          have q6 : (arr.toList.drop off).take (len.val * z) = cs := by
            rcases hx with ⟨⟨_, hx⟩, hcs⟩ | ⟨blk, off', n1, cap', arr1, T1, fz1, q1, q2, q3, q4, q5, q6⟩
            · have e1 : len.val = 0 := by injection hx
              rw [hcs, e1, Nat.zero_mul, List.take_zero]
            · cases q1
              rw [g5] at q5; cases q5
              exact q6
          have hcl : cs.length = len.val * z := by rw [hall, hn0]
          have hlay : arr.toList = cs ++ arr.toList.drop (len.val * z) := by
            rcases g4 with g4 | g4
            · have : off = 0 := by simpa [I.val] using g4
              subst this
              rw [← q6]
              simp
            · rw [g4.1] at hcl ⊢
              have : cs = [] := List.length_eq_zero_iff.1 (by simpa using hcl)
              rw [this]; simp
          refine ⟨.inr ⟨a, off, cap, arr, T, fz, cs, arr.toList.drop (len.val * z), by rw [hn], by omega, hk.fresh0 g1, g5, g6, ?_, k2, hlay, by rw [← hn]; exact hcl, hr, ?_⟩, hz0, cs, hr, .inr ⟨a, off, len.val, cap, arr, T, fz, rfl, g3, hcl.symm, (fun _ => by simp), g5, q6⟩, by rw [← hn]; exact hcl.symm⟩
          · rcases g4 with g4 | g4
            · exact .inl (by simpa [I.val] using g4)
            · exact .inr ⟨by omega, g4.2⟩
          · cases v' <;> first | trivial | (cases hns; done)
      split at h
      · rename_i q n m u hsrc
        obtain ⟨_, r, e1, e2, rfl⟩ := cat2_some h
        cases e1
        obtain ⟨r1, r2, e3, e4, rfl⟩ := cat2_some e2
        have h1 := all_app.1 hp
        have h2 := all_app.1 h1.2
        have e5 := leVec_ok e4 h2.2
        subst e5
        exact main _ _ _ hsrc h1.1 (leI_ok e3 h2.1) fun cs hc => (vec_rel hc).2
      · rename_i q n hsrc
        obtain ⟨_, r, e1, e2, rfl⟩ := cat2_some h
        cases e1
        cases e2
        have h1 := all_app.1 hp
        have h2 := all_cons.1 h1.2
        have h3 := (all_cons.1 h2.2).1
        refine main _ _ _ hsrc h1.1 ?_ fun cs hc => by
          simp only [ChsRel] at hc
          subst hc
          exact len_nil h3
        obtain ⟨cs, g1, g2⟩ := srcOf_ok (P := P) hsrc h1.1 ho hs
        simp only [ChsRel] at g2
        subst g2
        have ga := g1.all
        have gl := g1.len
        have hn0 : n.val = 0 := by
          simp only [List.length_nil] at ga
          rcases Nat.mul_eq_zero.1 ga.symm with g | g
          · exact g
          · omega
        rw [h2.1]
        rcases hs with ⟨_, hl0⟩ | ⟨a, off, cap, arr, T, fz, _, rfl, _⟩
        · exact hl0
        · have e : (Builtin.lenOf (.slice (some ⟨a, off, none⟩) len.val cap)).run P w = .ok len.val w := rfl
          rw [e] at gl
          have : len.val = n.val := by injection gl
          omega
      · cases h
    · cases h
  · cases h
theorem ren0 {A : Ad} : RenOk (fun _ => none) A A0 := ⟨fun b x h => (by cases h), fun b k h _ => (by cases h)⟩
theorem outS_flat {A : Ad} {w : World} {s r : S} {p : List Prop} {v : Value} (h : outFlat s r = some p) (hp : all p) (hs : s.rel A w v) : flatS r = true ∧ r.sc v := by
  unfold outFlat at h
  split at h
  · rename_i hf
    exact ⟨hf, flatS_sc hf (leS_ok ren0 h hp hs)⟩
  · cases h
theorem outW_s (P : Program) {A : Ad} {w0 w : World} {own : List Blk} (hk : Keep A0 w0 A w) (ho : OwnOK A w own) {s r : S} {p : List Prop} {v : Value} (h : outS own s r = some p) (hp : all p) (hs : s.rel A w v) : (W.s r).out w0.heap.size w v ∧ r.rel A0 w v := by
  cases r with
  | xs z n x =>
    obtain ⟨h1, h2⟩ := outRow_ok (P := P) hk ho h hp hs
    exact ⟨h1, h2⟩
  | _ =>
    simp only [outS] at h
    obtain ⟨h1, h2⟩ := outS_flat h hp hs
    exact ⟨⟨h1, h2⟩, sc_rel h2⟩
theorem outCs_ok (P : Program) {A : Ad} {w0 w : World} {own : List Blk} (hk : Keep A0 w0 A w) (ho : OwnOK A w own) : ∀ {xs ys : List Ch} {p : List Prop} {l : List Value}, outCs own xs ys = some p → all p → ChsRel A w xs l → ChsRel A0 w ys l ∧ ChsNew w0.heap.size ys l ∧ extCs ys = true
  | [], [], _, _, _, _, h => ⟨h, trivial, rfl⟩
  | [], _ :: _, _, _, h, _, _ => by cases h
  | .one _ :: _, [], _, _, h, _, _ => by cases h
  | .one _ :: _, .vec _ _ :: _, _, _, h, _, _ => by cases h
  | .vec _ _ :: _, [], _, _, h, _, _ => by cases h
  | .vec _ _ :: _, .one _ :: _, _, _, h, _, _ => by cases h
  | .one s :: xs, .one r :: ys, p, l, h, hp, hx => by
    unfold outCs at h
    split at h
    · rename_i he
      obtain ⟨q, q2, e1, e2, rfl⟩ := cat2_some h
      obtain ⟨v, t, rfl, g1, g2, g3⟩ := hx
      obtain ⟨k1, k2⟩ := outW_s P hk ho e1 (all_app.1 hp).1 g1
      obtain ⟨k3, k4, k5⟩ := outCs_ok P hk ho e2 (all_app.1 hp).2 g3
      refine ⟨⟨v, t, rfl, k2, g2, k3⟩, ?_, by simp [extCs, he, k5]⟩
      cases r with
      | xs z n x =>
        refine ⟨v, t, rfl, ?_, k4⟩
        rcases k1 with ⟨h, _⟩ | ⟨blk, off, cap, arr, T, fz, cells, spare, h, _, hb, _⟩
        · exact .inl h
        · exact .inr ⟨blk, off, _, cap, h, hb⟩
      | _ => exact ⟨v, t, rfl, k4⟩
    · cases h
  | .vec n x :: xs, .vec m y :: ys, p, l, h, hp, hx => by
    unfold outCs at h
    split at h
    · rename_i hns
      obtain ⟨q, q2, e1, e2, rfl⟩ := cat2_some h
      obtain ⟨q3, q4, e3, e4, rfl⟩ := cat2_some e1
      have h1 := all_app.1 hp
      have h2 := all_app.1 h1.1
      obtain ⟨a, t, rfl, g1, g2, g3⟩ := hx
      obtain ⟨k3, k4, k5⟩ := outCs_ok P hk ho e2 h1.2 g3
      have e3 := leI_ok e3 h2.1
      have e4 := leVec_ok e4 h2.2
      subst e4
      refine ⟨⟨a, t, rfl, by omega, Vec.none g2, k3⟩, ⟨a, t, rfl, by omega, ?_, k4⟩, k5⟩
      cases x <;> first | trivial | (cases hns; done)
    · cases h
theorem outW_ok (P : Program) {A : Ad} {w0 w : World} {own : List Blk} (hk : Keep A0 w0 A w) (ho : OwnOK A w own) {x y : W} {p : List Prop} {v : Value} (h : outW own x y = some p) (hp : all p) (hx : x.rel A w v) : y.out w0.heap.size w v := by
  unfold outW at h
  split at h
  · exact (outW_s P hk ho h hp hx).1
  · obtain ⟨cells, rfl, hc⟩ := hx
    obtain ⟨k3, k4, k5⟩ := outCs_ok P hk ho h hp hc
    exact ⟨cells, rfl, k3, k4, k5⟩
  · cases h
theorem outWs_ok (P : Program) {A : Ad} {w0 w : World} {own : List Blk} (hk : Keep A0 w0 A w) (ho : OwnOK A w own) : ∀ {xs ys : List W} {p : List Prop} {l : List Value}, outWs own xs ys = some p → all p → WsRel A w xs l → WsOut w0.heap.size w ys l
  | [], [], _, _, _, _, h => h
  | [], _ :: _, _, _, h, _, _ => by cases h
  | _ :: _, [], _, _, h, _, _ => by cases h
  | x :: xs, y :: ys, p, l, h, hp, hx => by
    obtain ⟨q, q2, e1, e2, rfl⟩ := cat2_some h
    obtain ⟨v, t, rfl, g1, g2⟩ := hx
    exact ⟨v, t, rfl, outW_ok P hk ho e1 (all_app.1 hp).1 g1, outWs_ok P hk ho e2 (all_app.1 hp).2 g2⟩
theorem outV_ok (P : Program) {A : Ad} {w0 w : World} {own : List Blk} (hk : Keep A0 w0 A w) (ho : OwnOK A w own) {x y : V} {p : List Prop} {v : Value} (h : outV own x y = some p) (hp : all p) (hx : x.rel A w v) : y.out w0.heap.size w v := by
  unfold outV at h
  split at h
  · exact outW_ok P hk ho h hp hx
  · obtain ⟨vs, rfl, hc⟩ := hx
    exact ⟨vs, rfl, outWs_ok P hk ho h hp hc⟩
  · cases h
theorem own_nil (w : World) : OwnOK A0 w [] := ⟨fun b x h => (by cases h), fun b x h => (by cases h), fun i j x ci cj h => (by simp at h), fun i cs h => (by simp at h)⟩
theorem con_of_vc {E : Env} (hE : EnvOk E) {n : Nat} {f : FuncId} {g : SpecF} (h : ∀ args ps res, g args = some (ps, res) → all ps → vcFn E n f args res) : Con E.P f g := by
  intro args ps res hg hps w vals hv
  refine (vcBody_ok (vc_ok hE n) (h args ps res hg hps) (own_nil w) hv).mono fun e w' ⟨x, v, own', A', he, hK, _, k1, k2, k3⟩ => ?_
  simp only [] at hK
  split at hK
  · rename_i qs hq
    exact ⟨x, he, k1.below0, outV_ok E.P k1 k2 hq (conj_iff.1 hK).1 k3⟩
  · exact hK.elim
theorem calls_of_vc {E : Env} (hE : EnvOk E) {n : Nat} {f : FuncId} {args : List V} {res : V} (h : vcFn E n f args res) {w : World} {vals : List Value} (hv : VsRel A0 w args vals) :
    Calls E.P f vals.toArray w fun e w' => ∃ x, e = .returned x ∧ Below w.heap.size w w' ∧ res.out w.heap.size w' x := by
  refine (vcBody_ok (vc_ok hE n) h (own_nil w) hv).mono fun e w' ⟨x, v, own', A', he, hK, _, k1, k2, k3⟩ => ?_
  simp only [] at hK
  split at hK
  · rename_i qs hq
    exact ⟨x, he, k1.below0, outV_ok E.P k1 k2 hq (conj_iff.1 hK).1 k3⟩
  · exact hK.elim
theorem con_of_vcs {P : Program} {f : FuncId} {g : SpecF} (h : ∀ args ps res, g args = some (ps, res) → all ps → ∃ (E : Env) (n : Nat), E.P = P ∧ EnvOk E ∧ vcFn E n f args res) : Con P f g := by
  intro args ps res hg hps w vals hv
  obtain ⟨E, n, rfl, hE, hvc⟩ := h args ps res hg hps
  exact calls_of_vc hE hvc hv
noncomputable def Cons (P : Program) : List (Nat × SpecF) → Prop
  | [] => True
  | p :: r => Con P p.1 p.2 ∧ Cons P r
theorem lookN_con {P : Program} : ∀ {l : List (Nat × SpecF)}, Cons P l → ∀ {f : FuncId} {g : SpecF}, lookN l f = some g → Con P f g
  | [], _, _, _, h => by cases h
  | (j, x) :: r, hl, f, g, h => by
    unfold lookN at h
    split at h
    · rename_i hj
      have hj := Nat.eq_of_beq_eq_true hj
      cases h
      subst hj
      exact hl.1
    · exact lookN_con hl.2 h
noncomputable def lookI (l : List (Nat × (St → Option Inv))) (i : Nat) (σ : St) : Option Inv :=
  match l with
  | [] => none
  | (j, x) :: r => match Nat.beq j i with
    | true => x σ
    | false => lookI r i σ
noncomputable def mkE (P : Program) (gs : List (Nat × SpecF)) (ls : List (Nat × (St → Option Inv))) (r : Nat) (g : Bool := false) (xs : List (Nat × SpecF) := []) (ms : List (Nat × SpecM) := []) : Env := ⟨P, lookN gs, lookI ls, r, g, lookN xs, lookN ms⟩
noncomputable def ConsX (P : Program) : List (Nat × SpecF) → Prop
  | [] => True
  | p :: r => ConX P p.1 p.2 ∧ ConsX P r
theorem lookN_conX {P : Program} : ∀ {l : List (Nat × SpecF)}, ConsX P l → ∀ {f : FuncId} {g : SpecF}, lookN l f = some g → ConX P f g
  | [], _, _, _, h => by cases h
  | (j, x) :: r, hl, f, g, h => by
    unfold lookN at h
    split at h
    · rename_i hj
      have hj := Nat.eq_of_beq_eq_true hj
      cases h
      exact hj ▸ hl.1
    · exact lookN_conX hl.2 h
noncomputable def ConsM (P : Program) : List (Nat × SpecM) → Prop
  | [] => True
  | p :: r => ConM P p.1 p.2 ∧ ConsM P r
theorem lookN_conM {P : Program} : ∀ {l : List (Nat × SpecM)}, ConsM P l → ∀ {f : FuncId} {g : SpecM}, lookN l f = some g → ConM P f g
  | [], _, _, _, h => by cases h
  | (j, x) :: r, hl, f, g, h => by
    unfold lookN at h
    split at h
    · rename_i hj
      have hj := Nat.eq_of_beq_eq_true hj
      cases h
      exact hj ▸ hl.1
    · exact lookN_conM hl.2 h
theorem mkE_ok {P : Program} {gs : List (Nat × SpecF)} {ls : List (Nat × (St → Option Inv))} {r : Nat} {b : Bool} (hn : NamesOK P) (hm : P.follows .mixedOrders = true) (h : Cons P gs) : EnvOk (mkE P gs ls r b) :=
  ⟨fun _ _ hg => lookN_con h hg, fun _ _ hg => lookN_conX (l := []) trivial hg, fun _ _ hg => lookN_conM (l := []) trivial hg, hn, hm⟩
theorem mkEX_ok {P : Program} {gs : List (Nat × SpecF)} {ls : List (Nat × (St → Option Inv))} {r : Nat} {b : Bool} {xs : List (Nat × SpecF)} (hn : NamesOK P) (hm : P.follows .mixedOrders = true) (h : Cons P gs) (hx : ConsX P xs) : EnvOk (mkE P gs ls r b xs) :=
  ⟨fun _ _ hg => lookN_con h hg, fun _ _ hg => lookN_conX hx hg, fun _ _ hg => lookN_conM (l := []) trivial hg, hn, hm⟩
theorem mkEM_ok {P : Program} {gs : List (Nat × SpecF)} {ls : List (Nat × (St → Option Inv))} {r : Nat} {b : Bool} {xs : List (Nat × SpecF)} {ms : List (Nat × SpecM)} (hn : NamesOK P) (hm : P.follows .mixedOrders = true) (h : Cons P gs) (hx : ConsX P xs) (hs : ConsM P ms) : EnvOk (mkE P gs ls r b xs ms) :=
  ⟨fun _ _ hg => lookN_con h hg, fun _ _ hg => lookN_conX hx hg, fun _ _ hg => lookN_conM hs hg, hn, hm⟩
theorem true_of_vc {E : Env} (hE : EnvOk E) {n : Nat} {f : FuncId} {args : List V} (h : vcFn E n f args (.s (.b true))) {w : World} {vals : List Value} (hv : VsRel A0 w args vals) :
    Calls E.P f vals.toArray w fun e w' => e = .returned (.bool true) ∧ Below w.heap.size w w' := by
  refine (calls_of_vc hE h hv).mono fun e w' ⟨x, he, hb, hx⟩ => ⟨?_, hb⟩
  have h2 : x = .bool true := hx.2
  rw [he, h2]
theorem con_conv {P : Program} {f : FuncId} {g g2 : SpecF} (hc : Con P f g) (h : ∀ args ps res, g2 args = some (ps, res) → all ps → ∃ ps' res', g args = some (ps', res') ∧ all ps' ∧ ∀ N w x, res'.out N w x → res.out N w x) : Con P f g2 := by
  intro args ps res hg hps w vals hv
  obtain ⟨ps', res', h1, h2, h3⟩ := h args ps res hg hps
  exact (hc args ps' res' h1 h2 w vals hv).mono fun e w' ⟨x, he, hb, hx⟩ => ⟨x, he, hb, h3 _ _ _ hx⟩
theorem out_len {z : Nat} {n n' : I} {v v' : Vec} (hn : n.val = n'.val) (hv : v = v') (N : Nat) (w : World) (x : Value) (h : (V.s (.xs z n v)).out N w x) : (V.s (.xs z n' v')).out N w x := by
  subst hv
  have h : RowNew N w z n v x := h
  show RowNew N w z n' v x
  unfold RowNew at h ⊢
  rw [← hn]
  exact h
noncomputable def lenS : S → Prop
  | .xs z n v => v.len = n.val * z
  | _ => True
noncomputable def lenCs : List Ch → Prop
  | [] => True
  | .one s :: r => lenS s ∧ lenCs r
  | .vec n v :: r => v.len = n.val ∧ lenCs r
noncomputable def lenV : V → Prop
  | .w (.s s) => lenS s
  | .w (.agg cs) => lenCs cs
  | .tup _ => True
noncomputable def lenL : List V → Prop
  | [] => True
  | x :: r => lenV x ∧ lenL r
theorem lenS_ok {A : Ad} {w : World} {s : S} {v : Value} (h : s.rel A w v) : lenS s := by
  cases s <;> try trivial
  obtain ⟨_, cs, h1, _, h2⟩ := h
  show _ = _
  rw [h2]
  exact (Vec.rel_len h1).symm
theorem lenCs_ok {A : Ad} {w : World} : ∀ {cs : List Ch} {l : List Value}, ChsRel A w cs l → lenCs cs
  | [], _, _ => trivial
  | .one _ :: _, _, h => by obtain ⟨v, r, _, h1, _, h2⟩ := h; exact ⟨lenS_ok h1, lenCs_ok h2⟩
  | .vec _ _ :: _, _, h => by obtain ⟨a, r, _, h1, h2, h3⟩ := h; exact ⟨(Vec.rel_len h2).symm.trans h1, lenCs_ok h3⟩
theorem lenV_ok {A : Ad} {w : World} {x : V} {v : Value} (h : x.rel A w v) : lenV x := by
  cases x with
  | tup l => trivial
  | w x =>
    cases x with
    | s s => exact lenS_ok h
    | agg cs => obtain ⟨cells, _, h⟩ := h; exact lenCs_ok h
theorem lenL_ok {A : Ad} {w : World} : ∀ {xs : List V} {l : List Value}, VsRel A w xs l → lenL xs
  | [], _, _ => trivial
  | _ :: _, _, h => by obtain ⟨v, r, _, h1, h2⟩ := h; exact ⟨lenV_ok h1, lenL_ok h2⟩
theorem con_of_vcl {P : Program} {f : FuncId} {g : SpecF} (h : ∀ args ps res, g args = some (ps, res) → all ps → lenL args → ∃ (E : Env) (n : Nat), E.P = P ∧ EnvOk E ∧ vcFn E n f args res) : Con P f g := by
  intro args ps res hg hps w vals hv
  obtain ⟨E, n, rfl, hE, hvc⟩ := h args ps res hg hps (lenL_ok hv)
  exact calls_of_vc hE hvc hv
noncomputable def okL (own : List Blk) (b : Nat) : Bool :=
  match Nat.beq b 0 with
  | true => false
  | false => match getO own b with
    | some _ => true
    | none => false
noncomputable def rowOf (u : Value) (cs : List Ch) : List Ch :=
  match cs with
  | .one (.xs 1 (.s m) (.u8 l)) :: r => .one (.row u m l) :: r
  | cs => cs
noncomputable def hasRow (cs : List Ch) : Bool :=
  match cs with
  | .one (.xs _ _ _) :: _ => true
  | .one (.row _ _ _) :: _ => true
  | _ => false
noncomputable def offRow (b : Bool) (u : Value) (c : List Ch) : Option (List Prop × List Ch) :=
  match b with
  | false => some ([], c)
  | true => match c with
    | .one (.row u' _ _) :: r => some ([u' = u], r)
    | _ => none
noncomputable def endM (b : Bool) (u : Value) (cs' : List Ch) (res : V) (v : V) (own : List Blk) : Prop :=
  match getO own 0 with
  | none => False
  | some c0 => match offRow b u c0 with
    | none => False
    | some (p0, c) => match leCs (fun _ => none) c cs', outV (putO own 0 none) v res, mV (okL own) v, allL (mB (okL own)) (putO own 0 none) with
      | some ps, some qs, true, true => conj p0 (conj ps (conj qs True))
      | _, _, _, _ => False
noncomputable def vcMeth (E : Env) (n : Nat) (f : FuncId) (u : Value) (cs : List Ch) (o : Nat) (args : List V) (res : V) (cs' : List Ch) : Prop :=
  vcBody E (vc E n) f (.w (.s (.ptr 0 o)) :: args) [some (rowOf u cs)] (endM (hasRow cs) u cs' res)
theorem offRow_ok {A : Ad} {w : World} {b : Bool} {u : Value} {c0 c : List Ch} {p : List Prop} {l : List Value} (h : offRow b u c0 = some (p, c)) (hp : all p) (hr : ChsRel A w c0 l) :
    ∃ l', l = (bif b then [u] else []) ++ l' ∧ ChsRel A w c l' := by
  unfold offRow at h
  split at h
  · cases h; exact ⟨l, rfl, hr⟩
  · split at h
    · cases h
      obtain ⟨v, r, rfl, h2, h3, h4⟩ := hr
      obtain ⟨e, _⟩ := h2
      have e2 := (all_cons.1 hp).1
      subst e
      exact ⟨r, by rw [e2]; rfl, h4⟩
    · cases h
theorem endM_ok {P : Program} {b : Bool} {u : Value} {cs' : List Ch} {res v : V} {own : List Blk} (h : endM b u cs' res v own) (hf : flatCs cs' = true) {a : Nat} {arr : Array Value} {T : TypeId} {fz : Nat × Nat} {w w' : World} {A' : Ad} {x : Value}
    (hw : w.heap[a]? = some (.cells arr T fz)) (hk : Keep (AOne a) w A' w') (ho : OwnOK A' w' own) (hv : v.rel A' w' x) :
    ∃ arr' T' fz' cells' spare', arr'.size = arr.size ∧ (fz'.2 = fz'.1 ∨ arr'.size ≤ fz'.1) ∧ arr'.toList = (bif b then [u] else []) ++ cells' ++ spare' ∧ ChsRel (fun _ => none) w cs' cells' ∧ Below w.heap.size (setArr w a arr' T' fz') w' ∧ res.out w.heap.size w' x := by
  unfold endM at h
  split at h
  · exact h.elim
  rename_i c hc
  split at h
  · exact h.elim
  rename_i p0 c2 hoff
  split at h
  · rename_i ps qs h1 h2 h3 h4
    obtain ⟨hp0, h⟩ := conj_iff.1 h
    obtain ⟨hps, h⟩ := conj_iff.1 h
    obtain ⟨hqs, _⟩ := conj_iff.1 h
    have hA : A' 0 = some a := hk.pre 0 a rfl
    obtain ⟨arr9, T9, fz9, g9, _⟩ := hk.sz a arr T fz hw
    obtain ⟨arr', T', fz', cells0, spare', c1, c2, c3, c40⟩ := ho.atC (getO_some hc) hA g9
    obtain ⟨cells', rfl, c4⟩ := offRow_ok hoff hp0 c40
    have hs : arr'.size = arr.size := by
      obtain ⟨arr2, T2, fz2, g1, g2⟩ := hk.sz a arr T fz hw
      rw [c1] at g1
      cases g1
      exact g2
    have hcs : ChsRel (fun _ => none) w cs' cells' := flatCs_rel (A := A0) (w := w') hf (leCs_ok (A' := A0) ⟨fun b x h => (by cases h), fun b k h => (by cases h)⟩ h1 hps c4)
    have hokL : ∀ b, okL own b = true → b ≠ 0 ∧ ∃ c, own[b]? = some (some c) := by
      intro b hb
      unfold okL at hb
      split at hb
      · cases hb
      · rename_i hb0
        split at hb
        · rename_i c' hc'
          exact ⟨fun e => by subst e; simp at hb0, c', getO_some hc'⟩
        · cases hb
    have hlt : a < w.heap.size := heap_lt hw
    have hat : w'.heap[a]? = (setArr w a arr' T' fz').heap[a]? := by rw [c1, setArr_self hlt]
    have hold : ∀ k, k < w.heap.size → w'.heap[k]? = (setArr w a arr' T' fz').heap[k]? := by
      intro k hk'
      by_cases e : k = a
      · subst e; exact hat
      · rw [setArr_other e]
        refine hk.old k hk' fun b hb => ?_
        unfold AOne at hb
        split at hb
        · cases hb; exact e rfl
        · cases hb
    have k1 : Keep A0 (setArr w a arr' T' fz') (cut (okL own) A') w' :=
      { pre := fun b x h => by cases h
        new := fun b y hb => by
          obtain ⟨hb1, hb2⟩ := cut_some hb
          obtain ⟨hb3, cb, hb4⟩ := hokL b hb1
          rcases hk.new b y hb2 with ⟨b', hb'⟩ | hy
          · exfalso
            unfold AOne at hb'
            split at hb'
            · cases hb'
              exact hb3 (ho.dist b 0 a cb c hb4 (getO_some hc) hb2 hA)
            · cases hb'
          · exact .inr (by rw [setArr_size]; exact hy)
        old := fun k hk' _ => hold k (by rw [setArr_size] at hk'; exact hk')
        sz := fun k arr1 T1 fz1 hk' => ⟨arr1, T1, fz1, by rw [hold k (by have := heap_lt hk'; rw [setArr_size] at this; exact this)]; exact hk', rfl⟩
        size := by rw [setArr_size]; exact hk.size
        os := hk.os
        tape := hk.tape
        output := hk.output }
    have o1 : OwnOK (cut (okL own) A') w' (putO own 0 none) := by
      refine OwnOK.cut (own_kill ho 0) fun i cs hi => ?_
      have hm : mB (okL own) (some cs) = true := allL_spec h4 _ (List.mem_of_getElem? hi)
      refine ⟨?_, hm⟩
      have hi0 : i ≠ 0 := by
        intro e
        subst e
        rw [putO_self] at hi
        cases hi
      have hi1 := putO_live hi0 hi
      unfold okL
      have e1 : Nat.beq i 0 = false := by
        cases i with
        | zero => exact absurd rfl hi0
        | succ i => rfl
      rw [e1]
      simp only []
      rw [getO_get hi1]
    have hout := outV_ok P k1 o1 h2 hqs (V.cut h3 hv)
    rw [setArr_size] at hout
    have hbel := k1.below0
    rw [setArr_size] at hbel
    exact ⟨arr', T', fz', cells', spare', hs, c2, c3, hcs, hbel, hout⟩
  · exact h.elim
theorem one_ok {w : World} {a : Nat} {arr : Array Value} {T : TypeId} {fz : Nat × Nat} {cells spare : List Value} {cs : List Ch} (hw : w.heap[a]? = some (.cells arr T fz)) (hf : fz.2 = fz.1 ∨ arr.size ≤ fz.1) (hc : arr.toList = cells ++ spare) (hr : ChsRel (AOne a) w cs cells) : OwnOK (AOne a) w [some cs] := by
  have one : ∀ b x, AOne a b = some x → b = 0 ∧ x = a := fun b x h => by
    unfold AOne at h
    split at h
    · cases h; exact ⟨‹_›, rfl⟩
    · cases h
  have zero : ∀ (i : Nat) (c : List Ch), [some cs][i]? = some (some c) → i = 0 ∧ c = cs := fun i c h => by
    cases i with
    | zero => simp at h; exact ⟨rfl, h.symm⟩
    | succ i => simp at h
  refine ⟨fun b x h => ?_, fun b x h => ?_, fun i j x ci cj hi hj _ _ => ?_, fun i c hi => ?_⟩
  · rw [(one b x h).2]; exact heap_lt hw
  · rw [(one b x h).1]; simp
  · rw [(zero i ci hi).1, (zero j cj hj).1]
  · obtain ⟨rfl, rfl⟩ := zero i c hi
    exact .inl ⟨a, rfl, .inl ⟨arr, T, fz, cells, spare, hw, hf, hc, hr⟩⟩
theorem row_in {w : World} {a : Nat} {cs : List Ch} {l : List Value} (hf : rokCs cs = true) (h : ChsRel (AOne a) w cs l) : ∃ u, ChsRel (AOne a) w (rowOf u cs) l ∧ (bif hasRow cs then [u] else []) = l.take (hdCs cs).length := by
  unfold rokCs at hf
  split at hf
  · obtain ⟨v, r, rfl, h2, h3, h4⟩ := h
    obtain ⟨hz, cl, g1, g2, g3⟩ := h2
    have g1 : cl = _ := g1
    subst g1
    refine ⟨v, ⟨v, r, rfl, ⟨rfl, g2, ?_⟩, h3, h4⟩, rfl⟩
    simpa [I.val] using g3
  · rename_i hn
    cases cs with
    | nil => exact ⟨.bool true, h, rfl⟩
    | cons c r =>
      cases c with
      | vec n x => exact ⟨.bool true, h, rfl⟩
      | one s =>
        cases s <;> first | exact ⟨.bool true, h, rfl⟩ | (exfalso; simp [flatCs, flatS] at hf; done)
theorem rok_len {A : Ad} {w : World} {cs : List Ch} {l : List Value} (h : ChsRel A w cs l) : ∀ m x r, cs = .one (.xs 1 (.s m) (.u8 x)) :: r → m = x.length := by
  intro m x r e
  subst e
  obtain ⟨v, t, rfl, ⟨_, cl, g1, _, g3⟩, _⟩ := h
  have g1 : cl = _ := g1
  subst g1
  simpa [I.val] using g3
theorem conM_of_vcl {P : Program} {f : FuncId} {g : SpecM} (h : ∀ cs o args ps res cs', g cs o args = some (ps, res, cs') → all ps → lenL args → lenCs cs → (∀ m x r, cs = .one (.xs 1 (.s m) (.u8 x)) :: r → m = x.length) → ∃ (E : Env) (n : Nat), E.P = P ∧ EnvOk E ∧ ∀ u, vcMeth E n f u cs o args res cs') : ConM P f g := by
  intro cs o args ps res cs' hg hps hf hf' w a arr T fz cells spare vals h1 h2 h3 h4 hv
  obtain ⟨E, n, rfl, hE, hvc⟩ := h cs o args ps res cs' hg hps (lenL_ok hv) (lenCs_ok h4) (rok_len h4)
  obtain ⟨u, hr, hu⟩ := row_in hf h4
  have ho := one_ok h1 h2 h3 hr
  have hv' : VsRel (AOne a) w (.w (.s (.ptr 0 o)) :: args) (Value.pointer (some ⟨a, o, none⟩) :: vals) := ⟨_, _, rfl, ⟨a, rfl, rfl⟩, hv⟩
  refine (vcBody_ok (vc_ok hE n) (hvc u) ho hv').mono fun e w' ⟨x, v, own', A', he, hK, _, k1, k2, k3⟩ => ?_
  obtain ⟨arr', T', fz', cells', spare', q1, q2, q3, q4, q5, q6⟩ := endM_ok (P := E.P) hK hf' h1 k1 k2 k3
  rw [hu] at q3
  exact ⟨x, arr', T', fz', cells', spare', he, q1, q2, q3, q4, q5, q6⟩
end Go.Eng
/- What comes in: arguments. -/
namespace Go.Eng
open Go Go.RowKit Go.ChangeShapes Go.WideShapes Go.ChangeAt

inductive K | u8 | u16 | u32 | u64 | i64 | bo
noncomputable def K.cell : K → Value → Prop
  | .u8, v => ∃ x : UInt8, True ∧ v = eu8 x
  | .u16, v => ∃ x : UInt16, True ∧ v = eu16 x
  | .u32, v => ∃ x : UInt32, True ∧ v = eu32 x
  | .u64, v => ∃ x : UInt64, True ∧ v = eu64 x
  | .i64, v => ∃ x : Int, InI x ∧ v = ei64 x
  | .bo, v => ∃ x : Bool, True ∧ v = ebo x
noncomputable def K.sOf : K → S → Prop
  | .u8, s => ∃ x, s = .u8 x
  | .u16, s => ∃ x, s = .u16 x
  | .u32, s => ∃ x, s = .u32 x
  | .u64, s => ∃ x, s = .u64 x
  | .i64, s => ∃ x, InI x ∧ s = .i64 x
  | .bo, s => ∃ x, s = .b x
noncomputable def K.vOf : K → Vec → Prop
  | .u8, v => ∃ l, v = .u8 l
  | .u16, v => ∃ l, v = .u16 l
  | .u32, v => ∃ l, v = .u32 l
  | .u64, v => ∃ l, v = .u64 l
  | .i64, v => ∃ l, (∀ x ∈ l, InI x) ∧ v = .i64 l
  | .bo, v => ∃ l, v = .bo l
noncomputable def kindOf (d : Option TypeDesc) : Option K :=
  match d with
  | some .bool => some .bo
  | some (.int .u8) => some .u8
  | some (.int .u16) => some .u16
  | some (.int .u32) => some .u32
  | some (.int .u64) => some .u64
  | some (.int .i64) => some .i64
  | _ => none
inductive Sh
  | one (k : K)
  | str
  | arr (n : Nat) (k : K)
  | sl (k : K)
  | slz (z : Nat) (k : K)
  | sls
noncomputable def MatchC : List Sh → List Ch → Prop
  | [], cs => cs = []
  | .one k :: p, cs => ∃ s r, cs = .one s :: r ∧ k.sOf s ∧ MatchC p r
  | .str :: p, cs => ∃ l r, cs = .one (.str l) :: r ∧ l.length < 2 ^ 47 ∧ MatchC p r
  | .arr n k :: p, cs => ∃ x r, cs = .vec (.n n) x :: r ∧ k.vOf x ∧ x.len = n ∧ MatchC p r
  | .sl k :: p, cs => ∃ x r, cs = .one (.xs 1 (.s x.len) x) :: r ∧ k.vOf x ∧ x.len < 2 ^ 47 ∧ MatchC p r
  | .sls :: p, cs => ∃ l r, cs = .one (.xs 1 (.s l.length) (.sl l)) :: r ∧ l.length < 2 ^ 47 ∧ (∀ x ∈ l, x.length < 2 ^ 47) ∧ MatchC p r
  | .slz z k :: p, cs => ∃ x n r, cs = .one (.xs z (.s n) x) :: r ∧ k.vOf x ∧ x.len = n * z ∧ x.len < 2 ^ 47 ∧ MatchC p r
noncomputable def mergeSh (n : Nat) (cs : List Sh) : List Sh :=
  match Nat.blt 4 n, cs with
  | true, [.arr m k] => [.arr (n * m) k]
  | _, _ => times n cs []
noncomputable def fieldsAt (P : Program) : Nat → List Field → Option Nat
  | o, [] => some o
  | o, f :: r => match Nat.beq f.offset o with
    | true => fieldsAt P (o + P.cellsOf f.type) r
    | false => none
noncomputable def eqO (x : Option Nat) (n : Nat) : Bool :=
  match x with
  | some m => Nat.beq m n
  | none => false
noncomputable def shape (P : Program) : Nat → TypeId → Option (List Sh)
  | 0, _ => none
  | d + 1, T => match P.underlying T with
    | some .bool => some [.one .bo]
    | some (.int _) => match kindOf (P.underlying T) with
      | some k => some [.one k]
      | none => none
    | some .string => some [.str]
    | some (.slice e) => match Nat.blt 0 (P.bytesOf e) with
      | false => none
      | true => match kindOf (P.underlying e), Nat.beq (P.cellsOf e) 1 with
        | some k, true => some [.sl k]
        | _, _ => match P.underlying e with
          | some (.array n e') => match kindOf (P.underlying e'), Nat.beq (P.cellsOf e) n, Nat.beq (P.cellsOf e') 1, Nat.blt 0 n, Nat.ble n (P.bytesOf e) with
            | some k, true, true, true, true => some [.slz n k]
            | _, _, _, _, _ => none
          | some (.slice e') => match kindOf (P.underlying e'), Nat.beq (P.cellsOf e) 1, Nat.beq (P.cellsOf e') 1, Nat.blt 0 (P.bytesOf e') with
            | some .u8, true, true, true => some [.sls]
            | _, _, _, _ => none
          | _ => none
    | some (.array n e) => match kindOf (P.underlying e), Nat.beq (P.cellsOf e) 1, Nat.beq (P.cellsOf T) n with
      | some k, true, true => some [.arr n k]
      | none, _, _ => match shape P d e, Nat.beq (P.cellsOf T) (n * P.cellsOf e) with
        | some cs, true => some (mergeSh n cs)
        | _, _ => none
      | _, _, _ => none
    | some (.struct fs) => match eqO (fieldsAt P 0 fs.toList) (P.cellsOf T) with
      | true => catM (fun f => shape P d f.type) fs.toList
      | false => none
    | _ => none

theorem K.s_ok {k : K} {A : Ad} {w : World} {v : Value} (h : k.cell v) : ∃ s, k.sOf s ∧ s.rel A w v ∧ one1 v = true := by
  cases k <;> obtain ⟨x, hx, rfl⟩ := h
  · exact ⟨.u8 x, ⟨x, rfl⟩, rfl, rfl⟩
  · exact ⟨.u16 x, ⟨x, rfl⟩, rfl, rfl⟩
  · exact ⟨.u32 x, ⟨x, rfl⟩, rfl, rfl⟩
  · exact ⟨.u64 x, ⟨x, rfl⟩, rfl, rfl⟩
  · exact ⟨.i64 x, ⟨x, hx, rfl⟩, rfl, rfl⟩
  · exact ⟨.b x, ⟨x, rfl⟩, rfl, rfl⟩
theorem pull {α : Type} {p : α → Prop} {f : α → Value} : ∀ {cs : List Value}, (∀ v ∈ cs, ∃ x, p x ∧ v = f x) → ∃ l : List α, (∀ x ∈ l, p x) ∧ cs = l.map f
  | [], _ => ⟨[], by simp, rfl⟩
  | v :: cs, h => by
    obtain ⟨x, hx, rfl⟩ := h v (by simp)
    obtain ⟨l, hl, rfl⟩ := pull (cs := cs) fun u hu => h u (by simp [hu])
    exact ⟨x :: l, by simpa [hx] using hl, rfl⟩
theorem K.v_ok {k : K} {A : Ad} {w : World} {cs : List Value} (h : ∀ v ∈ cs, k.cell v) : ∃ x, k.vOf x ∧ x.len = cs.length ∧ x.rel A w cs := by
  cases k <;> obtain ⟨l, hl, rfl⟩ := pull h
  · exact ⟨.u8 l, ⟨l, rfl⟩, by simp [Vec.len], rfl⟩
  · exact ⟨.u16 l, ⟨l, rfl⟩, by simp [Vec.len], rfl⟩
  · exact ⟨.u32 l, ⟨l, rfl⟩, by simp [Vec.len], rfl⟩
  · exact ⟨.u64 l, ⟨l, rfl⟩, by simp [Vec.len], rfl⟩
  · exact ⟨.i64 l, ⟨l, hl, rfl⟩, by simp [Vec.len], rfl⟩
  · exact ⟨.bo l, ⟨l, rfl⟩, by simp [Vec.len], rfl⟩

section
variable {H : Type} {enc : TypeId × Value → H} {P : Program} {w : World} {held : Bool}

theorem wf_u {k : IntKind} {n : Int} {m : Nat} (hs : k.min = 0) (hm : k.max = (m : Int) - 1) (h : (Lit.int k n).wf = true) : ∃ x : Nat, x < m ∧ n = (x : Int) := by
  simp only [Lit.wf, Bool.and_eq_true, decide_eq_true_eq] at h
  refine ⟨n.toNat, ?_, ?_⟩ <;> omega
theorem kind_cell {T : TypeId} {k : K} {fuel : Nat} {cs : List Value} {x : DataW H × List MemPlace} (hk : kindOf (P.underlying T) = some k) (h : DataW.trod enc P w 0 (fun _ => true) held fuel T cs = some x) : ∃ v, cs = [v] ∧ k.cell v := by
  unfold kindOf at hk
  split at hk <;> cases hk <;> rename_i ht
  · obtain ⟨b, rfl, _⟩ := DataW.trod_bool ht h; exact ⟨_, rfl, b, trivial, rfl⟩
  · obtain ⟨n, rfl, _, h2⟩ := DataW.trod_int ht h
    obtain ⟨x, hx, rfl⟩ := wf_u (k := .u8) (m := 256) rfl rfl h2
    exact ⟨_, rfl, UInt8.ofNat x, trivial, by unfold eu8; rw [UInt8.toNat_ofNat_of_lt' hx]⟩
  · obtain ⟨n, rfl, _, h2⟩ := DataW.trod_int ht h
    obtain ⟨x, hx, rfl⟩ := wf_u (k := .u16) (m := 65536) rfl rfl h2
    exact ⟨_, rfl, UInt16.ofNat x, trivial, by unfold eu16; rw [UInt16.toNat_ofNat_of_lt' hx]⟩
  · obtain ⟨n, rfl, _, h2⟩ := DataW.trod_int ht h
    obtain ⟨x, hx, rfl⟩ := wf_u (k := .u32) (m := 4294967296) rfl rfl h2
    exact ⟨_, rfl, UInt32.ofNat x, trivial, by unfold eu32; rw [UInt32.toNat_ofNat_of_lt' hx]⟩
  · obtain ⟨n, rfl, _, h2⟩ := DataW.trod_int ht h
    obtain ⟨x, hx, rfl⟩ := wf_u (k := .u64) (m := 18446744073709551616) rfl rfl h2
    exact ⟨_, rfl, UInt64.ofNat x, trivial, by unfold eu64; rw [UInt64.toNat_ofNat_of_lt' hx]⟩
  · obtain ⟨n, rfl, _, h2⟩ := DataW.trod_int ht h
    refine ⟨_, rfl, n, ?_, rfl⟩
    simp only [Lit.wf, Bool.and_eq_true, decide_eq_true_eq] at h2
    have e1 : IntKind.i64.min = -9223372036854775808 := rfl
    have e2 : IntKind.i64.max = 9223372036854775807 := rfl
    rw [e1, e2] at h2
    exact ⟨h2.1, by omega⟩

noncomputable def SlOk (w : World) (v : Value) : Prop := ∀ a len cap, v = .slice (some a) len cap → a.spot = none ∧ ∃ arr T fz, w.heap[a.block]? = some (.cells arr T fz)

theorem add_at (a : Addr) (i : Nat) (h : a.spot = none) : a.add i = ⟨a.block, a.off + i, none⟩ := by
  cases a with
  | mk b o s =>
    simp only at h; subst h
    unfold Addr.add
    split <;> simp_all
theorem cellq_at {w : World} {b o : Nat} {arr : Array Value} {T : TypeId} {fz : Nat × Nat} (h : w.heap[b]? = some (.cells arr T fz)) : w.cell? ⟨b, o, none⟩ = arr[o]? := by
  unfold World.cell?
  simp only [h]
  rfl
theorem row_cells {w : World} {a : Addr} {n : Nat} {q : Value → Prop} {arr : Array Value} {T : TypeId} {fz : Nat × Nat} (hs : a.spot = none) (ha : w.heap[a.block]? = some (.cells arr T fz))
    (h : ∀ m, m < n → ∃ v, w.cell? (a.add m) = some v ∧ q v) : ((arr.toList.drop a.off).take n).length = n ∧ ∀ v ∈ (arr.toList.drop a.off).take n, q v := by
  have h' : ∀ m, m < n → ∃ v, arr[a.off + m]? = some v ∧ q v := fun m hm => by
    obtain ⟨v, h1, h2⟩ := h m hm
    rw [add_at a m hs, cellq_at ha] at h1
    exact ⟨v, h1, h2⟩
  have hlen : ((arr.toList.drop a.off).take n).length = n := by
    cases n with
    | zero => simp
    | succ n =>
      obtain ⟨v, h1, _⟩ := h' n (by omega)
      have := (Array.getElem?_eq_some_iff.1 h1).1
      simp; omega
  refine ⟨hlen, fun v hv => ?_⟩
  obtain ⟨m, hm⟩ := List.getElem?_of_mem hv
  have hmn : m < n := by
    have := (List.getElem?_eq_some_iff.1 hm).1
    omega
  obtain ⟨u, h1, h2⟩ := h' m hmn
  rw [List.getElem?_take_of_lt hmn, List.getElem?_drop, Array.getElem?_toList] at hm
  rw [h1] at hm
  cases hm
  exact h2

theorem sl_open {T e : TypeId} {k : K} {z fuel : Nat} {cs : List Value} {x : DataW H × List MemPlace} (ht : P.underlying T = some (.slice e)) (hz : P.cellsOf e = z) (hz0 : 0 < z)
    (hel : ∀ n cs y, DataW.trod enc P w 0 (fun _ => true) held n e cs = some y → ∀ v ∈ cs, k.cell v)
    (h : DataW.trod enc P w 0 (fun _ => true) held fuel T cs = some x) (hs : ∀ v ∈ cs, SlOk w v) :
    ∃ v len u, cs = [v] ∧ k.vOf u ∧ u.len = len * z ∧ (S.xs z (.s len) u).rel A0 w v ∧ one1 v = true ∧ ((∀ y ∈ x.1.weights P T, y < 2 ^ 47) → len * P.bytesOf e < 2 ^ 47) := by
  rcases Deep.open_slice ht h with ⟨rfl, rfl⟩ | ⟨a, len, cap, m, n, D, Pl, rfl, _, hl, _, hm, rfl, hi⟩
  · obtain ⟨u, h1, h2, h3⟩ := K.v_ok (k := k) (A := A0) (w := w) (cs := []) (by simp)
    refine ⟨_, 0, u, rfl, h1, by simpa using h2, ⟨hz0, [], h3, .inl ⟨⟨_, rfl⟩, rfl⟩, by simp [I.val]⟩, rfl, fun _ => by omega⟩
  · obtain ⟨hsp, arr, T', fz, ha⟩ := hs _ (by simp) a len cap rfl
    subst hz
    have hlm : len ≤ m := by rw [hm]; split <;> omega
    have hc : ∀ j, j < len * P.cellsOf e → ∃ v, w.cell? (a.add j) = some v ∧ k.cell v := by
      intro j hj
      obtain ⟨cs', g1, g2⟩ := hi (j / P.cellsOf e) (by
        have : j / P.cellsOf e < len := (Nat.div_lt_iff_lt_mul hz0).2 hj
        omega)
      obtain ⟨_, g3, g4⟩ := World.cells?_some g1
      have g5 := g4 (j % P.cellsOf e) (Nat.mod_lt _ hz0)
      rw [Deep.add_add, Nat.div_add_mod'] at g5
      have hlt : j % P.cellsOf e < cs'.length := by rw [g3]; exact Nat.mod_lt _ hz0
      rw [List.getElem?_eq_getElem hlt] at g5
      exact ⟨_, g5, hel _ _ _ g2 _ (List.getElem_mem hlt)⟩
    obtain ⟨q1, q2⟩ := row_cells hsp ha hc
    obtain ⟨u, h1, h2, h3⟩ := K.v_ok (A := A0) (w := w) q2
    obtain ⟨b, o, sp⟩ := a
    simp only at hsp; subst hsp
    refine ⟨_, len, u, rfl, h1, h2.trans q1, ⟨hz0, _, h3, .inr ⟨b, o, len, cap, arr, T', fz, rfl, hl, q1.symm, fun _ => by simp, ha, rfl⟩, by simpa [I.val] using q1.symm⟩, rfl, fun hw => ?_⟩
    have := hw (((List.range len).map D).length * P.bytesOf e + ((List.range (m - len)).map fun j => D (len + j)).length * P.bytesOf e) (by
      show _ ∈ DataW.weights P T (.slice _ _)
      simp only [DataW.weights, ht]
      rw [Nat.add_mul]
      exact .head _)
    simp only [List.length_map, List.length_range] at this
    omega

theorem MatchC.append : ∀ {a b : List Sh} {x y : List Ch}, MatchC a x → MatchC b y → MatchC (a ++ b) (x ++ y)
  | [], _, _, _, h, k => by subst h; exact k
  | .one _ :: _, _, _, _, h, k => by obtain ⟨s, r, rfl, h1, h2⟩ := h; exact ⟨s, _, rfl, h1, h2.append k⟩
  | .str :: _, _, _, _, h, k => by obtain ⟨s, r, rfl, h1, h2⟩ := h; exact ⟨s, _, rfl, h1, h2.append k⟩
  | .arr _ _ :: _, _, _, _, h, k => by obtain ⟨s, r, rfl, h1, h3, h2⟩ := h; exact ⟨s, _, rfl, h1, h3, h2.append k⟩
  | .sl _ :: _, _, _, _, h, k => by obtain ⟨s, r, rfl, h1, h3, h2⟩ := h; exact ⟨s, _, rfl, h1, h3, h2.append k⟩
  | .slz _ _ :: _, _, _, _, h, k => by obtain ⟨s, n, r, rfl, h1, h3, h4, h2⟩ := h; exact ⟨s, n, _, rfl, h1, h3, h4, h2.append k⟩
  | .sls :: _, _, _, _, h, k => by obtain ⟨l, r, rfl, h1, h3, h2⟩ := h; exact ⟨l, _, rfl, h1, h3, h2.append k⟩
theorem K.cells_of {k : K} {x : Vec} {cs : List Value} (hx : k.vOf x) (h : x.rel A0 w cs) : ∀ v ∈ cs, k.cell v := by
  intro v hv
  cases k
  case i64 =>
    obtain ⟨l, hl, rfl⟩ := hx
    simp only [Vec.rel] at h; subst h
    obtain ⟨y, hy, rfl⟩ := List.mem_map.1 hv
    exact ⟨y, hl y hy, rfl⟩
  all_goals
    obtain ⟨l, rfl⟩ := hx
    simp only [Vec.rel] at h; subst h
    obtain ⟨y, hy, rfl⟩ := List.mem_map.1 hv
    exact ⟨y, trivial, rfl⟩
theorem weightsAll_mem {e : TypeId} : ∀ {ds : List (DataW H)} {d : DataW H}, d ∈ ds → ∀ n ∈ d.weights P e, n ∈ DataW.weightsAll P e ds
  | d0 :: ds, d, hd, n, hn => by
    simp only [DataW.weightsAll, List.mem_append]
    rcases List.mem_cons.1 hd with rfl | hd
    · exact .inl hn
    · exact .inr (weightsAll_mem hd n hn)
  | [], _, hd, _, _ => by simp at hd
theorem arr_cells {e : TypeId} {k : K} {n m : Nat} {cs : List Value} (hc : P.cellsOf e = 1) (hk : kindOf (P.underlying e) = some k) (hl : cs.length = n)
    (h : ∀ i, i < n → ∃ y, DataW.trod enc P w 0 (fun _ => true) held m e ((cs.drop (i * P.cellsOf e)).take (P.cellsOf e)) = some y) : ∀ v ∈ cs, k.cell v := by
  intro v hv
  obtain ⟨i, hi⟩ := List.getElem?_of_mem hv
  have hlt := (List.getElem?_eq_some_iff.1 hi).1
  obtain ⟨y, hy⟩ := h i (by omega)
  obtain ⟨u, h1, h2⟩ := kind_cell hk hy
  rw [hc, Nat.mul_one] at h1
  have : ((cs.drop i).take 1)[0]? = some u := by rw [h1]; rfl
  rw [List.getElem?_take_of_lt (by omega), List.getElem?_drop, Nat.add_zero, hi] at this
  cases this
  exact h2
theorem times_eq {α : Type} : ∀ (n : Nat) (l acc : List α), times n l acc = (List.replicate n l).flatten ++ acc
  | 0, l, acc => rfl
  | n + 1, l, acc => by
    rw [times, times_eq n, List.replicate_succ', List.flatten_append]
    simp

theorem match_fields {d n : Nat} {cs : List Value}
    (ih : ∀ (T : TypeId) (sh : List Sh) (fuel : Nat) (cs : List Value) (x : DataW H × List MemPlace), shape P d T = some sh → DataW.trod enc P w 0 (fun _ => true) held fuel T cs = some x → (∀ v ∈ cs, SlOk w v) → (∀ y ∈ x.1.weights P T, y < 2 ^ 47) → ∃ chs, MatchC sh chs ∧ ChsRel A0 w chs cs)
    (hs : ∀ v ∈ cs, SlOk w v) : ∀ (fs : List Field) (o : Nat) (sh : List Sh), fieldsAt P o fs = some cs.length → catM (fun f => shape P d f.type) fs = some sh →
      (∀ f ∈ fs, ∃ y, DataW.trod enc P w 0 (fun _ => true) held n f.type ((cs.drop f.offset).take (P.cellsOf f.type)) = some y ∧ ∀ z ∈ y.1.weights P f.type, z < 2 ^ 47) → ∃ chs, MatchC sh chs ∧ ChsRel A0 w chs (cs.drop o)
  | [], o, sh, h1, h2, _ => by
    cases h2; cases h1
    exact ⟨[], rfl, by simp [ChsRel]⟩
  | f :: r, o, sh, h1, h2, h3 => by
    unfold fieldsAt at h1
    split at h1
    · rename_i ho
      have ho := Nat.eq_of_beq_eq_true ho
      unfold catM at h2
      split at h2
      · cases h2
      rename_i l hl
      split at h2
      · cases h2
      rename_i r' hr
      cases h2
      obtain ⟨y, g1, g2⟩ := h3 f (by simp)
      obtain ⟨chs1, k1, k2⟩ := ih _ _ _ _ _ hl g1 (fun v hv => hs v (List.mem_of_mem_drop (List.mem_of_mem_take hv))) g2
      obtain ⟨chs2, k3, k4⟩ := match_fields ih hs r _ _ h1 hr fun g hg => h3 g (by simp [hg])
      refine ⟨chs1 ++ chs2, k1.append k3, ?_⟩
      have e : cs.drop o = (cs.drop f.offset).take (P.cellsOf f.type) ++ cs.drop (o + P.cellsOf f.type) := by
        rw [ho, ← List.drop_drop, List.take_append_drop]
      rw [e]
      exact k2.append k4
    · cases h1
theorem match_elems {d m z : Nat} {e : TypeId} {sh0 : List Sh}
    (ih : ∀ (T : TypeId) (sh : List Sh) (fuel : Nat) (cs : List Value) (x : DataW H × List MemPlace), shape P d T = some sh → DataW.trod enc P w 0 (fun _ => true) held fuel T cs = some x → (∀ v ∈ cs, SlOk w v) → (∀ y ∈ x.1.weights P T, y < 2 ^ 47) → ∃ chs, MatchC sh chs ∧ ChsRel A0 w chs cs)
    (hsh : shape P d e = some sh0) (hz : P.cellsOf e = z) : ∀ (n : Nat) (cs : List Value), cs.length = n * z → (∀ v ∈ cs, SlOk w v) →
      (∀ i, i < n → ∃ y, DataW.trod enc P w 0 (fun _ => true) held m e ((cs.drop (i * z)).take z) = some y ∧ ∀ t ∈ y.1.weights P e, t < 2 ^ 47) → ∃ chs, MatchC (List.replicate n sh0).flatten chs ∧ ChsRel A0 w chs cs ∧ ∀ k m, sh0 = [.arr m k] → (∀ v ∈ cs, k.cell v) ∧ cs.length = n * m
  | 0, cs, hl, _, _ => by
    have : cs = [] := List.length_eq_zero_iff.1 (by omega)
    subst this
    exact ⟨[], rfl, rfl, fun k m _ => ⟨by simp, by simp⟩⟩
  | n + 1, cs, hl, hs, h => by
    obtain ⟨y, g1, g2⟩ := h 0 (by omega)
    rw [Nat.zero_mul, List.drop_zero] at g1
    obtain ⟨c1, k1, k2⟩ := ih _ _ _ _ _ hsh g1 (fun v hv => hs v (List.mem_of_mem_take hv)) g2
    obtain ⟨c2, k3, k4, k5⟩ := match_elems ih hsh hz n (cs.drop z) (by rw [List.length_drop, hl, Nat.succ_mul]; omega) (fun v hv => hs v (List.mem_of_mem_drop hv)) fun i hi => by
      obtain ⟨y, q1, q2⟩ := h (i + 1) (by omega)
      refine ⟨y, ?_, q2⟩
      rw [List.drop_drop, show z + i * z = (i + 1) * z by rw [Nat.succ_mul]; omega]
      exact q1
    refine ⟨c1 ++ c2, ?_, ?_, ?_⟩
    · rw [List.replicate_succ, List.flatten_cons]; exact k1.append k3
    · rw [← List.take_append_drop z cs]; exact k2.append k4
    · intro k m e
      obtain ⟨k7, k6⟩ := k5 k m e
      subst e
      obtain ⟨x, r, rfl, q1, q2, rfl⟩ := k1
      obtain ⟨a, t, e1, e2, e3, e4⟩ := k2
      have e4 : t = [] := e4
      subst e4
      rw [List.append_nil] at e1
      have e2 : a.length = m := e2
      refine ⟨fun v hv => ?_, ?_⟩
      · rw [← List.take_append_drop z cs] at hv
        rcases List.mem_append.1 hv with hv | hv
        · rw [e1] at hv
          exact K.cells_of q1 e3 v hv
        · exact k7 v hv
      · rw [← List.take_append_drop z cs, List.length_append, k6, e1, e2, Nat.succ_mul]; omega
theorem cell_some {w : World} {a : Addr} {v : Value} (h : w.cell? a = some v) : a.spot = none ∧ ∃ arr T fz, w.heap[a.block]? = some (.cells arr T fz) := by
  unfold World.cell? at h
  split at h
  · rename_i c T fz hc
    split at h
    · cases h
    · rename_i hs
      exact ⟨by simpa using hs, _, _, _, hc⟩
  · cases h
theorem byte_row {e e' : TypeId} {fuel : Nat} {u : Value} {y : DataW H × List MemPlace} (he : P.underlying e = some (.slice e')) (hk : kindOf (P.underlying e') = some .u8) (hc : P.cellsOf e' = 1) (hb : 0 < P.bytesOf e')
    (h : DataW.trod enc P w 0 (fun _ => true) held fuel e [u] = some y) (hw : ∀ t ∈ y.1.weights P e, t < 2 ^ 47) : ∃ x : List UInt8, XB A0 w (x.map eu8) 1 u ∧ x.length < 2 ^ 47 := by
  by_cases hemp : Emp u
  · exact ⟨[], .inl ⟨hemp, rfl⟩, by simp⟩
  have hs : SlOk w u := by
    rcases Deep.open_slice he h with ⟨h1, _⟩ | ⟨a, len, cap, m, n, D, Pl, h1, _, hl, _, hm, _, hi⟩
    · cases h1
      exact absurd ⟨none, rfl⟩ hemp
    · cases h1
      intro a2 len2 cap2 e2
      cases e2
      have hm : m = cap := by simpa using hm
      subst hm
      by_cases c0 : m = 0
      · subst c0
        have : len = 0 := by omega
        subst this
        exact absurd ⟨some a, rfl⟩ hemp
      · obtain ⟨cs', g1, _⟩ := hi 0 (by omega)
        obtain ⟨_, g3, g4⟩ := World.cells?_some g1
        have g5 := g4 0 (by rw [hc]; omega)
        rw [Nat.zero_mul] at g5
        have a0 : (a.add 0).add 0 = a := rfl
        rw [a0, List.getElem?_eq_getElem (by rw [g3, hc]; omega)] at g5
        exact cell_some g5
  obtain ⟨v, len, x, e1, h1, h2, h3, _, h5⟩ := sl_open (z := 1) (k := .u8) he hc (by omega) (fun n cs y hy v hv => by
    obtain ⟨u, rfl, hu⟩ := kind_cell hk hy
    simp at hv; subst hv; exact hu) h (fun v hv => by simp at hv; subst hv; exact hs)
  cases e1
  obtain ⟨l, rfl⟩ := h1
  obtain ⟨_, cl, q1, q2, q3⟩ := h3
  have q1 : cl = l.map eu8 := q1
  subst q1
  have h2 : l.length = len * 1 := h2
  refine ⟨l, q2, ?_⟩
  have h5 := h5 hw
  have : len ≤ len * P.bytesOf e' := Nat.le_mul_of_pos_right _ hb
  omega
theorem rows_of {cs : List Value} (h : ∀ v ∈ cs, ∃ x : List UInt8, XB A0 w (x.map eu8) 1 v ∧ x.length < 2 ^ 47) :
    ∃ l : List (List UInt8), l.length = cs.length ∧ (∀ (i : Nat) (x : List UInt8) (v : Value), l[i]? = some x → cs[i]? = some v → XB A0 w (x.map eu8) 1 v) ∧ ∀ x ∈ l, x.length < 2 ^ 47 := by
  induction cs with
  | nil => exact ⟨[], rfl, fun i x v h1 h2 => by simp at h1, by simp⟩
  | cons c cs ih =>
    obtain ⟨x, h1, h2⟩ := h c (by simp)
    obtain ⟨l, k1, k2, k3⟩ := ih fun v hv => h v (by simp [hv])
    refine ⟨x :: l, by simp [k1], fun i y v hy hv => ?_, fun y hy => ?_⟩
    · cases i with
      | zero => simp at hy hv; subst hy hv; exact h1
      | succ i => simp at hy hv; exact k2 i y v hy hv
    · rcases List.mem_cons.1 hy with rfl | hy
      · exact h2
      · exact k3 y hy
theorem sls_open {T e e' : TypeId} {fuel : Nat} {cs : List Value} {x : DataW H × List MemPlace} (ht : P.underlying T = some (.slice e)) (he : P.underlying e = some (.slice e')) (hk : kindOf (P.underlying e') = some .u8) (hc : P.cellsOf e = 1) (hc' : P.cellsOf e' = 1)
    (hb : 0 < P.bytesOf e) (hb' : 0 < P.bytesOf e') (h : DataW.trod enc P w 0 (fun _ => true) held fuel T cs = some x) (hs : ∀ v ∈ cs, SlOk w v) (hw : ∀ y ∈ x.1.weights P T, y < 2 ^ 47) :
    ∃ v l, cs = [v] ∧ l.length < 2 ^ 47 ∧ (∀ x ∈ l, x.length < 2 ^ 47) ∧ (S.xs 1 (.s l.length) (.sl l)).rel A0 w v ∧ one1 v = true := by
  rcases Deep.open_slice ht h with ⟨rfl, rfl⟩ | ⟨a, len, cap, m, n, D, Pl, rfl, _, hl, _, hm, rfl, hi⟩
  · exact ⟨_, [], rfl, by simp, by simp, ⟨Nat.one_pos, [], ⟨rfl, fun i x v h1 h2 => by simp at h1⟩, .inl ⟨⟨_, rfl⟩, rfl⟩, by simp [I.val]⟩, rfl⟩
  · obtain ⟨hsp, arr, T', fz, ha⟩ := hs _ (by simp) a len cap rfl
    have hm : m = cap := by simpa using hm
    have hweights : ∀ j, j < len → ∀ t ∈ (D j).weights P e, t < 2 ^ 47 := fun j hj t htt => by
      refine hw t ?_
      show t ∈ DataW.weights P T (.slice _ _)
      simp only [DataW.weights, ht]
      refine List.mem_cons_of_mem _ (List.mem_append_left _ (weightsAll_mem (d := D j) (List.mem_map.2 ⟨j, by simpa using hj, rfl⟩) t htt))
    have hcell : ∀ j, j < len → ∃ v, w.cell? (a.add j) = some v ∧ ∃ x : List UInt8, XB A0 w (x.map eu8) 1 v ∧ x.length < 2 ^ 47 := by
      intro j hj
      obtain ⟨cs', g1, g2⟩ := hi j (by omega)
      rw [hc] at g1
      obtain ⟨_, g3, g4⟩ := World.cells?_some g1
      have g5 := g4 0 (by omega)
      rw [Nat.mul_one] at g5
      have a0 : (a.add j).add 0 = a.add j := rfl
      rw [a0] at g5
      match cs', g3 with
      | [u], _ => exact ⟨u, g5, byte_row he hk hc' hb' g2 (hweights j hj)⟩
    obtain ⟨q1, q2⟩ := row_cells hsp ha hcell
    obtain ⟨l, k1, k2, k3⟩ := rows_of q2
    obtain ⟨b, o, sp⟩ := a
    simp only at hsp; subst hsp
    rw [q1] at k1
    subst k1
    refine ⟨_, l, rfl, ?_, k3, ⟨Nat.one_pos, _, ⟨q1.symm, k2⟩, .inr ⟨b, o, l.length, cap, arr, T', fz, rfl, hl, by rw [Nat.mul_one]; exact q1.symm, fun _ => by simp, ha, by rw [Nat.mul_one]⟩, by simp only [I.val]; rw [Nat.mul_one]; exact q1.symm⟩, rfl⟩
    have := hw (((List.range l.length).map D).length * P.bytesOf e + ((List.range (m - l.length)).map fun j => D (l.length + j)).length * P.bytesOf e) (by
      show _ ∈ DataW.weights P T (.slice _ _)
      simp only [DataW.weights, ht]
      rw [Nat.add_mul]
      exact .head _)
    simp only [List.length_map, List.length_range] at this
    have h2 : l.length ≤ l.length * P.bytesOf e := Nat.le_mul_of_pos_right _ hb
    omega
theorem eqO_true {x : Option Nat} {n : Nat} (h : eqO x n = true) : x = some n := by
  unfold eqO at h
  split at h
  · rw [Nat.eq_of_beq_eq_true h]
  · cases h
theorem trod_match : ∀ (d : Nat) (T : TypeId) (sh : List Sh) (fuel : Nat) (cs : List Value) (x : DataW H × List MemPlace), shape P d T = some sh → DataW.trod enc P w 0 (fun _ => true) held fuel T cs = some x → (∀ v ∈ cs, SlOk w v) → (∀ y ∈ x.1.weights P T, y < 2 ^ 47) → ∃ chs, MatchC sh chs ∧ ChsRel A0 w chs cs
  | 0, _, _, _, _, _, h, _, _, _ => by cases h
  | d + 1, T, sh, fuel, cs, x, h, ht, hs, hw => by
    have one : ∀ k, kindOf (P.underlying T) = some k → ∃ chs, MatchC [.one k] chs ∧ ChsRel A0 w chs cs := fun k hk => by
      obtain ⟨v, rfl, hc⟩ := kind_cell hk ht
      obtain ⟨s, h1, h2, h3⟩ := K.s_ok (A := A0) (w := w) hc
      exact ⟨[.one s], ⟨s, [], rfl, h1, rfl⟩, ⟨v, [], rfl, h2, h3, rfl⟩⟩
    unfold shape at h
    split at h
    · rename_i hT
      cases h
      exact one _ (by rw [hT]; rfl)
    · rename_i hT
      split at h <;> cases h
      rename_i k hk
      exact one k hk
    · rename_i hT
      cases h
      obtain ⟨s, rfl, rfl, _⟩ := DataW.trod_string hT ht
      have := hw s.data.toList.length (by simp [DataW.weights])
      exact ⟨[.one (.str s.data.toList)], ⟨_, [], rfl, this, rfl⟩, ⟨_, [], rfl, by simp [S.rel, S.sc], rfl, rfl⟩⟩
    · rename_i e hT
      split at h
      · cases h
      rename_i hb
      have hb : 0 < P.bytesOf e := by simpa using hb
      split at h
      · rename_i k hk hc
        cases h
        obtain ⟨v, len, u, rfl, h1, h2, h3, h4, h5⟩ := sl_open (z := 1) (k := k) hT (Nat.eq_of_beq_eq_true hc) (by omega) (fun n cs y hy v hv => by
          obtain ⟨u, rfl, hu⟩ := kind_cell hk hy
          simp at hv; subst hv; exact hu) ht hs
        have h5 := h5 hw
        rw [Nat.mul_one] at h2
        rw [← h2] at h3 h5
        refine ⟨[.one (.xs 1 (.s u.len) u)], ⟨u, [], rfl, h1, ?_, rfl⟩, ⟨v, [], rfl, h3, h4, rfl⟩⟩
        exact Nat.lt_of_le_of_lt (Nat.le_mul_of_pos_right _ hb) h5
      · split at h
        · rename_i n e' he
          split at h <;> cases h
          rename_i k hk hc1 hc2 hn hbn
          have hn : 0 < n := by simpa using hn
          obtain ⟨v, len, u, rfl, h1, h2, h3, h4, h5⟩ := sl_open (z := n) (k := k) hT (Nat.eq_of_beq_eq_true hc1) hn (fun m cs y hy => by
            obtain ⟨xs, m', _, _, g1, g2, g3⟩ := DataW.trod_array he hy
            refine arr_cells (m := m') (enc := enc) (P := P) (w := w) (held := held) (Nat.eq_of_beq_eq_true hc2) hk (n := n) (g1.trans (Nat.eq_of_beq_eq_true hc1)) fun i hi => ?_
            exact ⟨_, (g3 i hi).trans (List.getElem?_eq_getElem (by omega))⟩) ht hs
          have h5 := h5 hw
          refine ⟨[.one (.xs n (.s len) u)], ⟨u, len, [], rfl, h1, h2, ?_, rfl⟩, ⟨v, [], rfl, h3, h4, rfl⟩⟩
          rw [h2]
          exact Nat.lt_of_le_of_lt (Nat.mul_le_mul_left _ (Nat.le_of_ble_eq_true hbn)) h5
        · rename_i e' he
          split at h <;> cases h
          rename_i hk hc1 hc2 hb2
          obtain ⟨v, l, rfl, q1, q2, q3, q4⟩ := sls_open hT he hk (Nat.eq_of_beq_eq_true hc1) (Nat.eq_of_beq_eq_true hc2) hb (by simpa using hb2) ht hs hw
          exact ⟨[.one (.xs 1 (.s l.length) (.sl l))], ⟨l, [], rfl, q1, q2, rfl⟩, ⟨v, [], rfl, q3, q4, rfl⟩⟩
        · cases h
    · rename_i n e hT
      obtain ⟨xs, m, _, hx, g1, g2, g3⟩ := DataW.trod_array hT ht
      have hwe : ∀ (i : Nat) (y : DataW H × List MemPlace), xs[i]? = some y → ∀ t ∈ y.1.weights P e, t < 2 ^ 47 := fun i y hy t htt => by
        refine hw t ?_
        rw [hx]
        show t ∈ DataW.weights P T (.agg _)
        simp only [DataW.weights, hT]
        exact weightsAll_mem (d := y.1) (List.mem_map.2 ⟨y, List.mem_of_getElem? hy, rfl⟩) t htt
      split at h
      · rename_i k hk hc hc2
        cases h
        have hall := arr_cells (m := m) (enc := enc) (P := P) (w := w) (held := held) (Nat.eq_of_beq_eq_true hc) hk (n := n) (g1.trans (Nat.eq_of_beq_eq_true hc2)) fun i hi => ⟨_, (g3 i hi).trans (List.getElem?_eq_getElem (by omega))⟩
        obtain ⟨u, k1, k2, k3⟩ := K.v_ok (A := A0) (w := w) hall
        rw [g1, Nat.eq_of_beq_eq_true hc2] at k2
        exact ⟨[.vec (.n n) u], ⟨u, [], rfl, k1, k2, rfl⟩, ⟨cs, [], by simp, by simp [I.val, g1, Nat.eq_of_beq_eq_true hc2], k3, rfl⟩⟩
      · split at h
        · rename_i sh0 hsh hc
          cases h
          have hlen := g1.trans (Nat.eq_of_beq_eq_true hc)
          obtain ⟨chs, k1, k2, k3⟩ := match_elems (trod_match d) hsh rfl n cs hlen hs fun i hi => by
            have hi' : i < xs.length := by omega
            exact ⟨xs[i], by rw [g3 i hi, List.getElem?_eq_getElem hi'], hwe i _ (List.getElem?_eq_getElem hi')⟩
          unfold mergeSh
          split
          · rename_i m' k hn
            obtain ⟨k3, hz⟩ := k3 k m' rfl
            obtain ⟨u, q1, q2, q3⟩ := K.v_ok (A := A0) (w := w) k3
            exact ⟨[.vec (.n (n * m')) u], ⟨u, [], rfl, q1, q2.trans hz, rfl⟩, ⟨cs, [], by simp, hz, q3, rfl⟩⟩
          · rw [times_eq, List.append_nil]
            exact ⟨chs, k1, k2⟩
        · cases h
      · cases h
    · rename_i fs hT
      split at h
      · rename_i ho
        obtain ⟨xs, m, _, hx, g1, g2, g3⟩ := DataW.trod_struct hT ht
        have ho := eqO_true ho
        rw [← g1] at ho
        obtain ⟨chs, k1, k2⟩ := match_fields (trod_match d) hs fs.toList 0 sh ho h fun f hf => by
          obtain ⟨i, hi⟩ := List.getElem?_of_mem hf
          rw [Array.getElem?_toList] at hi
          have hlt := (Array.getElem?_eq_some_iff.1 hi).1
          have hi' : i < xs.length := by omega
          refine ⟨xs[i], by rw [g3 i f hi, List.getElem?_eq_getElem hi'], fun t ht' => hw t ?_⟩
          rw [hx]
          show t ∈ DataW.weights P T (.agg _)
          simp only [DataW.weights, hT]
          refine DataW.weights_mem_each (j := i) (t := f.type) ?_ ?_ t ht'
          · rw [List.getElem?_map, Array.getElem?_toList, hi]; rfl
          · rw [List.getElem?_map, List.getElem?_eq_getElem hi']; rfl
        rw [List.drop_zero] at k2
        exact ⟨chs, k1, k2⟩
      · cases h
    · cases h
end
end Go.Eng
/- A law's statement, from its function's contract. -/
namespace Go.Eng
open Go Go.RowKit Go.ChangeShapes Go.WideShapes Go.ChangeAt

theorem slOk_cell {P : Program} {w : World} {r : Reach} {b : Nat} {u : TypeId} {v : Value} (h : Cell.okWide P w r b u v) : SlOk w v := by
  intro a len cap e
  subst e
  unfold Cell.okWide at h
  split at h <;> rename_i h1 h2 <;> try (cases h2; done)
  rename_i h3 h4 h5 h6
  unfold Cell.ok at h
  split at h <;> rename_i g1 g2 <;> try (first | (cases g2; done) | exact h.elim)
  cases g2
  obtain ⟨_, _, _, hs, row, cells, hsh, _⟩ := h
  refine ⟨hs, ?_⟩
  unfold World.shape? at hsh
  split at hsh
  · rename_i c e f hc
    exact ⟨_, _, _, hc⟩
  · cases hsh

noncomputable def MatchV (P : Program) (T : TypeId) (x : V) : Prop :=
  match isAggB P T, shape P 8 T with
  | some true, some sh => ∃ cs, x = .agg cs ∧ MatchC sh cs
  | some false, some sh => ∃ s, x = .s s ∧ MatchC sh [.one s]
  | _, _ => True
noncomputable def MatchL (P : Program) : List TypeId → List V → Prop
  | [], xs => xs = []
  | T :: Ts, xs => ∃ x r, xs = x :: r ∧ MatchV P T x ∧ MatchL P Ts r
noncomputable def shapeOk (P : Program) (T : TypeId) : Bool :=
  match isAggB P T, shape P 8 T with
  | some _, some _ => true
  | _, _ => false

noncomputable def isOneSh : Sh → Bool
  | .arr _ _ => false
  | _ => true
theorem shape_one {P : Program} {d : Nat} {T : TypeId} {sh : List Sh} (h : shape P d T = some sh) (ha : isAggB P T = some false) :
    (∃ x, sh = [x] ∧ isOneSh x = true) ∧ (P.underlying T = some .bool ∨ (∃ k, P.underlying T = some (.int k)) ∨ P.underlying T = some .string ∨ ∃ e, P.underlying T = some (.slice e)) := by
  cases d with
  | zero => cases h
  | succ d =>
    unfold shape at h
    unfold isAggB at ha
    split at h
    · rename_i hT; cases h; exact ⟨⟨_, rfl, rfl⟩, .inl hT⟩
    · rename_i hT
      split at h <;> cases h
      exact ⟨⟨_, rfl, rfl⟩, .inr (.inl ⟨_, hT⟩)⟩
    · rename_i hT; cases h; exact ⟨⟨_, rfl, rfl⟩, .inr (.inr (.inl hT))⟩
    · rename_i e hT
      refine ⟨?_, .inr (.inr (.inr ⟨e, hT⟩))⟩
      split at h
      · cases h
      split at h
      · cases h; exact ⟨_, rfl, rfl⟩
      · split at h
        · split at h <;> cases h
          exact ⟨_, rfl, rfl⟩
        · split at h <;> cases h
          exact ⟨_, rfl, rfl⟩
        · cases h
    · rename_i hT; rw [hT] at ha; cases ha
    · rename_i hT; rw [hT] at ha; cases ha
    · cases h
theorem match_one {x : Sh} {cs : List Ch} (hx : isOneSh x = true) (h : MatchC [x] cs) : ∃ s, cs = [.one s] := by
  cases x with
  | arr => cases hx
  | one k => obtain ⟨s, r, rfl, _, rfl⟩ := h; exact ⟨_, rfl⟩
  | str => obtain ⟨s, r, rfl, _, rfl⟩ := h; exact ⟨_, rfl⟩
  | sl => obtain ⟨s, r, rfl, _, _, rfl⟩ := h; exact ⟨_, rfl⟩
  | slz => obtain ⟨s, n, r, rfl, _, _, _, rfl⟩ := h; exact ⟨_, rfl⟩
  | sls => obtain ⟨l, r, rfl, _, _, rfl⟩ := h; exact ⟨_, rfl⟩

section
variable {H : Type} {enc : TypeId × Value → H} {P : Program} {W : World}
theorem arg_ok {T : TypeId} {v : Value} {d : DataW H} {p : List MemPlace} {r : Reach} {b : Nat} (hsh : shapeOk P T = true) (hok : Value.okWide P W r b T v)
    (h : DataW.Trod enc P W 0 (fun _ => true) true T v d p) (hw : ∀ y ∈ d.weights P T, y < 2 ^ 47) : ∃ x : V, MatchV P T x ∧ x.rel A0 W v := by
  obtain ⟨fuel, hf⟩ := h
  unfold shapeOk at hsh
  split at hsh
  · rename_i ag sh ha hs
    unfold MatchV
    rw [ha, hs]
    cases ag with
    | true =>
      have hv : ∃ cs, v = .agg cs ∧ cs.size = P.cellsOf T ∧ Row.okWide P W r b T cs := by
        unfold isAggB at ha
        unfold Value.okWide at hok
        split at ha <;> rename_i hT <;> (try (cases ha; done)) <;> rw [hT] at hok <;> exact hok
      obtain ⟨cs, rfl, _, ts, _, _, hall⟩ := hv
      obtain ⟨chs, h1, h2⟩ := trod_match 8 T sh fuel cs.toList (d, p) hs hf (fun v hv => by
        obtain ⟨i, hi⟩ := List.getElem?_of_mem hv
        rw [Array.getElem?_toList] at hi
        obtain ⟨u, _, hu⟩ := hall i v hi
        exact slOk_cell hu) hw
      exact ⟨.agg chs, ⟨chs, rfl, h1⟩, cs.toList, rfl, h2⟩
    | false =>
      obtain ⟨⟨x, rfl, hx⟩, hT⟩ := shape_one hs ha
      have hc : v.cells.toList = [v] ∧ SlOk W v := by
        rcases hT with hT | ⟨k, hT⟩ | hT | ⟨e, hT⟩ <;> unfold Value.okWide at hok <;> rw [hT] at hok <;> simp only [] at hok <;> refine ⟨?_, slOk_cell hok⟩ <;>
          unfold Cell.okWide Cell.ok at hok <;> rw [hT] at hok <;> cases v <;> first | rfl | exact hok.elim
      rw [hc.1] at hf
      obtain ⟨chs, h1, h2⟩ := trod_match 8 T [x] fuel [v] (d, p) hs hf (fun u hu => by
        simp at hu; subst hu; exact hc.2) hw
      obtain ⟨s, rfl⟩ := match_one hx h1
      obtain ⟨u, r, e, h3, h4, h5⟩ := h2
      cases e
      exact ⟨.s s, ⟨s, rfl, h1⟩, h3⟩
  · cases hsh
noncomputable def shapesOk (P : Program) : List TypeId → Bool
  | [] => true
  | T :: Ts => match shapeOk P T with
    | true => shapesOk P Ts
    | false => false
theorem args_ok {r : Reach} {b : Nat} : ∀ {Ts : List TypeId} {vs : List Value} {ds : List (DataW H)} {p : List MemPlace}, shapesOk P Ts = true → (∀ (j : Nat) t v, Ts[j]? = some t → vs[j]? = some v → Value.okWide P W r b t v) →
    DataW.TrodAll enc P W 0 (fun _ => true) true Ts vs ds p → (∀ y ∈ DataW.weightsEach P Ts ds, y < 2 ^ 47) → ∃ xs, MatchL P Ts xs ∧ VsRel A0 W xs vs
  | [], _, _, _, _, _, h, _ => by
    obtain ⟨rfl, rfl, rfl⟩ := trodAll_nil h
    exact ⟨[], rfl, rfl⟩
  | T :: Ts, _, _, _, hsh, hok, h, hw => by
    obtain ⟨v, vs, d, ds, p, q, rfl, rfl, rfl, h1, h2⟩ := trodAll_cons h
    unfold shapesOk at hsh
    split at hsh
    · rename_i hs
      obtain ⟨x, k1, k2⟩ := arg_ok hs (hok 0 T v rfl rfl) h1 fun y hy => hw y (by simp only [DataW.weightsEach, List.mem_append]; exact .inl hy)
      obtain ⟨xs, k3, k4⟩ := args_ok hsh (fun j t v ht hv => hok (j + 1) t v (by simpa using ht) (by simpa using hv)) h2 fun y hy => hw y (by simp only [DataW.weightsEach, List.mem_append]; exact .inr hy)
      exact ⟨x :: xs, ⟨x, xs, rfl, k1, k3⟩, ⟨v, vs, rfl, k2, k4⟩⟩
    · cases hsh
noncomputable def readsOk (P : Program) (T : TypeId) : Bool := P.readableRec T && decide (T < P.types.size)
theorem trodAll_below (hl : laidOutB P = true) {W' : World} (hb : Below W.heap.size W W') : ∀ {Ts : List TypeId} {vs : List Value} {ds : List (DataW H)} {p : List MemPlace}, Ts.all (readsOk P) = true →
    DataW.TrodAll enc P W 0 (fun _ => true) true Ts vs ds p → DataW.TrodAll enc P W' 0 (fun b => decide (b < W.heap.size)) true Ts vs ds p
  | [], _, _, _, _, h => by
    obtain ⟨rfl, rfl, rfl⟩ := trodAll_nil h
    exact rfl
  | T :: Ts, _, _, _, hr, h => by
    obtain ⟨v, vs, d, ds, p, q, rfl, rfl, rfl, h1, h2⟩ := trodAll_cons h
    simp only [List.all_cons, Bool.and_eq_true, readsOk, decide_eq_true_eq] at hr
    refine trodAll_cons_mk (Below.trod hl hr.1.1 hr.1.2 h1 hb ?_) (trodAll_below hl hb (by simpa [readsOk] using hr.2) h2)
    obtain ⟨m, hm⟩ := h1
    exact DataW.trod_lt m _ _ _ hm
theorem trodAll_len : ∀ {Ts : List TypeId} {vs : List Value} {ds : List (DataW H)} {p : List MemPlace}, DataW.TrodAll enc P W 0 (fun _ => true) true Ts vs ds p → ds.length = Ts.length
  | [], _, _, _, h => by obtain ⟨rfl, rfl, rfl⟩ := trodAll_nil h; rfl
  | T :: Ts, _, _, _, h => by
    obtain ⟨v, vs, d, ds, p, q, rfl, rfl, rfl, h1, h2⟩ := trodAll_cons h
    simp [trodAll_len h2]

theorem matchL_agg {T : TypeId} {Ts : List TypeId} {xs : List V} {sh : List Sh} (h : MatchL P (T :: Ts) xs) (ha : isAggB P T = some true) (hs : shape P 8 T = some sh) : ∃ cs r, xs = V.agg cs :: r ∧ MatchC sh cs ∧ MatchL P Ts r := by
  obtain ⟨x, r, rfl, h1, h2⟩ := h
  unfold MatchV at h1
  rw [ha, hs] at h1
  obtain ⟨cs, rfl, h3⟩ := h1
  exact ⟨cs, r, rfl, h3, h2⟩
theorem matchL_one {T : TypeId} {Ts : List TypeId} {xs : List V} {k : K} (h : MatchL P (T :: Ts) xs) (ha : isAggB P T = some false) (hs : shape P 8 T = some [.one k]) : ∃ s r, xs = V.s s :: r ∧ k.sOf s ∧ MatchL P Ts r := by
  obtain ⟨x, r, rfl, h1, h2⟩ := h
  unfold MatchV at h1
  rw [ha, hs] at h1
  obtain ⟨s, rfl, s', r', e, h3, _⟩ := h1
  cases e
  exact ⟨s, r, rfl, h3, h2⟩
theorem matchL_sl {T : TypeId} {Ts : List TypeId} {xs : List V} {k : K} (h : MatchL P (T :: Ts) xs) (ha : isAggB P T = some false) (hs : shape P 8 T = some [.sl k]) : ∃ x r, xs = V.s (.xs 1 (.s x.len) x) :: r ∧ k.vOf x ∧ x.len < 2 ^ 47 ∧ MatchL P Ts r := by
  obtain ⟨x, r, rfl, h1, h2⟩ := h
  unfold MatchV at h1
  rw [ha, hs] at h1
  obtain ⟨s, rfl, s', r', e, h3, h4, _⟩ := h1
  cases e
  exact ⟨s', r, rfl, h3, h4, h2⟩
theorem matchL_sls {T : TypeId} {Ts : List TypeId} {xs : List V} (h : MatchL P (T :: Ts) xs) (ha : isAggB P T = some false) (hs : shape P 8 T = some [.sls]) : ∃ l r, xs = V.s (.xs 1 (.s l.length) (.sl l)) :: r ∧ l.length < 2 ^ 47 ∧ (∀ x ∈ l, x.length < 2 ^ 47) ∧ MatchL P Ts r := by
  obtain ⟨x, r, rfl, h1, h2⟩ := h
  unfold MatchV at h1
  rw [ha, hs] at h1
  obtain ⟨s, rfl, l, r', e, h3, h4, _⟩ := h1
  cases e
  exact ⟨l, r, rfl, h3, h4, h2⟩
theorem law_lifted {C : Checked} {os : Os} (started : os.Started) {f : FuncId} {fn : Func} {s : ChangeSpec} {rt : TypeId}
    (own : ownKnob C.prog.godebug = none) (laid : laidOutB C.prog = true) (noInit : C.prog.inits.idxOf? f = none) (hfn : C.prog.funcs[f]? = some fn)
    (hvars : s.vars = []) (hs : ∀ (ds : List (DataW H)), ds.length = fn.params.size → s.fn H ds = { results := [.lit (.bool true)], args := ds })
    (hrt : fn.resultTypes = #[rt]) (hb : C.prog.underlying rt = some .bool)
    (hsh : shapesOk C.prog fn.params.toList = true) (hrd : fn.params.toList.all (readsOk C.prog) = true)
    (con : ∀ xs, MatchL C.prog fn.params.toList xs → ∀ (w : World) (vals : List Value), VsRel A0 w xs vals → Calls C.prog f vals.toArray w fun e w' => e = .returned (.bool true) ∧ Below w.heap.size w w')
    (witness : ∃ (w : World) (tape : Tape) (i : Input), w.os = os ∧ (w.forCall tape i).Shaped C.prog ∧ i.vars = [] ∧ Input.okWide C.prog (w.forCall tape i) .any w.heap.size f i ∧
      s.pre6 enc C.prog fn [] false (w.forCall tape i).memory i.args ∧ ({} : Assume).holds C.prog (lone (Frame.enter C.prog f i.args .normal) [] (w.forCall tape i))) :
    ReturnsInHanded {} C os f .any (s.pre6 enc C.prog fn [] false) (s.post enc C.prog fn false true false false) := by
  refine returnsInHanded_of_change_sized (C := C) own started noInit hfn witness ?_
  intro W base args ds gs before hval hW _ hwt _
  have hW' := hW
  obtain ⟨p, q, hA, hV, rfl, hfz, hnd⟩ := hW
  rw [hvars] at hV
  obtain ⟨rfl, rfl⟩ := trodVars_none hV
  have hwt' : ∀ y ∈ DataW.weightsEach C.prog fn.params.toList ds, y < 2 ^ 47 := by
    intro y hy
    have e : s.plain.varTypes C.prog = [] := by
      unfold DataSpec.varTypes ChangeSpec.plain
      simp [hvars]
    rw [e, List.append_nil, List.append_nil] at hwt
    have := List.all_eq_true.1 hwt y hy
    have h1 : y ≤ reachBytes := by simpa using this
    exact Nat.lt_of_le_of_lt h1 reachBytes_lt
  obtain ⟨xs, k1, k2⟩ := args_ok hsh (fun j t v ht hv => hval j t v (by simpa using ht) (by simpa using hv)) hA hwt'
  have := con xs k1 W args.toList k2
  rw [Array.toArray_toList] at this
  refine this.mono fun e W' ⟨he, hb'⟩ => ?_
  subst he
  have hlen := trodAll_len hA
  have hfn' := hs ds (by simpa using hlen)
  refine ⟨_, rfl, ds, [], _, [], p, [], hW', ?_, ?_, ?_, hb'.frame _, fun h => by cases h⟩
  · rw [List.append_nil, hfn', hrt]
    exact trodAll_mk1 (shut_bool hb true)
  · rw [List.append_nil, hfn']
    exact trodAll_below laid hb' hrd hA
  · rw [hvars, List.append_nil, hfn']
    rfl
end
end Go.Eng
