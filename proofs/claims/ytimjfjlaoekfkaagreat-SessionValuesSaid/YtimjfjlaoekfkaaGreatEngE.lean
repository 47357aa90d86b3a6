/- A symbolic executor over abstract states, its conditions shown to be enough for the model (part 5). -/
import Derived.Test.YtimjfjlaoekfkaaGreatEngD
import Derived.Below
import Derived.Carry
/- A law's statement, from its function's contract. -/
namespace Go.Eng
open Go Go.RowKit Go.ChangeShapes Go.WideShapes Go.ChangeAt

theorem slOk_cell {P : Program} {w : World} {r : Reach} {b : Nat} {u : TypeId} {v : Value} (h : Cell.okWide P w r b u v) : SlOk w v := by
  intro a len cap e
  subst e
  unfold Cell.okWide at h
  split at h <;> rename_i h1 h2 <;> try (cases h2; done)
  rename_i h3 h4 h5 h6
  unfold Cell.ok at h
  split at h <;> rename_i g1 g2 <;> try (first | (cases g2; done) | exact h.elim)
  cases g2
  obtain ⟨_, _, _, hs, row, cells, hsh, _⟩ := h
  refine ⟨hs, ?_⟩
  unfold World.shape? at hsh
  split at hsh
  · rename_i c e f hc
    exact ⟨_, _, _, hc⟩
  · cases hsh

noncomputable def MatchV (P : Program) (T : TypeId) (x : V) : Prop :=
  match isAggB P T, shape P 8 T with
  | some true, some sh => ∃ cs, x = .agg cs ∧ MatchC sh cs
  | some false, some sh => ∃ s, x = .s s ∧ MatchC sh [.one s]
  | _, _ => True
noncomputable def MatchL (P : Program) : List TypeId → List V → Prop
  | [], xs => xs = []
  | T :: Ts, xs => ∃ x r, xs = x :: r ∧ MatchV P T x ∧ MatchL P Ts r
noncomputable def shapeOk (P : Program) (T : TypeId) : Bool :=
  match isAggB P T, shape P 8 T with
  | some _, some _ => true
  | _, _ => false

noncomputable def isOneSh : Sh → Bool
  | .arr _ _ => false
  | _ => true
theorem shape_one {P : Program} {d : Nat} {T : TypeId} {sh : List Sh} (h : shape P d T = some sh) (ha : isAggB P T = some false) :
    (∃ x, sh = [x] ∧ isOneSh x = true) ∧ (P.underlying T = some .bool ∨ (∃ k, P.underlying T = some (.int k)) ∨ P.underlying T = some .string ∨ ∃ e, P.underlying T = some (.slice e)) := by
  cases d with
  | zero => cases h
  | succ d =>
    unfold shape at h
    unfold isAggB at ha
    split at h
    · rename_i hT; cases h; exact ⟨⟨_, rfl, rfl⟩, .inl hT⟩
    · rename_i hT
      split at h <;> cases h
      exact ⟨⟨_, rfl, rfl⟩, .inr (.inl ⟨_, hT⟩)⟩
    · rename_i hT; cases h; exact ⟨⟨_, rfl, rfl⟩, .inr (.inr (.inl hT))⟩
    · rename_i e hT
      refine ⟨?_, .inr (.inr (.inr ⟨e, hT⟩))⟩
      split at h
      · cases h
      split at h
      · cases h; exact ⟨_, rfl, rfl⟩
      · split at h
        · split at h <;> cases h
          exact ⟨_, rfl, rfl⟩
        · split at h <;> cases h
          exact ⟨_, rfl, rfl⟩
        · cases h
    · rename_i hT; rw [hT] at ha; cases ha
    · rename_i hT; rw [hT] at ha; cases ha
    · cases h
theorem match_one {x : Sh} {cs : List Ch} (hx : isOneSh x = true) (h : MatchC [x] cs) : ∃ s, cs = [.one s] := by
  cases x with
  | arr => cases hx
  | one k => obtain ⟨s, r, rfl, _, rfl⟩ := h; exact ⟨_, rfl⟩
  | str => obtain ⟨s, r, rfl, _, rfl⟩ := h; exact ⟨_, rfl⟩
  | sl => obtain ⟨s, r, rfl, _, _, rfl⟩ := h; exact ⟨_, rfl⟩
  | slz => obtain ⟨s, n, r, rfl, _, _, _, rfl⟩ := h; exact ⟨_, rfl⟩
  | sls => obtain ⟨l, r, rfl, _, _, rfl⟩ := h; exact ⟨_, rfl⟩

section
variable {H : Type} {enc : TypeId × Value → H} {P : Program} {W : World}
theorem arg_ok {T : TypeId} {v : Value} {d : DataW H} {p : List MemPlace} {r : Reach} {b : Nat} (hsh : shapeOk P T = true) (hok : Value.okWide P W r b T v)
    (h : DataW.Trod enc P W 0 (fun _ => true) true T v d p) (hw : ∀ y ∈ d.weights P T, y < 2 ^ 47) : ∃ x : V, MatchV P T x ∧ x.rel A0 W v := by
  obtain ⟨fuel, hf⟩ := h
  unfold shapeOk at hsh
  split at hsh
  · rename_i ag sh ha hs
    unfold MatchV
    rw [ha, hs]
    cases ag with
    | true =>
      have hv : ∃ cs, v = .agg cs ∧ cs.size = P.cellsOf T ∧ Row.okWide P W r b T cs := by
        unfold isAggB at ha
        unfold Value.okWide at hok
        split at ha <;> rename_i hT <;> (try (cases ha; done)) <;> rw [hT] at hok <;> exact hok
      obtain ⟨cs, rfl, _, ts, _, _, hall⟩ := hv
      obtain ⟨chs, h1, h2⟩ := trod_match 8 T sh fuel cs.toList (d, p) hs hf (fun v hv => by
        obtain ⟨i, hi⟩ := List.getElem?_of_mem hv
        rw [Array.getElem?_toList] at hi
        obtain ⟨u, _, hu⟩ := hall i v hi
        exact slOk_cell hu) hw
      exact ⟨.agg chs, ⟨chs, rfl, h1⟩, cs.toList, rfl, h2⟩
    | false =>
      obtain ⟨⟨x, rfl, hx⟩, hT⟩ := shape_one hs ha
      have hc : v.cells.toList = [v] ∧ SlOk W v := by
        rcases hT with hT | ⟨k, hT⟩ | hT | ⟨e, hT⟩ <;> unfold Value.okWide at hok <;> rw [hT] at hok <;> simp only [] at hok <;> refine ⟨?_, slOk_cell hok⟩ <;>
          unfold Cell.okWide Cell.ok at hok <;> rw [hT] at hok <;> cases v <;> first | rfl | exact hok.elim
      rw [hc.1] at hf
      obtain ⟨chs, h1, h2⟩ := trod_match 8 T [x] fuel [v] (d, p) hs hf (fun u hu => by
        simp at hu; subst hu; exact hc.2) hw
      obtain ⟨s, rfl⟩ := match_one hx h1
      obtain ⟨u, r, e, h3, h4, h5⟩ := h2
      cases e
      exact ⟨.s s, ⟨s, rfl, h1⟩, h3⟩
  · cases hsh
noncomputable def shapesOk (P : Program) : List TypeId → Bool
  | [] => true
  | T :: Ts => match shapeOk P T with
    | true => shapesOk P Ts
    | false => false
theorem args_ok {r : Reach} {b : Nat} : ∀ {Ts : List TypeId} {vs : List Value} {ds : List (DataW H)} {p : List MemPlace}, shapesOk P Ts = true → (∀ (j : Nat) t v, Ts[j]? = some t → vs[j]? = some v → Value.okWide P W r b t v) →
    DataW.TrodAll enc P W 0 (fun _ => true) true Ts vs ds p → (∀ y ∈ DataW.weightsEach P Ts ds, y < 2 ^ 47) → ∃ xs, MatchL P Ts xs ∧ VsRel A0 W xs vs
  | [], _, _, _, _, _, h, _ => by
    obtain ⟨rfl, rfl, rfl⟩ := trodAll_nil h
    exact ⟨[], rfl, rfl⟩
  | T :: Ts, _, _, _, hsh, hok, h, hw => by
    obtain ⟨v, vs, d, ds, p, q, rfl, rfl, rfl, h1, h2⟩ := trodAll_cons h
    unfold shapesOk at hsh
    split at hsh
    · rename_i hs
      obtain ⟨x, k1, k2⟩ := arg_ok hs (hok 0 T v rfl rfl) h1 fun y hy => hw y (by simp only [DataW.weightsEach, List.mem_append]; exact .inl hy)
      obtain ⟨xs, k3, k4⟩ := args_ok hsh (fun j t v ht hv => hok (j + 1) t v (by simpa using ht) (by simpa using hv)) h2 fun y hy => hw y (by simp only [DataW.weightsEach, List.mem_append]; exact .inr hy)
      exact ⟨x :: xs, ⟨x, xs, rfl, k1, k3⟩, ⟨v, vs, rfl, k2, k4⟩⟩
    · cases hsh
noncomputable def readsOk (P : Program) (T : TypeId) : Bool := P.readableRec T && decide (T < P.types.size)
theorem trodAll_below (hl : laidOutB P = true) {W' : World} (hb : Below W.heap.size W W') : ∀ {Ts : List TypeId} {vs : List Value} {ds : List (DataW H)} {p : List MemPlace}, Ts.all (readsOk P) = true →
    DataW.TrodAll enc P W 0 (fun _ => true) true Ts vs ds p → DataW.TrodAll enc P W' 0 (fun b => decide (b < W.heap.size)) true Ts vs ds p
  | [], _, _, _, _, h => by
    obtain ⟨rfl, rfl, rfl⟩ := trodAll_nil h
    exact rfl
  | T :: Ts, _, _, _, hr, h => by
    obtain ⟨v, vs, d, ds, p, q, rfl, rfl, rfl, h1, h2⟩ := trodAll_cons h
    simp only [List.all_cons, Bool.and_eq_true, readsOk, decide_eq_true_eq] at hr
    refine trodAll_cons_mk (Below.trod hl hr.1.1 hr.1.2 h1 hb ?_) (trodAll_below hl hb (by simpa [readsOk] using hr.2) h2)
    obtain ⟨m, hm⟩ := h1
    exact DataW.trod_lt m _ _ _ hm
theorem trodAll_len : ∀ {Ts : List TypeId} {vs : List Value} {ds : List (DataW H)} {p : List MemPlace}, DataW.TrodAll enc P W 0 (fun _ => true) true Ts vs ds p → ds.length = Ts.length
  | [], _, _, _, h => by obtain ⟨rfl, rfl, rfl⟩ := trodAll_nil h; rfl
  | T :: Ts, _, _, _, h => by
    obtain ⟨v, vs, d, ds, p, q, rfl, rfl, rfl, h1, h2⟩ := trodAll_cons h
    simp [trodAll_len h2]

theorem matchL_agg {T : TypeId} {Ts : List TypeId} {xs : List V} {sh : List Sh} (h : MatchL P (T :: Ts) xs) (ha : isAggB P T = some true) (hs : shape P 8 T = some sh) : ∃ cs r, xs = V.agg cs :: r ∧ MatchC sh cs ∧ MatchL P Ts r := by
  obtain ⟨x, r, rfl, h1, h2⟩ := h
  unfold MatchV at h1
  rw [ha, hs] at h1
  obtain ⟨cs, rfl, h3⟩ := h1
  exact ⟨cs, r, rfl, h3, h2⟩
theorem matchL_one {T : TypeId} {Ts : List TypeId} {xs : List V} {k : K} (h : MatchL P (T :: Ts) xs) (ha : isAggB P T = some false) (hs : shape P 8 T = some [.one k]) : ∃ s r, xs = V.s s :: r ∧ k.sOf s ∧ MatchL P Ts r := by
  obtain ⟨x, r, rfl, h1, h2⟩ := h
  unfold MatchV at h1
  rw [ha, hs] at h1
  obtain ⟨s, rfl, s', r', e, h3, _⟩ := h1
  cases e
  exact ⟨s, r, rfl, h3, h2⟩
theorem matchL_sl {T : TypeId} {Ts : List TypeId} {xs : List V} {k : K} (h : MatchL P (T :: Ts) xs) (ha : isAggB P T = some false) (hs : shape P 8 T = some [.sl k]) : ∃ x r, xs = V.s (.xs 1 (.s x.len) x) :: r ∧ k.vOf x ∧ x.len < 2 ^ 47 ∧ MatchL P Ts r := by
  obtain ⟨x, r, rfl, h1, h2⟩ := h
  unfold MatchV at h1
  rw [ha, hs] at h1
  obtain ⟨s, rfl, s', r', e, h3, h4, _⟩ := h1
  cases e
  exact ⟨s', r, rfl, h3, h4, h2⟩
theorem law_lifted {C : Checked} {os : Os} (started : os.Started) {f : FuncId} {fn : Func} {s : ChangeSpec} {rt : TypeId}
    (own : ownKnob C.prog.godebug = none) (laid : laidOutB C.prog = true) (noInit : C.prog.inits.idxOf? f = none) (hfn : C.prog.funcs[f]? = some fn)
    (hvars : s.vars = []) (hs : ∀ (ds : List (DataW H)), ds.length = fn.params.size → s.fn H ds = { results := [.lit (.bool true)], args := ds })
    (hrt : fn.resultTypes = #[rt]) (hb : C.prog.underlying rt = some .bool)
    (hsh : shapesOk C.prog fn.params.toList = true) (hrd : fn.params.toList.all (readsOk C.prog) = true)
    (con : ∀ xs, MatchL C.prog fn.params.toList xs → ∀ (w : World) (vals : List Value), VsRel A0 w xs vals → Calls C.prog f vals.toArray w fun e w' => e = .returned (.bool true) ∧ Below w.heap.size w w')
    (witness : ∃ (w : World) (tape : Tape) (i : Input), w.os = os ∧ (w.forCall tape i).Shaped C.prog ∧ i.vars = [] ∧ Input.okWide C.prog (w.forCall tape i) .any w.heap.size f i ∧
      s.pre6 enc C.prog fn [] false (w.forCall tape i).memory i.args ∧ ({} : Assume).holds C.prog (lone (Frame.enter C.prog f i.args .normal) [] (w.forCall tape i))) :
    ReturnsInHanded {} C os f .any (s.pre6 enc C.prog fn [] false) (s.post enc C.prog fn false true false false) := by
  refine returnsInHanded_of_change_sized (C := C) own started noInit hfn witness ?_
  intro W base args ds gs before hval hW _ hwt _
  have hW' := hW
  obtain ⟨p, q, hA, hV, rfl, hfz, hnd⟩ := hW
  rw [hvars] at hV
  obtain ⟨rfl, rfl⟩ := trodVars_none hV
  have hwt' : ∀ y ∈ DataW.weightsEach C.prog fn.params.toList ds, y < 2 ^ 47 := by
    intro y hy
    have e : s.plain.varTypes C.prog = [] := by
      unfold DataSpec.varTypes ChangeSpec.plain
      simp [hvars]
    rw [e, List.append_nil, List.append_nil] at hwt
    have := List.all_eq_true.1 hwt y hy
    have h1 : y ≤ reachBytes := by simpa using this
    exact Nat.lt_of_le_of_lt h1 reachBytes_lt
  obtain ⟨xs, k1, k2⟩ := args_ok hsh (fun j t v ht hv => hval j t v (by simpa using ht) (by simpa using hv)) hA hwt'
  have := con xs k1 W args.toList k2
  rw [Array.toArray_toList] at this
  refine this.mono fun e W' ⟨he, hb'⟩ => ?_
  subst he
  have hlen := trodAll_len hA
  have hfn' := hs ds (by simpa using hlen)
  refine ⟨_, rfl, ds, [], _, [], p, [], hW', ?_, ?_, ?_, hb'.frame _, fun h => by cases h⟩
  · rw [List.append_nil, hfn', hrt]
    exact trodAll_mk1 (shut_bool hb true)
  · rw [List.append_nil, hfn']
    exact trodAll_below laid hb' hrd hA
  · rw [hvars, List.append_nil, hfn']
    rfl
end
end Go.Eng
