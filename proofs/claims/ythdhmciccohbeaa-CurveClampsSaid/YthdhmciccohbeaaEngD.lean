/- A symbolic executor over abstract states, its conditions shown to be enough for the model (part 4). -/
import Derived.Test.YthdhmciccohbeaaEngC
import Derived.ProofKit
import Derived.SizedLaws
import Derived.Deep.Slices
import Derived.OpenShut
import Derived.Below
import Derived.Carry
/- What comes in: arguments. -/
namespace Go.Eng
open Go Go.RowKit Go.ChangeShapes Go.WideShapes Go.ChangeAt

inductive K | u8 | u16 | u32 | u64 | i64 | bo
noncomputable def K.cell : K → Value → Prop
  | .u8, v => ∃ x : UInt8, True ∧ v = eu8 x
  | .u16, v => ∃ x : UInt16, True ∧ v = eu16 x
  | .u32, v => ∃ x : UInt32, True ∧ v = eu32 x
  | .u64, v => ∃ x : UInt64, True ∧ v = eu64 x
  | .i64, v => ∃ x : Int, InI x ∧ v = ei64 x
  | .bo, v => ∃ x : Bool, True ∧ v = ebo x
/-- a cell that came in -/
noncomputable def K.sOf : K → S → Prop
  | .u8, s => ∃ x, s = .u8 x
  | .u16, s => ∃ x, s = .u16 x
  | .u32, s => ∃ x, s = .u32 x
  | .u64, s => ∃ x, s = .u64 x
  | .i64, s => ∃ x, InI x ∧ s = .i64 x
  | .bo, s => ∃ x, s = .b x
/-- a row of cells that came in -/
noncomputable def K.vOf : K → Vec → Prop
  | .u8, v => ∃ l, v = .u8 l
  | .u16, v => ∃ l, v = .u16 l
  | .u32, v => ∃ l, v = .u32 l
  | .u64, v => ∃ l, v = .u64 l
  | .i64, v => ∃ l, (∀ x ∈ l, InI x) ∧ v = .i64 l
  | .bo, v => ∃ l, v = .bo l
noncomputable def kindOf (d : Option TypeDesc) : Option K :=
  match d with
  | some .bool => some .bo
  | some (.int .u8) => some .u8
  | some (.int .u16) => some .u16
  | some (.int .u32) => some .u32
  | some (.int .u64) => some .u64
  | some (.int .i64) => some .i64
  | _ => none
inductive Sh
  | one (k : K)
  | str
  | arr (n : Nat) (k : K)
  | sl (k : K)
  | slz (z : Nat) (k : K)
noncomputable def MatchC : List Sh → List Ch → Prop
  | [], cs => cs = []
  | .one k :: p, cs => ∃ s r, cs = .one s :: r ∧ k.sOf s ∧ MatchC p r
  | .str :: p, cs => ∃ l r, cs = .one (.str l) :: r ∧ l.length < 2 ^ 47 ∧ MatchC p r
  | .arr n k :: p, cs => ∃ x r, cs = .vec (.n n) x :: r ∧ k.vOf x ∧ x.len = n ∧ MatchC p r
  | .sl k :: p, cs => ∃ x r, cs = .one (.xs 1 (.s x.len) x) :: r ∧ k.vOf x ∧ x.len < 2 ^ 47 ∧ MatchC p r
  | .slz z k :: p, cs => ∃ x n r, cs = .one (.xs z (.s n) x) :: r ∧ k.vOf x ∧ x.len = n * z ∧ x.len < 2 ^ 47 ∧ MatchC p r
noncomputable def mergeSh (n : Nat) (cs : List Sh) : List Sh :=
  match Nat.blt 4 n, cs with
  | true, [.arr m k] => [.arr (n * m) k]
  | _, _ => times n cs []
noncomputable def fieldsAt (P : Program) : Nat → List Field → Option Nat
  | o, [] => some o
  | o, f :: r => match Nat.beq f.offset o with
    | true => fieldsAt P (o + P.cellsOf f.type) r
    | false => none
noncomputable def eqO (x : Option Nat) (n : Nat) : Bool :=
  match x with
  | some m => Nat.beq m n
  | none => false
noncomputable def shape (P : Program) : Nat → TypeId → Option (List Sh)
  | 0, _ => none
  | d + 1, T => match P.underlying T with
    | some .bool => some [.one .bo]
    | some (.int _) => match kindOf (P.underlying T) with
      | some k => some [.one k]
      | none => none
    | some .string => some [.str]
    | some (.slice e) => match Nat.blt 0 (P.bytesOf e) with
      | false => none
      | true => match kindOf (P.underlying e), Nat.beq (P.cellsOf e) 1 with
        | some k, true => some [.sl k]
        | _, _ => match P.underlying e with
          | some (.array n e') => match kindOf (P.underlying e'), Nat.beq (P.cellsOf e) n, Nat.beq (P.cellsOf e') 1, Nat.blt 0 n, Nat.ble n (P.bytesOf e) with
            | some k, true, true, true, true => some [.slz n k]
            | _, _, _, _, _ => none
          | _ => none
    | some (.array n e) => match kindOf (P.underlying e), Nat.beq (P.cellsOf e) 1, Nat.beq (P.cellsOf T) n with
      | some k, true, true => some [.arr n k]
      | none, _, _ => match shape P d e, Nat.beq (P.cellsOf T) (n * P.cellsOf e) with
        | some cs, true => some (mergeSh n cs)
        | _, _ => none
      | _, _, _ => none
    | some (.struct fs) => match eqO (fieldsAt P 0 fs.toList) (P.cellsOf T) with
      | true => catM (fun f => shape P d f.type) fs.toList
      | false => none
    | _ => none

theorem K.s_ok {k : K} {A : Ad} {w : World} {v : Value} (h : k.cell v) : ∃ s, k.sOf s ∧ s.rel A w v ∧ one1 v = true := by
  cases k <;> obtain ⟨x, hx, rfl⟩ := h
  · exact ⟨.u8 x, ⟨x, rfl⟩, rfl, rfl⟩
  · exact ⟨.u16 x, ⟨x, rfl⟩, rfl, rfl⟩
  · exact ⟨.u32 x, ⟨x, rfl⟩, rfl, rfl⟩
  · exact ⟨.u64 x, ⟨x, rfl⟩, rfl, rfl⟩
  · exact ⟨.i64 x, ⟨x, hx, rfl⟩, rfl, rfl⟩
  · exact ⟨.b x, ⟨x, rfl⟩, rfl, rfl⟩
theorem pull {α : Type} {p : α → Prop} {f : α → Value} : ∀ {cs : List Value}, (∀ v ∈ cs, ∃ x, p x ∧ v = f x) → ∃ l : List α, (∀ x ∈ l, p x) ∧ cs = l.map f
  | [], _ => ⟨[], by simp, rfl⟩
  | v :: cs, h => by
    obtain ⟨x, hx, rfl⟩ := h v (by simp)
    obtain ⟨l, hl, rfl⟩ := pull (cs := cs) fun u hu => h u (by simp [hu])
    exact ⟨x :: l, by simpa [hx] using hl, rfl⟩
theorem K.v_ok {k : K} {A : Ad} {w : World} {cs : List Value} (h : ∀ v ∈ cs, k.cell v) : ∃ x, k.vOf x ∧ x.len = cs.length ∧ x.rel A w cs := by
  cases k <;> obtain ⟨l, hl, rfl⟩ := pull h
  · exact ⟨.u8 l, ⟨l, rfl⟩, by simp [Vec.len], rfl⟩
  · exact ⟨.u16 l, ⟨l, rfl⟩, by simp [Vec.len], rfl⟩
  · exact ⟨.u32 l, ⟨l, rfl⟩, by simp [Vec.len], rfl⟩
  · exact ⟨.u64 l, ⟨l, rfl⟩, by simp [Vec.len], rfl⟩
  · exact ⟨.i64 l, ⟨l, hl, rfl⟩, by simp [Vec.len], rfl⟩
  · exact ⟨.bo l, ⟨l, rfl⟩, by simp [Vec.len], rfl⟩

section
variable {H : Type} {enc : TypeId × Value → H} {P : Program} {w : World} {spare : Nat → Bool} {held : Bool}

theorem wf_u {k : IntKind} {n : Int} {m : Nat} (hs : k.min = 0) (hm : k.max = (m : Int) - 1) (h : (Lit.int k n).wf = true) : ∃ x : Nat, x < m ∧ n = (x : Int) := by
  simp only [Lit.wf, Bool.and_eq_true, decide_eq_true_eq] at h
  refine ⟨n.toNat, ?_, ?_⟩ <;> omega
theorem kind_cell {T : TypeId} {k : K} {fuel : Nat} {cs : List Value} {x : DataW H × List MemPlace} (hk : kindOf (P.underlying T) = some k) (h : DataW.trod enc P w 0 spare held fuel T cs = some x) : ∃ v, cs = [v] ∧ k.cell v := by
  unfold kindOf at hk
  split at hk <;> cases hk <;> rename_i ht
  · obtain ⟨b, rfl, _⟩ := DataW.trod_bool ht h; exact ⟨_, rfl, b, trivial, rfl⟩
  · obtain ⟨n, rfl, _, h2⟩ := DataW.trod_int ht h
    obtain ⟨x, hx, rfl⟩ := wf_u (k := .u8) (m := 256) rfl rfl h2
    exact ⟨_, rfl, UInt8.ofNat x, trivial, by unfold eu8; rw [UInt8.toNat_ofNat_of_lt' hx]⟩
  · obtain ⟨n, rfl, _, h2⟩ := DataW.trod_int ht h
    obtain ⟨x, hx, rfl⟩ := wf_u (k := .u16) (m := 65536) rfl rfl h2
    exact ⟨_, rfl, UInt16.ofNat x, trivial, by unfold eu16; rw [UInt16.toNat_ofNat_of_lt' hx]⟩
  · obtain ⟨n, rfl, _, h2⟩ := DataW.trod_int ht h
    obtain ⟨x, hx, rfl⟩ := wf_u (k := .u32) (m := 4294967296) rfl rfl h2
    exact ⟨_, rfl, UInt32.ofNat x, trivial, by unfold eu32; rw [UInt32.toNat_ofNat_of_lt' hx]⟩
  · obtain ⟨n, rfl, _, h2⟩ := DataW.trod_int ht h
    obtain ⟨x, hx, rfl⟩ := wf_u (k := .u64) (m := 18446744073709551616) rfl rfl h2
    exact ⟨_, rfl, UInt64.ofNat x, trivial, by unfold eu64; rw [UInt64.toNat_ofNat_of_lt' hx]⟩
  · obtain ⟨n, rfl, _, h2⟩ := DataW.trod_int ht h
    refine ⟨_, rfl, n, ?_, rfl⟩
    simp only [Lit.wf, Bool.and_eq_true, decide_eq_true_eq] at h2
    have e1 : IntKind.i64.min = -9223372036854775808 := rfl
    have e2 : IntKind.i64.max = 9223372036854775807 := rfl
    rw [e1, e2] at h2
    exact ⟨h2.1, by omega⟩

/-- a slice's address leads to a block of cells -/
noncomputable def SlOk (w : World) (v : Value) : Prop := ∀ a len cap, v = .slice (some a) len cap → a.spot = none ∧ ∃ arr T fz, w.heap[a.block]? = some (.cells arr T fz)

theorem add_at (a : Addr) (i : Nat) (h : a.spot = none) : a.add i = ⟨a.block, a.off + i, none⟩ := by
  cases a with
  | mk b o s =>
    simp only at h; subst h
    unfold Addr.add
    split <;> simp_all
theorem cellq_at {w : World} {b o : Nat} {arr : Array Value} {T : TypeId} {fz : Nat × Nat} (h : w.heap[b]? = some (.cells arr T fz)) : w.cell? ⟨b, o, none⟩ = arr[o]? := by
  unfold World.cell?
  simp only [h]
  rfl
theorem row_cells {w : World} {a : Addr} {n : Nat} {q : Value → Prop} {arr : Array Value} {T : TypeId} {fz : Nat × Nat} (hs : a.spot = none) (ha : w.heap[a.block]? = some (.cells arr T fz))
    (h : ∀ m, m < n → ∃ v, w.cell? (a.add m) = some v ∧ q v) : ((arr.toList.drop a.off).take n).length = n ∧ ∀ v ∈ (arr.toList.drop a.off).take n, q v := by
  have h' : ∀ m, m < n → ∃ v, arr[a.off + m]? = some v ∧ q v := fun m hm => by
    obtain ⟨v, h1, h2⟩ := h m hm
    rw [add_at a m hs, cellq_at ha] at h1
    exact ⟨v, h1, h2⟩
  have hlen : ((arr.toList.drop a.off).take n).length = n := by
    cases n with
    | zero => simp
    | succ n =>
      obtain ⟨v, h1, _⟩ := h' n (by omega)
      have := (Array.getElem?_eq_some_iff.1 h1).1
      simp; omega
  refine ⟨hlen, fun v hv => ?_⟩
  obtain ⟨m, hm⟩ := List.getElem?_of_mem hv
  have hmn : m < n := by
    have := (List.getElem?_eq_some_iff.1 hm).1
    omega
  obtain ⟨u, h1, h2⟩ := h' m hmn
  rw [List.getElem?_take_of_lt hmn, List.getElem?_drop, Array.getElem?_toList] at hm
  rw [h1] at hm
  cases hm
  exact h2

theorem sl_open {T e : TypeId} {k : K} {z fuel : Nat} {cs : List Value} {x : DataW H × List MemPlace} (ht : P.underlying T = some (.slice e)) (hz : P.cellsOf e = z) (hz0 : 0 < z)
    (hel : ∀ n cs y, DataW.trod enc P w 0 spare held n e cs = some y → ∀ v ∈ cs, k.cell v)
    (h : DataW.trod enc P w 0 spare held fuel T cs = some x) (hs : ∀ v ∈ cs, SlOk w v) :
    ∃ v len u, cs = [v] ∧ k.vOf u ∧ u.len = len * z ∧ (S.xs z (.s len) u).rel A0 w v ∧ one1 v = true ∧ ((∀ y ∈ x.1.weights P T, y < 2 ^ 47) → len * P.bytesOf e < 2 ^ 47) := by
  rcases Deep.open_slice ht h with ⟨rfl, rfl⟩ | ⟨a, len, cap, m, n, D, Pl, rfl, _, hl, _, hm, rfl, hi⟩
  · obtain ⟨u, h1, h2, h3⟩ := K.v_ok (k := k) (A := A0) (w := w) (cs := []) (by simp)
    refine ⟨_, 0, u, rfl, h1, by simpa using h2, ⟨hz0, [], h3, .inl ⟨rfl, rfl⟩, by simp [I.val]⟩, rfl, fun _ => by omega⟩
  · obtain ⟨hsp, arr, T', fz, ha⟩ := hs _ (by simp) a len cap rfl
    subst hz
    have hlm : len ≤ m := by rw [hm]; split <;> omega
    have hc : ∀ j, j < len * P.cellsOf e → ∃ v, w.cell? (a.add j) = some v ∧ k.cell v := by
      intro j hj
      obtain ⟨cs', g1, g2⟩ := hi (j / P.cellsOf e) (by
        have : j / P.cellsOf e < len := (Nat.div_lt_iff_lt_mul hz0).2 hj
        omega)
      obtain ⟨_, g3, g4⟩ := World.cells?_some g1
      have g5 := g4 (j % P.cellsOf e) (Nat.mod_lt _ hz0)
      rw [Deep.add_add, Nat.div_add_mod'] at g5
      have hlt : j % P.cellsOf e < cs'.length := by rw [g3]; exact Nat.mod_lt _ hz0
      rw [List.getElem?_eq_getElem hlt] at g5
      exact ⟨_, g5, hel _ _ _ g2 _ (List.getElem_mem hlt)⟩
    obtain ⟨q1, q2⟩ := row_cells hsp ha hc
    obtain ⟨u, h1, h2, h3⟩ := K.v_ok (A := A0) (w := w) q2
    obtain ⟨b, o, sp⟩ := a
    simp only at hsp; subst hsp
    refine ⟨_, len, u, rfl, h1, h2.trans q1, ⟨hz0, _, h3, .inr ⟨b, o, len, cap, arr, T', fz, rfl, hl, q1.symm, fun _ => by simp, ha, rfl⟩, by simpa [I.val] using q1.symm⟩, rfl, fun hw => ?_⟩
    have := hw (((List.range len).map D).length * P.bytesOf e + ((List.range (m - len)).map fun j => D (len + j)).length * P.bytesOf e) (by
      show _ ∈ DataW.weights P T (.slice _ _)
      simp only [DataW.weights, ht]
      rw [Nat.add_mul]
      exact .head _)
    simp only [List.length_map, List.length_range] at this
    omega

theorem MatchC.append : ∀ {a b : List Sh} {x y : List Ch}, MatchC a x → MatchC b y → MatchC (a ++ b) (x ++ y)
  | [], _, _, _, h, k => by subst h; exact k
  | .one _ :: _, _, _, _, h, k => by obtain ⟨s, r, rfl, h1, h2⟩ := h; exact ⟨s, _, rfl, h1, h2.append k⟩
  | .str :: _, _, _, _, h, k => by obtain ⟨s, r, rfl, h1, h2⟩ := h; exact ⟨s, _, rfl, h1, h2.append k⟩
  | .arr _ _ :: _, _, _, _, h, k => by obtain ⟨s, r, rfl, h1, h3, h2⟩ := h; exact ⟨s, _, rfl, h1, h3, h2.append k⟩
  | .sl _ :: _, _, _, _, h, k => by obtain ⟨s, r, rfl, h1, h3, h2⟩ := h; exact ⟨s, _, rfl, h1, h3, h2.append k⟩
  | .slz _ _ :: _, _, _, _, h, k => by obtain ⟨s, n, r, rfl, h1, h3, h4, h2⟩ := h; exact ⟨s, n, _, rfl, h1, h3, h4, h2.append k⟩
theorem K.cells_of {k : K} {x : Vec} {cs : List Value} (hx : k.vOf x) (h : x.rel A0 w cs) : ∀ v ∈ cs, k.cell v := by
  intro v hv
  cases k
  case i64 =>
    obtain ⟨l, hl, rfl⟩ := hx
    simp only [Vec.rel] at h; subst h
    obtain ⟨y, hy, rfl⟩ := List.mem_map.1 hv
    exact ⟨y, hl y hy, rfl⟩
  all_goals
    obtain ⟨l, rfl⟩ := hx
    simp only [Vec.rel] at h; subst h
    obtain ⟨y, hy, rfl⟩ := List.mem_map.1 hv
    exact ⟨y, trivial, rfl⟩
theorem weightsAll_mem {e : TypeId} : ∀ {ds : List (DataW H)} {d : DataW H}, d ∈ ds → ∀ n ∈ d.weights P e, n ∈ DataW.weightsAll P e ds
  | d0 :: ds, d, hd, n, hn => by
    simp only [DataW.weightsAll, List.mem_append]
    rcases List.mem_cons.1 hd with rfl | hd
    · exact .inl hn
    · exact .inr (weightsAll_mem hd n hn)
  | [], _, hd, _, _ => by simp at hd
theorem arr_cells {e : TypeId} {k : K} {n m : Nat} {cs : List Value} (hc : P.cellsOf e = 1) (hk : kindOf (P.underlying e) = some k) (hl : cs.length = n)
    (h : ∀ i, i < n → ∃ y, DataW.trod enc P w 0 spare held m e ((cs.drop (i * P.cellsOf e)).take (P.cellsOf e)) = some y) : ∀ v ∈ cs, k.cell v := by
  intro v hv
  obtain ⟨i, hi⟩ := List.getElem?_of_mem hv
  have hlt := (List.getElem?_eq_some_iff.1 hi).1
  obtain ⟨y, hy⟩ := h i (by omega)
  obtain ⟨u, h1, h2⟩ := kind_cell hk hy
  rw [hc, Nat.mul_one] at h1
  have : ((cs.drop i).take 1)[0]? = some u := by rw [h1]; rfl
  rw [List.getElem?_take_of_lt (by omega), List.getElem?_drop, Nat.add_zero, hi] at this
  cases this
  exact h2
theorem times_eq {α : Type} : ∀ (n : Nat) (l acc : List α), times n l acc = (List.replicate n l).flatten ++ acc
  | 0, l, acc => rfl
  | n + 1, l, acc => by
    rw [times, times_eq n, List.replicate_succ', List.flatten_append]
    simp

theorem match_fields {d n : Nat} {cs : List Value}
    (ih : ∀ (T : TypeId) (sh : List Sh) (fuel : Nat) (cs : List Value) (x : DataW H × List MemPlace), shape P d T = some sh → DataW.trod enc P w 0 spare held fuel T cs = some x → (∀ v ∈ cs, SlOk w v) → (∀ y ∈ x.1.weights P T, y < 2 ^ 47) → ∃ chs, MatchC sh chs ∧ ChsRel A0 w chs cs)
    (hs : ∀ v ∈ cs, SlOk w v) : ∀ (fs : List Field) (o : Nat) (sh : List Sh), fieldsAt P o fs = some cs.length → catM (fun f => shape P d f.type) fs = some sh →
      (∀ f ∈ fs, ∃ y, DataW.trod enc P w 0 spare held n f.type ((cs.drop f.offset).take (P.cellsOf f.type)) = some y ∧ ∀ z ∈ y.1.weights P f.type, z < 2 ^ 47) → ∃ chs, MatchC sh chs ∧ ChsRel A0 w chs (cs.drop o)
  | [], o, sh, h1, h2, _ => by
    cases h2; cases h1
    exact ⟨[], rfl, by simp [ChsRel]⟩
  | f :: r, o, sh, h1, h2, h3 => by
    unfold fieldsAt at h1
    split at h1
    · rename_i ho
      have ho := Nat.eq_of_beq_eq_true ho
      unfold catM at h2
      split at h2
      · cases h2
      rename_i l hl
      split at h2
      · cases h2
      rename_i r' hr
      cases h2
      obtain ⟨y, g1, g2⟩ := h3 f (by simp)
      obtain ⟨chs1, k1, k2⟩ := ih _ _ _ _ _ hl g1 (fun v hv => hs v (List.mem_of_mem_drop (List.mem_of_mem_take hv))) g2
      obtain ⟨chs2, k3, k4⟩ := match_fields ih hs r _ _ h1 hr fun g hg => h3 g (by simp [hg])
      refine ⟨chs1 ++ chs2, k1.append k3, ?_⟩
      have e : cs.drop o = (cs.drop f.offset).take (P.cellsOf f.type) ++ cs.drop (o + P.cellsOf f.type) := by
        rw [ho, ← List.drop_drop, List.take_append_drop]
      rw [e]
      exact k2.append k4
    · cases h1
theorem match_elems {d m z : Nat} {e : TypeId} {sh0 : List Sh}
    (ih : ∀ (T : TypeId) (sh : List Sh) (fuel : Nat) (cs : List Value) (x : DataW H × List MemPlace), shape P d T = some sh → DataW.trod enc P w 0 spare held fuel T cs = some x → (∀ v ∈ cs, SlOk w v) → (∀ y ∈ x.1.weights P T, y < 2 ^ 47) → ∃ chs, MatchC sh chs ∧ ChsRel A0 w chs cs)
    (hsh : shape P d e = some sh0) (hz : P.cellsOf e = z) : ∀ (n : Nat) (cs : List Value), cs.length = n * z → (∀ v ∈ cs, SlOk w v) →
      (∀ i, i < n → ∃ y, DataW.trod enc P w 0 spare held m e ((cs.drop (i * z)).take z) = some y ∧ ∀ t ∈ y.1.weights P e, t < 2 ^ 47) → ∃ chs, MatchC (List.replicate n sh0).flatten chs ∧ ChsRel A0 w chs cs ∧ ∀ k m, sh0 = [.arr m k] → (∀ v ∈ cs, k.cell v) ∧ cs.length = n * m
  | 0, cs, hl, _, _ => by
    have : cs = [] := List.length_eq_zero_iff.1 (by omega)
    subst this
    exact ⟨[], rfl, rfl, fun k m _ => ⟨by simp, by simp⟩⟩
  | n + 1, cs, hl, hs, h => by
    obtain ⟨y, g1, g2⟩ := h 0 (by omega)
    rw [Nat.zero_mul, List.drop_zero] at g1
    obtain ⟨c1, k1, k2⟩ := ih _ _ _ _ _ hsh g1 (fun v hv => hs v (List.mem_of_mem_take hv)) g2
    obtain ⟨c2, k3, k4, k5⟩ := match_elems ih hsh hz n (cs.drop z) (by rw [List.length_drop, hl, Nat.succ_mul]; omega) (fun v hv => hs v (List.mem_of_mem_drop hv)) fun i hi => by
      obtain ⟨y, q1, q2⟩ := h (i + 1) (by omega)
      refine ⟨y, ?_, q2⟩
      rw [List.drop_drop, show z + i * z = (i + 1) * z by rw [Nat.succ_mul]; omega]
      exact q1
    refine ⟨c1 ++ c2, ?_, ?_, ?_⟩
    · rw [List.replicate_succ, List.flatten_cons]; exact k1.append k3
    · rw [← List.take_append_drop z cs]; exact k2.append k4
    · intro k m e
      obtain ⟨k7, k6⟩ := k5 k m e
      subst e
      obtain ⟨x, r, rfl, q1, q2, rfl⟩ := k1
      obtain ⟨a, t, e1, e2, e3, e4⟩ := k2
      have e4 : t = [] := e4
      subst e4
      rw [List.append_nil] at e1
      have e2 : a.length = m := e2
      refine ⟨fun v hv => ?_, ?_⟩
      · rw [← List.take_append_drop z cs] at hv
        rcases List.mem_append.1 hv with hv | hv
        · rw [e1] at hv
          exact K.cells_of q1 e3 v hv
        · exact k7 v hv
      · rw [← List.take_append_drop z cs, List.length_append, k6, e1, e2, Nat.succ_mul]; omega
theorem eqO_true {x : Option Nat} {n : Nat} (h : eqO x n = true) : x = some n := by
  unfold eqO at h
  split at h
  · rw [Nat.eq_of_beq_eq_true h]
  · cases h
theorem trod_match : ∀ (d : Nat) (T : TypeId) (sh : List Sh) (fuel : Nat) (cs : List Value) (x : DataW H × List MemPlace), shape P d T = some sh → DataW.trod enc P w 0 spare held fuel T cs = some x → (∀ v ∈ cs, SlOk w v) → (∀ y ∈ x.1.weights P T, y < 2 ^ 47) → ∃ chs, MatchC sh chs ∧ ChsRel A0 w chs cs
  | 0, _, _, _, _, _, h, _, _, _ => by cases h
  | d + 1, T, sh, fuel, cs, x, h, ht, hs, hw => by
    have one : ∀ k, kindOf (P.underlying T) = some k → ∃ chs, MatchC [.one k] chs ∧ ChsRel A0 w chs cs := fun k hk => by
      obtain ⟨v, rfl, hc⟩ := kind_cell hk ht
      obtain ⟨s, h1, h2, h3⟩ := K.s_ok (A := A0) (w := w) hc
      exact ⟨[.one s], ⟨s, [], rfl, h1, rfl⟩, ⟨v, [], rfl, h2, h3, rfl⟩⟩
    unfold shape at h
    split at h
    · rename_i hT
      cases h
      exact one _ (by rw [hT]; rfl)
    · rename_i hT
      split at h <;> cases h
      rename_i k hk
      exact one k hk
    · rename_i hT
      cases h
      obtain ⟨s, rfl, rfl, _⟩ := DataW.trod_string hT ht
      have := hw s.data.toList.length (by simp [DataW.weights])
      exact ⟨[.one (.str s.data.toList)], ⟨_, [], rfl, this, rfl⟩, ⟨_, [], rfl, by simp [S.rel, S.sc], rfl, rfl⟩⟩
    · rename_i e hT
      split at h
      · cases h
      rename_i hb
      have hb : 0 < P.bytesOf e := by simpa using hb
      split at h
      · rename_i k hk hc
        cases h
        obtain ⟨v, len, u, rfl, h1, h2, h3, h4, h5⟩ := sl_open (z := 1) (k := k) hT (Nat.eq_of_beq_eq_true hc) (by omega) (fun n cs y hy v hv => by
          obtain ⟨u, rfl, hu⟩ := kind_cell hk hy
          simp at hv; subst hv; exact hu) ht hs
        have h5 := h5 hw
        rw [Nat.mul_one] at h2
        rw [← h2] at h3 h5
        refine ⟨[.one (.xs 1 (.s u.len) u)], ⟨u, [], rfl, h1, ?_, rfl⟩, ⟨v, [], rfl, h3, h4, rfl⟩⟩
        exact Nat.lt_of_le_of_lt (Nat.le_mul_of_pos_right _ hb) h5
      · split at h
        · rename_i n e' he
          split at h <;> cases h
          rename_i k hk hc1 hc2 hn hbn
          have hn : 0 < n := by simpa using hn
          obtain ⟨v, len, u, rfl, h1, h2, h3, h4, h5⟩ := sl_open (z := n) (k := k) hT (Nat.eq_of_beq_eq_true hc1) hn (fun m cs y hy => by
            obtain ⟨xs, m', _, _, g1, g2, g3⟩ := DataW.trod_array he hy
            refine arr_cells (m := m') (enc := enc) (P := P) (w := w) (spare := spare) (held := held) (Nat.eq_of_beq_eq_true hc2) hk (n := n) (g1.trans (Nat.eq_of_beq_eq_true hc1)) fun i hi => ?_
            exact ⟨_, (g3 i hi).trans (List.getElem?_eq_getElem (by omega))⟩) ht hs
          have h5 := h5 hw
          refine ⟨[.one (.xs n (.s len) u)], ⟨u, len, [], rfl, h1, h2, ?_, rfl⟩, ⟨v, [], rfl, h3, h4, rfl⟩⟩
          rw [h2]
          exact Nat.lt_of_le_of_lt (Nat.mul_le_mul_left _ (Nat.le_of_ble_eq_true hbn)) h5
        · cases h
    · rename_i n e hT
      obtain ⟨xs, m, _, hx, g1, g2, g3⟩ := DataW.trod_array hT ht
      have hwe : ∀ (i : Nat) (y : DataW H × List MemPlace), xs[i]? = some y → ∀ t ∈ y.1.weights P e, t < 2 ^ 47 := fun i y hy t htt => by
        refine hw t ?_
        rw [hx]
        show t ∈ DataW.weights P T (.agg _)
        simp only [DataW.weights, hT]
        exact weightsAll_mem (d := y.1) (List.mem_map.2 ⟨y, List.mem_of_getElem? hy, rfl⟩) t htt
      split at h
      · rename_i k hk hc hc2
        cases h
        have hall := arr_cells (m := m) (enc := enc) (P := P) (w := w) (spare := spare) (held := held) (Nat.eq_of_beq_eq_true hc) hk (n := n) (g1.trans (Nat.eq_of_beq_eq_true hc2)) fun i hi => ⟨_, (g3 i hi).trans (List.getElem?_eq_getElem (by omega))⟩
        obtain ⟨u, k1, k2, k3⟩ := K.v_ok (A := A0) (w := w) hall
        rw [g1, Nat.eq_of_beq_eq_true hc2] at k2
        exact ⟨[.vec (.n n) u], ⟨u, [], rfl, k1, k2, rfl⟩, ⟨cs, [], by simp, by simp [I.val, g1, Nat.eq_of_beq_eq_true hc2], k3, rfl⟩⟩
      · split at h
        · rename_i sh0 hsh hc
          cases h
          have hlen := g1.trans (Nat.eq_of_beq_eq_true hc)
          obtain ⟨chs, k1, k2, k3⟩ := match_elems (trod_match d) hsh rfl n cs hlen hs fun i hi => by
            have hi' : i < xs.length := by omega
            exact ⟨xs[i], by rw [g3 i hi, List.getElem?_eq_getElem hi'], hwe i _ (List.getElem?_eq_getElem hi')⟩
          unfold mergeSh
          split
          · rename_i m' k hn
            obtain ⟨k3, hz⟩ := k3 k m' rfl
            obtain ⟨u, q1, q2, q3⟩ := K.v_ok (A := A0) (w := w) k3
            exact ⟨[.vec (.n (n * m')) u], ⟨u, [], rfl, q1, q2.trans hz, rfl⟩, ⟨cs, [], by simp, hz, q3, rfl⟩⟩
          · rw [times_eq, List.append_nil]
            exact ⟨chs, k1, k2⟩
        · cases h
      · cases h
    · rename_i fs hT
      split at h
      · rename_i ho
        obtain ⟨xs, m, _, hx, g1, g2, g3⟩ := DataW.trod_struct hT ht
        have ho := eqO_true ho
        rw [← g1] at ho
        obtain ⟨chs, k1, k2⟩ := match_fields (trod_match d) hs fs.toList 0 sh ho h fun f hf => by
          obtain ⟨i, hi⟩ := List.getElem?_of_mem hf
          rw [Array.getElem?_toList] at hi
          have hlt := (Array.getElem?_eq_some_iff.1 hi).1
          have hi' : i < xs.length := by omega
          refine ⟨xs[i], by rw [g3 i f hi, List.getElem?_eq_getElem hi'], fun t ht' => hw t ?_⟩
          rw [hx]
          show t ∈ DataW.weights P T (.agg _)
          simp only [DataW.weights, hT]
          refine DataW.weights_mem_each (j := i) (t := f.type) ?_ ?_ t ht'
          · rw [List.getElem?_map, Array.getElem?_toList, hi]; rfl
          · rw [List.getElem?_map, List.getElem?_eq_getElem hi']; rfl
        rw [List.drop_zero] at k2
        exact ⟨chs, k1, k2⟩
      · cases h
    · cases h
end
end Go.Eng
/- A law's statement, from its function's contract. -/
namespace Go.Eng
open Go Go.RowKit Go.ChangeShapes Go.WideShapes Go.ChangeAt

theorem slOk_cell {P : Program} {w : World} {r : Reach} {b : Nat} {u : TypeId} {v : Value} (h : Cell.okWide P w r b u v) : SlOk w v := by
  intro a len cap e
  subst e
  unfold Cell.okWide at h
  split at h <;> rename_i h1 h2 <;> try (cases h2; done)
  rename_i h3 h4 h5 h6
  unfold Cell.ok at h
  split at h <;> rename_i g1 g2 <;> try (first | (cases g2; done) | exact h.elim)
  cases g2
  obtain ⟨_, _, _, hs, row, cells, hsh, _⟩ := h
  refine ⟨hs, ?_⟩
  unfold World.shape? at hsh
  split at hsh
  · rename_i c e f hc
    exact ⟨_, _, _, hc⟩
  · cases hsh

/-- what an argument of a type looks like -/
noncomputable def MatchV (P : Program) (T : TypeId) (x : V) : Prop :=
  match isAggB P T, shape P 8 T with
  | some true, some sh => ∃ cs, x = .agg cs ∧ MatchC sh cs
  | some false, some sh => ∃ s, x = .s s ∧ MatchC sh [.one s]
  | _, _ => True
noncomputable def MatchL (P : Program) : List TypeId → List V → Prop
  | [], xs => xs = []
  | T :: Ts, xs => ∃ x r, xs = x :: r ∧ MatchV P T x ∧ MatchL P Ts r
noncomputable def shapeOk (P : Program) (T : TypeId) : Bool :=
  match isAggB P T, shape P 8 T with
  | some _, some _ => true
  | _, _ => false

noncomputable def isOneSh : Sh → Bool
  | .arr _ _ => false
  | _ => true
theorem shape_one {P : Program} {d : Nat} {T : TypeId} {sh : List Sh} (h : shape P d T = some sh) (ha : isAggB P T = some false) :
    (∃ x, sh = [x] ∧ isOneSh x = true) ∧ (P.underlying T = some .bool ∨ (∃ k, P.underlying T = some (.int k)) ∨ P.underlying T = some .string ∨ ∃ e, P.underlying T = some (.slice e)) := by
  cases d with
  | zero => cases h
  | succ d =>
    unfold shape at h
    unfold isAggB at ha
    split at h
    · rename_i hT; cases h; exact ⟨⟨_, rfl, rfl⟩, .inl hT⟩
    · rename_i hT
      split at h <;> cases h
      exact ⟨⟨_, rfl, rfl⟩, .inr (.inl ⟨_, hT⟩)⟩
    · rename_i hT; cases h; exact ⟨⟨_, rfl, rfl⟩, .inr (.inr (.inl hT))⟩
    · rename_i e hT
      refine ⟨?_, .inr (.inr (.inr ⟨e, hT⟩))⟩
      split at h
      · cases h
      split at h
      · cases h; exact ⟨_, rfl, rfl⟩
      · split at h
        · split at h <;> cases h
          exact ⟨_, rfl, rfl⟩
        · cases h
    · rename_i hT; rw [hT] at ha; cases ha
    · rename_i hT; rw [hT] at ha; cases ha
    · cases h
theorem match_one {x : Sh} {cs : List Ch} (hx : isOneSh x = true) (h : MatchC [x] cs) : ∃ s, cs = [.one s] := by
  cases x with
  | arr => cases hx
  | one k => obtain ⟨s, r, rfl, _, rfl⟩ := h; exact ⟨_, rfl⟩
  | str => obtain ⟨s, r, rfl, _, rfl⟩ := h; exact ⟨_, rfl⟩
  | sl => obtain ⟨s, r, rfl, _, _, rfl⟩ := h; exact ⟨_, rfl⟩
  | slz => obtain ⟨s, n, r, rfl, _, _, _, rfl⟩ := h; exact ⟨_, rfl⟩

section
variable {H : Type} {enc : TypeId × Value → H} {P : Program} {W : World}
theorem arg_ok {T : TypeId} {v : Value} {d : DataW H} {p : List MemPlace} {r : Reach} {b : Nat} (hsh : shapeOk P T = true) (hok : Value.okWide P W r b T v)
    (h : DataW.Trod enc P W 0 (fun _ => true) true T v d p) (hw : ∀ y ∈ d.weights P T, y < 2 ^ 47) : ∃ x : V, MatchV P T x ∧ x.rel A0 W v := by
  obtain ⟨fuel, hf⟩ := h
  unfold shapeOk at hsh
  split at hsh
  · rename_i ag sh ha hs
    unfold MatchV
    rw [ha, hs]
    cases ag with
    | true =>
      have hv : ∃ cs, v = .agg cs ∧ cs.size = P.cellsOf T ∧ Row.okWide P W r b T cs := by
        unfold isAggB at ha
        unfold Value.okWide at hok
        split at ha <;> rename_i hT <;> (try (cases ha; done)) <;> rw [hT] at hok <;> exact hok
      obtain ⟨cs, rfl, _, ts, _, _, hall⟩ := hv
      obtain ⟨chs, h1, h2⟩ := trod_match 8 T sh fuel cs.toList (d, p) hs hf (fun v hv => by
        obtain ⟨i, hi⟩ := List.getElem?_of_mem hv
        rw [Array.getElem?_toList] at hi
        obtain ⟨u, _, hu⟩ := hall i v hi
        exact slOk_cell hu) hw
      exact ⟨.agg chs, ⟨chs, rfl, h1⟩, cs.toList, rfl, h2⟩
    | false =>
      obtain ⟨⟨x, rfl, hx⟩, hT⟩ := shape_one hs ha
      have hc : v.cells.toList = [v] ∧ SlOk W v := by
        rcases hT with hT | ⟨k, hT⟩ | hT | ⟨e, hT⟩ <;> unfold Value.okWide at hok <;> rw [hT] at hok <;> simp only [] at hok <;> refine ⟨?_, slOk_cell hok⟩ <;>
          unfold Cell.okWide Cell.ok at hok <;> rw [hT] at hok <;> cases v <;> first | rfl | exact hok.elim
      rw [hc.1] at hf
      obtain ⟨chs, h1, h2⟩ := trod_match 8 T [x] fuel [v] (d, p) hs hf (fun u hu => by
        simp at hu; subst hu; exact hc.2) hw
      obtain ⟨s, rfl⟩ := match_one hx h1
      obtain ⟨u, r, e, h3, h4, h5⟩ := h2
      cases e
      exact ⟨.s s, ⟨s, rfl, h1⟩, h3⟩
  · cases hsh
noncomputable def shapesOk (P : Program) : List TypeId → Bool
  | [] => true
  | T :: Ts => match shapeOk P T with
    | true => shapesOk P Ts
    | false => false
theorem args_ok {r : Reach} {b : Nat} : ∀ {Ts : List TypeId} {vs : List Value} {ds : List (DataW H)} {p : List MemPlace}, shapesOk P Ts = true → (∀ (j : Nat) t v, Ts[j]? = some t → vs[j]? = some v → Value.okWide P W r b t v) →
    DataW.TrodAll enc P W 0 (fun _ => true) true Ts vs ds p → (∀ y ∈ DataW.weightsEach P Ts ds, y < 2 ^ 47) → ∃ xs, MatchL P Ts xs ∧ VsRel A0 W xs vs
  | [], _, _, _, _, _, h, _ => by
    obtain ⟨rfl, rfl, rfl⟩ := trodAll_nil h
    exact ⟨[], rfl, rfl⟩
  | T :: Ts, _, _, _, hsh, hok, h, hw => by
    obtain ⟨v, vs, d, ds, p, q, rfl, rfl, rfl, h1, h2⟩ := trodAll_cons h
    unfold shapesOk at hsh
    split at hsh
    · rename_i hs
      obtain ⟨x, k1, k2⟩ := arg_ok hs (hok 0 T v rfl rfl) h1 fun y hy => hw y (by simp only [DataW.weightsEach, List.mem_append]; exact .inl hy)
      obtain ⟨xs, k3, k4⟩ := args_ok hsh (fun j t v ht hv => hok (j + 1) t v (by simpa using ht) (by simpa using hv)) h2 fun y hy => hw y (by simp only [DataW.weightsEach, List.mem_append]; exact .inr hy)
      exact ⟨x :: xs, ⟨x, xs, rfl, k1, k3⟩, ⟨v, vs, rfl, k2, k4⟩⟩
    · cases hsh
noncomputable def readsOk (P : Program) (T : TypeId) : Bool := P.readableRec T && decide (T < P.types.size)
theorem trodAll_below (hl : laidOutB P = true) {W' : World} (hb : Below W.heap.size W W') : ∀ {Ts : List TypeId} {vs : List Value} {ds : List (DataW H)} {p : List MemPlace}, Ts.all (readsOk P) = true →
    DataW.TrodAll enc P W 0 (fun _ => true) true Ts vs ds p → DataW.TrodAll enc P W' 0 (fun b => decide (b < W.heap.size)) true Ts vs ds p
  | [], _, _, _, _, h => by
    obtain ⟨rfl, rfl, rfl⟩ := trodAll_nil h
    exact rfl
  | T :: Ts, _, _, _, hr, h => by
    obtain ⟨v, vs, d, ds, p, q, rfl, rfl, rfl, h1, h2⟩ := trodAll_cons h
    simp only [List.all_cons, Bool.and_eq_true, readsOk, decide_eq_true_eq] at hr
    refine trodAll_cons_mk (Below.trod hl hr.1.1 hr.1.2 h1 hb ?_) (trodAll_below hl hb (by simpa [readsOk] using hr.2) h2)
    obtain ⟨m, hm⟩ := h1
    exact DataW.trod_lt m _ _ _ hm
theorem trodAll_len : ∀ {Ts : List TypeId} {vs : List Value} {ds : List (DataW H)} {p : List MemPlace}, DataW.TrodAll enc P W 0 (fun _ => true) true Ts vs ds p → ds.length = Ts.length
  | [], _, _, _, h => by obtain ⟨rfl, rfl, rfl⟩ := trodAll_nil h; rfl
  | T :: Ts, _, _, _, h => by
    obtain ⟨v, vs, d, ds, p, q, rfl, rfl, rfl, h1, h2⟩ := trodAll_cons h
    simp [trodAll_len h2]

theorem matchL_agg {T : TypeId} {Ts : List TypeId} {xs : List V} {sh : List Sh} (h : MatchL P (T :: Ts) xs) (ha : isAggB P T = some true) (hs : shape P 8 T = some sh) : ∃ cs r, xs = V.agg cs :: r ∧ MatchC sh cs ∧ MatchL P Ts r := by
  obtain ⟨x, r, rfl, h1, h2⟩ := h
  unfold MatchV at h1
  rw [ha, hs] at h1
  obtain ⟨cs, rfl, h3⟩ := h1
  exact ⟨cs, r, rfl, h3, h2⟩
theorem matchL_one {T : TypeId} {Ts : List TypeId} {xs : List V} {k : K} (h : MatchL P (T :: Ts) xs) (ha : isAggB P T = some false) (hs : shape P 8 T = some [.one k]) : ∃ s r, xs = V.s s :: r ∧ k.sOf s ∧ MatchL P Ts r := by
  obtain ⟨x, r, rfl, h1, h2⟩ := h
  unfold MatchV at h1
  rw [ha, hs] at h1
  obtain ⟨s, rfl, s', r', e, h3, _⟩ := h1
  cases e
  exact ⟨s, r, rfl, h3, h2⟩
theorem matchL_sl {T : TypeId} {Ts : List TypeId} {xs : List V} {k : K} (h : MatchL P (T :: Ts) xs) (ha : isAggB P T = some false) (hs : shape P 8 T = some [.sl k]) : ∃ x r, xs = V.s (.xs 1 (.s x.len) x) :: r ∧ k.vOf x ∧ x.len < 2 ^ 47 ∧ MatchL P Ts r := by
  obtain ⟨x, r, rfl, h1, h2⟩ := h
  unfold MatchV at h1
  rw [ha, hs] at h1
  obtain ⟨s, rfl, s', r', e, h3, h4, _⟩ := h1
  cases e
  exact ⟨s', r, rfl, h3, h4, h2⟩
theorem law_lifted {C : Checked} {os : Os} (started : os.Started) {f : FuncId} {fn : Func} {s : ChangeSpec} {rt : TypeId}
    (own : ownKnob C.prog.godebug = none) (laid : laidOutB C.prog = true) (noInit : C.prog.inits.idxOf? f = none) (hfn : C.prog.funcs[f]? = some fn)
    (hvars : s.vars = []) (hs : ∀ (ds : List (DataW H)), ds.length = fn.params.size → s.fn H ds = { results := [.lit (.bool true)], args := ds })
    (hrt : fn.resultTypes = #[rt]) (hb : C.prog.underlying rt = some .bool)
    (hsh : shapesOk C.prog fn.params.toList = true) (hrd : fn.params.toList.all (readsOk C.prog) = true)
    (con : ∀ xs, MatchL C.prog fn.params.toList xs → ∀ (w : World) (vals : List Value), VsRel A0 w xs vals → Calls C.prog f vals.toArray w fun e w' => e = .returned (.bool true) ∧ Below w.heap.size w w')
    (witness : ∃ (w : World) (tape : Tape) (i : Input), w.os = os ∧ (w.forCall tape i).Shaped C.prog ∧ i.vars = [] ∧ Input.okWide C.prog (w.forCall tape i) .any w.heap.size f i ∧
      s.pre6 enc C.prog fn [] false (w.forCall tape i).memory i.args ∧ ({} : Assume).holds C.prog (lone (Frame.enter C.prog f i.args .normal) [] (w.forCall tape i))) :
    ReturnsInHanded {} C os f .any (s.pre6 enc C.prog fn [] false) (s.post enc C.prog fn false true false false) := by
  refine returnsInHanded_of_change_sized (C := C) own started noInit hfn witness ?_
  intro W base args ds gs before hval hW _ hwt _
  have hW' := hW
  obtain ⟨p, q, hA, hV, rfl, hfz, hnd⟩ := hW
  rw [hvars] at hV
  obtain ⟨rfl, rfl⟩ := trodVars_none hV
  have hwt' : ∀ y ∈ DataW.weightsEach C.prog fn.params.toList ds, y < 2 ^ 47 := by
    intro y hy
    have e : s.plain.varTypes C.prog = [] := by
      unfold DataSpec.varTypes ChangeSpec.plain
      simp [hvars]
    rw [e, List.append_nil, List.append_nil] at hwt
    have := List.all_eq_true.1 hwt y hy
    have h1 : y ≤ reachBytes := by simpa using this
    exact Nat.lt_of_le_of_lt h1 reachBytes_lt
  obtain ⟨xs, k1, k2⟩ := args_ok hsh (fun j t v ht hv => hval j t v (by simpa using ht) (by simpa using hv)) hA hwt'
  have := con xs k1 W args.toList k2
  rw [Array.toArray_toList] at this
  refine this.mono fun e W' ⟨he, hb'⟩ => ?_
  subst he
  have hlen := trodAll_len hA
  have hfn' := hs ds (by simpa using hlen)
  refine ⟨_, rfl, ds, [], _, [], p, [], hW', ?_, ?_, ?_, hb'.frame _, fun h => by cases h⟩
  · rw [List.append_nil, hfn', hrt]
    exact trodAll_mk1 (shut_bool hb true)
  · rw [List.append_nil, hfn']
    exact trodAll_below laid hb' hrd hA
  · rw [hvars, List.append_nil, hfn']
    rfl
end
end Go.Eng
