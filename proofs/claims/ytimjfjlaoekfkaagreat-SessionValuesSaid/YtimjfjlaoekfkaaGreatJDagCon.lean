/- Steps towards SessionValuesSaid. -/
import Derived.Test.YtimjfjlaoekfkaaGreatJDajVc
import Derived.Test.YtimjfjlaoekfkaaGreatJDaeLem
/- A step towards SessionValuesSaid: no conditions. -/

namespace Go.Proofs.YtimjfjlaoekfkaaGreat
open Go Go.Eng Go.Dae
set_option maxRecDepth 100000
theorem insRow {ks : List TK} {z m x : Nat} {y e : VL} (hy : Row ks z m y) (hx : x ≤ m) (he : Row ks z 1 e) :
    Row ks z (x + (1 + (m - x))) (y.take (x * z) ++ (e ++ (y.drop (x * z)).take ((m - x) * z)).take ((1 + (m - x)) * z)) := by
  have h1 := hy.take x hx
  have h2 := (hy.drop x hx).take (m - x) (Nat.le_refl _)
  have h3 := (he.app h2).take (1 + (m - x)) (Nat.le_refl _)
  exact h1.app h3
theorem Row.len {ks : List TK} {z n : Nat} {l : VL} (h : Row ks z n l) : l.length = n * z := h.1
theorem lawFindS (n : Nat) (l : VL) (x : UInt32) (hn : n ≤ 100000) (hr : Row ksS 34 n l) : vcFnH EFi 200 39 [.s (.xs 34 (.s n) (.va l)), .s (.u32 x)] (HFind l n x) := by
  refine Eq.mpr (vcFindS n l x) ?_
  have e1 : ((1 : Nat) : Int) = 1 := rfl
  simp only [forall_eq, io, e1, Int.toNat_natCast]
  refine ⟨⟨0, ⟨Nat.zero_le _, fun j h => by omega⟩, by and_intros <;> first | trivial | rfl⟩, fun i ⟨hi, hall⟩ => ⟨fun hd => ?_, fun hd => ?_⟩⟩
  · have hlt : i < n := by have := of_decide_eq_true hd; omega
    obtain ⟨a1, a2, a3⟩ := hr.at hlt
    have hI : InI ((i : Int) + 1) := by unfold InI; omega
    refine ⟨⟨by omega, by omega⟩, a1, a2, fun hx => ⟨(_, _, _, _), ⟨?_, ?_⟩, rfl, rfl, rfl, rfl, trivial⟩, fun hx => ⟨hI, i + 1, ⟨hlt, fun j hj => ?_⟩, by omega, ?_⟩⟩
    · dsimp only; rw [List.length_map, List.length_take, List.length_drop, a3]; rfl
    · symm
      unfold hasS
      rw [List.any_eq_true]
      exact ⟨i, List.mem_range.2 hlt, hx⟩
    · rcases Nat.lt_or_ge j i with h | h
      · exact hall j h
      · have : j = i := by omega
        subst this
        intro h
        have h2 : (idxS l j == x) = true := by rw [h]; exact beq_self_eq_true x
        rw [show (d32 ((List.take 34 (dropL l (j * 34))).getD 0 (Value.bool false)) == x) = (idxS l j == x) from rfl, h2] at hx
        cases hx
    · and_intros <;> first | trivial | rfl
  · have h12 : i = n := by have := of_decide_eq_false hd; omega
    subst h12
    refine ⟨(_, _, _, _), ⟨by simp, ?_⟩, rfl, rfl, rfl, rfl, trivial⟩
    symm
    unfold hasS
    rw [List.any_eq_false]
    intro j hj
    have := hall j (List.mem_range.1 hj)
    simpa using this
theorem conFindS : ConH Tryz.prog 39 gFindS := by
  refine conH_of_vcl fun args ps H hg hp hl => ?_
  unfold gFindS at hg
  split at hg
  · cases hg
    obtain ⟨h1, hp⟩ := all_cons.1 hp
    obtain ⟨h2, _⟩ := all_cons.1 hp
    exact ⟨EFi, 200, rfl, eok (gs := []) trivial, lawFindS _ _ _ h1 h2⟩
  · cases hg
theorem SubS.step {l o e : VL} {n m i : Nat} (ho : Row ksS 34 m o) (h : SubS l n o m) (hi : i < n) (he : (e.getD 0 (.bool false)) = eu32 (idxS l i)) (hel : e.length = 34) : SubS l n (o.take (m * 34) ++ e) (m + 1) := by
  intro j hj
  have hol := ho.1
  rw [ho.all]
  rcases Nat.lt_or_ge j m with h1 | h1
  · obtain ⟨i', h2, h3⟩ := h j h1
    refine ⟨i', h2, ?_⟩
    rw [← h3]
    unfold idxS
    rw [dropL_eq, dropL_eq, List.drop_append_of_le_length (by omega), List.take_append_of_le_length (by simp; omega)]
  · have : j = m := by omega
    subst this
    refine ⟨i, hi, ?_⟩
    have e1 : idxS (o ++ e) j = d32 (e.getD 0 (.bool false)) := by
      unfold idxS
      rw [dropL_eq, ← hol, List.drop_left, List.take_of_length_le (by omega)]
    rw [e1, he, d32_eu32]
theorem lawDrop (n : Nat) (l : VL) (x : UInt32) (hn : n ≤ 100000) (hr : Row ksS 34 n l) : vcFnH EDr 200 60 [.s (.xs 34 (.s n) (.va l)), .s (.u32 x)] (HDrop l n) := by
  refine Eq.mpr (vcDrop n l x) ?_
  have e1 : ((1 : Nat) : Int) = 1 := rfl
  simp only [forall_eq, io, e1, Int.toNat_natCast]
  refine ⟨⟨(0, 0, []), ⟨Nat.zero_le _, Nat.zero_le _, Row.nil, fun j h => by dsimp only at h; omega⟩, by and_intros <;> first | trivial | rfl⟩, fun ⟨i, m, o⟩ ⟨hi, hm, ho, hs⟩ => ⟨fun hd => ?_, fun hd => ?_⟩⟩
  · dsimp only at *
    have hlt : i < n := by have := of_decide_eq_true hd; omega
    obtain ⟨a1, a2, a3⟩ := hr.at hlt
    have hI : InI ((i : Int) + 1) := by unfold InI; omega
    have hid : d32 ((List.take 34 (dropL l (i * 34))).getD 0 (Value.bool false)) = idxS l i := rfl
    rw [hid]
    generalize (dropL l (i * 34)).take 34 = c at *
    have ho1 := ho.1
    have hb : (List.map d8 (List.take 32 (List.drop 1 c))).length = 32 := by rw [List.length_map, List.length_take, List.length_drop, a3]; rfl
    have hE := rowS (a := idxS l i) (c := dB (c.getD 33 (.bool false))) hb
    have hT := (ho.take m (Nat.le_refl _)).app hE
    have hS := SubS.step (e := eu32 (idxS l i) :: (List.map eu8 (List.map d8 (List.take 32 (List.drop 1 c))) ++ [Value.bool (dB (c.getD 33 (Value.bool false)))])) ho hs hlt rfl (by have := hE.1; omega)
    refine ⟨⟨by omega, by omega⟩, a1, a2, fun _ => ?_, fun _ => ?_⟩
    · refine ⟨by omega, trivial, by omega, hI, (i + 1, m + 1, _), ⟨hlt, by dsimp only; omega, hT, hS⟩, by dsimp only; omega, ?_⟩
      and_intros <;> first | trivial | rfl | (dsimp only; omega)
    · refine ⟨hI, (i + 1, m, o), ⟨hlt, by dsimp only; omega, ho, hs⟩, by dsimp only; omega, ?_⟩
      and_intros <;> first | trivial | rfl | (dsimp only; omega)
  · dsimp only at *
    refine ⟨(m, o), ⟨by dsimp only; omega, ho, hs⟩, by omega, rfl, ?_, trivial⟩
    simp only [dropL]
    exact ho.all
theorem conDrop : ConH Tryz.prog 60 gDrop := by
  refine conH_of_vcl fun args ps H hg hp hl => ?_
  unfold gDrop at hg
  split at hg
  · cases hg
    obtain ⟨h1, hp⟩ := all_cons.1 hp
    obtain ⟨h2, _⟩ := all_cons.1 hp
    exact ⟨EDr, 200, rfl, eok (gs := []) trivial, lawDrop _ _ _ h1 h2⟩
  · cases hg
theorem getD_dt (l : VL) (k z : Nat) (hz : 0 < z) : ((l.drop k).take z).getD 0 (.bool false) = l.getD k (.bool false) := by
  rw [List.getD_eq_getElem?_getD, List.getElem?_take, if_pos hz, List.getElem?_drop, Nat.add_zero, ← List.getD_eq_getElem?_getD]
theorem lawTake (n : Nat) (l : VL) (x : UInt32) (k : BS) (s : Bool) (hn : n ≤ 100000) (hr : Row ksS 34 n l) (hx0 : x ≠ 0) (hh : hasS l n x = false) (hk : k.length = 32) :
    vcFnH ETa 200 45 [.s (.xs 34 (.s n) (.va l)), .s (.u32 x), .w (.agg [.vec (.n 32) (.u8 k)]), .s (.b s)] (HTake n) := by
  refine Eq.mpr (vcTake n l x k s) ?_
  have e1 : ((1 : Nat) : Int) = 1 := rfl
  have hx1 : (if x < UInt32.ofNat 1 then UInt32.ofNat 1 else x) = x := by
    refine if_neg fun h => hx0 ?_
    have h2 : x.toNat < 1 := UInt32.lt_iff_toNat_lt.1 h
    exact UInt32.toNat_inj.1 (by show x.toNat = 0; omega)
  simp only [forall_eq, io, e1, Int.toNat_natCast, Nat.sub_zero, Nat.zero_add, hx1, dropL]
  refine ⟨fun _ => ⟨(0, [], _, _), ⟨Nat.zero_le _, Row.nil⟩, rfl, rfl, rfl, rfl, trivial⟩, fun hd => ⟨hn, hr, fun ⟨a1, a2, a3, a4⟩ ⟨hal, haf⟩ => ?_⟩⟩
  dsimp only at *
  rw [haf, hh]
  refine ⟨fun _ => ⟨⟨0, Nat.zero_le _, by and_intros <;> first | trivial | rfl⟩, fun i hi => ?_⟩, fun h => by cases h⟩
  have hrl := hr.1
  have hE := rowS (a := x) (c := s) hk
  have hA := ((((hr.take i hi).take i (Nat.le_refl _)).app hE).take (i + 1) (Nat.le_refl _)).app (hr.drop i hi)
  have hAl := hA.1
  have hEl := hE.1
  have fin : ((0 : Int) ≤ (i : Int) ∧ (i : Int) ≤ (n : Int)) ∧ i ≤ 4294967296 ∧ i * 34 ≤ (l.take (i * 34)).length ∧ True ∧ i + 1 ≤ 4294967296 ∧ ((0 : Int) ≤ (i : Int) ∧ (i : Int) ≤ (n : Int)) ∧
      (i + 1) * 34 ≤ ((l.take (i * 34)).take (i * 34) ++ eu32 x :: (k.map eu8 ++ [Value.bool s])).length ∧ True ∧ i + 1 + (n - i) ≤ 4294967296 ∧
      ∃ a : Nat × VL × UInt32 × Int, (a.1 ≤ n + 1 ∧ Row ksS 34 a.1 a.2.1) ∧ (i + 1 + (n - i)) * 34 ≤ (i + 1) * 34 + (n - i) * 34 ∧ i + 1 + (n - i) = a.1 ∧
        (((((l.take (i * 34)).take (i * 34) ++ eu32 x :: (k.map eu8 ++ [Value.bool s])).take ((i + 1) * 34)) ++ l.drop (i * 34)).take ((i + 1 + (n - i)) * 34)) = a.2.1 ∧ x = a.2.2.1 ∧ ((0 : Nat) : Int) = a.2.2.2 ∧ True := by
    refine ⟨by omega, by omega, by rw [List.length_take]; omega, trivial, by omega, by omega, ?_, trivial, by omega, (_, _, _, _), ⟨?_, hA⟩, by omega, rfl, hA.all, rfl, rfl, trivial⟩
    · rw [List.length_append, hEl, List.length_take, List.length_take]; omega
    · dsimp only; omega
  refine ⟨fun hd => ?_, fun _ => fin⟩
  have hlt : i < n := by have := of_decide_eq_true hd; omega
  obtain ⟨a1, a2, a3⟩ := hr.at hlt
  have hI : InI ((i : Int) + 1) := by unfold InI; omega
  have hu : l.getD (i * 34) (.bool false) = eu32 (d32 (l.getD (i * 34) (.bool false))) := by
    obtain ⟨_, h2, _⟩ := hr.2 i hlt
    rw [getD_dt _ _ _ (by omega)] at h2
    exact h2
  refine ⟨by omega, by omega, hu, fun _ => ⟨hI, i + 1, hlt, by omega, ?_⟩, fun _ => fin⟩
  and_intros <;> first | trivial | rfl
theorem conTake : ConH Tryz.prog 45 gTake := by
  refine conH_of_vcl fun args ps H hg hp hl => ?_
  unfold gTake at hg
  split at hg
  · cases hg
    obtain ⟨h1, hp⟩ := all_cons.1 hp
    obtain ⟨h2, hp⟩ := all_cons.1 hp
    obtain ⟨h3, hp⟩ := all_cons.1 hp
    obtain ⟨h4, hp⟩ := all_cons.1 hp
    obtain ⟨h5, _⟩ := all_cons.1 hp
    exact ⟨ETa, 200, rfl, mkEH_ok namesOk mx (gs := []) trivial trivial trivial (hs := [(_, gFindS)]) ⟨conFindS, trivial⟩, lawTake _ _ _ _ _ h1 h2 h3 h4 h5⟩
  · cases hg
end Go.Proofs.YtimjfjlaoekfkaaGreat

/- A step towards SessionValuesSaid: no conditions. -/

namespace Go.Dae
open Go Go.Eng
def szTK : List TK → Nat
  | [] => 0
  | .one _ :: r => 1 + szTK r
  | .vec n _ :: r => n + szTK r
theorem WU_of_WTo : ∀ {ks : List TK} {l : VL} {o : Nat}, WTo ks l o → WU ks (l.drop o)
  | [], l, o, h => by
    have h : l.length = o := h
    show l.drop o = []
    rw [← h]; exact List.drop_length
  | .one k :: r, l, o, h => by
    obtain ⟨h1, h2, h3⟩ := h
    refine ⟨l.getD o (.bool false), l.drop (o + 1), ?_, h2, WU_of_WTo h3⟩
    rw [List.getD_eq_getElem?_getD, List.getElem?_eq_getElem h1]
    exact List.drop_eq_getElem_cons h1
  | .vec n k :: r, l, o, h => by
    obtain ⟨h1, h2, h3⟩ := h
    refine ⟨(l.drop o).take n, l.drop (o + n), ?_, by simp; omega, h2, WU_of_WTo h3⟩
    rw [← List.drop_drop, List.take_append_drop]
theorem WU_of_WT {ks : List TK} {l : VL} (h : WT ks l) : WU ks l := WU_of_WTo h
theorem WU.len : ∀ {ks : List TK} {l : VL}, WU ks l → l.length = szTK ks
  | [], l, h => by have h : l = [] := h; subst h; rfl
  | .one k :: r, l, h => by
    obtain ⟨v, t, rfl, _, h2⟩ := h
    have := WU.len h2
    simp only [szTK, List.length_cons]; omega
  | .vec n k :: r, l, h => by
    obtain ⟨a, t, rfl, h1, _, h2⟩ := h
    have := WU.len h2
    simp only [szTK, List.length_append]; omega
theorem WU.app : ∀ {a b : List TK} {x y : VL}, WU a x → WU b y → WU (a ++ b) (x ++ y)
  | [], b, x, y, h, k => by have h : x = [] := h; subst h; exact k
  | .one k0 :: r, b, x, y, h, k => by
    obtain ⟨v, t, rfl, h1, h2⟩ := h
    exact ⟨v, t ++ y, rfl, h1, h2.app k⟩
  | .vec n k0 :: r, b, x, y, h, k => by
    obtain ⟨c, t, rfl, h0, h1, h2⟩ := h
    exact ⟨c, t ++ y, by simp, h0, h1, h2.app k⟩
theorem WU.split : ∀ {a b : List TK} {l : VL}, WU (a ++ b) l → WU a (l.take (szTK a)) ∧ WU b (l.drop (szTK a))
  | [], b, l, h => ⟨rfl, h⟩
  | .one k0 :: r, b, l, h => by
    obtain ⟨v, t, rfl, h1, h2⟩ := h
    obtain ⟨g1, g2⟩ := WU.split (a := r) h2
    simp only [szTK, Nat.add_comm 1]
    exact ⟨⟨v, _, rfl, h1, g1⟩, g2⟩
  | .vec n k0 :: r, b, l, h => by
    obtain ⟨c, t, rfl, h0, h1, h2⟩ := h
    obtain ⟨g1, g2⟩ := WU.split (a := r) h2
    subst h0
    simp only [szTK]
    refine ⟨⟨c, t.take (szTK r), ?_, rfl, h1, g1⟩, ?_⟩
    · rw [List.take_append, List.take_of_length_le (by omega)]; congr 2; omega
    · have : (c ++ t).drop (c.length + szTK r) = t.drop (szTK r) := by rw [← List.drop_drop, List.drop_left]
      rw [this]; exact g2
theorem Row.put {ks : List TK} {z n i : Nat} {y e : VL} (hy : Row ks z n y) (hi : i < n) (he : Row ks z 1 e) : Row ks z n (y.take (i * z) ++ (e ++ y.drop ((i + 1) * z))) := by
  have h := (hy.take i (by omega)).app (he.app (hy.drop (i + 1) hi))
  have e1 : i + (1 + (n - (i + 1))) = n := by omega
  rw [e1] at h
  exact h
theorem over_put {y s : VL} {i z m : Nat} (h : m + s.length ≤ z) (hl : (i + 1) * z ≤ y.length) :
    over y (i * z + m) s = y.take (i * z) ++ (((y.drop (i * z)).take m ++ (s ++ ((y.drop (i * z)).drop (m + s.length)).take (z - (m + s.length)))) ++ y.drop ((i + 1) * z)) := by
  unfold over
  rw [List.take_add]
  have e1 : y.drop (i * z + m + s.length) = ((y.drop (i * z)).drop (m + s.length)).take (z - (m + s.length)) ++ y.drop ((i + 1) * z) := by
    have e2 : y.drop ((i + 1) * z) = ((y.drop (i * z)).drop (m + s.length)).drop (z - (m + s.length)) := by
      rw [List.drop_drop, List.drop_drop]; congr 1; rw [Nat.add_mul]; omega
    rw [e2, List.take_append_drop, List.drop_drop]; congr 1
    omega
  rw [e1]
  simp only [List.append_assoc]
end Go.Dae
namespace Go.Proofs.YtimjfjlaoekfkaaGreat
open Go Go.Eng Go.Dae
set_option maxRecDepth 100000
theorem overR {n i : Nat} {y : VL} {k : BS} (hy : Row ksR 50 n y) (hi : i < n) (hk : k.length = 32) : Row ksR 50 n (over y (i * 50 + 18) (k.map eu8)) := by
  have hyl := hy.1
  have h1 : (i + 1) * 50 ≤ n * 50 := Nat.mul_le_mul_right _ hi
  rw [over_put (by simp [hk]) (by omega)]
  refine hy.put hi (Row.one (WT_of ?_) ?_)
  · have h2 := (WU.split (a := [.one .b, .vec 16 .u8, .one .i64]) (b := [.vec 32 .u8]) (WU_of_WT (hy.2 i hi))).1
    have h3 : (((y.drop (i * 50)).take 50).take (szTK [.one .b, .vec 16 .u8, .one .i64])) = (y.drop (i * 50)).take 18 := by rw [List.take_take]; rfl
    rw [h3] at h2
    have h4 : WU [.vec 32 .u8] (k.map eu8 ++ ((y.drop (i * 50)).drop (18 + (k.map eu8).length)).take (50 - (18 + (k.map eu8).length))) := by
      refine ⟨k.map eu8, _, rfl, by simp [hk], is8s k, ?_⟩
      show _ = []
      simp [hk]
    exact h2.app h4
  · simp [hk]; omega
theorem prefR {n i : Nat} {y : VL} (hy : Row ksR 50 n y) (hi : i < n) : WT [.one .b, .vec 16 .u8, .one .i64] ((y.drop (i * 50)).take 18) := by
  have h2 := (WU.split (a := [.one .b, .vec 16 .u8, .one .i64]) (b := [.vec 32 .u8]) (WU_of_WT (hy.2 i hi))).1
  have h3 : (((y.drop (i * 50)).take 50).take (szTK [.one .b, .vec 16 .u8, .one .i64])) = (y.drop (i * 50)).take 18 := by rw [List.take_take]; rfl
  rw [h3] at h2
  exact WT_of h2
theorem lawIns (n : Nat) (l : VL) (s : Bool) (i : BS) (b : Int) (k : BS) (hn : n ≤ 99999) (hr : Row ksR 50 n l) (hi : i.length = 16) (hk : k.length = 32) :
    vcFnH EIns 200 22 [.s (.xs 50 (.s n) (.va l)), .w (.agg [.one (.b s), .vec (.n 16) (.u8 i), .one (.i64 b)]), .w (.agg [.vec (.n 32) (.u8 k)])] (HRowE ksR 50 (n + 1)) := by
  refine Eq.mpr (vcIns n l s i b k) ?_
  have e1 : ((1 : Nat) : Int) = 1 := rfl
  have hE := rowR (s := s) (c := b) hi hk
  have hEl : (Value.bool s :: (i.map eu8 ++ ei64 b :: k.map eu8)).take 50 = Value.bool s :: (i.map eu8 ++ ei64 b :: k.map eu8) := List.take_of_length_le (by have := hE.1; omega)
  have hE2 := hE.1
  simp only [forall_eq, io, e1, Int.toNat_natCast, Nat.sub_zero, Nat.zero_add, dropL, hEl]
  generalize Value.bool s :: (i.map eu8 ++ ei64 b :: k.map eu8) = e at *
  have hrl := hr.1
  refine ⟨fun _ => ⟨(0, [], _), ⟨Nat.zero_le _, Row.nil⟩, rfl, rfl, rfl, trivial⟩, fun _ => ⟨by omega, ⟨0, Nat.zero_le _, by and_intros <;> first | trivial | rfl⟩, fun x hx => ⟨fun hd => ?_, fun _ => ⟨fun _ => ⟨(0, [], _), ⟨Nat.zero_le _, Row.nil⟩, rfl, rfl, rfl, trivial⟩, fun _ => ⟨⟨0, Nat.zero_le _, by and_intros <;> first | trivial | rfl⟩, fun x hx => ?_⟩⟩⟩⟩⟩
  · have hlt : x < n := by have := of_decide_eq_true hd; omega
    have hI : InI ((x : Int) + 1) := by unfold InI; omega
    refine ⟨by omega, by omega, prefR hr hlt, fun _ => ⟨by omega, by omega, (n, over l (x * 50 + 18) (k.map eu8), _), ⟨by dsimp only; omega, overR hr hlt hk⟩, Nat.le_refl _, rfl, (overR hr hlt hk).all, rfl, trivial⟩, fun _ => ⟨hI, x + 1, hlt, by omega, ?_⟩⟩
    and_intros <;> first | trivial | rfl
  · have fin : ((0 : Int) ≤ (x : Int) ∧ (x : Int) ≤ (n : Int)) ∧ ((0 : Int) ≤ (x : Int) ∧ (x : Int) ≤ (x : Int)) ∧ ((0 : Int) ≤ (x : Int) ∧ (x : Int) ≤ (n : Int)) ∧ 50 ≤ e.length ∧ x * 50 + (n - x) * 50 ≤ n * 50 ∧ 1 + (n - x) ≤ 4294967296 ∧
        x * 50 ≤ l.length ∧ (1 + (n - x)) * 50 ≤ 50 + (n - x) * 50 ∧ True ∧ x + (1 + (n - x)) ≤ 4294967296 ∧
        ∃ a : Nat × VL × Int, (a.1 ≤ n + 1 ∧ Row ksR 50 a.1 a.2.1) ∧ (x + (1 + (n - x))) * 50 ≤ x * 50 + (1 + (n - x)) * 50 ∧ x + (1 + (n - x)) = a.1 ∧
          List.take ((x + (1 + (n - x))) * 50) (l.take (x * 50) ++ (e ++ (l.drop (x * 50)).take ((n - x) * 50)).take ((1 + (n - x)) * 50)) = a.2.1 ∧ ((0 : Nat) : Int) = a.2.2 ∧ True := by
      have hI := insRow hr hx hE
      refine ⟨by omega, by omega, by omega, by omega, by omega, by omega, by omega, by omega, trivial, by omega, (_, _, _), ⟨?_, hI⟩, by omega, rfl, hI.all, rfl, trivial⟩
      dsimp only; omega
    refine ⟨fun hd => ?_, fun _ => fin⟩
    have hlt : x < n := by have := of_decide_eq_true hd; omega
    have hI : InI ((x : Int) + 1) := by unfold InI; omega
    refine ⟨by omega, by omega, prefR hr hlt, fun _ => ⟨hI, x + 1, hlt, by omega, ?_⟩, fun _ => fin⟩
    and_intros <;> first | trivial | rfl
theorem conIns : ConH Tryz.prog 22 gIns := by
  refine conH_of_vcl fun args ps H hg hp hl => ?_
  unfold gIns at hg
  split at hg
  · cases hg
    obtain ⟨h1, hp⟩ := all_cons.1 hp
    obtain ⟨h2, _⟩ := all_cons.1 hp
    have hi := hl.2.1.2.1
    have hk := hl.2.2.1.1
    exact ⟨EIns, 200, rfl, eok (gs := [(_, gValid), (_, gBefore)]) ⟨conValid, conBefore, trivial⟩, lawIns _ _ _ _ _ _ h1 h2 hi hk⟩
  · cases hg
end Go.Proofs.YtimjfjlaoekfkaaGreat

/- A step towards SessionValuesSaid: no conditions. -/

namespace Go.Dae
open Go Go.Eng
theorem getD_sub {l : VL} {k z m : Nat} (hm : m < z) : ((l.drop k).take z).getD m (.bool false) = l.getD (k + m) (.bool false) := by
  rw [List.getD_eq_getElem?_getD, List.getElem?_take, if_pos hm, List.getElem?_drop, ← List.getD_eq_getElem?_getD]
theorem nil_at {n i : Nat} {l : VL} (h : PRow n l) (hi : i < n) : l.getD (i * 464 + 463) (.bool false) = .slice none 0 0 := by
  have h1 : WU ((ksP.take 57) ++ [.one .nil]) ((l.drop (i * 464)).take 464) := WU_of_WT (h.1.2 i hi)
  obtain ⟨v, t, e, h2, h3⟩ := h1.split.2
  have e0 : szTK (ksP.take 57) = 463 := by decide
  rw [e0] at e
  have e1 : (((l.drop (i * 464)).take 464).drop 463)[0]? = some v := by rw [e]; rfl
  rw [List.getElem?_drop] at e1
  rw [← getD_sub (z := 464) (by omega), List.getD_eq_getElem?_getD, show 463 = 463 + 0 from rfl, e1]
  exact h2
theorem WT_sub (a b c : List TK) {l : VL} (h : WT (a ++ (b ++ c)) l) : WT b ((l.drop (szTK a)).take (szTK b)) :=
  WT_of ((WU_of_WT h).split.2.split.1)
theorem set_same {l : VL} {i : Nat} {v : Value} (h : l.getD i (.bool false) = v) (hi : i < l.length) : l.set i v = l := by
  subst h
  rw [List.getD_eq_getElem?_getD, List.getElem?_eq_getElem hi]
  exact List.set_getElem_self hi
end Go.Dae
namespace Go.Proofs.YtimjfjlaoekfkaaGreat
open Go Go.Eng Go.Dae
set_option maxRecDepth 100000
theorem lawFindP (d : Dm) (k : BS) (hd : d.Ok) : vcFnH EFp 200 38 [.w (.agg (dmC d)), .w (.agg [.vec (.n 32) (.u8 k)])] (HFindP d.np) := by
  refine Eq.mpr (vcFindP d k) ?_
  have e1 : ((1 : Nat) : Int) = 1 := rfl
  have hr := hd.hp.1
  have hnp := hd.np
  simp only [dSm, dmL, io, e1, Int.toNat_natCast]
  refine ⟨⟨0, Nat.zero_le _, by and_intros <;> first | trivial | rfl⟩, fun i hi => ⟨fun hd => ?_, fun hd => ⟨-1, ⟨by omega, by omega⟩, rfl, trivial⟩⟩⟩
  have hlt : i < d.np := by have := of_decide_eq_true hd; omega
  obtain ⟨a1, a2, a3⟩ := hr.at hlt
  have hI : InI ((i : Int) + 1) := by unfold InI; omega
  refine ⟨by omega, a1, by omega, WT_sub [] [.vec 32 .u8] ksP.tail a2, fun _ => ⟨i, ⟨by omega, by omega⟩, rfl, trivial⟩, fun _ => ⟨hI, i + 1, hlt, by omega, ?_⟩⟩
  and_intros <;> first | trivial | rfl
end Go.Proofs.YtimjfjlaoekfkaaGreat

/- A step towards SessionValuesSaid: no conditions. -/

namespace Go.Dae
open Go Go.Eng
theorem encPl_app (p : Pl) (t : VL) : encPl p ++ t = .bool p.has :: eu32 p.s.lo :: eu32 p.s.re :: (p.s.sd.map eu8 ++ (p.s.rv.map eu8 ++ eu64 p.s.nx :: eu64 p.s.fe :: .bool p.s.wu :: eu64 p.s.wt :: (p.s.ww.map eu64 ++ ei64 p.s.bo :: .bool p.s.ini :: t))) := by
  simp [encPl]
structure Sn.Ok (s : Sn) : Prop where
  sd : s.sd.length = 32
  rv : s.rv.length = 32
  ww : s.ww.length = 4
theorem is64s (b : List UInt64) : ∀ v ∈ b.map eu64, Kd.is .u64 v := fun v hv => by
  obtain ⟨x, _, rfl⟩ := List.mem_map.1 hv
  exact is64 x
theorem wuPl {p : Pl} (h : p.s.Ok) : WU ksPlace (encPl p) :=
  ⟨_, _, rfl, isB _, _, _, rfl, is32 _, _, _, rfl, is32 _, _, _, rfl, by simpa using h.sd, is8s _, _, _, rfl, by simpa using h.rv, is8s _, _, _, rfl, is64 _, _, _, rfl, is64 _, _, _, rfl, isB _, _, _, rfl, is64 _, _, _, rfl, by simpa using h.ww, is64s _, _, _, rfl, isI _, _, _, rfl, isB _, rfl⟩
theorem rowPl {p : Pl} (h : p.s.Ok) : Row ksPlace 77 1 (encPl p) := Row.one (WT_of (wuPl h)) (wuPl h).len
theorem zSn_ok : zSn.Ok := ⟨rfl, rfl, rfl⟩
theorem cleanP_ok {p : Pl} (h : p.s.Ok) : (cleanP p).s.Ok := by
  unfold cleanP
  split
  · exact h
  · exact zSn_ok
theorem locN_len (l : VL) : ∀ n, (locN l n).length ≤ n
  | 0 => Nat.le_refl _
  | n + 1 => by
    have := locN_len l n
    unfold locN
    split
    · simp; omega
    · omega
theorem lenSn {s : Sn} (h : lenCs (snC s)) : s.Ok := ⟨h.2.2.1, h.2.2.2.1, h.2.2.2.2.2.2.2.2.1⟩
end Go.Dae
namespace Go.Proofs.YtimjfjlaoekfkaaGreat
open Go Go.Eng Go.Dae
set_option maxRecDepth 100000
theorem conLocals : Con Tryz.prog 58 gLocals := by
  refine con_of_vcs fun args ps res hg hp => ?_
  unfold gLocals at hg
  split at hg
  · rename_i n l
    cases hg
    obtain ⟨hn, hp⟩ := all_cons.1 hp
    obtain ⟨hr, _⟩ := all_cons.1 hp
    refine ⟨ELo, 200, rfl, eok (gs := []) trivial, Eq.mpr (vcLoc n l) ?_⟩
    have e1 : ((1 : Nat) : Int) = 1 := rfl
    simp only [io, e1, Int.toNat_natCast]
    refine ⟨⟨0, Nat.zero_le _, by and_intros <;> first | trivial | rfl⟩, fun i hi => ⟨fun hd => ?_, fun hd => ?_⟩⟩
    · have hlt : i < n := by have := of_decide_eq_true hd; omega
      obtain ⟨a1, a2, a3⟩ := hr.at hlt
      have hI : InI ((i : Int) + 1) := by unfold InI; omega
      have hlen := locN_len l i
      refine ⟨by omega, a1, a2, fun hh => ?_, fun hh => ?_⟩
      · have e : locN l (i + 1) = locN l i ++ [idxL l i] := by
          show (if hasL l i = true then _ else _) = _
          rw [if_pos (show hasL l i = true from hh)]
        refine ⟨trivial, by omega, hI, i + 1, hlt, by omega, ?_⟩
        rw [e]
        and_intros <;> first | trivial | rfl | (simp; done)
      · have e : locN l (i + 1) = locN l i := by
          show (if hasL l i = true then _ else _) = _
          rw [if_neg (by rw [show hasL l i = false from hh]; decide)]
        refine ⟨hI, i + 1, hlt, by omega, ?_⟩
        rw [e]
        and_intros <;> first | trivial | rfl
    · have h12 : i = n := by have := of_decide_eq_false hd; omega
      subst h12
      refine ⟨by omega, rfl, ?_, trivial⟩
      simp only [dropL, List.take_length]
  · cases hg
theorem conClean : Con Tryz.prog 59 gClean := by
  refine con_of_vcs fun args ps res hg hp => ?_
  unfold gClean at hg
  split at hg
  · split at hg
    · rename_i p hq
      cases hg
      rw [plOf_eq hq]
      refine ⟨ECl, 200, rfl, eok (gs := []) trivial, Eq.mpr (vcClean p) ?_⟩
      unfold cleanP
      cases hh : p.has
      · simp only [Bool.false_eq_true, if_false]
        refine ⟨fun _ => ?_, fun h => (by cases h)⟩
        and_intros <;> first | trivial | rfl
      · simp only [if_true]
        refine ⟨fun h => (by cases h), fun _ => ?_⟩
        and_intros <;> first | trivial | rfl | exact hh.symm
    · cases hg
  · cases hg
end Go.Proofs.YtimjfjlaoekfkaaGreat
