/- Steps towards SessionValuesSaid. -/
import Derived.Test.YtimjfjlaoekfkaaGreatJCodSpec
import Derived.Test.YtimjfjlaoekfkaaGreatJDajVc
import Derived.Test.YtimjfjlaoekfkaaGreatJDafSpec
import Derived.Test.YtimjfjlaoekfkaaGreatBase
/- A step towards SessionValuesSaid: no conditions. -/

namespace Go.Dae
open Go Go.Eng
theorem d8_eu8 (x : UInt8) : d8 (eu8 x) = x := by simp [d8, dI, eu8]
theorem d32_eu32 (x : UInt32) : d32 (eu32 x) = x := by simp [d32, dI, eu32]
theorem d64_eu64 (x : UInt64) : d64 (eu64 x) = x := by simp [d64, dI, eu64]
theorem is8 (x : UInt8) : Kd.is .u8 (eu8 x) := by show eu8 x = eu8 (d8 (eu8 x)); rw [d8_eu8]
theorem is32 (x : UInt32) : Kd.is .u32 (eu32 x) := by show eu32 x = eu32 (d32 (eu32 x)); rw [d32_eu32]
theorem is64 (x : UInt64) : Kd.is .u64 (eu64 x) := by show eu64 x = eu64 (d64 (eu64 x)); rw [d64_eu64]
theorem isI (x : Int) : Kd.is .i64 (ei64 x) := rfl
theorem isB (x : Bool) : Kd.is .b (.bool x) := rfl
theorem WTo.one {k : Kd} {r : List TK} {l : VL} {v : Value} {p : VL} (hv : k.is v) (h : WTo r (p ++ v :: l) (p.length + 1)) : WTo (.one k :: r) (p ++ v :: l) p.length := by
  refine ⟨by simp, ?_, h⟩
  rw [List.getD_eq_getElem?_getD, List.getElem?_append_right (Nat.le_refl _), Nat.sub_self]
  exact hv
theorem WTo.vec {k : Kd} {r : List TK} {a l p : VL} (hv : ∀ v ∈ a, k.is v) (h : WTo r (p ++ (a ++ l)) (p.length + a.length)) : WTo (.vec a.length k :: r) (p ++ (a ++ l)) p.length := by
  refine ⟨by simp, ?_, h⟩
  rw [List.drop_left, List.take_left]
  exact hv
def WU : List TK → VL → Prop
  | [], l => l = []
  | .one k :: r, l => ∃ v t, l = v :: t ∧ k.is v ∧ WU r t
  | .vec n k :: r, l => ∃ a t, l = a ++ t ∧ a.length = n ∧ (∀ v ∈ a, k.is v) ∧ WU r t
theorem WTo_of : ∀ {ks : List TK} {l p : VL} {o : Nat}, p.length = o → WU ks l → WTo ks (p ++ l) o
  | [], l, p, o, ho, h => by
    have h : l = [] := h
    subst h
    show (p ++ []).length = o
    simpa using ho
  | .one k :: r, l, p, o, ho, h => by
    obtain ⟨v, t, rfl, h1, h2⟩ := h
    subst ho
    refine WTo.one h1 ?_
    have := WTo_of (p := p ++ [v]) (o := p.length + 1) (by simp) h2
    simpa using this
  | .vec n k :: r, l, p, o, ho, h => by
    obtain ⟨a, t, rfl, h0, h1, h2⟩ := h
    subst ho; subst h0
    refine WTo.vec h1 ?_
    have := WTo_of (p := p ++ a) (o := p.length + a.length) (by simp) h2
    simpa using this
theorem WT_of {ks : List TK} {l : VL} (h : WU ks l) : WT ks l := WTo_of (p := []) rfl h
theorem is8s (b : BS) : ∀ v ∈ b.map eu8, Kd.is .u8 v := fun v hv => by
  obtain ⟨x, _, rfl⟩ := List.mem_map.1 hv
  exact is8 x
theorem rowT {a c : Int} {b : BS} (h : b.length = 32) : Row ksT 34 1 (ei64 a :: (b.map eu8 ++ [ei64 c])) :=
  Row.one (WT_of ⟨_, _, rfl, isI a, _, _, rfl, by simpa using h, is8s b, _, _, rfl, isI c, rfl⟩) (by simp [h])
theorem rowS {a : UInt32} {c : Bool} {b : BS} (h : b.length = 32) : Row ksS 34 1 (eu32 a :: (b.map eu8 ++ [.bool c])) :=
  Row.one (WT_of ⟨_, _, rfl, is32 a, _, _, rfl, by simpa using h, is8s b, _, _, rfl, isB c, rfl⟩) (by simp [h])
theorem rowR {s : Bool} {i b : BS} {c : Int} (hi : i.length = 16) (h : b.length = 32) : Row ksR 50 1 (.bool s :: (i.map eu8 ++ ei64 c :: b.map eu8)) :=
  Row.one (WT_of ⟨_, _, rfl, isB s, _, _, rfl, by simpa using hi, is8s i, _, _, rfl, isI c, _, [], by simp, by simpa using h, is8s b, rfl⟩) (by simp [h, hi])
theorem Row.at {ks : List TK} {z n i : Nat} {l : VL} (h : Row ks z n l) (hi : i < n) : i * z + z ≤ l.length ∧ WT ks ((dropL l (i * z)).take z) ∧ ((dropL l (i * z)).take z).length = z := by
  have h1 : (i + 1) * z ≤ n * z := Nat.mul_le_mul_right _ hi
  rw [Nat.add_mul] at h1
  have hl := h.1
  rw [dropL_eq]
  exact ⟨by omega, h.2 i hi, by rw [List.length_take, List.length_drop]; omega⟩
end Go.Dae

/- A step towards SessionValuesSaid: no conditions. -/

namespace Go.Proofs.YtimjfjlaoekfkaaGreat
open Go Go.Eng Go.Dae
set_option maxRecDepth 100000
end Go.Proofs.YtimjfjlaoekfkaaGreat

/- A step towards SessionValuesSaid: no conditions. -/

namespace Go.Proofs.YtimjfjlaoekfkaaGreat
open Go Go.Eng Go.Dae
noncomputable def ELe : Env := mkE Tryz.prog [] [] 4 true
noncomputable def EBe : Env := mkE Tryz.prog [(55, gLess)] [] 4 true
noncomputable def ESo : Env := mkE Tryz.prog [] [(0, JSou)] 4 true
noncomputable def EVa : Env := mkE Tryz.prog [(52, gSound), (53, gWidth)] [(0, JVal)] 4 true
set_option maxRecDepth 100000 in
theorem vcLess (s s' : Bool) (i j : BS) : (vcFn ELe 200 55 [.w (.agg [.one (.b s), .vec (.n 16) (.u8 i)]), .w (.agg [.one (.b s'), .vec (.n 16) (.u8 j)])] (.s (.b (lessA s i s' j)))) =
  (((s != s') = true → (!s) = lessA s i s' j ∧ True) ∧ ((s != s') = false → Op.bytesLess i j = lessA s i s' j ∧ True)) := by kernel_rfl
set_option maxRecDepth 100000 in
theorem vcBefore (s s' : Bool) (i j : BS) (b c : Int) : (vcFn EBe 200 36 [.w (.agg [.one (.b s), .vec (.n 16) (.u8 i), .one (.i64 b)]), .w (.agg [.one (.b s'), .vec (.n 16) (.u8 j), .one (.i64 c)])] (.s (.b (befP s i b s' j c)))) =
  (((!(s == s' && i == j)) = true → lessA s i s' j = befP s i b s' j c ∧ True) ∧ ((!(s == s' && i == j)) = false → decide (b < c) = befP s i b s' j c ∧ True)) := by kernel_rfl
set_option maxRecDepth 100000 in
theorem vcLessT (a a' : Int) (k k' : BS) (q q' : Int) : (vcFn ELe 200 34 [.w (.agg [.one (.i64 a), .vec (.n 32) (.u8 k), .one (.i64 q)]), .w (.agg [.one (.i64 a'), .vec (.n 32) (.u8 k'), .one (.i64 q')])] (.s (.b (lessT a k q a' k' q')))) =
  ((decide (a ≠ a') = true → decide (a < a') = lessT a k q a' k' q' ∧ True) ∧ (decide (a ≠ a') = false → ((!k == k') = true → Op.bytesLess k k' = lessT a k q a' k' q' ∧ True) ∧ ((!k == k') = false → decide (q < q') = lessT a k q a' k' q' ∧ True))) := by kernel_rfl
set_option maxRecDepth 100000 in
theorem vcSound (s : Bool) (i : BS) : (vcFn ESo 200 52 [.w (.agg [.one (.b s), .vec (.n 16) (.u8 i)])] (.s (.b (soundP s i)))) =
  ((∃ (x : Nat), (x ≤ 12 ∧ ∀ (j : Nat), j < x → (s || List.getD i (4 + j) (0 : UInt8) == (0 : UInt8)) = true) ∧ false = false ∧ Int.ofNat 12 = Int.ofNat 12 ∧ Int.ofNat 0 = (↑x : Int) ∧ s = s ∧ i = i ∧ True) ∧ ∀ (x : Nat), (x ≤ 12 ∧ ∀ (j : Nat), j < x → (s || List.getD i (4 + j) (0 : UInt8) == (0 : UInt8)) = true) → (decide ((↑x : Int) < Int.ofNat 12) = true → ((0 : Int) ≤ (↑x : Int) ∧ (↑x : Int) < (↑(12 : Nat) : Int)) ∧ 4 + (↑x : Int).toNat < 16 ∧ ∀ y, y = List.getD i (4 + (↑x : Int).toNat) (0 : UInt8) → ((!s) = true → ((y != UInt8.ofNat (nat_lit 0)) = true → false = soundP s i ∧ True) ∧ ((y != UInt8.ofNat (nat_lit 0)) = false → InI ((↑x : Int) + Int.ofNat 1) ∧ ∃ (y : Nat), (y ≤ 12 ∧ ∀ (j : Nat), j < y → (s || List.getD i (4 + j) (0 : UInt8) == (0 : UInt8)) = true) ∧ 12 - y < 12 - x ∧ false = false ∧ Int.ofNat 12 = Int.ofNat 12 ∧ (↑x : Int) + Int.ofNat 1 = (↑y : Int) ∧ s = s ∧ i = i ∧ True)) ∧ ((!s) = false → InI ((↑x : Int) + Int.ofNat 1) ∧ ∃ (y : Nat), (y ≤ 12 ∧ ∀ (j : Nat), j < y → (s || List.getD i (4 + j) (0 : UInt8) == (0 : UInt8)) = true) ∧ 12 - y < 12 - x ∧ false = false ∧ Int.ofNat 12 = Int.ofNat 12 ∧ (↑x : Int) + Int.ofNat 1 = (↑y : Int) ∧ s = s ∧ i = i ∧ True)) ∧ (decide ((↑x : Int) < Int.ofNat 12) = false → true = soundP s i ∧ True)) := by kernel_rfl
set_option maxRecDepth 100000 in
theorem vcWidth (s : Bool) (i : BS) : (vcFn ELe 200 53 [.w (.agg [.one (.b s), .vec (.n 16) (.u8 i)])] (.s (.i64 (widthP s)))) =
  ((s = true → Int.ofNat 128 = widthP s ∧ True) ∧ (s = false → Int.ofNat 32 = widthP s ∧ True)) := by kernel_rfl
set_option maxRecDepth 100000 in
theorem vcValid (s : Bool) (i : BS) (b : Int) : (vcFn EVa 200 35 [.w (.agg [.one (.b s), .vec (.n 16) (.u8 i), .one (.i64 b)])] (.s (.b (validP s i b)))) =
  (((!soundP s i) = true → false = validP s i b ∧ True) ∧ ((!soundP s i) = false → (decide (b < Int.ofNat 0) = true → false = validP s i b ∧ True) ∧ (decide (b < Int.ofNat 0) = false → ∀ y, y = widthP s → (decide (y < b) = true → false = validP s i b ∧ True) ∧ (decide (y < b) = false → ∀ y, y = b → (∃ (x : Nat), (x ≤ 128 ∧ b ≤ (↑x : Int) ∧ ∀ (j : Nat), b ≤ (↑j : Int) → j < x → bitP i j = (0 : UInt8)) ∧ false = false ∧ y = (↑x : Int) ∧ s = s ∧ i = i ∧ b = b ∧ True) ∧ ∀ (x : Nat), (x ≤ 128 ∧ b ≤ (↑x : Int) ∧ ∀ (j : Nat), b ≤ (↑j : Int) → j < x → bitP i j = (0 : UInt8)) → (decide ((↑x : Int) < Int.ofNat 128) = true → ∀ y, y = UInt8.ofNat (nat_lit 0) → (Int.ofNat 8 ≠ (0 : Int) ∧ InI ((↑x : Int).tdiv (Int.ofNat 8))) ∧ ((0 : Int) ≤ (↑x : Int).tdiv (Int.ofNat 8) ∧ (↑x : Int).tdiv (Int.ofNat 8) < (↑(16 : Nat) : Int)) ∧ ((↑x : Int).tdiv (Int.ofNat 8)).toNat < 16 ∧ Int.ofNat 8 ≠ (0 : Int) ∧ InI (Int.ofNat 7 - (↑x : Int).tmod (Int.ofNat 8)) ∧ (0 : Int) ≤ Int.ofNat 7 - (↑x : Int).tmod (Int.ofNat 8) ∧ ∀ y, y = shr8 (List.getD i ((↑x : Int).tdiv (Int.ofNat 8)).toNat (0 : UInt8)) (Int.ofNat 7 - (↑x : Int).tmod (Int.ofNat 8)).toNat &&& UInt8.ofNat (nat_lit 1) → ((y != UInt8.ofNat (nat_lit 0)) = true → false = validP s i b ∧ True) ∧ ((y != UInt8.ofNat (nat_lit 0)) = false → InI ((↑x : Int) + Int.ofNat 1) ∧ ∀ y, y = (↑x : Int) + Int.ofNat 1 → ∃ (y_1 : Nat), (y_1 ≤ 128 ∧ b ≤ (↑y_1 : Int) ∧ ∀ (j : Nat), b ≤ (↑j : Int) → j < y_1 → bitP i j = (0 : UInt8)) ∧ 128 - y_1 < 128 - x ∧ false = false ∧ y = (↑y_1 : Int) ∧ s = s ∧ i = i ∧ b = b ∧ True)) ∧ (decide ((↑x : Int) < Int.ofNat 128) = false → true = validP s i b ∧ True))))) := by kernel_rfl
end Go.Proofs.YtimjfjlaoekfkaaGreat

/- A step towards SessionValuesSaid: no conditions. -/

namespace Go.Proofs.YtimjfjlaoekfkaaGreat
open Go Go.Eng Go.Dae
set_option maxRecDepth 100000
theorem conLess : Con Tryz.prog 55 gLess := by
  refine con_of_vcs fun args ps res hg hp => ?_
  unfold gLess at hg
  split at hg
  · rename_i s i s' j
    cases hg
    refine ⟨ELe, 200, rfl, eok (gs := []) trivial, Eq.mpr (vcLess s s' i j) ?_⟩
    unfold lessA
    cases s <;> cases s' <;> simp
  · cases hg
theorem conBefore : Con Tryz.prog 36 gBefore := by
  refine con_of_vcs fun args ps res hg hp => ?_
  unfold gBefore at hg
  split at hg
  · rename_i s i b s' j c
    cases hg
    refine ⟨EBe, 200, rfl, eok (gs := [(_, gLess)]) ⟨conLess, trivial⟩, Eq.mpr (vcBefore s s' i j b c) ?_⟩
    unfold befP
    by_cases h : s = s' ∧ i = j
    · obtain ⟨rfl, rfl⟩ := h; simp
    · rw [if_neg h]
      refine ⟨fun _ => ⟨rfl, trivial⟩, fun hd => absurd ?_ h⟩
      simpa using hd
  · cases hg
theorem conLessT : Con Tryz.prog 34 gLessT := by
  refine con_of_vcs fun args ps res hg hp => ?_
  unfold gLessT at hg
  split at hg
  · rename_i a k q a' k' q'
    cases hg
    refine ⟨ELe, 200, rfl, eok (gs := []) trivial, Eq.mpr (vcLessT a a' k k' q q') ?_⟩
    unfold lessT
    by_cases h : a = a' <;> by_cases h2 : k = k' <;> simp [h, h2]
  · cases hg
theorem conWidth : Con Tryz.prog 53 gWidth := by
  refine con_of_vcs fun args ps res hg hp => ?_
  unfold gWidth at hg
  split at hg
  · rename_i s i
    cases hg
    refine ⟨ELe, 200, rfl, eok (gs := []) trivial, Eq.mpr (vcWidth s i) ?_⟩
    unfold widthP
    cases s <;> simp
  · cases hg
theorem conSound : Con Tryz.prog 52 gSound := by
  refine con_of_vcs fun args ps res hg hp => ?_
  unfold gSound at hg
  split at hg
  · rename_i s ip
    cases hg
    refine ⟨ESo, 200, rfl, eok (gs := []) trivial, Eq.mpr (vcSound s ip) ?_⟩
    simp only [forall_eq, io]
    have e12 : ((12 : Nat) : Int) = 12 := rfl
    have e1 : ((1 : Nat) : Int) = 1 := rfl
    simp only [e12, e1]
    refine ⟨⟨0, ⟨by omega, fun j h => by omega⟩, by and_intros <;> first | trivial | rfl⟩, fun i ⟨hi, hall⟩ => ⟨fun hd => ?_, fun hd => ?_⟩⟩
    · have hlt : i < 12 := by have := of_decide_eq_true hd; omega
      have en : (i : Int).toNat = i := rfl
      rw [en]
      have hI : InI ((i : Int) + 1) := by unfold InI; omega
      refine ⟨⟨by omega, by omega⟩, by omega, fun hs => ⟨fun hy => ⟨?_, trivial⟩, fun hy => ⟨hI, i + 1, ⟨by omega, fun j hj => ?_⟩, by omega, ?_⟩⟩, fun hs => ⟨hI, i + 1, ⟨by omega, fun j hj => ?_⟩, by omega, ?_⟩⟩
      · have hs : s = false := by simpa using hs
        subst hs
        unfold soundP
        have : ((List.range 12).all fun j => ip.getD (4 + j) 0 == 0) = false := by
          rw [List.all_eq_false]
          exact ⟨i, List.mem_range.2 hlt, by simpa using hy⟩
        rw [this]; rfl
      · rcases Nat.lt_or_ge j i with h | h
        · exact hall j h
        · have : j = i := by omega
          subst this
          have : ip.getD (4 + j) 0 = 0 := by simpa using hy
          rw [this]; simp
      · and_intros <;> first | trivial | rfl
      · have : s = true := by simpa using hs
        simp [this]
      · and_intros <;> first | trivial | rfl
    · have h12 : i = 12 := by have := of_decide_eq_false hd; omega
      subst h12
      refine ⟨?_, trivial⟩
      unfold soundP
      cases s with
      | true => rfl
      | false =>
        symm
        show (false || _) = true
        rw [Bool.false_or, List.all_eq_true]
        intro j hj
        simpa using hall j (List.mem_range.1 hj)
  · cases hg
theorem conValid : Con Tryz.prog 35 gValid := by
  refine con_of_vcs fun args ps res hg hp => ?_
  unfold gValid at hg
  split at hg
  · rename_i s ip b
    cases hg
    refine ⟨EVa, 200, rfl, eok (gs := [(_, gSound), (_, gWidth)]) ⟨conSound, conWidth, trivial⟩, Eq.mpr (vcValid s ip b) ?_⟩
    simp only [forall_eq, io]
    have e128 : ((128 : Nat) : Int) = 128 := rfl
    have e8 : ((8 : Nat) : Int) = 8 := rfl
    have e7 : ((7 : Nat) : Int) = 7 := rfl
    have e1 : ((1 : Nat) : Int) = 1 := rfl
    have e0 : ((0 : Nat) : Int) = 0 := rfl
    simp only [e128, e8, e7, e1, e0]
    have hw : widthP s ≤ 128 := by unfold widthP; split <;> omega
    refine ⟨fun h => ⟨?_, trivial⟩, fun hS => ⟨fun h => ⟨?_, trivial⟩, fun h0 => ⟨fun h => ⟨?_, trivial⟩, fun h1 => ⟨⟨b.toNat, ⟨?_, ?_, ?_⟩, ?_⟩, fun i ⟨hi, hb, hall⟩ => ⟨fun hd => ?_, fun hd => ⟨?_, trivial⟩⟩⟩⟩⟩⟩
    · have : soundP s ip = false := by simpa using h
      simp [validP, this]
    · have := of_decide_eq_true h
      have : decide (0 ≤ b) = false := decide_eq_false (by omega)
      simp only [validP, this, Bool.and_false, Bool.false_and]
    · have := of_decide_eq_true h
      have : decide (b ≤ widthP s) = false := decide_eq_false (by omega)
      simp only [validP, this, Bool.and_false, Bool.false_and]
    · have := of_decide_eq_false h0; have := of_decide_eq_false h1; omega
    · have := of_decide_eq_false h0; omega
    · intro j h2 h3; have := of_decide_eq_false h0; omega
    · have := of_decide_eq_false h0
      and_intros <;> first | trivial | rfl | omega
    · have hlt : i < 128 := by have := of_decide_eq_true hd; omega
      have hq : (i : Int).tdiv 8 = ((i / 8 : Nat) : Int) := rfl
      have hm : (i : Int).tmod 8 = ((i % 8 : Nat) : Int) := rfl
      have hn : (7 - ((i % 8 : Nat) : Int)).toNat = 7 - i % 8 := by omega
      have hmb := Nat.mod_lt i (show 0 < 8 by omega)
      rw [hq, hm, hn]
      have hI : InI ((i : Int) + 1) := by unfold InI; omega
      have eb : shr8 (ip.getD ((i / 8 : Nat) : Int).toNat 0) (7 - i % 8) &&& UInt8.ofNat 1 = bitP ip i := rfl
      rw [eb]
      refine ⟨⟨by omega, by unfold InI; omega⟩, ⟨by omega, by omega⟩, by omega, by omega, by unfold InI; omega, by omega, fun hy => ⟨?_, trivial⟩, fun hy => ⟨hI, i + 1, ⟨by omega, by omega, fun j h2 h3 => ?_⟩, by omega, ?_⟩⟩
      · have : ((List.range 128).all fun i => decide ((i : Int) < b) || bitP ip i == 0) = false := by
          rw [List.all_eq_false]
          refine ⟨i, List.mem_range.2 hlt, ?_⟩
          have h2 : decide ((i : Int) < b) = false := decide_eq_false (by omega)
          have h3 : (bitP ip i == 0) = false := by simpa using hy
          rw [h2, h3]; decide
        simp only [validP, this, Bool.and_false]
      · rcases Nat.lt_or_ge j i with h | h
        · exact hall j h2 h
        · have : j = i := by omega
          subst this
          simpa using hy
      · and_intros <;> first | trivial | rfl
    · have hi2 : i = 128 := by have := of_decide_eq_false hd; omega
      subst hi2
      have h2 := of_decide_eq_false h0
      have h3 := of_decide_eq_false h1
      have hs : soundP s ip = true := by simpa using hS
      have d1 : decide (0 ≤ b) = true := decide_eq_true (by omega)
      have d2 : decide (b ≤ widthP s) = true := decide_eq_true (by omega)
      symm
      simp only [validP, hs, d1, d2, Bool.and_true, Bool.true_and, List.all_eq_true]
      intro j hj
      by_cases hjb : (j : Int) < b
      · simp [hjb]
      · rw [hall j (by omega) (List.mem_range.1 hj)]; simp
  · cases hg
end Go.Proofs.YtimjfjlaoekfkaaGreat
