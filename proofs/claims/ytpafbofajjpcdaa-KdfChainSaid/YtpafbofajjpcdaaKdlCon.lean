/- A step towards KdfChainSaid: no conditions. -/
import Derived.Test.YtpafbofajjpcdaaKdlVc
import Derived.Test.YtpafbofajjpcdaaKdfCon
namespace Go.Proofs.Ytpafbofajjpcdaa
open Go Go.Eng Go.Cod Go.Cha Go.Bla Go.Kdf
theorem minNN (a b : Nat) : min (a : Int) (b : Int) = ((min a b : Nat) : Int) := by omega
theorem maxNN (a b : Nat) : max (a : Int) (b : Int) = ((max a b : Nat) : Int) := by omega
theorem natNN (a b : Nat) : (0 ≤ ((min a b : Nat) : Int) ∧ ((min a b : Nat) : Int) ≤ (a : Int)) = True := eq_true ⟨by omega, by omega⟩
theorem flat1 (l : List UInt8) : [l].flatten = l := by simp
theorem keysF_get (t : List UInt8) : ∀ (n x : Nat), x < n → List.take 32 (List.drop (x * 32) (keysF t n)) = keyN t (x + 1)
  | 0, _, h => by omega
  | n + 1, x, h => by
    show List.take 32 (List.drop (x * 32) (keysF t n ++ keyN t (n + 1))) = _
    have hl := keysF_len t n
    by_cases hx : x < n
    · rw [List.drop_append_of_le_length (by omega), List.take_append_of_le_length (by rw [List.length_drop]; omega), keysF_get t n x hx]
    · have : x = n := by omega
      subst this
      rw [List.drop_append, List.drop_of_length_le (by omega), hl, Nat.sub_self, List.drop_zero, List.nil_append, List.take_of_length_le (by rw [keyN_len]; exact Nat.le_refl _)]
set_option maxRecDepth 100000 in
theorem conBegK : Con Try.prog 13 gTrue0 := con_of_vcs fun args ps res h hp => by
  unfold gTrue0 at h
  split at h <;> cases h
  refine ⟨KEbe, 200, rfl, eok (gs := [(9, gExpand)]) ⟨conExpand, trivial⟩, ?_⟩
  rw [vcBegK]
  decide +kernel
set_option maxRecDepth 100000 in
theorem conSame : Con Try.prog 8 gSame := con_of_vcl fun args ps res h hp hlen => by
  unfold gSame at h
  split at h <;> cases h
  rename_i m a n b
  obtain ⟨rfl, hp2⟩ := all_cons.1 hp
  obtain ⟨rfl, hp3⟩ := all_cons.1 hp2
  obtain ⟨hl, hp4⟩ := all_cons.1 hp3
  have hb := (all_cons.1 hp4).1
  refine ⟨KEsa, 200, rfl, eok (gs := []) trivial, ?_⟩
  rw [vcSame m a]
  simp only [forall_eq, true_and, and_true, io, decide_eq_true_eq, decide_eq_false_iff_not, Nat.zero_add, forall_const, Int.toNat_natCast]
  refine ⟨fun h => absurd rfl h, fun _ => ⟨⟨0, Nat.zero_le _, rfl⟩, fun x hx => ⟨fun hlt => ⟨⟨by omega, by omega⟩, by omega, ⟨by omega, by omega⟩, by omega, fun h => ?_, fun _ => ⟨inI_of (by omega) (by omega), x + 1, by omega, by omega, rfl⟩⟩, fun _ => trivial⟩⟩⟩
  simp at h
set_option maxRecDepth 100000 in
theorem law_chain (key input : List UInt8) (n : UInt8) : vcFn KEl3 300 5 [.s (.xs 1 (.s key.length) (.u8 key)), .s (.xs 1 (.s input.length) (.u8 input)), .s (.u8 n)] (.s (.b true)) := by
  rw [vcChain key input n]
  have hnm : ((n.toNat : Int).tmod ((6 : Nat) : Int)) = ((n.toNat % 6 : Nat) : Int) := rfl
  have hadd : ∀ a b : Nat, (a : Int) + (b : Int) = ((a + b : Nat) : Int) := fun _ _ => rfl
  simp only [forall_eq, true_and, and_true, io, decide_eq_true_eq, decide_eq_false_iff_not, dropL_zero, Nat.zero_add, Nat.sub_zero, forall_const, Int.toNat_natCast, List.take_length, minNN, natNN, hnm, hadd, flat1]
  have hN : 1 ≤ 1 + n.toNat % 6 ∧ 1 + n.toNat % 6 ≤ 6 := by omega
  have lk : (List.take (min key.length 60) key).length ≤ 60 := by rw [List.length_take]; omega
  have li : (List.take (min input.length 60) input).length ≤ 60 := by rw [List.length_take]; omega
  generalize List.take (min key.length 60) key = k at *
  generalize List.take (min input.length 60) input = i at *
  generalize 1 + n.toNat % 6 = N at *
  have hx : expandN (N : Int) = N := by rw [expandN_in ⟨by omega, by omega⟩]; rfl
  unfold expandL
  rw [hx]
  generalize ht : hmacL k i = t
  have htl : t.length = 32 := by rw [← ht]; exact hmacL_len _ _
  refine ⟨by omega, inI_of (by omega) (by omega), by omega, by omega, by omega, rfl, by decide, by omega, ⟨0, by omega, rfl, rfl, rfl, rfl⟩, fun x hx => ⟨fun hlt => ?_, fun hge => ⟨by decide, inI_of (by omega) (by omega), fun _ => trivial, fun h => absurd rfl h⟩⟩⟩
  have l1 := keyN_le t x
  have e1 : hmacL t [keyN t x, [to8 ((x + 1 : Nat) : Int)]].flatten = keyN t (x + 1) := by simp [keyN]
  have e2 := keysF_get t N x (by omega)
  rw [e1, e2]
  refine ⟨inI_of (by omega) (by omega), Nat.le_refl _, by omega, rfl, by decide, by simp; omega, ⟨by omega, by omega⟩, by omega, fun h => ?_, fun _ => ⟨by decide, inI_of (by omega) (by omega), x + 1, by omega, by omega, (keyN_len t x).symm, rfl, (keyN_len t x).symm, rfl⟩⟩
  simp at h
theorem padZ_twice {k : List UInt8} (h : k.length ≤ 64) : keyK (padZ k) = padZ k ∧ padZ (padZ k) = padZ k := by
  have hl := padZ_len h
  refine ⟨if_neg (by omega), ?_⟩
  rw [padZ, hl]; simp
theorem hmac_pad (k d : List UInt8) : hmacL (padZ (keyK k)) d = hmacL k d := by
  obtain ⟨h1, h2⟩ := padZ_twice (keyK_len (key := k))
  unfold hmacL padX
  rw [h1, h2]
set_option maxRecDepth 100000 in
theorem law_partsK (key data : List UInt8) (x : UInt8) : vcFn KEl2 300 4 [.s (.xs 1 (.s key.length) (.u8 key)), .s (.xs 1 (.s data.length) (.u8 data)), .s (.u8 x)] (.s (.b true)) := by
  rw [vcPartsK key data x]
  simp only [forall_eq, true_and, and_true, io, decide_eq_true_eq, decide_eq_false_iff_not, dropL_zero, Nat.zero_add, Nat.sub_zero, forall_const, Int.toNat_natCast, List.take_length, minNN, natNN, flat1]
  have hlk : (List.take (min key.length 90) key).length = min key.length 90 := by rw [List.length_take]; omega
  have hld : (List.take (min data.length 100) data).length = min data.length 100 := by rw [List.length_take]; omega
  have bk : min key.length 90 ≤ 90 := Nat.min_le_right ..
  have bd : min data.length 100 ≤ 100 := Nat.min_le_right ..
  generalize List.take (min key.length 90) key = k at *
  generalize List.take (min data.length 100) data = d at *
  generalize min key.length 90 = K at *
  generalize min data.length 100 = D at *
  subst hlk hld
  have hp : min x.toNat d.length ≤ d.length := Nat.min_le_right ..
  generalize min x.toNat d.length = p at *
  have fp : [List.take p d, List.drop p d].flatten = d := by simp
  simp only [fp]
  have l32 : (keyK k).length ≤ 64 := keyK_len
  have d1 : d.length ≤ 4294960000 := by omega
  have d2 : k.length ≤ 4294960000 := by omega
  refine ⟨by omega, fun hlong => ⟨rfl, by decide, by omega, (), ?_⟩, fun hshort => ⟨(), ?_⟩, ⟨0, by omega, by simp⟩, fun n hn => ⟨fun hlt => ⟨by omega, n + 1, by omega, by omega, by omega, by omega, ?_⟩, fun hge => ?_⟩⟩
  · have e : keyK k = sumL 32 [] k := if_pos (by omega)
    rw [e, sum32_len]
    exact ⟨rfl, rfl, rfl⟩
  · have e : keyK k = k := if_neg (by omega)
    rw [e]
    exact ⟨rfl, rfl, rfl⟩
  · rw [List.append_assoc, List.replicate_succ']; rfl
  · have hn : n = 64 - (keyK k).length := by omega
    have e : keyK k ++ List.replicate n 0 = padZ (keyK k) := by rw [hn]; rfl
    have e2 : (keyK k).length + n = (padZ (keyK k)).length := by rw [← e]; simp
    rw [e, e2, List.take_length, hmac_pad]
    have l64 := padZ_len (keyK_len (key := k))
    simp [d1, d2, l64]
    omega
set_option maxRecDepth 100000 in
theorem law_derives (key a b : List UInt8) (n : Int) : vcFn KEl1 300 3 [.s (.xs 1 (.s key.length) (.u8 key)), .s (.xs 1 (.s a.length) (.u8 a)), .s (.xs 1 (.s b.length) (.u8 b)), .s (.i64 n)] (.s (.b true)) := by
  rw [vcDerives key a b n]
  simp only [forall_eq, true_and, and_true, io, decide_eq_true_eq, decide_eq_false_iff_not, dropL_zero, Nat.zero_add, Nat.sub_zero, forall_const, Int.toNat_natCast, List.take_length, minNN, natNN, flat1]
  have lk : (List.take (min key.length 90) key).length ≤ 90 := by rw [List.length_take]; omega
  have la : (List.take (min a.length 80) a).length ≤ 80 := by rw [List.length_take]; omega
  have lb : (List.take (min b.length 80) b).length ≤ 80 := by rw [List.length_take]; omega
  generalize List.take (min key.length 90) key = k at *
  generalize List.take (min a.length 80) a = x at *
  generalize List.take (min b.length 80) b = y at *
  have t1 : ∀ x : Int, -7 < x.tmod ((7 : Nat) : Int) ∧ x.tmod ((7 : Nat) : Int) < 7 := fun x => ⟨Int.lt_tmod_of_pos x (by decide), Int.tmod_lt_of_pos x (by decide)⟩
  have t2 := t1 n
  have t3 := t1 (n.tmod ((7 : Nat) : Int) + ((7 : Nat) : Int))
  generalize n.tmod ((7 : Nat) : Int) = s0 at *
  generalize (s0 + ((7 : Nat) : Int)).tmod ((7 : Nat) : Int) = s1 at *
  have i1 : InI (s0 + ((7 : Nat) : Int)) := inI_of (by omega) (by omega)
  have i2 : InI (s1 - ((1 : Nat) : Int)) := inI_of (by omega) (by omega)
  have fp : [x, y].flatten = x ++ y := by simp
  have e1 : ∀ z, (expandL k x z).length = expandN z * 32 := fun z => keysF_len _ _
  have e2 : ∀ z, List.take (expandN z * 32) (expandL k x z) = expandL k x z := fun z => List.take_of_length_le (by rw [e1]; exact Nat.le_refl _)
  have e3 : ∀ z, expandN z ≤ 255 := fun z => by unfold expandN; split <;> omega
  have e4 : ∀ z, expandN z * 32 ≤ 4294960000 := fun z => by have := e3 z; omega
  have hk : k.length ≤ 4294960000 := by omega
  have hx : x.length ≤ 4294960000 := by omega
  have hy : (x ++ y).length ≤ 4294960000 := by rw [List.length_append]; omega
  generalize s1 - ((1 : Nat) : Int) = s2 at *
  simp only [fp, e2, e1, e4, i1, i2, hk, hx, hy]
  simp
set_option maxRecDepth 100000 in
theorem ekl1 : EnvOk KEl1 := eok (gs := [(11, gHmac), (9, gExpand), (12, gHmac), (10, gExpand), (8, gSame), (13, gTrue0)]) ⟨conHmac, conExpand, conHmacR, conExpandR, conSame, conBegK, trivial⟩
theorem ekl2 : EnvOk KEl2 := eok (gs := [(14, gHash), (11, gHmac), (13, gTrue0)]) ⟨conHash, conHmac, conBegK, trivial⟩
theorem ekl3 : EnvOk KEl3 := eok (gs := [(11, gHmac), (9, gExpand), (13, gTrue0)]) ⟨conHmac, conExpand, conBegK, trivial⟩
end Go.Proofs.Ytpafbofajjpcdaa
