/- A step towards KdfChainSaid: no conditions. -/
import Derived.Test.YtpafbofajjpcdaaKdfVc
import Derived.Test.YtpafbofajjpcdaaBlhCon
import Derived.Test.YtpafbofajjpcdaaBlrCon
namespace Go.Proofs.Ytpafbofajjpcdaa
open Go Go.Eng Go.Cod Go.Cha Go.Bla Go.Kdf
theorem sum32_len (d : List UInt8) : (sumL 32 [] d).length = 32 := sumL_len 32 [] d (by decide)
theorem hmacL_len (key d : List UInt8) : (hmacL key d).length = 32 := sum32_len _
theorem keyN_len (t : List UInt8) (i : Nat) : (keyN t (i + 1)).length = 32 := hmacL_len _ _
theorem keyN_le (t : List UInt8) : ∀ i, (keyN t i).length ≤ 32
  | 0 => Nat.zero_le _
  | i + 1 => by rw [keyN_len]; exact Nat.le_refl _
theorem keysF_len (t : List UInt8) : ∀ i, (keysF t i).length = i * 32
  | 0 => rfl
  | i + 1 => by
    show (keysF t i ++ keyN t (i + 1)).length = _
    rw [List.length_append, keysF_len t i, keyN_len]; omega
theorem keyK_len {key : List UInt8} : (keyK key).length ≤ 64 := by
  unfold keyK
  split
  · rw [sum32_len]; decide
  · omega
theorem xorTo_zero (c : UInt8) (p : List UInt8) : xorTo c p 0 = p := rfl
theorem xorTo_len (c : UInt8) (p : List UInt8) (i : Nat) : (xorTo c p i).length = p.length := by
  unfold xorTo
  rw [List.length_append, List.length_map, List.length_take, List.length_drop]
  omega
theorem xorTo_get (c : UInt8) (p : List UInt8) (i : Nat) (j : Nat) : (xorTo c p i)[j]? = if j < i then p[j]?.map (· ^^^ c) else p[j]? := by
  unfold xorTo
  rw [List.getElem?_append]
  simp only [List.length_map, List.length_take, List.getElem?_map, List.getElem?_take, List.getElem?_drop]
  by_cases h1 : j < i
  · by_cases h2 : j < p.length
    · rw [if_pos (by omega), if_pos h1, if_pos h1]
    · rw [if_neg (by omega), if_pos h1, List.getElem?_eq_none (by omega), List.getElem?_eq_none (by omega)]; rfl
  · rw [if_neg (by omega), if_neg h1]
    by_cases h2 : i ≤ p.length
    · congr 1; omega
    · rw [List.getElem?_eq_none (by omega), List.getElem?_eq_none (by omega)]
theorem xorTo_step (c : UInt8) (p : List UInt8) (i : Nat) (h : i < p.length) : (xorTo c p i).set i ((xorTo c p i).getD i 0 ^^^ c) = xorTo c p (i + 1) := by
  apply List.ext_getElem?
  intro j
  rw [List.getElem?_set, xorTo_get, xorTo_get, List.getD_eq_getElem?_getD, xorTo_get, if_neg (Nat.lt_irrefl i), xorTo_len]
  by_cases e : i = j
  · subst e
    rw [if_pos rfl, if_pos h, if_pos (by omega), List.getElem?_eq_getElem h]
    rfl
  · rw [if_neg e]
    by_cases h1 : j < i
    · rw [if_pos h1, if_pos (by omega)]
    · rw [if_neg h1, if_neg (by omega)]
theorem xorTo_all (c : UInt8) (p : List UInt8) (h : p.length = 64) : xorTo c p 64 = p.map (· ^^^ c) := by
  unfold xorTo
  rw [List.take_of_length_le (by omega), List.drop_of_length_le (by omega), List.append_nil]
theorem padZ_len {k : List UInt8} (h : k.length ≤ 64) : (padZ k).length = 64 := by
  unfold padZ
  rw [List.length_append, List.length_replicate]; omega
theorem over_padZ {k : List UInt8} (h : k.length ≤ 64) : over (List.replicate 64 (0 : UInt8)) 0 k = padZ k := by
  unfold over padZ
  rw [List.take_zero, List.nil_append, Nat.zero_add, List.drop_replicate]
theorem padX_len {c : UInt8} {k : List UInt8} (h : k.length ≤ 64) : (padX c k).length = 64 := by unfold padX; rw [List.length_map, padZ_len h]
theorem padX_step1 {c : UInt8} {k : List UInt8} {i : Nat} (hi : i < k.length) : List.take i (padX c k) ++ [k.getD i 0 ^^^ c] = List.take (i + 1) (padX c k) := by
  have e : (padX c k)[i]? = some (k.getD i 0 ^^^ c) := by
    unfold padX padZ
    rw [List.getElem?_map, List.getElem?_append_left hi, List.getD_eq_getElem?_getD, List.getElem?_eq_getElem hi]
    rfl
  rw [List.take_add_one, e]
  rfl
theorem padX_step2 {c : UInt8} {k : List UInt8} {i : Nat} (hi : ¬ i < k.length) (h64 : i < 64) : List.take i (padX c k) ++ [UInt8.ofNat 0 ^^^ c] = List.take (i + 1) (padX c k) := by
  have e : (padX c k)[i]? = some (UInt8.ofNat 0 ^^^ c) := by
    unfold padX padZ
    rw [List.getElem?_map, List.getElem?_append_right (by omega), List.getElem?_replicate, if_pos (by omega)]
    rfl
  rw [List.take_add_one, e]
  rfl
theorem hmac_eq (key d : List UInt8) (p q : List UInt8) (hp : p = padX 54 (keyK key)) (hq : q = padX 92 (keyK key)) : sumL 32 [] [q, sumL 32 [] [p, d].flatten].flatten = hmacL key d := by
  subst hp hq
  unfold hmacL
  simp only [List.flatten_cons, List.flatten_nil, List.append_nil]
set_option maxRecDepth 100000 in
set_option maxHeartbeats 4000000 in
theorem conHmac : Con Try.prog 11 gHmac := con_of_vcl fun args ps res h hp hlen => by
  unfold gHmac at h
  split at h <;> cases h
  rename_i m key n ls
  obtain ⟨rfl, hp2⟩ := all_cons.1 hp
  obtain ⟨hk, hp3⟩ := all_cons.1 hp2
  obtain ⟨rfl, hp4⟩ := all_cons.1 hp3
  obtain ⟨hl, hp5⟩ := all_cons.1 hp4
  have hf := (all_cons.1 hp5).1
  refine ⟨KEh, 200, rfl, eok (gs := [(15, gJoin), (14, gHash)]) ⟨conJoin, conHash, trivial⟩, ?_⟩
  rw [vcHmac key ls]
  simp only [forall_eq, true_and, and_true, io, decide_eq_true_eq, decide_eq_false_iff_not, dropL_zero, Nat.zero_add, Nat.sub_zero, forall_const, Int.toNat_natCast, List.take_length]
  have f1 : [key].flatten = key := by simp
  rw [f1]
  have main : ∀ (k : List UInt8), k.length ≤ 64 → keyK key = k →
      (∃ x : Nat, x ≤ 64 ∧ ((0 : Nat) : Int) = (x : Int) ∧ over (List.replicate 64 0) 0 k = xorTo 54 (over (List.replicate 64 0) 0 k) x ∧ over (List.replicate 64 0) 0 k = xorTo 92 (over (List.replicate 64 0) 0 k) x) ∧
      ∀ x : Nat, x ≤ 64 →
        (((x : Nat) : Int) < ((64 : Nat) : Int) → (0 ≤ (x : Int) ∧ (x : Int) < ((64 : Nat) : Int)) ∧ x < 64 ∧ (0 ≤ (x : Int) ∧ (x : Int) < ((64 : Nat) : Int)) ∧ x < 64 ∧ (0 ≤ (x : Int) ∧ (x : Int) < ((64 : Nat) : Int)) ∧ x < 64 ∧ (0 ≤ (x : Int) ∧ (x : Int) < ((64 : Nat) : Int)) ∧ x < 64 ∧
          InI ((x : Int) + ((1 : Nat) : Int)) ∧ ∃ y : Nat, y ≤ 64 ∧ 64 - y < 64 - x ∧ (x : Int) + ((1 : Nat) : Int) = (y : Int) ∧
            (xorTo 54 (over (List.replicate 64 0) 0 k) x).set x ((xorTo 54 (over (List.replicate 64 0) 0 k) x).getD x 0 ^^^ UInt8.ofNat 54) = xorTo 54 (over (List.replicate 64 0) 0 k) y ∧
            (xorTo 92 (over (List.replicate 64 0) 0 k) x).set x ((xorTo 92 (over (List.replicate 64 0) 0 k) x).getD x 0 ^^^ UInt8.ofNat 92) = xorTo 92 (over (List.replicate 64 0) 0 k) y) ∧
        (¬ ((x : Nat) : Int) < ((64 : Nat) : Int) → ls.length < 4611686018427387904 ∧ ls.flatten.length ≤ 4294967296 ∧ ls.flatten.length ≤ ls.flatten.length ∧
          [xorTo 54 (over (List.replicate 64 0) 0 k) x, ls.flatten].length = 2 ∧ 2 < 4611686018427387904 ∧ [xorTo 54 (over (List.replicate 64 0) 0 k) x, ls.flatten].flatten.length ≤ 4294966000 ∧
          [xorTo 92 (over (List.replicate 64 0) 0 k) x, sumL 32 [] [xorTo 54 (over (List.replicate 64 0) 0 k) x, ls.flatten].flatten].length = 2 ∧ 2 < 4611686018427387904 ∧
          [xorTo 92 (over (List.replicate 64 0) 0 k) x, sumL 32 [] [xorTo 54 (over (List.replicate 64 0) 0 k) x, ls.flatten].flatten].flatten.length ≤ 4294966000 ∧
          sumL 32 [] [xorTo 92 (over (List.replicate 64 0) 0 k) x, sumL 32 [] [xorTo 54 (over (List.replicate 64 0) 0 k) x, ls.flatten].flatten].flatten = hmacL key ls.flatten) := by
    intro k hk64 hkk
    rw [over_padZ hk64]
    have hz := padZ_len hk64
    refine ⟨⟨0, Nat.zero_le _, rfl, rfl, rfl⟩, fun x hx => ⟨fun hlt => ?_, fun hge => ?_⟩⟩
    · have hlt : x < 64 := by omega
      refine ⟨⟨by omega, by omega⟩, hlt, ⟨by omega, by omega⟩, hlt, ⟨by omega, by omega⟩, hlt, ⟨by omega, by omega⟩, hlt, inI_of (by omega) (by omega), x + 1, by omega, by omega, by omega, xorTo_step _ _ _ (by omega), xorTo_step _ _ _ (by omega)⟩
    · have hx64 : x = 64 := by omega
      subst hx64
      have l1 := xorTo_len 54 (padZ k) 64
      have l2 := xorTo_len 92 (padZ k) 64
      refine ⟨hl, by omega, Nat.le_refl _, rfl, by decide, ?_, rfl, by decide, ?_, hmac_eq _ _ _ _ ?_ ?_⟩
      · simp only [List.flatten_cons, List.flatten_nil, List.append_nil, List.length_append]; omega
      · simp only [List.flatten_cons, List.flatten_nil, List.append_nil, List.length_append, sum32_len]; omega
      · rw [xorTo_all _ _ hz, hkk]; rfl
      · rw [xorTo_all _ _ hz, hkk]; rfl
  refine ⟨fun hlong => ⟨rfl, by decide, by omega, by decide, by decide, ?_⟩, fun hshort => ?_⟩
  · exact main _ (by rw [sum32_len]; decide) (if_pos (by omega))
  · have hk64 : key.length ≤ 64 := by omega
    rw [List.take_of_length_le hk64]
    exact ⟨hk64, hk64, main key hk64 (if_neg (by omega))⟩
theorem expandN_in {n : Int} (h : 1 ≤ n ∧ n ≤ 255) : expandN n = n.toNat := if_pos h
theorem expandN_out {n : Int} (h : ¬(1 ≤ n ∧ n ≤ 255)) : expandN n = 0 := if_neg h
set_option maxRecDepth 100000 in
set_option maxHeartbeats 4000000 in
theorem conExpand : Con Try.prog 9 gExpand := con_of_vcl fun args ps res h hp hlen => by
  unfold gExpand at h
  split at h <;> cases h
  rename_i m key n input z
  obtain ⟨rfl, hp2⟩ := all_cons.1 hp
  obtain ⟨hk, hp3⟩ := all_cons.1 hp2
  obtain ⟨rfl, hp4⟩ := all_cons.1 hp3
  have hi := (all_cons.1 hp4).1
  refine ⟨KEe, 200, rfl, eok (gs := [(11, gHmac)]) ⟨conHmac, trivial⟩, ?_⟩
  rw [vcExpand key input z]
  simp only [forall_eq, true_and, and_true, io, decide_eq_true_eq, decide_eq_false_iff_not, dropL_zero, Nat.zero_add, Nat.add_zero, Nat.sub_zero, forall_const, Int.toNat_natCast, List.take_length]
  have f1 : [input].flatten = input := by simp
  rw [f1]
  have out : ¬(1 ≤ z ∧ z ≤ 255) → expandN z = 0 ∧ (expandL key input z).length = 0 := fun h => by
    unfold expandL
    rw [expandN_out h]
    exact ⟨rfl, rfl⟩
  refine ⟨fun _ => out (by omega), fun h1 => ⟨fun _ => out (by omega), fun h2 => ?_⟩⟩
  have hin : 1 ≤ z ∧ z ≤ 255 := by omega
  unfold expandL
  rw [expandN_in hin]
  generalize ht : hmacL key input = t
  have htl : t.length = 32 := by rw [← ht]; exact hmacL_len _ _
  have c1 : ∀ x : Nat, (x : Int) + ((1 : Nat) : Int) = ((x + 1 : Nat) : Int) := fun x => rfl
  refine ⟨hk, rfl, by decide, by omega, ⟨0, by omega, rfl, rfl, rfl, rfl, rfl, rfl, rfl⟩, fun x hx => ⟨fun hlt => ?_, fun hge => ?_⟩⟩
  · have l1 := keyN_le t x
    refine ⟨inI_of (by omega) (by omega), Nat.le_refl _, by omega, rfl, by decide, by simp; omega, by omega, inI_of (by omega) (by omega), x + 1, by omega, by omega, rfl, (keyN_len t x).symm, rfl, by omega, ?_, (keyN_len t x).symm, ?_⟩
    · show _ = keysF t x ++ keyN t (x + 1)
      simp [keyN]
    · simp [keyN]
  · have : x = z.toNat := by omega
    subst this
    exact ⟨Nat.le_refl _, rfl, List.take_of_length_le (by rw [keysF_len]; exact Nat.le_refl _)⟩
set_option maxRecDepth 100000 in
set_option maxHeartbeats 4000000 in
theorem conHmacR : Con Try.prog 12 gHmac := con_of_vcl fun args ps res h hp hlen => by
  unfold gHmac at h
  split at h <;> cases h
  rename_i m key n ls
  obtain ⟨rfl, hp2⟩ := all_cons.1 hp
  obtain ⟨hk, hp3⟩ := all_cons.1 hp2
  obtain ⟨rfl, hp4⟩ := all_cons.1 hp3
  obtain ⟨hl, hp5⟩ := all_cons.1 hp4
  have hf := (all_cons.1 hp5).1
  refine ⟨KEhr, 200, rfl, eok (gs := [(17, gJoin), (16, gHash)]) ⟨conJoinR, conHashR, trivial⟩, ?_⟩
  rw [vcHmacR key ls]
  simp only [forall_eq, true_and, and_true, io, decide_eq_true_eq, decide_eq_false_iff_not, dropL_zero, Nat.zero_add, Nat.sub_zero, forall_const, Int.toNat_natCast, List.take_length]
  have f1 : [key].flatten = key := by simp
  rw [f1]
  have fin : ∀ (k : List UInt8), k.length ≤ 64 → keyK key = k → ∀ x : Nat, x ≤ 64 → ¬ (x : Int) < ((64 : Nat) : Int) →
      ls.length < 4611686018427387904 ∧ ls.flatten.length ≤ 4294967296 ∧ x ≤ x ∧ ls.flatten.length ≤ ls.flatten.length ∧ [List.take x (List.take x (padX 54 k)), ls.flatten].length = 2 ∧ 2 < 4611686018427387904 ∧ [List.take x (List.take x (padX 54 k)), ls.flatten].flatten.length ≤ 4294966000 ∧
      x ≤ x ∧ [List.take x (List.take x (padX 92 k)), sumL 32 [] [List.take x (List.take x (padX 54 k)), ls.flatten].flatten].length = 2 ∧ 2 < 4611686018427387904 ∧
      [List.take x (List.take x (padX 92 k)), sumL 32 [] [List.take x (List.take x (padX 54 k)), ls.flatten].flatten].flatten.length ≤ 4294966000 ∧
      sumL 32 [] [List.take x (List.take x (padX 92 k)), sumL 32 [] [List.take x (List.take x (padX 54 k)), ls.flatten].flatten].flatten = hmacL key ls.flatten := by
    intro k hk64 hkk x hx hge
    have hx64 : x = 64 := by omega
    subst hx64
    have l1 := padX_len (c := 54) hk64
    have l2 := padX_len (c := 92) hk64
    rw [List.take_take, List.take_take, Nat.min_self, List.take_of_length_le (by omega), List.take_of_length_le (by omega)]
    refine ⟨hl, by omega, Nat.le_refl _, Nat.le_refl _, rfl, by decide, ?_, Nat.le_refl _, rfl, by decide, ?_, hmac_eq _ _ _ _ ?_ ?_⟩
    · simp only [List.flatten_cons, List.flatten_nil, List.append_nil, List.length_append]; omega
    · simp only [List.flatten_cons, List.flatten_nil, List.append_nil, List.length_append, sum32_len]; omega
    · rw [hkk]
    · rw [hkk]
  have l32 := sum32_len key
  refine ⟨fun hlong => ⟨rfl, by decide, by omega, ⟨0, by omega, rfl, rfl, rfl, rfl, by simp, rfl, by simp⟩, fun x hx => ⟨fun hlt => ⟨fun h32 => ?_, fun h32 => ?_⟩, fun hge => ?_⟩⟩, fun hshort => ⟨⟨0, by omega, rfl, rfl, rfl, rfl, by simp, rfl, by simp⟩, fun x hx => ⟨fun hlt => ⟨fun h32 => ?_, fun h32 => ?_⟩, fun hge => ?_⟩⟩⟩
  · refine ⟨⟨by omega, by omega⟩, by omega, by omega, by omega, inI_of (by omega) (by omega), x + 1, by omega, by omega, rfl, rfl, rfl, rfl, padX_step1 (by omega), rfl, padX_step1 (by omega)⟩
  · refine ⟨by omega, by omega, inI_of (by omega) (by omega), x + 1, by omega, by omega, rfl, rfl, rfl, rfl, padX_step2 (by omega) (by omega), rfl, padX_step2 (by omega) (by omega)⟩
  · exact fin _ (by omega) (if_pos (by omega)) x hx hge
  · refine ⟨⟨by omega, by omega⟩, by omega, by omega, by omega, inI_of (by omega) (by omega), x + 1, by omega, by omega, rfl, rfl, rfl, rfl, padX_step1 (by omega), rfl, padX_step1 (by omega)⟩
  · refine ⟨by omega, by omega, inI_of (by omega) (by omega), x + 1, by omega, by omega, rfl, rfl, rfl, rfl, padX_step2 (by omega) (by omega), rfl, padX_step2 (by omega) (by omega)⟩
  · exact fin _ (by omega) (if_neg (by omega)) x hx hge
set_option maxRecDepth 100000 in
set_option maxHeartbeats 4000000 in
theorem conExpandR : Con Try.prog 10 gExpand := con_of_vcl fun args ps res h hp hlen => by
  unfold gExpand at h
  split at h <;> cases h
  rename_i m key n input z
  obtain ⟨rfl, hp2⟩ := all_cons.1 hp
  obtain ⟨hk, hp3⟩ := all_cons.1 hp2
  obtain ⟨rfl, hp4⟩ := all_cons.1 hp3
  have hi := (all_cons.1 hp4).1
  refine ⟨KEer, 200, rfl, eok (gs := [(12, gHmac)]) ⟨conHmacR, trivial⟩, ?_⟩
  rw [vcExpandR key input z]
  simp only [forall_eq, true_and, and_true, io, decide_eq_true_eq, decide_eq_false_iff_not, dropL_zero, Nat.zero_add, Nat.add_zero, Nat.sub_zero, forall_const, Int.toNat_natCast, List.take_length]
  have f1 : [input].flatten = input := by simp
  rw [f1]
  have out : ¬(1 ≤ z ∧ z ≤ 255) → expandN z = 0 ∧ (expandL key input z).length = 0 := fun h => by
    unfold expandL
    rw [expandN_out h]
    exact ⟨rfl, rfl⟩
  refine ⟨fun _ => out (by omega), fun h1 => ⟨fun _ => out (by omega), fun h2 => ?_⟩⟩
  have hin : 1 ≤ z ∧ z ≤ 255 := by omega
  unfold expandL
  rw [expandN_in hin]
  generalize ht : hmacL key input = t
  have htl : t.length = 32 := by rw [← ht]; exact hmacL_len _ _
  refine ⟨hk, rfl, by decide, by omega, ⟨0, by omega, rfl, rfl, rfl, rfl, rfl, rfl, rfl⟩, fun x hx => ⟨fun hlt => ?_, fun hge => ?_⟩⟩
  · have l1 := keyN_le t x
    refine ⟨Nat.le_refl _, by omega, rfl, by decide, by simp; omega, by omega, inI_of (by omega) (by omega), x + 1, by omega, by omega, rfl, (keyN_len t x).symm, rfl, by omega, ?_, (keyN_len t x).symm, ?_⟩
    · show _ = keysF t x ++ keyN t (x + 1)
      simp [keyN]
    · simp [keyN]
  · have : x = z.toNat := by omega
    subst this
    exact ⟨Nat.le_refl _, rfl, List.take_of_length_le (by rw [keysF_len]; exact Nat.le_refl _)⟩
end Go.Proofs.Ytpafbofajjpcdaa
