/- A step towards WindowOnceSaid: no conditions. -/
import Derived.Test.YtcfbcgmikfmllaaWinVc
namespace Go.Proofs.Ytcfbcgmikfmllaa
open Go Go.Eng
theorem k64 : UInt64.ofNat 64 = 64 := rfl
theorem k4 : UInt64.ofNat 4 = 4 := rfl
theorem k3 : UInt64.ofNat 3 = 3 := rfl
theorem k1 : UInt64.ofNat 1 = 1 := rfl
theorem k0 : UInt64.ofNat 0 = 0 := rfl
theorem n64 : ((64 : UInt64) = 0) = False := by simp
theorem n4 : ((4 : UInt64) = 0) = False := by simp
theorem lt4 (c : UInt64) : ((c % 4).toNat < 4) = True := by simp; omega
theorem con8 : Con Try.prog 8 gCheck := con_of_vc (E := E0) (n := 100) (eok trivial) fun args ps res h hp => by
  unfold gCheck at h
  split at h <;> cases h
  rename_i u t ws c
  refine Eq.mpr (vc8 u t c ws) ?_
  simp only [k64, k4, k3, k1, k0, n64, n4, lt4, ne_eq, not_false_eq_true, true_and, and_true]
  refine ⟨fun h1 => ?_, fun h1 => ⟨fun h2 => ?_, fun h2 => ⟨fun h3 => ?_, fun h3 => ?_⟩⟩⟩ <;> simp only [chk, *, Bool.true_or, Bool.false_or, Bool.true_and, Bool.false_and]
theorem con9 : Con Try.prog 9 gCheck := con_of_vc (E := E0) (n := 100) (eok trivial) fun args ps res h hp => by
  unfold gCheck at h
  split at h <;> cases h
  rename_i u t ws c
  refine Eq.mpr (vc9 u t c ws) ?_
  have e : ∀ x : UInt64, decide (x ≤ 3) = decide (x < 4) := fun x => by
    rw [decide_eq_decide, UInt64.le_iff_toNat_le, UInt64.lt_iff_toNat_lt]; exact Nat.lt_succ_iff.symm
  simp only [k64, k4, k3, k1, k0, n64, n4, lt4, ne_eq, not_false_eq_true, true_and, and_true, e]
  refine ⟨fun h1 => ?_, fun h1 => ⟨fun h2 => ?_, fun h2 => ⟨fun h3 => ?_, fun h3 => ?_⟩⟩⟩ <;> simp only [chk, *, Bool.true_or, Bool.false_or, Bool.true_and, Bool.false_and]
theorem m4_le (x : UInt64) : (m4 x).toNat ≤ 4 := by
  unfold m4; split
  · decide
  · rename_i h; rw [UInt64.lt_iff_toNat_lt] at h; exact Nat.not_lt.1 h
theorem m4_min (x : UInt64) : (if 4 < x then 4 else x) = m4 x := rfl
theorem ofNat_lt {x : Nat} (h : x ≤ 4) (m : UInt64) : (UInt64.ofNat x < m) ↔ x < m.toNat := by
  rw [UInt64.lt_iff_toNat_lt, UInt64.toNat_ofNat_of_lt' (by have : UInt64.size = 18446744073709551616 := rfl; omega)]
theorem ofNat_succ (x : Nat) : UInt64.ofNat x + 1 = UInt64.ofNat (x + 1) := by
  rw [← k1, ← UInt64.ofNat_add]
theorem acc_no {w : Win} {c : UInt64} (h : chk w c = false) : acc w c = w := by simp [acc, h]
theorem acc_yes {w : Win} {c : UInt64} (h : chk w c = true) : acc w c = ⟨(acc1 w c).u, (acc1 w c).t, orAt (acc1 w c).ws c⟩ := by simp [acc, h]
set_option maxRecDepth 100000 in
theorem con6 : Con Try.prog 6 gAcc := con_of_vcs fun args ps res h hp => by
  unfold gAcc at h
  split at h <;> cases h
  rename_i u t ws c
  refine ⟨E6, 100, rfl, ?_, ?_⟩
  · exact eok (gs := [(8, gCheck)]) ⟨con8, trivial⟩
  refine Eq.mpr (vc6 u t c ws) ?_
  simp only [k64, k4, k3, k1, k0, n64, n4, lt4, ne_eq, not_false_eq_true, true_and, and_true, m4_min]
  have hm := m4_le (c / 64 - t / 64)
  refine ⟨fun h1 => ?_, fun h1 => ⟨fun h2 => ?_, fun h2 => ⟨fun h3 => ⟨⟨0, ?_⟩, fun x hx => ⟨fun h4 => ⟨x + 1, ?_⟩, fun h4 => ?_⟩⟩, fun h3 => ?_⟩⟩⟩
  · have h1 : chk ⟨u, t, ws⟩ c = false := by simpa using h1
    rw [acc_no h1]; exact ⟨rfl, rfl, rfl, h1.symm⟩
  · have h1 : chk ⟨u, t, ws⟩ c = true := by simpa using h1
    have h2 : u = false := by simpa using h2
    subst h2
    rw [acc_yes h1]; exact ⟨rfl, rfl, rfl, h1.symm⟩
  · have h2 : u = true := by simpa using h2
    exact ⟨Nat.zero_le _, rfl, h2, rfl⟩
  · have h4 := (ofNat_lt (by omega) _).1 (of_decide_eq_true h4)
    refine ⟨by omega, by omega, ofNat_succ x, rfl⟩
  · have h1 : chk ⟨u, t, ws⟩ c = true := by simpa using h1
    have h2 : u = true := by simpa using h2
    have h3 : t < c := of_decide_eq_true h3
    have h4 := mt (ofNat_lt (by omega) _).2 (of_decide_eq_false h4)
    have e : x = (m4 (c / 64 - t / 64)).toNat := by omega
    subst h2
    rw [acc_yes h1]
    simp only [acc1, h3, if_true, e]
    exact ⟨trivial, trivial, rfl, h1.symm⟩
  · have h1 : chk ⟨u, t, ws⟩ c = true := by simpa using h1
    have h2 : u = true := by simpa using h2
    have h3 : ¬ t < c := of_decide_eq_false h3
    subst h2
    rw [acc_yes h1]
    simp only [acc1, h3, if_true, if_false]
    exact ⟨trivial, trivial, rfl, h1.symm⟩
theorem ofNat_le {x : Nat} (h : x ≤ 4) (m : UInt64) : (1 + UInt64.ofNat x ≤ m) ↔ x < m.toNat := by
  rw [UInt64.add_comm, ofNat_succ, UInt64.le_iff_toNat_le, UInt64.toNat_ofNat_of_lt' (by have : UInt64.size = 18446744073709551616 := rfl; omega)]; exact Iff.rfl
set_option maxRecDepth 100000 in
theorem con7 : Con Try.prog 7 gAcc := con_of_vcs fun args ps res h hp => by
  unfold gAcc at h
  split at h <;> cases h
  rename_i u t ws c
  refine ⟨E7, 100, rfl, ?_, ?_⟩
  · exact eok (gs := [(9, gCheck)]) ⟨con9, trivial⟩
  refine Eq.mpr (vc7 u t c ws) ?_
  simp only [k64, k4, k3, k1, k0, n64, n4, lt4, ne_eq, not_false_eq_true, true_and, and_true, m4_min]
  have hm := m4_le (c / 64 - t / 64)
  have hcc : decide (c < c) = false := by simp
  rw [hcc]
  refine ⟨fun h1 => ?_, fun h1 => ⟨fun h2 => ⟨fun h => Bool.noConfusion h, fun _ => ?_⟩, fun h2 => ⟨fun h3 => ⟨⟨0, ?_⟩, fun x hx => ⟨fun h4 => ⟨x + 1, ?_⟩, fun h4 => ?_⟩⟩, fun h3 => ?_⟩⟩⟩
  · have h1 : chk ⟨u, t, ws⟩ c = false := by simpa using h1
    rw [acc_no h1]; exact ⟨rfl, rfl, rfl, h1.symm⟩
  · have h1 : chk ⟨u, t, ws⟩ c = true := by simpa using h1
    have h2 : u = false := by simpa using h2
    subst h2
    rw [acc_yes h1]; exact ⟨rfl, rfl, rfl, h1.symm⟩
  · have h2 : u = true := by simpa using h2
    exact ⟨Nat.zero_le _, rfl, h2, rfl⟩
  · have h4 := (ofNat_le (by omega) _).1 (of_decide_eq_true h4)
    refine ⟨by omega, by omega, ?_, ?_⟩
    · rw [UInt64.add_assoc, ofNat_succ]
    · rw [← UInt64.add_assoc]; rfl
  · have h1 : chk ⟨u, t, ws⟩ c = true := by simpa using h1
    have h2 : u = true := by simpa using h2
    have h3 : t < c := of_decide_eq_true h3
    have h4 := mt (ofNat_le (by omega) _).2 (of_decide_eq_false h4)
    have e : x = (m4 (c / 64 - t / 64)).toNat := by omega
    subst h2
    rw [acc_yes h1]
    simp only [acc1, h3, if_true, e]
    exact ⟨trivial, trivial, rfl, h1.symm⟩
  · have h1 : chk ⟨u, t, ws⟩ c = true := by simpa using h1
    have h2 : u = true := by simpa using h2
    have h3 : ¬ t < c := of_decide_eq_false h3
    subst h2
    rw [acc_yes h1]
    simp only [acc1, h3, if_true, if_false]
    exact ⟨trivial, trivial, rfl, h1.symm⟩
end Go.Proofs.Ytcfbcgmikfmllaa
