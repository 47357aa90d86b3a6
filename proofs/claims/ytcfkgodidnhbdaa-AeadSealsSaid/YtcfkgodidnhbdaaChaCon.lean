/- A step towards AeadSealsSaid: no conditions. -/
import Derived.Test.YtcfkgodidnhbdaaChaVc
namespace Go.Proofs.Ytcfkgodidnhbdaa
open Go Go.Eng Go.Cha
set_option maxRecDepth 100000 in
theorem conQuarter : Con Try.prog 42 gQuarter := con_of_vcs fun args ps res h hp => by
  unfold gQuarter at h
  split at h <;> cases h
  rename_i a b c d
  refine ⟨EQ, 100, rfl, eok (gs := []) trivial, ?_⟩
  refine Eq.mpr (vcQuarter a b c d) ?_
  exact ⟨rfl, rfl, rfl, rfl, trivial⟩
set_option maxRecDepth 100000 in
theorem conLeft : Con Try.prog 47 gLeft := con_of_vcs fun args ps res h hp => by
  unfold gLeft at h
  split at h <;> cases h
  rename_i x k
  have hk := (all_cons.1 hp).1
  refine ⟨EQ, 100, rfl, eok (gs := []) trivial, ?_⟩
  refine Eq.mpr (vcLeft x k) ?_
  simp only [io]
  refine ⟨hk.1, ⟨by omega, by omega⟩, by omega, ?_, trivial⟩
  have e : (((32 : Nat) : Int) - k).toNat = 32 - k.toNat := by omega
  rw [e]; rfl
set_option maxRecDepth 100000 in
theorem conQuarterAt : Con Try.prog 40 gQuarterAt := con_of_vcs fun args ps res h hp => by
  unfold gQuarterAt at h
  split at h <;> cases h
  rename_i w a b c d
  have h1 := all_cons.1 hp
  have h2 := all_cons.1 h1.2
  have h3 := all_cons.1 h2.2
  have h4 := all_cons.1 h3.2
  have ha := h1.1; have hb := h2.1; have hc := h3.1; have hd := h4.1
  clear h1 h2 h3 h4 hp
  refine ⟨EQa, 100, rfl, eok (gs := [(47, gLeft)]) ⟨conLeft, trivial⟩, ?_⟩
  refine Eq.mpr (vcQuarterAt w a b c d) ?_
  have i16 : ((16 : Nat) : Int) = 16 := rfl
  have ha' : a.toNat < 16 := by omega
  have hb' : b.toNat < 16 := by omega
  have hc' : c.toNat < 16 := by omega
  have hd' : d.toNat < 16 := by omega
  simp only [io, i16, ha, hb, hc, hd, ha', hb', hc', hd', true_and, and_true, forall_eq]
  exact ⟨⟨by omega, by omega⟩, ⟨by omega, by omega⟩, ⟨by omega, by omega⟩, ⟨by omega, by omega⟩, rfl⟩
theorem iter_succ {α : Type} (f : α → α) : ∀ (n : Nat) (x : α), iter f (n + 1) x = iter f n (f x)
  | 0, _ => rfl
  | n + 1, x => by
    show f (iter f (n + 1) x) = f (iter f n (f x))
    rw [iter_succ f n x]
theorem core_step {w : W16} {n : Nat} {x : W16} (hn : n < 10) (h : coreL w.l = (iter dbl (10 - n) x).l) : coreL w.l = (iter dbl (10 - (n + 1)) (dbl x)).l := by
  rw [h, show 10 - n = (10 - (n + 1)) + 1 by omega, iter_succ]
set_option maxRecDepth 100000 in
theorem conCore : Con Try.prog 35 gCore := con_of_vcs fun args ps res h hp => by
  unfold gCore at h
  split at h <;> cases h
  rename_i w
  obtain ⟨w, rfl⟩ := len16 (all_cons.1 hp).1
  refine ⟨EC, 200, rfl, eok (gs := [(42, gQuarter)]) ⟨conQuarter, trivial⟩, ?_⟩
  refine Eq.mpr (vcCore w) ?_
  refine ⟨⟨(0, w), ⟨by omega, rfl⟩, rfl, rfl, rfl, rfl, rfl, trivial⟩, fun x hx => ⟨fun h1 => ?_, fun h1 => ?_⟩⟩
  · simp only [io] at h1 ⊢
    have h1 := of_decide_eq_true h1
    have hlt : x.1 < 10 := by omega
    refine ⟨⟨by omega, by omega⟩, (x.1 + 1, dbl x.2), ⟨hlt, core_step hlt hx.2⟩, by show 10 - (x.1 + 1) < _; omega, ?_⟩
    and_intros <;> first | trivial | rfl
  · simp only [io] at h1
    have h1 := of_decide_eq_false h1
    have e : x.1 = 10 := by omega
    have h2 := hx.2
    rw [e] at h2
    exact ⟨h2.symm, trivial⟩
set_option maxRecDepth 100000 in
theorem conCoreR : Con Try.prog 30 gCore := con_of_vcs fun args ps res h hp => by
  unfold gCore at h
  split at h <;> cases h
  rename_i w
  obtain ⟨w, rfl⟩ := len16 (all_cons.1 hp).1
  refine ⟨ECr, 200, rfl, eok (gs := [(40, gQuarterAt)]) ⟨conQuarterAt, trivial⟩, ?_⟩
  refine Eq.mpr (vcCoreR w) ?_
  refine ⟨⟨(0, w), ⟨by omega, rfl⟩, rfl, rfl, rfl, rfl, trivial⟩, fun x hx => ⟨fun h1 => ?_, fun h1 => ?_⟩⟩
  · simp only [io, Int.toNat_natCast] at h1 ⊢
    have h1 := of_decide_eq_true h1
    have hlt : x.1 < 10 := by omega
    repeat refine ⟨⟨by omega, by omega⟩, ?_⟩
    refine ⟨(x.1 + 1, dbl x.2), ⟨hlt, core_step hlt hx.2⟩, by show 10 - (x.1 + 1) < _; omega, ?_⟩
    simp only [qr8]
    and_intros <;> first | trivial | rfl
  · simp only [io] at h1
    have h1 := of_decide_eq_false h1
    have e : x.1 = 10 := by omega
    have h2 := hx.2
    rw [e] at h2
    exact ⟨h2.symm, trivial⟩
end Go.Proofs.Ytcfkgodidnhbdaa
