/- A step towards WindowSetsSaid: no conditions. -/
import Derived.Test.YtcfbcgmikfmllaaWsPlain
import Derived.Test.YtcfbcgmikfmllaaWsVc
import Derived.Test.YtcfbcgmikfmllaaWinCon
import Derived.Test.YtcfbcgmikfmllaaWinL3
namespace Go.Proofs.Ytcfbcgmikfmllaa
open Go Go.Eng
theorem seqA_fin {b0 : Nat} (hb0 : b0 < 67108864) {base : UInt64} {l : List UInt8} (hr : ∀ x, InR b0 (ctr base x)) : ∀ i, seqA base l i = fin ((List.range i).map fun j => ctr base (l.getD j 0))
  | 0 => rfl
  | i + 1 => by
    rw [seqA, seqA_fin hb0 hr i, fin_step b0 hb0 _ _ (fun d hd => by obtain ⟨j, _, rfl⟩ := List.mem_map.1 hd; exact hr _) (hr _), List.range_succ, List.map_append]; rfl
theorem seqB_fin {b0 : Nat} (hb0 : b0 < 67108864) {base : UInt64} {l : List UInt8} {k : Nat} (hr : ∀ x, InR b0 (ctr base x)) : ∀ i, seqB base l k i = fin ((List.range i).map fun j => ctr base (l.getD ((j + k) % l.length) 0))
  | 0 => rfl
  | i + 1 => by
    rw [seqB, seqB_fin hb0 hr i, fin_step b0 hb0 _ _ (fun d hd => by obtain ⟨j, _, rfl⟩ := List.mem_map.1 hd; exact hr _) (hr _), List.range_succ, List.map_append]; rfl
theorem range_drop {α : Type} (f : Nat → α) (n k : Nat) (hk : k < n) : (List.range n).map (fun j => f ((j + k) % n)) = ((List.range n).map f).drop k ++ ((List.range n).map f).take k := by
  apply List.ext_getElem?
  intro i
  by_cases hi : i < n - k
  · rw [List.getElem?_append_left (by simp; omega), List.getElem?_drop]
    simp only [List.getElem?_map]
    rw [List.getElem?_range (by omega), List.getElem?_range (by omega)]
    simp only [Option.map_some]
    rw [Nat.mod_eq_of_lt (by omega), Nat.add_comm]
  · rw [List.getElem?_append_right (by simp; omega)]
    simp only [List.length_drop, List.length_map, List.length_range]
    by_cases h2 : i < n
    · rw [List.getElem?_take_of_lt (by omega)]
      simp only [List.getElem?_map]
      rw [List.getElem?_range (by omega), List.getElem?_range (by omega)]
      simp only [Option.map_some]
      have e : (i + k) % n = i - (n - k) := by
        rw [show i + k = (i - (n - k)) + n by omega, Nat.add_mod_right, Nat.mod_eq_of_lt (by omega)]
      rw [e]
    · rw [List.getElem?_eq_none (by simp; omega), List.getElem?_eq_none (by simp; omega)]
theorem seq_same {b0 : Nat} (hb0 : b0 < 67108864) {base : UInt64} {l : List UInt8} {k : Nat} (hr : ∀ x, InR b0 (ctr base x)) : seqA base l l.length = seqB base l k l.length ∧ (seqA base l l.length).u = decide (0 < l.length) := by
  rw [seqA_fin hb0 hr, seqB_fin hb0 hr]
  by_cases h0 : l.length = 0
  · rw [h0]; exact ⟨rfl, rfl⟩
  · have hk : k % l.length < l.length := Nat.mod_lt _ (by omega)
    have e : (List.range l.length).map (fun j => ctr base (l.getD ((j + k) % l.length) 0)) = (List.range l.length).map (fun j => ctr base (l.getD ((j + k % l.length) % l.length) 0)) := by
      congr 1; funext j
      rw [Nat.add_mod_mod]
    rw [e, range_drop (fun j => ctr base (l.getD j 0)) l.length (k % l.length) hk, ← fin_swap, List.take_append_drop]
    refine ⟨rfl, ?_⟩
    have : decide (0 < l.length) = true := by simp; omega
    rw [this]
    unfold fin
    cases hl : l.length with
    | zero => omega
    | succ n => rw [List.range_succ_eq_map]; rfl
theorem base_nat (fr : UInt32) : (fr.toUInt64 / 64 * 64).toNat = 64 * (fr.toNat / 64) := by
  have h := fr.toNat_lt
  rw [UInt64.toNat_mul, div64, UInt32.toNat_toUInt64]
  have e : (64 : UInt64).toNat = 64 := rfl
  rw [e]; omega
theorem ctr_in (fr : UInt32) (x : UInt8) : InR (fr.toNat / 64) (ctr (fr.toUInt64 / 64 * 64) x) := by
  have h := fr.toNat_lt
  have hx := x.toNat_lt
  unfold InR ctr
  rw [UInt64.toNat_add, base_nat, UInt8.toNat_toUInt64]
  omega
theorem tmod_nat (x m : Nat) : ((x : Int).tmod (m : Int)) = ((x % m : Nat) : Int) := rfl
theorem inI_of {x : Int} (h1 : -9223372036854775808 ≤ x) (h2 : x < 9223372036854775808) : InI x := ⟨h1, h2⟩
set_option maxRecDepth 100000 in
theorem law5 (l : List UInt8) (fr : UInt32) (turn : UInt8) : vcFn E5 200 5 [.s (.xs 1 (.s l.length) (.u8 l)), .s (.u32 fr), .s (.u8 turn)] (.s (.b true)) := by
  rw [vc5]
  simp only [io, k64]
  have hm : (min (l.length : Int) ((30 : Nat) : Int)).toNat = min l.length 30 := by omega
  simp only [hm, Nat.sub_zero]
  have hd : (List.take (min l.length 30) l).length = min l.length 30 := by rw [List.length_take]; omega
  have hle : min l.length 30 ≤ 30 := Nat.min_le_right ..
  have h0 : (0 : Int) ≤ min (l.length : Int) ((30 : Nat) : Int) ∧ min (l.length : Int) ((30 : Nat) : Int) ≤ (l.length : Int) := by omega
  generalize he : List.take (min l.length 30) l = e at *
  generalize min l.length 30 = q at *
  subst hd
  have hadd : ∀ x : Nat, (x : Int) + (turn.toNat : Int) = ((x + turn.toNat : Nat) : Int) := fun x => by omega
  simp only [hadd, tmod_nat]
  have ht := turn.toNat_lt
  have hs := seq_same (b0 := fr.toNat / 64) (by have := fr.toNat_lt; omega) (l := e) (k := turn.toNat) (ctr_in fr)
  refine ⟨h0, by decide, ⟨0, by omega, ?_⟩, fun x hx => ⟨fun h1 => ?_, fun h1 => ?_⟩⟩
  · and_intros <;> first | trivial | rfl
  · have h1 : x < e.length := by have := of_decide_eq_true h1; omega
    have hmod : (x + turn.toNat) % e.length < e.length := Nat.mod_lt _ (by omega)
    have hx1 : ((x : Int)).toNat = x := rfl
    have hx2 : (((x + turn.toNat) % e.length : Nat) : Int).toNat = (x + turn.toNat) % e.length := rfl
    rw [hx1, hx2]
    refine ⟨⟨by omega, by omega⟩, h1, inI_of (by omega) (by omega), by omega, ⟨by omega, by omega⟩, hmod, inI_of (by omega) (by omega), x + 1, by omega, by omega, ?_⟩
    and_intros <;> first | trivial | rfl
  · have h1 : x = e.length := by have := of_decide_eq_false h1; omega
    subst h1
    rw [← hs.1, hs.2]
    have e3 : decide (((0 : Nat) : Int) < (e.length : Int)) = decide (0 < e.length) := by rw [decide_eq_decide]; omega
    rw [e3]
    simp
end Go.Proofs.Ytcfbcgmikfmllaa
