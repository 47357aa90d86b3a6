/- A step towards BlakeLengthsSaid: no conditions. -/
import Derived.Test.YtolcdmnjfiaheaaBlhLaw
namespace Go.Proofs.Ytolcdmnjfiaheaa
open Go Go.Eng Go.Cod Go.Cha Go.Bla
theorem tmod_nat (x m : Nat) : ((x : Int).tmod (m : Int)) = ((x % m : Nat) : Int) := rfl
set_option maxRecDepth 100000 in
theorem law_lengths (n : UInt8) (key data : List UInt8) : vcFn BEl 200 6 [.s (.u8 n), .s (.xs 1 (.s key.length) (.u8 key)), .s (.xs 1 (.s data.length) (.u8 data))] (.s (.b true)) := by
  refine Eq.mpr (vcLengths n key data) ?_
  simp only [io, tmod_nat, dropL_zero]
  have hm : (min (data.length : Int) ((100 : Nat) : Int)).toNat = min data.length 100 := by omega
  have hm2 : (min (key.length : Int) ((32 : Nat) : Int)).toNat = min key.length 32 := by omega
  simp only [hm, hm2]
  have hl : (List.take (min data.length 100) data).length ≤ 100 := by rw [List.length_take]; omega
  have hk : (List.take (min key.length 32) key).length ≤ 32 := by rw [List.length_take]; omega
  have h0 : (0 : Int) ≤ min (data.length : Int) ((100 : Nat) : Int) ∧ min (data.length : Int) ((100 : Nat) : Int) ≤ (data.length : Int) := by omega
  have h1 : (0 : Int) ≤ min (key.length : Int) ((32 : Nat) : Int) ∧ min (key.length : Int) ((32 : Nat) : Int) ≤ (key.length : Int) := by omega
  generalize List.take (min data.length 100) data = d at *
  generalize List.take (min key.length 32) key = k at *
  have hz : (((1 : Nat) : Int) + ((n.toNat % 32 : Nat) : Int)) = ((1 + n.toNat % 32 : Nat) : Int) := by omega
  simp only [hz]
  have hq : 1 ≤ 1 + n.toNat % 32 ∧ 1 + n.toNat % 32 ≤ 32 := by omega
  generalize 1 + n.toNat % 32 = z at *
  have hi : InI (z : Int) := inI_of (by omega) (by omega)
  obtain ⟨r1, e1⟩ := sumR_ok (size := (z : Int)) (key := k) d (by omega) hk
  obtain ⟨r2, e2⟩ := sumR_ok (size := 16) (key := k) d (by decide) hk
  obtain ⟨r3, e3⟩ := sumR_ok (size := 32) (key := []) d (by decide) (by decide)
  have l1 := sumL_len (z : Int) k d (by omega)
  have i16 : ((16 : Nat) : Int) = 16 := rfl
  have i32 : ((32 : Nat) : Int) = 32 := rfl
  have rep : List.replicate 0 (0 : UInt8) = [] := rfl
  have fl : [d].flatten = d := by simp
  have hd1 : d.length ≤ 4294967000 := by omega
  have hd2 : d.length ≤ 4294966000 := by omega
  simp only [i16, i32, rep, r1, r2, r3, e1, e2, e3, fl, List.take_length, hi, hk, hd1, hd2, h0, h1, l1]
  simp
  omega
set_option maxRecDepth 100000 in
theorem law_parts (key data : List UInt8) (x y : UInt8) : vcFn BEl 200 5 [.s (.xs 1 (.s key.length) (.u8 key)), .s (.xs 1 (.s data.length) (.u8 data)), .s (.u8 x), .s (.u8 y)] (.s (.b true)) := by
  refine Eq.mpr (vcParts key data x y) ?_
  simp only [io, dropL_zero, Nat.sub_zero]
  have hm : (min (data.length : Int) ((200 : Nat) : Int)).toNat = min data.length 200 := by omega
  have hm2 : (min (key.length : Int) ((32 : Nat) : Int)).toNat = min key.length 32 := by omega
  simp only [hm, hm2]
  have hd : (List.take (min data.length 200) data).length = min data.length 200 := by rw [List.length_take]; omega
  have hk : (List.take (min key.length 32) key).length ≤ 32 := by rw [List.length_take]; omega
  have h0 : (0 : Int) ≤ min (data.length : Int) ((200 : Nat) : Int) ∧ min (data.length : Int) ((200 : Nat) : Int) ≤ (data.length : Int) := by omega
  have h1 : (0 : Int) ≤ min (key.length : Int) ((32 : Nat) : Int) ∧ min (key.length : Int) ((32 : Nat) : Int) ≤ (key.length : Int) := by omega
  have hL : min data.length 200 ≤ 200 := Nat.min_le_right ..
  generalize List.take (min data.length 200) data = d at *
  generalize List.take (min key.length 32) key = k at *
  generalize min data.length 200 = L at *
  subst hd
  have hp : (min (x.toNat : Int) (d.length : Int)) = ((min x.toNat d.length : Nat) : Int) := by omega
  have hq : (min (y.toNat : Int) (d.length : Int)) = ((min y.toNat d.length : Nat) : Int) := by omega
  simp only [hp, hq]
  have hpl : min x.toNat d.length ≤ d.length := Nat.min_le_right ..
  have hql : min y.toNat d.length ≤ d.length := Nat.min_le_right ..
  generalize min x.toNat d.length = p at *
  generalize min y.toNat d.length = q at *
  have hr : (max (p : Int) (q : Int)) = ((max p q : Nat) : Int) := by omega
  simp only [hr]
  have hrl : p ≤ max p q ∧ max p q ≤ d.length := by omega
  generalize max p q = r at *
  have tn : ∀ n : Nat, ((n : Int)).toNat = n := fun _ => rfl
  have f1 : [List.take p d, List.take (r - p) (List.drop p d), List.drop r d].flatten = d := by
    have e : List.drop r d = List.drop (r - p) (List.drop p d) := by rw [List.drop_drop]; congr 1; omega
    simp only [List.flatten_cons, List.flatten_nil, List.append_nil]
    rw [e, List.take_append_drop, List.take_append_drop]
  have f2 : [List.take p d, [], List.drop p d].flatten = d := by simp
  have f3 : [d].flatten = d := by simp
  have hd2 : d.length ≤ 4294966000 := by omega
  simp only [tn, f1, f2, f3, hk, hd2, h0, h1]
  simp
  omega
end Go.Proofs.Ytolcdmnjfiaheaa
