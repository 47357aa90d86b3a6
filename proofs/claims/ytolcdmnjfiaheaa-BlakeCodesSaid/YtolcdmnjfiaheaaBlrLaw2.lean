/- A step towards BlakeCodesSaid: no conditions. -/
import Derived.Test.YtolcdmnjfiaheaaBlrLaw
import Derived.Test.YtolcdmnjfiaheaaBlrCon
import Derived.Test.YtolcdmnjfiaheaaBlhLaw
namespace Go.Proofs.Ytolcdmnjfiaheaa
open Go Go.Eng Go.Cod Go.Cha Go.Bla
set_option maxRecDepth 100000 in
theorem ebls : EnvOk BEls := eok (gs := [(12, gHash), (14, gCodeA), (9, gSum), (13, gHash), (15, gCodeA), (10, gSum), (11, gTrue0)]) ⟨conHash, conCodeA, conSum, conHashR, conCodeR, conSumR, conBeg, trivial⟩
set_option maxRecDepth 100000 in
theorem law_codes (key a b : List UInt8) : vcFn BEls 200 4 [.s (.xs 1 (.s key.length) (.u8 key)), .s (.xs 1 (.s a.length) (.u8 a)), .s (.xs 1 (.s b.length) (.u8 b))] (.s (.b true)) := by
  rw [vcCodes key a b]
  simp only [io]
  have hk : (min (key.length : Int) ((40 : Nat) : Int)).toNat = min key.length 40 := by omega
  have ha : (min (a.length : Int) ((100 : Nat) : Int)).toNat = min a.length 100 := by omega
  have hb : (min (b.length : Int) ((100 : Nat) : Int)).toNat = min b.length 100 := by omega
  simp only [hk, ha, hb]
  have la : (List.take (min a.length 100) a).length ≤ 100 := by rw [List.length_take]; omega
  have lb : (List.take (min b.length 100) b).length ≤ 100 := by rw [List.length_take]; omega
  refine ⟨⟨by omega, by omega⟩, ⟨by omega, by omega⟩, ⟨by omega, by omega⟩, ?_⟩
  clear hk ha hb
  generalize List.take (min a.length 100) a = x at *
  generalize List.take (min b.length 100) b = y at *
  generalize List.take (min key.length 40) key = k at *
  have hxy : [x, y].flatten.length ≤ 4294966000 := by simp; omega
  simp [hxy]
  omega
set_option maxRecDepth 100000 in
theorem law_sums (size : Int) (key data : List UInt8) (n : UInt8) : vcFn BEls 300 3 [.s (.i64 size), .s (.xs 1 (.s key.length) (.u8 key)), .s (.xs 1 (.s data.length) (.u8 data)), .s (.u8 n)] (.s (.b true)) := by
  rw [vcSums size key data n]
  simp only [io]
  have hk : (min (key.length : Int) ((40 : Nat) : Int)).toNat = min key.length 40 := by omega
  have hd : (min (data.length : Int) ((300 : Nat) : Int)).toNat = min data.length 300 := by omega
  have hn : (((n.toNat / 64 : Nat) : Int) * ((64 : Nat) : Int)) = ((n.toNat / 64 * 64 : Nat) : Int) := rfl
  have hnd : ((n.toNat : Int).tdiv ((64 : Nat) : Int)) = ((n.toNat / 64 : Nat) : Int) := rfl
  simp only [hk, hd, hn, hnd, Int.toNat_natCast]
  have ld : (List.take (min data.length 300) data).length ≤ 300 := by rw [List.length_take]; omega
  have hn8 : n.toNat < 256 := n.toNat_lt
  refine ⟨⟨by omega, by omega⟩, ⟨by omega, by omega⟩, ?_⟩
  clear hk hd hn hnd
  have t1 : ∀ x : Int, -34 < x.tmod ((34 : Nat) : Int) ∧ x.tmod ((34 : Nat) : Int) < 34 := fun x => ⟨Int.lt_tmod_of_pos x (by decide), Int.tmod_lt_of_pos x (by decide)⟩
  have t2 := t1 size
  have i1 : InI (size.tmod ((34 : Nat) : Int) + ((34 : Nat) : Int)) := inI_of (by omega) (by omega)
  generalize size.tmod ((34 : Nat) : Int) = s0 at *
  generalize (s0 + ((34 : Nat) : Int)).tmod ((34 : Nat) : Int) = s1 at *
  generalize List.take (min data.length 300) data = d at *
  generalize List.take (min key.length 40) key = k at *
  have hm : n.toNat / 64 * 64 ≤ 256 := by omega
  have hq : n.toNat / 64 ≤ 256 := by omega
  generalize n.toNat / 64 * 64 = m at *
  generalize n.toNat / 64 = q at *
  have i2 : InI (m : Int) := inI_of (by omega) (by omega)
  have i3 : InI ((m : Int) - ((1 : Nat) : Int)) := inI_of (by omega) (by omega)
  have i4 : InI (q : Int) := inI_of (by omega) (by omega)
  have hx : (max ((0 : Nat) : Int) ((m : Int) - ((1 : Nat) : Int))) = ((m - 1 : Nat) : Int) := by omega
  have dz : ∀ l : List UInt8, dropL l 0 = l := fun _ => rfl
  have hd2 : d.length ≤ 4294967000 := by omega
  have hm2 : m ≤ 4294967000 := by omega
  simp only [i1, i2, i3, i4, hx, dz, hd2, List.take_length, Int.toNat_natCast, List.length_take, List.length_replicate]
  simp
  omega
end Go.Proofs.Ytolcdmnjfiaheaa
