/- A step towards AeadSealsSaid: no conditions. -/
import Derived.Test.YtcfkgodidnhbdaaBlkSpec
namespace Go.Cha
open Go Go.Eng Go.Cod
def padB (k n : List UInt8) (c : UInt32) (i : Nat) : UInt8 := (block k (c + UInt32.ofNat (i / 64)) n).getD (i % 64) 0
def xorTo (k n : List UInt8) (c : UInt32) (d : List UInt8) : Nat → List UInt8
  | 0 => []
  | i + 1 => xorTo k n c d i ++ [d.getD i 0 ^^^ padB k n c i]
def xorL (k n : List UInt8) (c : UInt32) (d : List UInt8) : List UInt8 := xorTo k n c d d.length
theorem xorTo_len (k n : List UInt8) (c : UInt32) (d : List UInt8) : ∀ i, (xorTo k n c d i).length = i
  | 0 => rfl
  | i + 1 => by simp [xorTo, xorTo_len k n c d i]
theorem xorL_len (k n : List UInt8) (c : UInt32) (d : List UInt8) : (xorL k n c d).length = d.length := xorTo_len ..
theorem xorTo_get (k n : List UInt8) (c : UInt32) (d : List UInt8) : ∀ (m i : Nat), i < m → (xorTo k n c d m)[i]? = some (d.getD i 0 ^^^ padB k n c i)
  | m + 1, i, h => by
    rw [xorTo]
    by_cases hi : i < m
    · rw [List.getElem?_append_left (by rw [xorTo_len]; exact hi)]
      exact xorTo_get k n c d m i hi
    · have : i = m := by omega
      subst this
      rw [List.getElem?_append_right (by rw [xorTo_len]; exact Nat.le_refl _), xorTo_len, Nat.sub_self]
      rfl
theorem xorL_get (k n : List UInt8) (c : UInt32) (d : List UInt8) (i : Nat) : (xorL k n c d)[i]? = d[i]?.map fun x => x ^^^ padB k n c i := by
  by_cases h : i < d.length
  · rw [xorL, xorTo_get _ _ _ _ _ _ h, List.getElem?_eq_getElem h, List.getD_eq_getElem?_getD, List.getElem?_eq_getElem h]; rfl
  · rw [List.getElem?_eq_none (by rw [xorL_len]; omega), List.getElem?_eq_none (by omega)]; rfl
def padAt (k n : List UInt8) (c : UInt32) (i : Nat) : List UInt8 :=
  match i with
  | 0 => List.replicate 64 0
  | i + 1 => block k (c + UInt32.ofNat (i / 64)) n
def gXor : SpecF := fun args => match args with
  | [.w (.agg [.vec (.n 32) (.u8 k)]), .w (.s (.u32 c)), .w (.agg [.vec (.n 12) (.u8 n)]), .w (.s (.xs 1 (.s m) (.u8 d)))] => some ([m = d.length, d.length ≤ 4294967296], .s (.xs 1 (.s d.length) (.u8 (xorL k n c d))))
  | _ => none
noncomputable def JXor (σ : St) : Option Inv :=
  match getF σ.fr 0, getF σ.fr 1, getF σ.fr 2, getF σ.fr 3, names σ.fr 10 with
  | .w (.agg [.vec _ (.u8 k)]), .w (.s (.u32 c)), .w (.agg [.vec _ (.u8 n)]), .w (.s (.xs _ _ (.u8 d))), some b => some {
      α := Nat
      ok := fun i => i ≤ d.length
      mu := fun i => d.length - i
      keep := [0, 2, 3, 4, 6, 8, 10, 13, 14]
      slots := fun i => [(1, .s (.u32 (c + UInt32.ofNat ((i + 63) / 64)))), (9, .s (.sl σ.own.length 0 (.n 0) (.s i) 1)), (15, .s (.i64 i))]
      own := fun i => [(b, some [.vec (.n 64) (.u8 (padAt k n c i))])]
      ext := fun i => [(9, [.vec (.s i) (.u8 (xorTo k n c d i))])] }
  | _, _, _, _, _ => none
noncomputable def JXorR (σ : St) : Option Inv :=
  match getF σ.fr 0, getF σ.fr 1, getF σ.fr 2, getF σ.fr 3, names σ.fr 10 with
  | .w (.agg [.vec _ (.u8 k)]), .w (.s (.u32 c)), .w (.agg [.vec _ (.u8 n)]), .w (.s (.xs _ _ (.u8 d))), some b => some {
      α := Nat
      ok := fun i => i ≤ d.length
      mu := fun i => d.length - i
      keep := [0, 1, 2, 3, 4, 6, 8, 10, 13, 14]
      slots := fun i => [(9, .s (.sl σ.own.length 0 (.n 0) (.s i) 1)), (15, .s (.i64 i))]
      own := fun i => [(b, some [.vec (.n 64) (.u8 (padAt k n c i))])]
      ext := fun i => [(9, [.vec (.s i) (.u8 (xorTo k n c d i))])] }
  | _, _, _, _, _ => none
def gTrue0 : SpecF := fun args => match args with
  | [] => some ([], .s (.b true))
  | _ => none
end Go.Cha
