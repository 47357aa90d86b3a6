/- A step towards KdfChainSaid: no conditions. -/
import Derived.Test.YtpafbofajjpcdaaSumSpec
namespace Go.Bla
open Go Go.Eng Go.Cha Go.Cod
/-- the key, filled up to a block, if there is one -/
def padK (key : List UInt8) : List UInt8 := if key.length = 0 then [] else key ++ List.replicate (64 - key.length) 0
noncomputable def JKey (σ : St) : Option Inv :=
  match getF σ.fr 1, names σ.fr 9 with
  | .w (.s (.xs _ _ (.u8 key))), some k => some {
      α := Nat
      ok := fun n => n ≤ 64 - key.length
      mu := fun n => 64 - key.length - n
      keep := [0, 1, 2, 6, 7, 8]
      slots := fun n => [(9, .s (.sl σ.own.length 0 (.n 0) (.s (key.length + n)) 1))]
      own := fun _ => [(k, none)]
      ext := fun n => [(9, [.vec (.s (key.length + n)) (.u8 (key ++ List.replicate n 0))])] }
  | _, _ => none
/-- behind the key -/
noncomputable def JKeyed (σ : St) : Option Inv :=
  match getF σ.fr 1 with
  | .w (.s (.xs _ _ (.u8 key))) => some {
      α := Unit
      ok := fun _ => True
      mu := fun _ => 0
      keep := [0, 1, 2, 6, 7, 8]
      slots := fun _ => [(9, .s (.sl σ.own.length 0 (.n 0) (.s (padK key).length) 1))]
      own := fun _ => []
      ext := fun _ => [(9, [.vec (.s (padK key).length) (.u8 (padK key))])] }
  | _ => none
/-- how many zeros fill the last block -/
def fillN (l : List UInt8) : Nat := 64 * (nb l + 1) - l.length
noncomputable def JFill (σ : St) : Option Inv :=
  match names σ.fr 9 with
  | some k => match getO σ.own k with
    | some [.vec _ (.u8 l)] => some {
        α := Nat
        ok := fun n => n ≤ fillN l
        mu := fun n => fillN l - n
        keep := [0, 1, 2, 6, 7, 8, 10]
        slots := fun n => [(9, .s (.sl σ.own.length 0 (.n 0) (.s (l.length + n)) 1))]
        own := fun _ => [(k, none)]
        ext := fun n => [(9, [.vec (.s (l.length + n)) (.u8 (l ++ List.replicate n 0))])] }
    | _ => none
  | none => none
/-- the state behind j blocks, the last one included -/
def hstR (h0 : List UInt32) (l : List UInt8) (j : Nat) : List UInt32 := if j ≤ nb l then hst h0 l j else sumH h0 l
noncomputable def JSumR (σ : St) : Option Inv :=
  match names σ.fr 8, names σ.fr 9, getF σ.fr 10 with
  | some kh, some km, .w (.s (.i64 len)) => match getO σ.own kh, getO σ.own km with
    | some [.vec _ (.u32 h)], some [.vec _ (.u8 m)] => some {
        α := Nat
        ok := fun j => 64 * j ≤ m.length
        mu := fun j => m.length - 64 * j
        keep := [0, 1, 2, 6, 7, 8, 9, 10]
        slots := fun j => [(11, .s (.i64 (64 * j : Nat)))]
        own := fun j => [(kh, some [.vec (.n 8) (.u32 (hstR h (m.take len.toNat) j))])]
        ext := fun _ => [] }
    | _, _ => none
  | _, _, _ => none
end Go.Bla
