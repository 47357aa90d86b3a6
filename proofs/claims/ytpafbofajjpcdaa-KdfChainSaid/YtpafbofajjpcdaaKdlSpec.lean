/- A step towards KdfChainSaid: no conditions. -/
import Derived.Test.YtpafbofajjpcdaaKdfSpec
namespace Go.Kdf
open Go Go.Eng Go.Cha Go.Cod Go.Bla
/-- two rows of keys, the same -/
def gSame : SpecF := fun args => match args with
  | [.w (.s (.xs 32 (.s m) (.u8 a))), .w (.s (.xs 32 (.s n) (.u8 b)))] => some ([m = n, a = b, a.length = m * 32, a.length ≤ 4294960000], .s (.b true))
  | _ => none
noncomputable def JSame (σ : St) : Option Inv :=
  match getF σ.fr 0 with
  | .w (.s (.xs _ (.s n) _)) => some {
      α := Nat
      ok := fun i => i ≤ n
      mu := fun i => n - i
      keep := [0, 1, 12]
      slots := fun i => [(13, .s (.i64 i))]
      own := fun _ => []
      ext := fun _ => [] }
  | _ => none
noncomputable def JChain (σ : St) : Option Inv :=
  match rowAt σ 10, names σ.fr 11, getF σ.fr 31 with
  | some t, some k, .w (.s (.i64 n)) => some {
      α := Nat
      ok := fun i => (i : Int) ≤ n
      mu := fun i => n.toNat - i
      keep := [2, 6, 7, 8, 9, 10, 31]
      slots := fun i => [(32, .s (.i64 i)), (11, .s (.sl σ.own.length 0 (.n 0) (.s (keyN t i).length) 1))]
      own := fun _ => [(k, none)]
      ext := fun i => [(11, [.vec (.s (keyN t i).length) (.u8 (keyN t i))])] }
  | _, _, _ => none
noncomputable def JLong (σ : St) : Option Inv :=
  match rowAt σ 7, names σ.fr 10 with
  | some key, some k => some {
      α := Unit
      ok := fun _ => True
      mu := fun _ => 0
      keep := [2, 6, 7, 8, 9]
      slots := fun _ => [(10, .s (.sl σ.own.length 0 (.n 0) (.s (keyK key).length) 1))]
      own := fun _ => [(k, none)]
      ext := fun _ => [(10, [.vec (.s (keyK key).length) (.u8 (keyK key))])] }
  | _, _ => none
noncomputable def JPad (σ : St) : Option Inv :=
  match rowAt σ 7, names σ.fr 10 with
  | some key, some k => some {
      α := Nat
      ok := fun n => n ≤ 64 - (keyK key).length
      mu := fun n => 64 - (keyK key).length - n
      keep := [2, 6, 7, 8, 9]
      slots := fun n => [(10, .s (.sl σ.own.length 0 (.n 0) (.s ((keyK key).length + n)) 1))]
      own := fun _ => [(k, none)]
      ext := fun n => [(10, [.vec (.s ((keyK key).length + n)) (.u8 (keyK key ++ List.replicate n 0))])] }
  | _, _ => none
end Go.Kdf
