/- Steps towards SessionOpensSaid. -/
import Derived.Test.YtimjfjlaoekfkaaJMsgSpec
import Derived.Test.YtimjfjlaoekfkaaJCodNum
/- A step towards SessionOpensSaid: no conditions. -/
namespace Go.Ses
open Go Go.Eng Go.Cod Go.Cha Go.Pol Go.Aed Go.Msg Go.Win
/-- a loop over a row of three numbers: nothing is kept but what stood ahead of it -/
noncomputable def JThree (ks : List Nat) (s : Nat) (_ : St) : Option Inv := some {
  α := Nat
  ok := fun i => i ≤ 3
  mu := fun i => 3 - i
  keep := ks
  slots := fun i => [(s, .s (.i64 i))]
  own := fun _ => []
  ext := fun _ => [] }
end Go.Ses

/- A step towards SessionOpensSaid: no conditions. -/
namespace Go.Pol
open Go Go.Eng Go.Cod
def gTrue0 : SpecF := fun args => match args with
  | [] => some ([], .s (.b true))
  | _ => none
/-- what is carried into byte i -/
def car (a s : List UInt8) (i : Nat) : Nat := (natL a % 256 ^ i + natL s % 256 ^ i) / 256 ^ i
noncomputable def JAdds (σ : St) : Option Inv :=
  match names σ.fr 2, names σ.fr 8 with
  | some p, some q => match getO σ.own p, getO σ.own q with
    | some [.vec _ (.u8 k)], some [.vec _ (.u8 a)] => some {
        α := Nat
        ok := fun i => i ≤ 16
        mu := fun i => 16 - i
        keep := [2, 4, 8, 9]
        slots := fun i => [(28, .s (.i64 i)), (10, .s (.i64 (car a (k.drop 16) i : Nat)))]
        own := fun _ => []
        ext := fun _ => [] }
    | _, _ => none
  | _, _ => none
end Go.Pol
