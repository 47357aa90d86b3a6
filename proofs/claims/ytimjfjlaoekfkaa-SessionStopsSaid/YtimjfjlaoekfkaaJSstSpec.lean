/- Steps towards SessionStopsSaid. -/
import Derived.Test.YtimjfjlaoekfkaaJMsgSpec
import Derived.Test.YtimjfjlaoekfkaaJCodNum
/- A step towards SessionStopsSaid: no conditions. -/
namespace Go.Ses
open Go Go.Eng Go.Cod Go.Cha Go.Pol Go.Aed Go.Msg Go.Win
noncomputable def JStops (σ : St) : Option Inv :=
  match names σ.fr 13, getF σ.fr 5 with
  | some kb, .w (.s (.u8 t)) => match getO σ.own kb with
    | some [a, b, c, d, _, e, f, g, h, i, j] => some {
        α := Nat × UInt64
        ok := fun x => x.1 ≤ t.toNat % 12
        mu := fun x => t.toNat % 12 - x.1
        keep := [2, 3, 4, 5, 6, 12, 13]
        slots := fun x => [(14, .s (.i64 x.1))]
        own := fun x => [(kb, some [a, b, c, d, .one (.u64 x.2), e, f, g, h, i, j])]
        ext := fun _ => [] }
    | _ => none
  | _, _ => none
end Go.Ses

/- A step towards SessionStopsSaid: no conditions. -/
namespace Go.Pol
open Go Go.Eng Go.Cod
def gTrue0 : SpecF := fun args => match args with
  | [] => some ([], .s (.b true))
  | _ => none
/-- what is carried into byte i -/
def car (a s : List UInt8) (i : Nat) : Nat := (natL a % 256 ^ i + natL s % 256 ^ i) / 256 ^ i
noncomputable def JAdds (σ : St) : Option Inv :=
  match names σ.fr 2, names σ.fr 8 with
  | some p, some q => match getO σ.own p, getO σ.own q with
    | some [.vec _ (.u8 k)], some [.vec _ (.u8 a)] => some {
        α := Nat
        ok := fun i => i ≤ 16
        mu := fun i => 16 - i
        keep := [2, 4, 8, 9]
        slots := fun i => [(28, .s (.i64 i)), (10, .s (.i64 (car a (k.drop 16) i : Nat)))]
        own := fun _ => []
        ext := fun _ => [] }
    | _, _ => none
  | _, _ => none
end Go.Pol
