/- A step towards SessionValuesSaid: no conditions. -/
import Derived.Test.YtimjfjlaoekfkaaGreatJDakSpec


namespace Go.Dae
open Go Go.Eng
noncomputable def JRow (t i : Nat) (kp : List Nat) (σ : St) : Option Inv :=
  match getF σ.fr t with
  | .w (.s (.xs _ (.s n) _)) => some {
      α := Nat
      ok := fun a => a ≤ n
      mu := fun a => n - a
      keep := t :: kp
      slots := fun a => [(i, .s (.i64 a))]
      own := fun _ => []
      ext := fun _ => [] }
  | _ => none
noncomputable def gRules : SpecH := fun args => match args with
  | [.w (.agg cs)] => match rulOf cs with
    | some _ => some ([], HBool)
    | none => none
  | _ => none
noncomputable def gPeers : SpecH := fun args => match args with
  | [.w (.agg cs)] => match dmOf cs with
    | some d => some ([d.Ok], HBool)
    | none => none
  | _ => none
end Go.Dae
