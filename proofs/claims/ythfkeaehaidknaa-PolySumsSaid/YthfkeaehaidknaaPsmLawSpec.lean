/- A step towards PolySumsSaid: no conditions. -/
import Derived.Test.YthfkeaehaidknaaPslSpec
namespace Go.Pol
open Go Go.Eng Go.Cod
noncomputable def JFull (σ : St) : Option Inv :=
  match getF σ.fr 2, names σ.fr 8 with
  | .w (.s (.u8 f)), some kb => some {
      α := Nat
      ok := fun j => j ≤ 48
      mu := fun j => 48 - j
      keep := [1, 2, 3, 6, 7, 8, 9, 20]
      slots := fun j => [(21, .s (.i64 j))]
      own := fun j => [(kb, some [.vec (.n 48) (.u8 (List.replicate j (UInt8.ofNat 255 - f % UInt8.ofNat 3) ++ List.replicate (48 - j) 0))])]
      ext := fun _ => [] }
  | _, _ => none
noncomputable def JOnes (σ : St) : Option Inv :=
  match names σ.fr 9 with
  | some kb => some {
      α := Nat
      ok := fun j => j ≤ 32
      mu := fun j => 32 - j
      keep := [1, 2, 3, 6, 7, 8, 9]
      slots := fun j => [(31, .s (.i64 j))]
      own := fun j => [(kb, some [.vec (.n 32) (.u8 (List.replicate j (UInt8.ofNat 255) ++ List.replicate (32 - j) 0))])]
      ext := fun _ => [] }
  | _ => none
end Go.Pol
