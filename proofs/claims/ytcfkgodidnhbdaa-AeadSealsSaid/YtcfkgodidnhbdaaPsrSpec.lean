/- A step towards AeadSealsSaid: no conditions. -/
import Derived.Test.YtcfkgodidnhbdaaPrfPlain
namespace Go.Pol
open Go Go.Eng Go.Cod
/-- the first j bytes, as digits of a number of 17 -/
def padD (l : List UInt8) (j : Nat) : List UInt32 := (l.take j).map UInt8.toUInt32 ++ List.replicate (17 - j) 0
def cutD (l : List UInt32) (j : Nat) : List UInt8 := (l.take j).map UInt32.toUInt8 ++ List.replicate (16 - j) 0
def cN (l : List UInt8) : List UInt32 := (padD l (min l.length 16)).set (min l.length 16) 1
def vN (rr : List UInt32) (d : List UInt8) : Nat → Nat
  | 0 => 0
  | j + 1 => red1 (red1 (timesV (d17 ((valD (d17 (vN rr d j)) + valD (cN (d.drop (16 * j)))) % 87112285931760246646623899502532662132736)) rr))
/-- bytes of slot or block into a number: slot sj the place, block named by slot sb -/
noncomputable def JPad (sj sb : Nat) (keep : List Nat) (l : List UInt8) (n : Nat) (σ : St) : Option Inv :=
  match names σ.fr sb with
  | some kb => some {
      α := Nat
      ok := fun j => j ≤ n
      mu := fun j => n - j
      keep := keep
      slots := fun j => [(sj, .s (.i64 j))]
      own := fun j => [(kb, some [.vec (.n 17) (.u32 (padD l j))])]
      ext := fun _ => [] }
  | _ => none
noncomputable def JPadK (sj sb : Nat) (off : Nat) (keep : List Nat) (σ : St) : Option Inv :=
  match names σ.fr 2 with
  | some kk => match getO σ.own kk with
    | some [.vec _ (.u8 k)] => JPad sj sb keep (k.drop off) 16 σ
    | _ => none
  | _ => none
noncomputable def JPadD (σ : St) : Option Inv :=
  match getF σ.fr 1 with
  | .w (.s (.xs _ _ (.u8 d))) => JPad 10 9 [1, 2, 4, 5, 6, 8, 9] d (min d.length 16) σ
  | _ => none
noncomputable def JPolyR (σ : St) : Option Inv :=
  match getF σ.fr 1, names σ.fr 5, names σ.fr 6 with
  | .w (.s (.xs _ _ (.u8 d))), some kr, some kh => match getO σ.own kr with
    | some [.vec _ (.u32 rr)] => some {
        α := Nat
        ok := fun j => j ≤ nbP d
        mu := fun j => nbP d - j
        keep := [2, 4, 5, 6]
        slots := fun j => [(1, .s (.xs 1 (.s (d.drop (16 * j)).length) (.u8 (d.drop (16 * j)))))]
        own := fun j => [(kh, some [.vec (.n 17) (.u32 (d17 (vN rr d j)))])]
        ext := fun _ => [] }
    | _ => none
  | _, _, _ => none
noncomputable def JCutR (σ : St) : Option Inv :=
  match names σ.fr 6, names σ.fr 13 with
  | some kh, some ko => match getO σ.own kh with
    | some [.vec _ (.u32 h)] => some {
        α := Nat
        ok := fun j => j ≤ 16
        mu := fun j => 16 - j
        keep := [4, 6, 13]
        slots := fun j => [(97, .s (.i64 j))]
        own := fun j => [(ko, some [.vec (.n 16) (.u8 (cutD h j))])]
        ext := fun _ => [] }
    | _ => none
  | _, _ => none
end Go.Pol
