/- A step towards AeadSealsSaid: no conditions. -/
import Derived.Test.YtcfkgodidnhbdaaPolSpec
namespace Go.Pol
open Go Go.Eng Go.Cod
/-- block j of a text, a one behind it -/
def blkP (d : List UInt8) (j : Nat) : Nat := natL ((d.drop (16 * j)).take 16) + 256 ^ (min 16 (d.length - 16 * j))
def hN (r : Nat) (d : List UInt8) : Nat → Nat
  | 0 => 0
  | j + 1 => red1 ((hN r d j + blkP d j) * r)
def nbP (d : List UInt8) : Nat := (d.length + 15) / 16
def r0 (k : List UInt8) : UInt64 := readL (k.take 8) &&& UInt64.ofNat 1152921487695413247
def r1 (k : List UInt8) : UInt64 := readL ((k.drop 8).take 8) &&& UInt64.ofNat 1152921487695413244
def rOf (k : List UInt8) : Nat := (r0 k).toNat + D64 * (r1 k).toNat
def sOf (k : List UInt8) : Nat := (readL ((k.drop 16).take 8)).toNat + D64 * (readL ((k.drop 24).take 8)).toNat
def redP (h : Nat) : Nat := if h < P130 then h else h - P130
def polyN (k d : List UInt8) : Nat := redP (hN (rOf k) d (nbP d)) + sOf k
def polyL (k d : List UInt8) : List UInt8 := littleL (u (polyN k d)) 8 ++ littleL (u (polyN k d / D64)) 8
def gPoly : SpecF := fun args => match args with
  | [.w (.agg [.vec (.n 32) (.u8 k)]), .w (.s (.xs 1 (.s m) (.u8 d)))] => some ([m = d.length, d.length ≤ 4294967296], .w (.agg [.vec (.n 16) (.u8 (polyL k d))]))
  | _ => none
noncomputable def JPoly (σ : St) : Option Inv :=
  match getF σ.fr 1, names σ.fr 7, getF σ.fr 5, getF σ.fr 6 with
  | .w (.s (.xs _ _ (.u8 d))), some kh, .w (.s (.u64 r)), .w (.s (.u64 s)) => some {
      α := Nat
      ok := fun j => j ≤ nbP d
      mu := fun j => nbP d - j
      keep := [2, 4, 5, 6, 7]
      slots := fun j => [(1, .s (.xs 1 (.s (d.drop (16 * j)).length) (.u8 (d.drop (16 * j)))))]
      own := fun j => [(kh, some [.vec (.n 3) (.u64 (w3 (hN (r.toNat + D64 * s.toNat) d j)))])]
      ext := fun _ => [] }
  | _, _, _, _ => none
end Go.Pol
