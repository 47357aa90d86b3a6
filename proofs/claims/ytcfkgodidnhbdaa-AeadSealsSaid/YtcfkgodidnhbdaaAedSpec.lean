/- A step towards AeadSealsSaid: no conditions. -/
import Derived.Test.YtcfkgodidnhbdaaXorSpec
import Derived.Test.YtcfkgodidnhbdaaPsmSpec
namespace Go.Aed
open Go Go.Eng Go.Cod Go.Cha Go.Pol
def dif (a b : List UInt8) : Nat → UInt8
  | 0 => 0
  | i + 1 => dif a b i ||| (a.getD i 0 ^^^ b.getD i 0)
def gEqual : SpecF := fun args => match args with
  | [.w (.s (.xs 1 (.s m) (.u8 a))), .w (.s (.xs 1 (.s n) (.u8 b)))] => some ([m = a.length, n = b.length, a.length < 4611686018427387904, b.length < 4611686018427387904], .s (.b (a == b)))
  | _ => none
noncomputable def JEqual (σ : St) : Option Inv :=
  match getF σ.fr 0, getF σ.fr 1 with
  | .w (.s (.xs _ _ (.u8 a))), .w (.s (.xs _ _ (.u8 b))) => some {
      α := Nat
      ok := fun i => i ≤ a.length
      mu := fun i => a.length - i
      keep := [0, 1, 13]
      slots := fun i => [(5, .s (.u8 (dif a b i))), (14, .s (.i64 i))]
      own := fun _ => []
      ext := fun _ => [] }
  | _, _ => none
def zp (n : Nat) : Nat := (16 - n % 16) % 16
def zerosL (n : Nat) : List UInt8 := List.replicate (zp n) 0
def gFilled : SpecF := fun args => match args with
  | [.w (.s (.xs 1 (.s m) (.u8 b)))] => some ([m = b.length, b.length ≤ 4294967296], .s (.xs 1 (.s (zp b.length)) (.u8 (zerosL b.length))))
  | _ => none
def fillL (b : List UInt8) : List UInt8 := b ++ zerosL b.length
def gFilledR : SpecF := fun args => match args with
  | [.w (.s (.xs 1 (.s m) (.u8 b)))] => some ([m = b.length, b.length ≤ 4294967000], .s (.xs 1 (.s (fillL b).length) (.u8 (fillL b))))
  | _ => none
noncomputable def JFilledR (σ : St) : Option Inv :=
  match getF σ.fr 0, names σ.fr 3 with
  | .w (.s (.xs _ _ (.u8 b))), some kb => some {
      α := Nat
      ok := fun i => i ≤ zp b.length
      mu := fun i => zp b.length - i
      keep := [0]
      slots := fun i => [(3, .s (.sl σ.own.length 0 (.n 0) (.s (b.length + i)) 1))]
      own := fun _ => [(kb, none)]
      ext := fun i => [(3, [.vec (.s (b.length + i)) (.u8 (b ++ List.replicate i 0))])] }
  | _, _ => none
def macL (c m : List UInt8) : List UInt8 := m ++ (zerosL m.length ++ (c ++ (zerosL c.length ++ (littleL (to64 m.length) 8 ++ littleL (to64 c.length) 8))))
def tagL (k n c m : List UInt8) : List UInt8 := polyL ((block k 0 n).take 32) (macL c m)
def gTag : SpecF := fun args => match args with
  | [.w (.agg [.vec (.n 32) (.u8 k)]), .w (.agg [.vec (.n 12) (.u8 n)]), .w (.s (.xs 1 (.s u) (.u8 c))), .w (.s (.xs 1 (.s v) (.u8 m)))] => some ([u = c.length, v = m.length, c.length ≤ 1073741824, m.length ≤ 1073741824], .w (.agg [.vec (.n 16) (.u8 (tagL k n c m))]))
  | _ => none
def sealL (k n p m : List UInt8) : List UInt8 := xorL k n 1 p ++ tagL k n (xorL k n 1 p) m
def gSeal : SpecF := fun args => match args with
  | [.w (.agg [.vec (.n 32) (.u8 k)]), .w (.agg [.vec (.n 12) (.u8 n)]), .w (.s (.xs 1 (.s u) (.u8 p))), .w (.s (.xs 1 (.s v) (.u8 m)))] => some ([u = p.length, v = m.length, p.length ≤ 1073741824, m.length ≤ 1073741824], .s (.xs 1 (.s (sealL k n p m).length) (.u8 (sealL k n p m))))
  | _ => none
def openE (k n s m : List UInt8) : Int := if s.length < 16 then 2 else if tagL k n (s.take (s.length - 16)) m = s.drop (s.length - 16) then 0 else 6
def openL (k n s m : List UInt8) : List UInt8 := if openE k n s m = 0 then xorL k n 1 (s.take (s.length - 16)) else []
def gOpen : SpecF := fun args => match args with
  | [.w (.agg [.vec (.n 32) (.u8 k)]), .w (.agg [.vec (.n 12) (.u8 n)]), .w (.s (.xs 1 (.s u) (.u8 s))), .w (.s (.xs 1 (.s v) (.u8 m)))] => some ([u = s.length, v = m.length, s.length ≤ 1073741824, m.length ≤ 1073741824], .tup [.s (.xs 1 (.s (openL k n s m).length) (.u8 (openL k n s m))), .s (.i64 (openE k n s m))])
  | _ => none
def countL (c : UInt64) : List UInt8 := List.replicate 4 0 ++ littleL c 8
def gCounter : SpecF := fun args => match args with
  | [.w (.s (.u64 c))] => some ([], .w (.agg [.vec (.n 12) (.u8 (countL c))]))
  | _ => none
end Go.Aed
