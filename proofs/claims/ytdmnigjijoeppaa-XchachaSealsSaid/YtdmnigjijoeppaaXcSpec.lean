/- A step towards XchachaSealsSaid: no conditions. -/
import Derived.Test.YtdmnigjijoeppaaAedSpec
namespace Go.Xc
open Go Go.Eng Go.Cod Go.Cha Go.Pol Go.Aed
def b4 (x : UInt32) (r : List UInt8) : List UInt8 := (shr64 x.toUInt64 0).toUInt8 :: (shr64 x.toUInt64 8).toUInt8 :: (shr64 x.toUInt64 16).toUInt8 :: (shr64 x.toUInt64 24).toUInt8 :: r
def outD (o : List UInt32) : List UInt8 := b4 (o.getD 0 0) (b4 (o.getD 1 0) (b4 (o.getD 2 0) (b4 (o.getD 3 0) (b4 (o.getD 12 0) (b4 (o.getD 13 0) (b4 (o.getD 14 0) (b4 (o.getD 15 0) [])))))))
def deriveL (k i : List UInt8) : List UInt8 := outD (coreL (stateL k i))
def gDerive : SpecF := fun args => match args with
  | [.w (.agg [.vec (.n 32) (.u8 k)]), .w (.agg [.vec (.n 16) (.u8 i)])] => some ([], .w (.agg [.vec (.n 32) (.u8 (deriveL k i))]))
  | _ => none
def nonceL (n : List UInt8) : List UInt8 := List.replicate 4 0 ++ (n.drop 16).take 8
def keyL (k n : List UInt8) : List UInt8 := deriveL k (n.take 16)
def gInside : SpecF := fun args => match args with
  | [.w (.agg [.vec (.n 32) (.u8 k)]), .w (.agg [.vec (.n 24) (.u8 n)])] => some ([], .tup [.agg [.vec (.n 32) (.u8 (keyL k n))], .agg [.vec (.n 12) (.u8 (nonceL n))]])
  | _ => none
def gXSeal : SpecF := fun args => match args with
  | [.w (.agg [.vec (.n 32) (.u8 k)]), .w (.agg [.vec (.n 24) (.u8 n)]), .w (.s (.xs 1 (.s u) (.u8 p))), .w (.s (.xs 1 (.s v) (.u8 m)))] => some ([u = p.length, v = m.length, p.length ≤ 1073741824, m.length ≤ 1073741824], .s (.xs 1 (.s (sealL (keyL k n) (nonceL n) p m).length) (.u8 (sealL (keyL k n) (nonceL n) p m))))
  | _ => none
def gXOpen : SpecF := fun args => match args with
  | [.w (.agg [.vec (.n 32) (.u8 k)]), .w (.agg [.vec (.n 24) (.u8 n)]), .w (.s (.xs 1 (.s u) (.u8 s))), .w (.s (.xs 1 (.s v) (.u8 m)))] => some ([u = s.length, v = m.length, s.length ≤ 1073741824, m.length ≤ 1073741824], .tup [.s (.xs 1 (.s (openL (keyL k n) (nonceL n) s m).length) (.u8 (openL (keyL k n) (nonceL n) s m))), .s (.i64 (openE (keyL k n) (nonceL n) s m))])
  | _ => none
end Go.Xc
