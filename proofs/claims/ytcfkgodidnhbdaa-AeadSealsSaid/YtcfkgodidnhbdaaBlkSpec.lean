/- A step towards AeadSealsSaid: no conditions. -/
import Derived.Test.YtcfkgodidnhbdaaChaSpec
import Derived.Test.YtcfkgodidnhbdaaCodSpec
namespace Go.Cha
open Go Go.Eng Go.Cod
def rd (l : List UInt8) (o : Nat) : UInt32 := (readL ((l.drop o).take 4)).toUInt32
def blkIn (k : List UInt8) (c : UInt32) (n : List UInt8) : W16 :=
  ⟨1634760805, 857760878, 2036477234, 1797285236, rd k 0, rd k 4, rd k 8, rd k 12, rd k 16, rd k 20, rd k 24, rd k 28, c, rd n 0, rd n 4, rd n 8⟩
abbrev by4 (x : UInt32) (r : List UInt8) : List UInt8 := (shr64 x.toUInt64 0).toUInt8 :: (shr64 x.toUInt64 8).toUInt8 :: (shr64 x.toUInt64 16).toUInt8 :: (shr64 x.toUInt64 24).toUInt8 :: r
def outL (w o : W16) : List UInt8 :=
  by4 (o.x0 + w.x0) (by4 (o.x1 + w.x1) (by4 (o.x2 + w.x2) (by4 (o.x3 + w.x3) (by4 (o.x4 + w.x4) (by4 (o.x5 + w.x5) (by4 (o.x6 + w.x6) (by4 (o.x7 + w.x7)
    (by4 (o.x8 + w.x8) (by4 (o.x9 + w.x9) (by4 (o.x10 + w.x10) (by4 (o.x11 + w.x11) (by4 (o.x12 + w.x12) (by4 (o.x13 + w.x13) (by4 (o.x14 + w.x14) (by4 (o.x15 + w.x15) [])))))))))))))))
def block (k : List UInt8) (c : UInt32) (n : List UInt8) : List UInt8 := outL (blkIn k c n) (coreW (blkIn k c n))
theorem block_len (k : List UInt8) (c : UInt32) (n : List UInt8) : (block k c n).length = 64 := rfl
def stateL (k rest : List UInt8) : List UInt32 :=
  [1634760805, 857760878, 2036477234, 1797285236, rd k 0, rd k 4, rd k 8, rd k 12, rd k 16, rd k 20, rd k 24, rd k 28, rd rest 0, rd rest 4, rd rest 8, rd rest 12]
def gState : SpecF := fun args => match args with
  | [.w (.agg [.vec (.n 32) (.u8 k)]), .w (.s (.xs 1 (.s m) (.u8 r)))] => some ([m = r.length, 16 ≤ m], .w (.agg [.vec (.n 16) (.u32 (stateL k r))]))
  | _ => none
def gBlock : SpecF := fun args => match args with
  | [.w (.agg [.vec (.n 32) (.u8 k)]), .w (.s (.u32 c)), .w (.agg [.vec (.n 12) (.u8 n)])] => some ([], .w (.agg [.vec (.n 64) (.u8 (block k c n))]))
  | _ => none
end Go.Cha
