/- A step towards KdfChainSaid: no conditions. -/
import Derived.Test.YtpafbofajjpcdaaBlhSpec
namespace Go.Bla
open Go Go.Eng Go.Cha Go.Cod
/-- the code under a key of any length: zeros where the key is too long -/
def codeL (key d : List UInt8) : List UInt8 := if key.length ≤ 32 then sumL 16 key d else List.replicate 16 0
def gCodeA : SpecF := fun args => match args with
  | [.w (.s (.xs 1 (.s m) (.u8 key))), .w (.s (.xs 1 (.s n) (.sl ls)))] => some ([m = key.length, n = ls.length, ls.length < 4611686018427387904, ls.flatten.length ≤ 4294966000], .w (.agg [.vec (.n 16) (.u8 (codeL key ls.flatten))]))
  | _ => none
end Go.Bla
