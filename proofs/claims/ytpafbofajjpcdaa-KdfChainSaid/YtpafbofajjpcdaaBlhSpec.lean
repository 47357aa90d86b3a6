/- A step towards KdfChainSaid: no conditions. -/
import Derived.Test.YtpafbofajjpcdaaSumSpec
namespace Go.Bla
open Go Go.Eng Go.Cha Go.Cod
def gHash : SpecF := fun args => match args with
  | [.w (.s (.xs 1 (.s m) (.sl ls)))] => some ([m = ls.length, ls.length < 4611686018427387904, ls.flatten.length ≤ 4294966000], .w (.agg [.vec (.n 32) (.u8 (sumL 32 [] ls.flatten))]))
  | _ => none
def gCode : SpecF := fun args => match args with
  | [.w (.s (.xs 1 (.s m) (.u8 key))), .w (.s (.xs 1 (.s n) (.sl ls)))] => some ([m = key.length, key.length ≤ 32, n = ls.length, ls.length < 4611686018427387904, ls.flatten.length ≤ 4294966000], .w (.agg [.vec (.n 16) (.u8 (sumL 16 key ls.flatten))]))
  | _ => none
def gTrue0 : SpecF := fun args => match args with
  | [] => some ([], .s (.b true))
  | _ => none
end Go.Bla
