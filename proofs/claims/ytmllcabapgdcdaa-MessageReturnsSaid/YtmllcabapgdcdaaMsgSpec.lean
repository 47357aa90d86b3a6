/- A step towards MessageReturnsSaid: no conditions. -/
import Derived.Test.YtmllcabapgdcdaaCodSpec
import Derived.Test.YtmllcabapgdcdaaCodNum
namespace Go.Msg
open Go Go.Eng Go.Cod
def initL (s : UInt32) (e st t m1 m2 : List UInt8) : List UInt8 := [1, 0, 0, 0] ++ (littleL s.toUInt64 4 ++ (e ++ (st ++ (t ++ (m1 ++ m2)))))
def respL (s r : UInt32) (e em m1 m2 : List UInt8) : List UInt8 := [2, 0, 0, 0] ++ (littleL s.toUInt64 4 ++ (littleL r.toUInt64 4 ++ (e ++ (em ++ (m1 ++ m2)))))
def cookL (r : UInt32) (n c : List UInt8) : List UInt8 := [3, 0, 0, 0] ++ (littleL r.toUInt64 4 ++ (n ++ c))
def tranL (r : UInt32) (c : UInt64) (b : List UInt8) : List UInt8 := [4, 0, 0, 0] ++ (littleL r.toUInt64 4 ++ (littleL c 8 ++ b))
def tranR (r : UInt32) (c : UInt64) (b : List UInt8) : List UInt8 := if b.length < 16 then [] else if 2084 < b.length then [] else tranL r c b
def tranE (b : List UInt8) : Int := if b.length < 16 then 2 else if 2084 < b.length then 3 else 0
def gInit : SpecF := fun args => match args with
  | [.w (.agg [.one (.u32 s), .vec (.n 32) (.u8 e), .vec (.n 48) (.u8 st), .vec (.n 28) (.u8 t), .vec (.n 16) (.u8 m1), .vec (.n 16) (.u8 m2)])] => some ([], .s (.xs 1 (.n 148) (.u8 (initL s e st t m1 m2))))
  | _ => none
def gResp : SpecF := fun args => match args with
  | [.w (.agg [.one (.u32 s), .one (.u32 r), .vec (.n 32) (.u8 e), .vec (.n 16) (.u8 em), .vec (.n 16) (.u8 m1), .vec (.n 16) (.u8 m2)])] => some ([], .s (.xs 1 (.n 92) (.u8 (respL s r e em m1 m2))))
  | _ => none
def gCook : SpecF := fun args => match args with
  | [.w (.agg [.one (.u32 r), .vec (.n 24) (.u8 n), .vec (.n 32) (.u8 c)])] => some ([], .s (.xs 1 (.n 64) (.u8 (cookL r n c))))
  | _ => none
def gTran : SpecF := fun args => match args with
  | [.w (.agg [.one (.u32 r), .one (.u64 c), .one (.xs 1 (.s m) (.u8 b))])] => some ([m = b.length, m ≤ 4294967296], .tup [.s (.xs 1 (.s (tranR r c b).length) (.u8 (tranR r c b))), .s (.i64 (tranE b))])
  | _ => none
def gTrue0 : SpecF := fun args => match args with
  | [] => some ([], .s (.b true))
  | _ => none
def gU32 : SpecF := fun args => match args with
  | [.w (.s (.u32 n))] => some ([], .s (.xs 1 (.n 4) (.u8 [(shr64 n.toUInt64 0).toUInt8, (shr64 n.toUInt64 8).toUInt8, (shr64 n.toUInt64 16).toUInt8, (shr64 n.toUInt64 24).toUInt8])))
  | _ => none
end Go.Msg
