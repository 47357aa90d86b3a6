/- A step towards MessageDecodesSaid: no conditions. -/
import Derived.Test.YtmllcabapgdcdaaMsgSpec
namespace Go.Msg
open Go Go.Eng Go.Cod
def kindL (b : List UInt8) : Int :=
  if b.length < 4 ∨ b.getD 1 0 ≠ 0 ∨ b.getD 2 0 ≠ 0 ∨ b.getD 3 0 ≠ 0 then 0 else
    if (b.getD 0 0 = 1 ∧ b.length = 148) ∨ (b.getD 0 0 = 2 ∧ b.length = 92) ∨ (b.getD 0 0 = 3 ∧ b.length = 64) ∨ (b.getD 0 0 = 4 ∧ 32 ≤ b.length ∧ b.length ≤ 2100) then ((b.getD 0 0).toNat : Int) else 0
/-- n bytes from place o on, of a message of kind k -/
def fld (k : Int) (b : List UInt8) (o n : Nat) : List UInt8 := if kindL b = k then (b.drop o).take n else List.replicate n 0
def fld32 (k : Int) (b : List UInt8) (o : Nat) : UInt32 := if kindL b = k then (readL ((b.drop o).take 4)).toUInt32 else 0
def fld64 (k : Int) (b : List UInt8) (o : Nat) : UInt64 := if kindL b = k then readL ((b.drop o).take 8) else 0
def fldR (k : Int) (b : List UInt8) (o : Nat) : List UInt8 := if kindL b = k then b.drop o else []
def decE (k : Int) (b : List UInt8) : Int := if kindL b = k then 0 else 4
def gKind : SpecF := fun args => match args with
  | [.w (.s (.xs 1 (.s m) (.u8 b)))] => some ([m = b.length, m ≤ 4294967296], .s (.i64 (kindL b)))
  | _ => none
def gN32 : SpecF := fun args => match args with
  | [.w (.s (.xs 1 (.s m) (.u8 b)))] => some ([m = b.length, 4 ≤ m], .s (.u32 (readL (b.take 4)).toUInt32))
  | _ => none
def dInit (b : List UInt8) : V := .tup [.agg [.one (.u32 (fld32 1 b 4)), .vec (.n 32) (.u8 (fld 1 b 8 32)), .vec (.n 48) (.u8 (fld 1 b 40 48)), .vec (.n 28) (.u8 (fld 1 b 88 28)), .vec (.n 16) (.u8 (fld 1 b 116 16)), .vec (.n 16) (.u8 (fld 1 b 132 16))], .s (.i64 (decE 1 b))]
def dResp (b : List UInt8) : V := .tup [.agg [.one (.u32 (fld32 2 b 4)), .one (.u32 (fld32 2 b 8)), .vec (.n 32) (.u8 (fld 2 b 12 32)), .vec (.n 16) (.u8 (fld 2 b 44 16)), .vec (.n 16) (.u8 (fld 2 b 60 16)), .vec (.n 16) (.u8 (fld 2 b 76 16))], .s (.i64 (decE 2 b))]
def dCook (b : List UInt8) : V := .tup [.agg [.one (.u32 (fld32 3 b 4)), .vec (.n 24) (.u8 (fld 3 b 8 24)), .vec (.n 32) (.u8 (fld 3 b 32 32))], .s (.i64 (decE 3 b))]
def dTran (b : List UInt8) : V := .tup [.agg [.one (.u32 (fld32 4 b 4)), .one (.u64 (fld64 4 b 8)), .one (.xs 1 (.s (fldR 4 b 16).length) (.u8 (fldR 4 b 16)))], .s (.i64 (decE 4 b))]
def gDec (d : List UInt8 → V) : SpecF := fun args => match args with
  | [.w (.s (.xs 1 (.s m) (.u8 b)))] => some ([m = b.length, m ≤ 4294967296], d b)
  | _ => none
end Go.Msg
