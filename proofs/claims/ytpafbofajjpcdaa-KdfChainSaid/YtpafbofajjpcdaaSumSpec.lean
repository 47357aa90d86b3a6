/- A step towards KdfChainSaid: no conditions. -/
import Derived.Test.YtpafbofajjpcdaaBlaSpec
namespace Go.Bla
open Go Go.Eng Go.Cha Go.Cod
/-- block j of a text, with zeros behind its end -/
def blk (l : List UInt8) (j : Nat) : List UInt8 := over (List.replicate 64 0) 0 ((l.drop (64 * j)).take 64)
def hst (h0 : List UInt32) (l : List UInt8) : Nat → List UInt32
  | 0 => h0
  | j + 1 => compL (hst h0 l j) (blk l j) (to64 ((64 * (j + 1) : Nat) : Int)) false
/-- how many blocks there are ahead of the last one -/
def nb (l : List UInt8) : Nat := (l.length - 1) / 64
def sumH (h0 : List UInt32) (l : List UInt8) : List UInt32 := compL (hst h0 l (nb l)) (blk l (nb l)) (to64 (l.length : Int)) true
def h0 (size k : Int) : List UInt32 := iv.set 0 (0x6A09E667 ^^^ (0x01010000 ^^^ shl32 (to32 k) 8 ^^^ to32 size))
def textK (key data : List UInt8) : List UInt8 := if key.length = 0 then data else key ++ (List.replicate (64 - key.length) 0 ++ data)
def le4 (x : UInt32) : List UInt8 := [(shr64 x.toUInt64 0).toUInt8, (shr64 x.toUInt64 8).toUInt8, (shr64 x.toUInt64 16).toUInt8, (shr64 x.toUInt64 24).toUInt8]
def sumL (size : Int) (key data : List UInt8) : List UInt8 := ((sumH (h0 size key.length) (textK key data)).flatMap le4).take size.toNat
def sumR (size : Int) (key data : List UInt8) : List UInt8 := if 1 ≤ size ∧ size ≤ 32 ∧ key.length ≤ 32 then sumL size key data else []
def sumE (size : Int) (key : List UInt8) : Int := if 1 ≤ size ∧ size ≤ 32 ∧ key.length ≤ 32 then 0 else 1
def gSum : SpecF := fun args => match args with
  | [.w (.s (.i64 size)), .w (.s (.xs 1 (.s m) (.u8 key))), .w (.s (.xs 1 (.s n) (.u8 data)))] => some ([m = key.length, n = data.length, n ≤ 4294967000], .tup [.s (.xs 1 (.s (sumR size key data).length) (.u8 (sumR size key data))), .s (.i64 (sumE size key))])
  | _ => none
/-- the loop over the blocks -/
noncomputable def JSum (σ : St) : Option Inv :=
  match names σ.fr 8, getF σ.fr 9 with
  | some kh, .w (.s (.xs _ _ (.u8 l))) => match getO σ.own kh with
    | some [.vec _ (.u32 h)] => some {
        α := Nat
        ok := fun j => j ≤ nb l
        mu := fun j => nb l - j
        keep := [0, 1, 2, 6, 7, 8]
        slots := fun j => [(9, .s (.xs 1 (.s (l.drop (64 * j)).length) (.u8 (l.drop (64 * j))))), (10, .s (.i64 (64 * j : Nat)))]
        own := fun j => [(kh, some [.vec (.n 8) (.u32 (hst h l j))])]
        ext := fun _ => [] }
    | _ => none
  | some kh, .w (.s (.sl kt _ _ _ _)) => match getO σ.own kh, getO σ.own kt with
    | some [.vec _ (.u32 h)], some [.vec _ (.u8 l)] => some {
        α := Nat
        ok := fun j => j ≤ nb l
        mu := fun j => nb l - j
        keep := [0, 1, 2, 6, 7, 8]
        slots := fun j => [(9, .s (.sl kt 0 (.s (64 * j)) (.s (l.length - 64 * j)) 1)), (10, .s (.i64 (64 * j : Nat)))]
        own := fun j => [(kh, some [.vec (.n 8) (.u32 (hst h l j))])]
        ext := fun _ => [] }
    | _, _ => none
  | _, _ => none
end Go.Bla
