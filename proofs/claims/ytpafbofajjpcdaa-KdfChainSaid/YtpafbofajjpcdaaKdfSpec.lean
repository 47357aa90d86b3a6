/- A step towards KdfChainSaid: no conditions. -/
import Derived.Test.YtpafbofajjpcdaaBlrSpec
namespace Go.Kdf
open Go Go.Eng Go.Cha Go.Cod Go.Bla
/-- a key, filled up to a block -/
def padZ (k : List UInt8) : List UInt8 := k ++ List.replicate (64 - k.length) 0
def padX (c : UInt8) (k : List UInt8) : List UInt8 := (padZ k).map (· ^^^ c)
def keyK (key : List UInt8) : List UInt8 := if 64 < key.length then sumL 32 [] key else key
def hmacL (key d : List UInt8) : List UInt8 := sumL 32 [] (padX 0x5c (keyK key) ++ sumL 32 [] (padX 0x36 (keyK key) ++ d))
/-- the first i bytes are changed -/
def xorTo (c : UInt8) (p : List UInt8) (i : Nat) : List UInt8 := (p.take i).map (· ^^^ c) ++ p.drop i
/-- key number i of those that are derived from t, and all up to it -/
def keyN (t : List UInt8) : Nat → List UInt8
  | 0 => []
  | i + 1 => hmacL t (keyN t i ++ [to8 ((i + 1 : Nat) : Int)])
def keysF (t : List UInt8) : Nat → List UInt8
  | 0 => []
  | i + 1 => keysF t i ++ keyN t (i + 1)
def expandN (n : Int) : Nat := if 1 ≤ n ∧ n ≤ 255 then n.toNat else 0
def expandL (key input : List UInt8) (n : Int) : List UInt8 := keysF (hmacL key input) (expandN n)
def gHmac : SpecF := fun args => match args with
  | [.w (.s (.xs 1 (.s m) (.u8 key))), .w (.s (.xs 1 (.s n) (.sl ls)))] => some ([m = key.length, key.length ≤ 4294960000, n = ls.length, ls.length < 4611686018427387904, ls.flatten.length ≤ 4294960000], .w (.agg [.vec (.n 32) (.u8 (hmacL key ls.flatten))]))
  | _ => none
def gExpand : SpecF := fun args => match args with
  | [.w (.s (.xs 1 (.s m) (.u8 key))), .w (.s (.xs 1 (.s k) (.u8 input))), .w (.s (.i64 n))] => some ([m = key.length, key.length ≤ 4294960000, k = input.length, input.length ≤ 4294960000], .w (.s (.xs 32 (.s (expandN n)) (.u8 (expandL key input n)))))
  | _ => none
noncomputable def rowAt (σ : St) (t : Nat) : Option (List UInt8) :=
  match getF σ.fr t with
  | .w (.s (.xs _ _ (.u8 l))) => some l
  | .w (.s (.sl k _ _ _ _)) => match getO σ.own k with
    | some [.vec _ (.u8 l)] => some l
    | _ => none
  | .w (.s (.ptr k _)) => match getO σ.own k with
    | some [.vec _ (.u8 l)] => some l
    | _ => none
  | _ => none
noncomputable def JHmac (σ : St) : Option Inv :=
  match names σ.fr 6, names σ.fr 7, rowAt σ 6, rowAt σ 7 with
  | some a, some b, some p, some q => some {
      α := Nat
      ok := fun i => i ≤ 64
      mu := fun i => 64 - i
      keep := [0, 1, 4, 5, 6, 7]
      slots := fun i => [(25, .s (.i64 i))]
      own := fun i => [(a, some [.vec (.n 64) (.u8 (xorTo 0x36 p i))]), (b, some [.vec (.n 64) (.u8 (xorTo 0x5c q i))])]
      ext := fun _ => [] }
  | _, _, _, _ => none
noncomputable def JHmacR (σ : St) : Option Inv :=
  match rowAt σ 0 with
  | some k => some {
      α := Nat
      ok := fun i => i ≤ 64
      mu := fun i => 64 - i
      keep := [0, 1, 4, 5]
      slots := fun i => [(8, .s (.i64 i)), (6, .s (.sl σ.own.length 0 (.n 0) (.s i) 1)), (7, .s (.sl (σ.own.length + 1) 0 (.n 0) (.s i) 1))]
      own := fun _ => []
      ext := fun i => [(6, [.vec (.s i) (.u8 ((padX 0x36 k).take i))]), (7, [.vec (.s i) (.u8 ((padX 0x5c k).take i))])] }
  | _ => none
noncomputable def JExpand (slot : Nat) (o : Nat) (keep : List Nat) (σ : St) : Option Inv :=
  match rowAt σ 7, getF σ.fr 2 with
  | some t, .w (.s (.i64 n)) => some {
      α := Nat
      ok := fun i => (i : Int) ≤ n
      mu := fun i => n.toNat - i
      keep := keep
      slots := fun i => [(slot, .s (.i64 ((i + o : Nat) : Int))), (8, .s (.sl σ.own.length 0 (.n 0) (.s i) 32)), (9, .s (.sl (σ.own.length + 1) 0 (.n 0) (.s (keyN t i).length) 1))]
      own := fun _ => []
      ext := fun i => [(8, [.vec (.s (i * 32)) (.u8 (keysF t i))]), (9, [.vec (.s (keyN t i).length) (.u8 (keyN t i))])] }
  | _, _ => none
end Go.Kdf
