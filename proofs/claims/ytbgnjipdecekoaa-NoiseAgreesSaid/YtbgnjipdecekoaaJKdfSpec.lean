/- Steps towards NoiseAgreesSaid. -/
import Derived.Test.YtbgnjipdecekoaaJBlaSpec
import Derived.Test.YtbgnjipdecekoaaJCodNum
/- A step towards NoiseAgreesSaid: no conditions. -/
namespace Go.Kdf
open Go Go.Eng Go.Cha Go.Cod Go.Bla
/-- a key, filled up to a block -/
def padZ (k : List UInt8) : List UInt8 := k ++ List.replicate (64 - k.length) 0
def padX (c : UInt8) (k : List UInt8) : List UInt8 := (padZ k).map (· ^^^ c)
def keyK (key : List UInt8) : List UInt8 := if 64 < key.length then sumL 32 [] key else key
def hmacL (key d : List UInt8) : List UInt8 := sumL 32 [] (padX 0x5c (keyK key) ++ sumL 32 [] (padX 0x36 (keyK key) ++ d))
/-- the first i bytes are changed -/
def xorToK (c : UInt8) (p : List UInt8) (i : Nat) : List UInt8 := (p.take i).map (· ^^^ c) ++ p.drop i
/-- key number i of those that are derived from t, and all up to it -/
def keyN (t : List UInt8) : Nat → List UInt8
  | 0 => []
  | i + 1 => hmacL t (keyN t i ++ [to8 ((i + 1 : Nat) : Int)])
def keysF (t : List UInt8) : Nat → List UInt8
  | 0 => []
  | i + 1 => keysF t i ++ keyN t (i + 1)
def expandN (n : Int) : Nat := if 1 ≤ n ∧ n ≤ 255 then n.toNat else 0
def expandL (key input : List UInt8) (n : Int) : List UInt8 := keysF (hmacL key input) (expandN n)
def gHmac : SpecF := fun args => match args with
  | [.w (.s (.xs 1 (.s m) (.u8 key))), .w (.s (.xs 1 (.s n) (.sl ls)))] => some ([m = key.length, key.length ≤ 4294960000, n = ls.length, ls.length < 4611686018427387904, ls.flatten.length ≤ 4294960000], .w (.agg [.vec (.n 32) (.u8 (hmacL key ls.flatten))]))
  | _ => none
def gExpand : SpecF := fun args => match args with
  | [.w (.s (.xs 1 (.s m) (.u8 key))), .w (.s (.xs 1 (.s k) (.u8 input))), .w (.s (.i64 n))] => some ([m = key.length, key.length ≤ 4294960000, k = input.length, input.length ≤ 4294960000], .w (.s (.xs 32 (.s (expandN n)) (.u8 (expandL key input n)))))
  | _ => none
noncomputable def rowAt (σ : St) (t : Nat) : Option (List UInt8) :=
  match getF σ.fr t with
  | .w (.s (.xs _ _ (.u8 l))) => some l
  | .w (.s (.sl k _ _ _ _)) => match getO σ.own k with
    | some [.vec _ (.u8 l)] => some l
    | _ => none
  | .w (.s (.ptr k _)) => match getO σ.own k with
    | some [.vec _ (.u8 l)] => some l
    | _ => none
  | _ => none
noncomputable def JHmac (σ : St) : Option Inv :=
  match names σ.fr 6, names σ.fr 7, rowAt σ 6, rowAt σ 7 with
  | some a, some b, some p, some q => some {
      α := Nat
      ok := fun i => i ≤ 64
      mu := fun i => 64 - i
      keep := [0, 1, 4, 5, 6, 7]
      slots := fun i => [(25, .s (.i64 i))]
      own := fun i => [(a, some [.vec (.n 64) (.u8 (xorToK 0x36 p i))]), (b, some [.vec (.n 64) (.u8 (xorToK 0x5c q i))])]
      ext := fun _ => [] }
  | _, _, _, _ => none
noncomputable def JHmacR (σ : St) : Option Inv :=
  match rowAt σ 0 with
  | some k => some {
      α := Nat
      ok := fun i => i ≤ 64
      mu := fun i => 64 - i
      keep := [0, 1, 4, 5]
      slots := fun i => [(8, .s (.i64 i)), (6, .s (.sl σ.own.length 0 (.n 0) (.s i) 1)), (7, .s (.sl (σ.own.length + 1) 0 (.n 0) (.s i) 1))]
      own := fun _ => []
      ext := fun i => [(6, [.vec (.s i) (.u8 ((padX 0x36 k).take i))]), (7, [.vec (.s i) (.u8 ((padX 0x5c k).take i))])] }
  | _ => none
noncomputable def JExpand (slot : Nat) (o : Nat) (keep : List Nat) (σ : St) : Option Inv :=
  match rowAt σ 7, getF σ.fr 2 with
  | some t, .w (.s (.i64 n)) => some {
      α := Nat
      ok := fun i => (i : Int) ≤ n
      mu := fun i => n.toNat - i
      keep := keep
      slots := fun i => [(slot, .s (.i64 ((i + o : Nat) : Int))), (8, .s (.sl σ.own.length 0 (.n 0) (.s i) 32)), (9, .s (.sl (σ.own.length + 1) 0 (.n 0) (.s (keyN t i).length) 1))]
      own := fun _ => []
      ext := fun i => [(8, [.vec (.s (i * 32)) (.u8 (keysF t i))]), (9, [.vec (.s (keyN t i).length) (.u8 (keyN t i))])] }
  | _, _ => none
end Go.Kdf

/- A step towards NoiseAgreesSaid: no conditions. -/
namespace Go.Nos
open Go Go.Eng Go.Cod Go.Cha Go.Pol Go.Aed Go.Bla Go.Kdf
def mixH (h : List UInt8) (ls : List (List UInt8)) : List UInt8 := sumL 32 [] (h ++ ls.flatten)
def exI (c x : List UInt8) (n : Int) (i : Nat) : List UInt8 := ((expandL c x n).drop (32 * i)).take 32
abbrev noW (h c : List UInt8) : W := .agg [.vec (.n 32) (.u8 h), .vec (.n 32) (.u8 c)]
abbrev keW (k : List UInt8) : W := .agg [.vec (.n 32) (.u8 k)]
abbrev roS (x : List UInt8) : S := .xs 1 (.s x.length) (.u8 x)
def gMixHash : SpecF := fun args => match args with
  | [.w (.agg [.vec (.n 32) (.u8 h), .vec (.n 32) (.u8 c)]), .w (.s (.xs 1 (.s m) (.sl ls)))] => some ([m = ls.length, ls.length ≤ 1000000, ls.flatten.length ≤ 4294900000], .w (noW (mixH h ls) c))
  | _ => none
def gMixChain : SpecF := fun args => match args with
  | [.w (.agg [.vec (.n 32) (.u8 h), .vec (.n 32) (.u8 c)]), .w (.s (.xs 1 (.s m) (.u8 x)))] => some ([m = x.length, x.length ≤ 4294900000], .w (noW h (exI c x 1 0)))
  | _ => none
def gMixKey : SpecF := fun args => match args with
  | [.w (.agg [.vec (.n 32) (.u8 h), .vec (.n 32) (.u8 c)]), .w (.s (.xs 1 (.s m) (.u8 x)))] => some ([m = x.length, x.length ≤ 4294900000], .tup [noW h (exI c x 2 0), keW (exI c x 2 1)])
  | _ => none
def gMixShared : SpecF := fun args => match args with
  | [.w (.agg [.vec (.n 32) (.u8 h), .vec (.n 32) (.u8 c)]), .w (.agg [.vec (.n 32) (.u8 x)])] => some ([], .tup [noW (mixH h [exI c x 3 1]) (exI c x 3 0), keW (exI c x 3 2)])
  | _ => none
def gSplit : SpecF := fun args => match args with
  | [.w (.agg [.vec (.n 32) (.u8 _), .vec (.n 32) (.u8 c)])] => some ([], .tup [keW (exI c [] 2 0), keW (exI c [] 2 1)])
  | _ => none
def constr : List UInt8 := [78, 111, 105, 115, 101, 95, 73, 75, 112, 115, 107, 50, 95, 50, 53, 53, 49, 57, 95, 67, 104, 97, 67, 104, 97, 80, 111, 108, 121, 95, 66, 76, 65, 75, 69, 50, 115]
def ident : List UInt8 := [87, 105, 114, 101, 71, 117, 97, 114, 100, 32, 118, 49, 32, 122, 120, 50, 99, 52, 32, 74, 97, 115, 111, 110, 64, 122, 120, 50, 99, 52, 46, 99, 111, 109]
def startC : List UInt8 := sumL 32 [] constr
def startH (p : List UInt8) : List UInt8 := mixH (sumL 32 [] (startC ++ ident)) [p]
def gStart : SpecF := fun args => match args with
  | [.w (.agg [.vec (.n 32) (.u8 p)])] => some ([], .w (noW (startH p) startC))
  | _ => none
def nil12 : List UInt8 := countL 0
def nSealL (h k p : List UInt8) : List UInt8 := sealL k nil12 p h
def gNSeal : SpecF := fun args => match args with
  | [.w (.agg [.vec (.n 32) (.u8 h), .vec (.n 32) (.u8 c)]), .w (.agg [.vec (.n 32) (.u8 k)]), .w (.s (.xs 1 (.s m) (.u8 p)))] => some ([m = p.length, p.length ≤ 1073741824], .tup [noW (mixH h [nSealL h k p]) c, .s (roS (nSealL h k p))])
  | _ => none
def nOpenE (h k s : List UInt8) : Int := openE k nil12 s h
def nOpenL (h k s : List UInt8) : List UInt8 := openL k nil12 s h
def opH (h k s : List UInt8) : List UInt8 := if nOpenE h k s = 0 then mixH h [s] else List.replicate 32 0
def opC (h c k s : List UInt8) : List UInt8 := if nOpenE h k s = 0 then c else List.replicate 32 0
def gNOpen : SpecF := fun args => match args with
  | [.w (.agg [.vec (.n 32) (.u8 h), .vec (.n 32) (.u8 c)]), .w (.agg [.vec (.n 32) (.u8 k)]), .w (.s (.xs 1 (.s m) (.u8 s)))] => some ([m = s.length, s.length ≤ 1073741824], .tup [noW (opH h k s) (opC h c k s), .s (roS (nOpenL h k s)), .s (.i64 (nOpenE h k s))])
  | _ => none
/-- .. where the number of keys is written out -/
def gExpandN : SpecF := fun args => match args with
  | [.w (.s (.xs 1 (.s m) (.u8 key))), .w (.s (.xs 1 (.s k) (.u8 input))), .w (.s (.i64 n))] => match n with
    | .ofNat q => bif Nat.ble 1 q && Nat.ble q 3 then some ([m = key.length, key.length ≤ 4294960000, k = input.length, input.length ≤ 4294960000], .w (.s (.xs 32 (.n q) (.u8 (expandL key input (.ofNat q)))))) else none
    | _ => none
  | _ => none
theorem expandN_of {P : Program} {f : FuncId} (h : Con P f gExpand) : Con P f gExpandN := con_conv h fun args ps res hg hp => by
  unfold gExpandN at hg
  split at hg
  · rename_i m key k input n
    split at hg
    · rename_i q
      cases hq : (Nat.ble 1 q && Nat.ble q 3)
      · rw [hq] at hg; cases hg
      · rw [hq] at hg
        cases hg
        refine ⟨_, _, rfl, hp, out_len ?_ rfl⟩
        rw [Bool.and_eq_true] at hq
        have h1 := Nat.le_of_ble_eq_true hq.1
        have h2 := Nat.le_of_ble_eq_true hq.2
        show expandN (q : Int) = q
        unfold expandN
        rw [if_pos (by omega)]
        rfl
    · cases hg
  · cases hg
end Go.Nos

/- A step towards NoiseAgreesSaid: no conditions. -/
namespace Go.Nos
open Go Go.Eng Go.Cod Go.Cha Go.Pol Go.Aed Go.Bla Go.Kdf
/-! two sides that agree -/
def stepA (s : List UInt8 × List UInt8) (i : Nat) (x : List UInt8) : List UInt8 × List UInt8 :=
  if i % 3 = 0 then (mixH s.1 [x], s.2) else if i % 3 = 1 then (s.1, exI s.2 x 1 0) else (mixH s.1 [nSealL s.1 (exI s.2 x 2 1) x], exI s.2 x 2 0)
def noA (s : List UInt8 × List UInt8) (ls : List (List UInt8)) : Nat → List UInt8 × List UInt8
  | 0 => s
  | i + 1 => stepA (noA s ls i) i ((ls.getD i []).take 40)
noncomputable def JAgr (σ : St) : Option Inv :=
  match names σ.fr 5, names σ.fr 6, getF σ.fr 29 with
  | some ka, some kb, .w (.s (.xs _ _ (.sl ls))) => match getO σ.own ka with
    | some [.vec _ (.u8 h), .vec _ (.u8 c)] => some {
        α := Nat
        ok := fun i => i ≤ ls.length
        mu := fun i => ls.length - i
        keep := [5, 6, 29, 30]
        slots := fun i => [(31, .s (.i64 i))]
        own := fun i => [(ka, some [.vec (.n 32) (.u8 (noA (h, c) ls i).1), .vec (.n 32) (.u8 (noA (h, c) ls i).2)]), (kb, some [.vec (.n 32) (.u8 (noA (h, c) ls i).1), .vec (.n 32) (.u8 (noA (h, c) ls i).2)])]
        ext := fun _ => [] }
    | _ => none
  | _, _, _ => none
end Go.Nos

/- A step towards NoiseAgreesSaid: no conditions. -/
namespace Go.Pol
open Go Go.Eng Go.Cod
def gTrue0 : SpecF := fun args => match args with
  | [] => some ([], .s (.b true))
  | _ => none
/-- what is carried into byte i -/
def car (a s : List UInt8) (i : Nat) : Nat := (natL a % 256 ^ i + natL s % 256 ^ i) / 256 ^ i
noncomputable def JAdds (σ : St) : Option Inv :=
  match names σ.fr 2, names σ.fr 8 with
  | some p, some q => match getO σ.own p, getO σ.own q with
    | some [.vec _ (.u8 k)], some [.vec _ (.u8 a)] => some {
        α := Nat
        ok := fun i => i ≤ 16
        mu := fun i => 16 - i
        keep := [2, 4, 8, 9]
        slots := fun i => [(28, .s (.i64 i)), (10, .s (.i64 (car a (k.drop 16) i : Nat)))]
        own := fun _ => []
        ext := fun _ => [] }
    | _, _ => none
  | _, _ => none
end Go.Pol
