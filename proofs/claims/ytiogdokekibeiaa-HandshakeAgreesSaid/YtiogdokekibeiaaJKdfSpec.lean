/- Steps towards HandshakeAgreesSaid. -/
import Derived.Test.YtiogdokekibeiaaJBlaSpec
import Derived.Test.YtiogdokekibeiaaJCodNum
/- A step towards HandshakeAgreesSaid: no conditions. -/

namespace Go.Kdf
open Go Go.Eng Go.Cha Go.Cod Go.Bla
/-- a key, filled up to a block -/
def padZ (k : List UInt8) : List UInt8 := k ++ List.replicate (64 - k.length) 0
def padX (c : UInt8) (k : List UInt8) : List UInt8 := (padZ k).map (· ^^^ c)
def keyK (key : List UInt8) : List UInt8 := if 64 < key.length then sumL 32 [] key else key
def hmacL (key d : List UInt8) : List UInt8 := sumL 32 [] (padX 0x5c (keyK key) ++ sumL 32 [] (padX 0x36 (keyK key) ++ d))
/-- the first i bytes are changed -/
def xorToK (c : UInt8) (p : List UInt8) (i : Nat) : List UInt8 := (p.take i).map (· ^^^ c) ++ p.drop i
/-- key number i of those that are derived from t, and all up to it -/
def keyN (t : List UInt8) : Nat → List UInt8
  | 0 => []
  | i + 1 => hmacL t (keyN t i ++ [to8 ((i + 1 : Nat) : Int)])
def keysF (t : List UInt8) : Nat → List UInt8
  | 0 => []
  | i + 1 => keysF t i ++ keyN t (i + 1)
def expandN (n : Int) : Nat := if 1 ≤ n ∧ n ≤ 255 then n.toNat else 0
def expandL (key input : List UInt8) (n : Int) : List UInt8 := keysF (hmacL key input) (expandN n)
def gHmac : SpecF := fun args => match args with
  | [.w (.s (.xs 1 (.s m) (.u8 key))), .w (.s (.xs 1 (.s n) (.sl ls)))] => some ([m = key.length, key.length ≤ 4294960000, n = ls.length, ls.length < 4611686018427387904, ls.flatten.length ≤ 4294960000], .w (.agg [.vec (.n 32) (.u8 (hmacL key ls.flatten))]))
  | _ => none
def gExpand : SpecF := fun args => match args with
  | [.w (.s (.xs 1 (.s m) (.u8 key))), .w (.s (.xs 1 (.s k) (.u8 input))), .w (.s (.i64 n))] => some ([m = key.length, key.length ≤ 4294960000, k = input.length, input.length ≤ 4294960000], .w (.s (.xs 32 (.s (expandN n)) (.u8 (expandL key input n)))))
  | _ => none
noncomputable def rowAt (σ : St) (t : Nat) : Option (List UInt8) :=
  match getF σ.fr t with
  | .w (.s (.xs _ _ (.u8 l))) => some l
  | .w (.s (.sl k _ _ _ _)) => match getO σ.own k with
    | some [.vec _ (.u8 l)] => some l
    | _ => none
  | .w (.s (.ptr k _)) => match getO σ.own k with
    | some [.vec _ (.u8 l)] => some l
    | _ => none
  | _ => none
noncomputable def JHmac (σ : St) : Option Inv :=
  match names σ.fr 6, names σ.fr 7, rowAt σ 6, rowAt σ 7 with
  | some a, some b, some p, some q => some {
      α := Nat
      ok := fun i => i ≤ 64
      mu := fun i => 64 - i
      keep := [0, 1, 4, 5, 6, 7]
      slots := fun i => [(25, .s (.i64 i))]
      own := fun i => [(a, some [.vec (.n 64) (.u8 (xorToK 0x36 p i))]), (b, some [.vec (.n 64) (.u8 (xorToK 0x5c q i))])]
      ext := fun _ => [] }
  | _, _, _, _ => none
noncomputable def JHmacR (σ : St) : Option Inv :=
  match rowAt σ 0 with
  | some k => some {
      α := Nat
      ok := fun i => i ≤ 64
      mu := fun i => 64 - i
      keep := [0, 1, 4, 5]
      slots := fun i => [(8, .s (.i64 i)), (6, .s (.sl σ.own.length 0 (.n 0) (.s i) 1)), (7, .s (.sl (σ.own.length + 1) 0 (.n 0) (.s i) 1))]
      own := fun _ => []
      ext := fun i => [(6, [.vec (.s i) (.u8 ((padX 0x36 k).take i))]), (7, [.vec (.s i) (.u8 ((padX 0x5c k).take i))])] }
  | _ => none
noncomputable def JExpand (slot : Nat) (o : Nat) (keep : List Nat) (σ : St) : Option Inv :=
  match rowAt σ 7, getF σ.fr 2 with
  | some t, .w (.s (.i64 n)) => some {
      α := Nat
      ok := fun i => (i : Int) ≤ n
      mu := fun i => n.toNat - i
      keep := keep
      slots := fun i => [(slot, .s (.i64 ((i + o : Nat) : Int))), (8, .s (.sl σ.own.length 0 (.n 0) (.s i) 32)), (9, .s (.sl (σ.own.length + 1) 0 (.n 0) (.s (keyN t i).length) 1))]
      own := fun _ => []
      ext := fun i => [(8, [.vec (.s (i * 32)) (.u8 (keysF t i))]), (9, [.vec (.s (keyN t i).length) (.u8 (keyN t i))])] }
  | _, _ => none
end Go.Kdf

/- A step towards HandshakeAgreesSaid: no conditions. -/

namespace Go.Nos
open Go Go.Eng Go.Cod Go.Cha Go.Pol Go.Aed Go.Bla Go.Kdf
def mixH (h : List UInt8) (ls : List (List UInt8)) : List UInt8 := sumL 32 [] (h ++ ls.flatten)
def exI (c x : List UInt8) (n : Int) (i : Nat) : List UInt8 := ((expandL c x n).drop (32 * i)).take 32
abbrev noW (h c : List UInt8) : W := .agg [.vec (.n 32) (.u8 h), .vec (.n 32) (.u8 c)]
abbrev keW (k : List UInt8) : W := .agg [.vec (.n 32) (.u8 k)]
abbrev roS (x : List UInt8) : S := .xs 1 (.s x.length) (.u8 x)
def gMixHash : SpecF := fun args => match args with
  | [.w (.agg [.vec (.n 32) (.u8 h), .vec (.n 32) (.u8 c)]), .w (.s (.xs 1 (.s m) (.sl ls)))] => some ([m = ls.length, ls.length ≤ 1000000, ls.flatten.length ≤ 4294900000], .w (noW (mixH h ls) c))
  | _ => none
def gMixChain : SpecF := fun args => match args with
  | [.w (.agg [.vec (.n 32) (.u8 h), .vec (.n 32) (.u8 c)]), .w (.s (.xs 1 (.s m) (.u8 x)))] => some ([m = x.length, x.length ≤ 4294900000], .w (noW h (exI c x 1 0)))
  | _ => none
def gMixKey : SpecF := fun args => match args with
  | [.w (.agg [.vec (.n 32) (.u8 h), .vec (.n 32) (.u8 c)]), .w (.s (.xs 1 (.s m) (.u8 x)))] => some ([m = x.length, x.length ≤ 4294900000], .tup [noW h (exI c x 2 0), keW (exI c x 2 1)])
  | _ => none
def gMixShared : SpecF := fun args => match args with
  | [.w (.agg [.vec (.n 32) (.u8 h), .vec (.n 32) (.u8 c)]), .w (.agg [.vec (.n 32) (.u8 x)])] => some ([], .tup [noW (mixH h [exI c x 3 1]) (exI c x 3 0), keW (exI c x 3 2)])
  | _ => none
def gSplit : SpecF := fun args => match args with
  | [.w (.agg [.vec (.n 32) (.u8 _), .vec (.n 32) (.u8 c)])] => some ([], .tup [keW (exI c [] 2 0), keW (exI c [] 2 1)])
  | _ => none
def constr : List UInt8 := [78, 111, 105, 115, 101, 95, 73, 75, 112, 115, 107, 50, 95, 50, 53, 53, 49, 57, 95, 67, 104, 97, 67, 104, 97, 80, 111, 108, 121, 95, 66, 76, 65, 75, 69, 50, 115]
def ident : List UInt8 := [87, 105, 114, 101, 71, 117, 97, 114, 100, 32, 118, 49, 32, 122, 120, 50, 99, 52, 32, 74, 97, 115, 111, 110, 64, 122, 120, 50, 99, 52, 46, 99, 111, 109]
def startC : List UInt8 := sumL 32 [] constr
def startH (p : List UInt8) : List UInt8 := mixH (sumL 32 [] (startC ++ ident)) [p]
def gStart : SpecF := fun args => match args with
  | [.w (.agg [.vec (.n 32) (.u8 p)])] => some ([], .w (noW (startH p) startC))
  | _ => none
def nil12 : List UInt8 := countL 0
def nSealL (h k p : List UInt8) : List UInt8 := sealL k nil12 p h
def gNSeal : SpecF := fun args => match args with
  | [.w (.agg [.vec (.n 32) (.u8 h), .vec (.n 32) (.u8 c)]), .w (.agg [.vec (.n 32) (.u8 k)]), .w (.s (.xs 1 (.s m) (.u8 p)))] => some ([m = p.length, p.length ≤ 1073741824], .tup [noW (mixH h [nSealL h k p]) c, .s (roS (nSealL h k p))])
  | _ => none
def nOpenE (h k s : List UInt8) : Int := openE k nil12 s h
def nOpenL (h k s : List UInt8) : List UInt8 := openL k nil12 s h
def opH (h k s : List UInt8) : List UInt8 := if nOpenE h k s = 0 then mixH h [s] else List.replicate 32 0
def opC (h c k s : List UInt8) : List UInt8 := if nOpenE h k s = 0 then c else List.replicate 32 0
def gNOpen : SpecF := fun args => match args with
  | [.w (.agg [.vec (.n 32) (.u8 h), .vec (.n 32) (.u8 c)]), .w (.agg [.vec (.n 32) (.u8 k)]), .w (.s (.xs 1 (.s m) (.u8 s)))] => some ([m = s.length, s.length ≤ 1073741824], .tup [noW (opH h k s) (opC h c k s), .s (roS (nOpenL h k s)), .s (.i64 (nOpenE h k s))])
  | _ => none
/-- .. where the number of keys is written out -/
def gExpandN : SpecF := fun args => match args with
  | [.w (.s (.xs 1 (.s m) (.u8 key))), .w (.s (.xs 1 (.s k) (.u8 input))), .w (.s (.i64 n))] => match n with
    | .ofNat q => bif Nat.ble 1 q && Nat.ble q 3 then some ([m = key.length, key.length ≤ 4294960000, k = input.length, input.length ≤ 4294960000], .w (.s (.xs 32 (.n q) (.u8 (expandL key input (.ofNat q)))))) else none
    | _ => none
  | _ => none
theorem expandN_of {P : Program} {f : FuncId} (h : Con P f gExpand) : Con P f gExpandN := con_conv h fun args ps res hg hp => by
  unfold gExpandN at hg
  split at hg
  · rename_i m key k input n
    split at hg
    · rename_i q
      cases hq : (Nat.ble 1 q && Nat.ble q 3)
      · rw [hq] at hg; cases hg
      · rw [hq] at hg
        cases hg
        refine ⟨_, _, rfl, hp, out_len ?_ rfl⟩
        rw [Bool.and_eq_true] at hq
        have h1 := Nat.le_of_ble_eq_true hq.1
        have h2 := Nat.le_of_ble_eq_true hq.2
        show expandN (q : Int) = q
        unfold expandN
        rw [if_pos (by omega)]
        rfl
    · cases hg
  · cases hg
end Go.Nos

/- A step towards HandshakeAgreesSaid: no conditions. -/

namespace Go.Cur
open Go Go.Eng Go.Cod Go.Pol
/-! the program's numbers: five limbs -/
abbrev M51 : UInt64 := 2251799813685247
abbrev g (l : List UInt64) (i : Nat) : UInt64 := l.getD i 0
def carL (a : List UInt64) : List UInt64 := [(g a 0 &&& UInt64.ofNat 2251799813685247) + UInt64.ofNat 19 * shr64 (g a 4) 51, (g a 1 &&& UInt64.ofNat 2251799813685247) + shr64 (g a 0) 51, (g a 2 &&& UInt64.ofNat 2251799813685247) + shr64 (g a 1) 51, (g a 3 &&& UInt64.ofNat 2251799813685247) + shr64 (g a 2) 51, (g a 4 &&& UInt64.ofNat 2251799813685247) + shr64 (g a 3) 51]
def addL (a b : List UInt64) : List UInt64 := [g a 0 + g b 0, g a 1 + g b 1, g a 2 + g b 2, g a 3 + g b 3, g a 4 + g b 4]
def subL (a b : List UInt64) : List UInt64 := [g a 0 + (UInt64.ofNat 4503599627370458 - g b 0), g a 1 + (UInt64.ofNat 4503599627370494 - g b 1), g a 2 + (UInt64.ofNat 4503599627370494 - g b 2), g a 3 + (UInt64.ofNat 4503599627370494 - g b 3), g a 4 + (UInt64.ofNat 4503599627370494 - g b 4)]
abbrev pr (x y : UInt64) : Nat := x.toNat * y.toNat
abbrev pn (x y : UInt64) : Nat := (UInt64.ofNat 19 * x).toNat * y.toNat
def s0 (a b : List UInt64) : Nat := pr (g a 0) (g b 0) + (pn (g a 1) (g b 4) + (pn (g a 2) (g b 3) + (pn (g a 3) (g b 2) + (pn (g a 4) (g b 1)))))
def s1 (a b : List UInt64) : Nat := pr (g a 0) (g b 1) + (pr (g a 1) (g b 0) + (pn (g a 2) (g b 4) + (pn (g a 3) (g b 3) + (pn (g a 4) (g b 2)))))
def s2 (a b : List UInt64) : Nat := pr (g a 0) (g b 2) + (pr (g a 1) (g b 1) + (pr (g a 2) (g b 0) + (pn (g a 3) (g b 4) + (pn (g a 4) (g b 3)))))
def s3 (a b : List UInt64) : Nat := pr (g a 0) (g b 3) + (pr (g a 1) (g b 2) + (pr (g a 2) (g b 1) + (pr (g a 3) (g b 0) + (pn (g a 4) (g b 4)))))
def s4 (a b : List UInt64) : Nat := pr (g a 0) (g b 4) + (pr (g a 1) (g b 3) + (pr (g a 2) (g b 2) + (pr (g a 3) (g b 1) + (pr (g a 4) (g b 0)))))
def lo51 (n : Nat) : UInt64 := u n &&& UInt64.ofNat 2251799813685247
def hi51 (n : Nat) : UInt64 := shl64 (u (n / D64)) 13 ||| shr64 (u n) 51
def mulL (a b : List UInt64) : List UInt64 := carL [lo51 (s0 a b) + UInt64.ofNat 19 * hi51 (s4 a b), lo51 (s1 a b) + hi51 (s0 a b), lo51 (s2 a b) + hi51 (s1 a b), lo51 (s3 a b) + hi51 (s2 a b), lo51 (s4 a b) + hi51 (s3 a b)]
def wd (k : List UInt8) (i : Nat) : UInt64 := readL ((k.drop (8 * i)).take 8)
def loadL (k : List UInt8) : List UInt64 := [wd k 0 &&& UInt64.ofNat 2251799813685247, (shr64 (wd k 0) 51 ||| shl64 (wd k 1) 13) &&& UInt64.ofNat 2251799813685247, (shr64 (wd k 1) 38 ||| shl64 (wd k 2) 26) &&& UInt64.ofNat 2251799813685247, (shr64 (wd k 2) 25 ||| shl64 (wd k 3) 39) &&& UInt64.ofNat 2251799813685247, shr64 (wd k 3) 12 &&& UInt64.ofNat 2251799813685247]
def oneL : List UInt64 := [1, 0, 0, 0, 0]
def zeroL : List UInt64 := [0, 0, 0, 0, 0]
/-- the power after n rounds -/
def invN (a : List UInt64) : Nat → List UInt64
  | 0 => oneL
  | n + 1 => if (254 - n = 2 ∨ 254 - n = 4) then mulL (invN a n) (invN a n) else mulL (mulL (invN a n) (invN a n)) a
def gCar : SpecF := fun args => match args with
  | [.w (.agg [.vec (.n 5) (.u64 a)])] => some ([], .w (.agg [.vec (.n 5) (.u64 (carL a))]))
  | _ => none
def gAdd : SpecF := fun args => match args with
  | [.w (.agg [.vec (.n 5) (.u64 a)]), .w (.agg [.vec (.n 5) (.u64 b)])] => some ([], .w (.agg [.vec (.n 5) (.u64 (addL a b))]))
  | _ => none
def gSub : SpecF := fun args => match args with
  | [.w (.agg [.vec (.n 5) (.u64 a)]), .w (.agg [.vec (.n 5) (.u64 b)])] => some ([], .w (.agg [.vec (.n 5) (.u64 (subL a b))]))
  | _ => none
def gWPlus : SpecF := fun args => match args with
  | [.w (.agg [.one (.u64 h), .one (.u64 l)]), .w (.s (.u64 x)), .w (.s (.u64 y))] => some ([], .w (.agg [.one (.u64 (u ((l.toNat + D64 * h.toNat + x.toNat * y.toNat) / D64))), .one (.u64 (u (l.toNat + D64 * h.toNat + x.toNat * y.toNat)))]))
  | _ => none
def gFMul : SpecF := fun args => match args with
  | [.w (.agg [.vec (.n 5) (.u64 a)]), .w (.agg [.vec (.n 5) (.u64 b)])] => some ([], .w (.agg [.vec (.n 5) (.u64 (mulL a b))]))
  | _ => none
def gLoad : SpecF := fun args => match args with
  | [.w (.agg [.vec (.n 32) (.u8 k)])] => some ([], .w (.agg [.vec (.n 5) (.u64 (loadL k))]))
  | _ => none
def gInv : SpecF := fun args => match args with
  | [.w (.agg [.vec (.n 5) (.u64 a)])] => some ([], .w (.agg [.vec (.n 5) (.u64 (invN a 255))]))
  | _ => none
/-- slot names: what lies in the block that a slot leads to -/
noncomputable def vecAt (σ : St) (t : Nat) : Option (List UInt64) :=
  match names σ.fr t with
  | some k => match getO σ.own k with
    | some [.vec _ (.u64 l)] => some l
    | _ => none
  | none => none
noncomputable def JInv (σ : St) : Option Inv :=
  match names σ.fr 3, vecAt σ 1 with
  | some kb, some a => some {
      α := Nat
      ok := fun n => n ≤ 255
      mu := fun n => 255 - n
      keep := [1, 2, 3]
      slots := fun n => [(4, .s (.i64 (254 - (n : Int))))]
      own := fun n => [(kb, some [.vec (.n 5) (.u64 (invN a n))])]
      ext := fun _ => [] }
  | _, _ => none
def clampL (k : List UInt8) : List UInt8 := (k.set 0 (k.getD 0 0 &&& UInt8.ofNat 248)).set 31 ((k.getD 31 0 &&& UInt8.ofNat 127) ||| UInt8.ofNat 64)
def gClamp : SpecF := fun args => match args with
  | [.w (.agg [.vec (.n 32) (.u8 k)])] => some ([], .w (.agg [.vec (.n 32) (.u8 (clampL k))]))
  | _ => none
end Go.Cur

/- A step towards HandshakeAgreesSaid: no conditions. -/

namespace Go.Cur
open Go Go.Eng Go.Cod Go.Pol
def qL (c : List UInt64) : UInt64 := shr64 (g c 4 + shr64 (g c 3 + shr64 (g c 2 + shr64 (g c 1 + shr64 (g c 0 + UInt64.ofNat 19) 51) 51) 51) 51) 51
def b0 (c : List UInt64) : UInt64 := g c 0 + UInt64.ofNat 19 * qL c
def b1 (c : List UInt64) : UInt64 := g c 1 + shr64 (b0 c) 51
def b2 (c : List UInt64) : UInt64 := g c 2 + shr64 (b1 c) 51
def b3 (c : List UInt64) : UInt64 := g c 3 + shr64 (b2 c) 51
def b4 (c : List UInt64) : UInt64 := g c 4 + shr64 (b3 c) 51
def mk (x : UInt64) : UInt64 := x &&& UInt64.ofNat 2251799813685247
def wordsL (c : List UInt64) : List UInt64 := [mk (b0 c) ||| shl64 (mk (b1 c)) 51, shr64 (mk (b1 c)) 13 ||| shl64 (mk (b2 c)) 38, shr64 (mk (b2 c)) 26 ||| shl64 (mk (b3 c)) 25, shr64 (mk (b3 c)) 39 ||| shl64 (mk (b4 c)) 12]
def bytesW (w : List UInt64) : List UInt8 := littleL (g w 0) 8 ++ (littleL (g w 1) 8 ++ (littleL (g w 2) 8 ++ littleL (g w 3) 8))
def bytesL (a : List UInt64) : List UInt8 := bytesW (wordsL (carL a))
def gBytes : SpecF := fun args => match args with
  | [.w (.agg [.vec (.n 5) (.u64 a)])] => some ([], .w (.agg [.vec (.n 32) (.u8 (bytesL a))]))
  | _ => none
structure Lad where
  x2 : List UInt64
  z2 : List UInt64
  x3 : List UInt64
  z3 : List UInt64
  last : UInt8
def bitL (n : List UInt8) (t : Nat) : UInt8 := shr8 (n.getD (t / 8) 0) (t % 8) &&& UInt8.ofNat 1
def swL (k : UInt8) (l : Lad) : Lad := if k = l.last then l else ⟨l.x3, l.z3, l.x2, l.z2, l.last⟩
def stL (x1 : List UInt64) (k : UInt8) (l : Lad) : Lad :=
  ⟨mulL (mulL (addL l.x2 l.z2) (addL l.x2 l.z2)) (mulL (subL l.x2 l.z2) (subL l.x2 l.z2)),
   mulL (addL (mulL (subL (mulL (addL l.x2 l.z2) (addL l.x2 l.z2)) (mulL (subL l.x2 l.z2) (subL l.x2 l.z2))) [UInt64.ofNat 121665, 0, 0, 0, 0]) (mulL (addL l.x2 l.z2) (addL l.x2 l.z2))) (subL (mulL (addL l.x2 l.z2) (addL l.x2 l.z2)) (mulL (subL l.x2 l.z2) (subL l.x2 l.z2))),
   mulL (addL (mulL (subL l.x3 l.z3) (addL l.x2 l.z2)) (mulL (addL l.x3 l.z3) (subL l.x2 l.z2))) (addL (mulL (subL l.x3 l.z3) (addL l.x2 l.z2)) (mulL (addL l.x3 l.z3) (subL l.x2 l.z2))),
   mulL (mulL (subL (mulL (subL l.x3 l.z3) (addL l.x2 l.z2)) (mulL (addL l.x3 l.z3) (subL l.x2 l.z2))) (subL (mulL (subL l.x3 l.z3) (addL l.x2 l.z2)) (mulL (addL l.x3 l.z3) (subL l.x2 l.z2)))) x1,
   k⟩
def ladL (n : List UInt8) (x1 : List UInt64) : Nat → Lad
  | 0 => ⟨oneL, zeroL, x1, oneL, 0⟩
  | i + 1 => stL x1 (bitL n (254 - i)) (swL (bitL n (254 - i)) (ladL n x1 i))
def endL (l : Lad) : List UInt8 := if l.last = UInt8.ofNat 1 then bytesL (mulL l.x3 (invN l.z3 255)) else bytesL (mulL l.x2 (invN l.z2 255))
def keyL (s p : List UInt8) : List UInt8 := endL (ladL (clampL s) (loadL p) 255)
def gMulP : SpecF := fun args => match args with
  | [.w (.agg [.vec (.n 32) (.u8 s)]), .w (.agg [.vec (.n 32) (.u8 p)])] => some ([], .w (.agg [.vec (.n 32) (.u8 (keyL s p))]))
  | _ => none
noncomputable def byteAt (σ : St) (t : Nat) : Option (List UInt8) :=
  match names σ.fr t with
  | some k => match getO σ.own k with
    | some [.vec _ (.u8 l)] => some l
    | _ => none
  | none => none
noncomputable def JMul (σ : St) : Option Inv :=
  match names σ.fr 7, names σ.fr 8, names σ.fr 9, names σ.fr 10 with
  | some k2, some m2, some k3, some m3 => match byteAt σ 5, vecAt σ 6 with
    | some n, some x1 => some {
        α := Nat
        ok := fun i => i ≤ 255
        mu := fun i => 255 - i
        keep := [2, 3, 4, 5, 6, 7, 8, 9, 10]
        slots := fun i => [(12, .s (.i64 (254 - (i : Int)))), (11, .s (.u8 (ladL n x1 i).last))]
        own := fun i => [(k2, some [.vec (.n 5) (.u64 (ladL n x1 i).x2)]), (m2, some [.vec (.n 5) (.u64 (ladL n x1 i).z2)]), (k3, some [.vec (.n 5) (.u64 (ladL n x1 i).x3)]), (m3, some [.vec (.n 5) (.u64 (ladL n x1 i).z3)])]
        ext := fun _ => [] }
    | _, _ => none
  | _, _, _, _ => none
end Go.Cur
