/- A step towards CurveAgreesSaid: no conditions. -/
import Derived.Test.YthdhmciccohbeaaCufSpec
namespace Go.Cur
open Go Go.Eng Go.Cod Go.Pol
abbrev addR (a b : List Int) : List Int := addI a b 16
abbrev subR (a b : List Int) : List Int := subI a b 16
def readI (k : List UInt8) : Nat → List Int
  | 0 => List.replicate 16 0
  | i + 1 => (readI k i).set i (ior (((k.getD (2 * i) 0).toNat : Nat) : Int) (((k.getD (2 * i + 1) 0).toNat : Nat) * 2 ^ 8))
def readR (k : List UInt8) : List Int := (readI k 16).set 15 (iand (d (readI k 16) 15) 32767)
def onceS (g : List Int) (i : Nat) : List Int :=
  (g.set (i + 1) (d g (i + 1) - (65535 + iand (d g i / 2 ^ 16) 1))).set i (iand (d (g.set (i + 1) (d g (i + 1) - (65535 + iand (d g i / 2 ^ 16) 1))) i) 65535)
def onceI (f : List Int) : Nat → List Int
  | 0 => f.set 0 (d f 0 - 65517)
  | i + 1 => onceS (onceI f i) i
def onceT (g : List Int) : List Int := g.set 15 (d g 15 - (32767 + iand (d g 14 / 2 ^ 16) 1))
def onceR (f : List Int) : List Int := if iand (d (onceT (onceI f 14)) 15 / 2 ^ 16) 1 = 1 then f else (onceT (onceI f 14)).set 14 (iand (d (onceT (onceI f 14)) 14) 65535)
def writeI (f : List Int) : Nat → List UInt8
  | 0 => List.replicate 32 0
  | i + 1 => ((writeI f i).set (2 * i) (to8 (d f i))).set (2 * i + 1) (to8 (d f i / 2 ^ 8))
def writeR (f : List Int) : List UInt8 := writeI (onceR (onceR (carR (carR (carR f))))) 16
/-- small digits: the first one may lie a little outside -/
structure Nm (f : List Int) : Prop where
  len : f.length = 16
  lo : -38 ≤ d f 0
  hi : d f 0 ≤ 65573
  rest : ∀ j, 1 ≤ j → 0 ≤ d f j ∧ d f j ≤ 65535
/-- true digits -/
structure Dg (f : List Int) : Prop where
  len : f.length = 16
  all : ∀ j, 0 ≤ d f j ∧ d f j ≤ 65535
structure LR where
  x2 : List Int
  z2 : List Int
  x3 : List Int
  z3 : List Int
def swapR (l : LR) : LR := ⟨l.x3, l.z3, l.x2, l.z2⟩
def a24R : List Int := [56129, 1, 0, 0, 0, 0, 0, 0, 0, 0, 0, 0, 0, 0, 0, 0]
def stR (l : LR) (x1 : List Int) : LR :=
  ⟨mulR (mulR (addR l.x2 l.z2) (addR l.x2 l.z2)) (mulR (subR l.x2 l.z2) (subR l.x2 l.z2)),
   mulR (subR (mulR (addR l.x2 l.z2) (addR l.x2 l.z2)) (mulR (subR l.x2 l.z2) (subR l.x2 l.z2))) (addR (mulR (addR l.x2 l.z2) (addR l.x2 l.z2)) (mulR a24R (subR (mulR (addR l.x2 l.z2) (addR l.x2 l.z2)) (mulR (subR l.x2 l.z2) (subR l.x2 l.z2))))),
   mulR (addR (mulR (subR l.x3 l.z3) (addR l.x2 l.z2)) (mulR (addR l.x3 l.z3) (subR l.x2 l.z2))) (addR (mulR (subR l.x3 l.z3) (addR l.x2 l.z2)) (mulR (addR l.x3 l.z3) (subR l.x2 l.z2))),
   mulR x1 (mulR (subR (mulR (subR l.x3 l.z3) (addR l.x2 l.z2)) (mulR (addR l.x3 l.z3) (subR l.x2 l.z2))) (subR (mulR (subR l.x3 l.z3) (addR l.x2 l.z2)) (mulR (addR l.x3 l.z3) (subR l.x2 l.z2))))⟩
structure LM where
  l : LR
  last : UInt8
def oneR : List Int := [1, 0, 0, 0, 0, 0, 0, 0, 0, 0, 0, 0, 0, 0, 0, 0]
def zeroR : List Int := List.replicate 16 0
def stepM (x1 : List Int) (k : UInt8) (m : LM) : LM := ⟨stR (if k = m.last then m.l else swapR m.l) x1, k⟩
def ladR (n : List UInt8) (x1 : List Int) : Nat → LM
  | 0 => ⟨⟨oneR, zeroR, x1, oneR⟩, 0⟩
  | i + 1 => stepM x1 (bitL n (254 - i)) (ladR n x1 i)
def endR (m : LM) : List UInt8 := if m.last = UInt8.ofNat 1 then writeR (mulR m.l.x3 (powR m.l.z3 254)) else writeR (mulR m.l.x2 (powR m.l.z2 254))
def keyR (s p : List UInt8) : List UInt8 := endR (ladR (clampL s) (readR p) 255)
def gReadR : SpecF := fun args => match args with
  | [.w (.agg [.vec (.n 32) (.u8 k)])] => some ([], .w (.agg [.vec (.n 16) (.i64 (readR k))]))
  | _ => none
def gOnceR : SpecF := fun args => match args with
  | [.w (.agg [.vec (.n 16) (.i64 f)])] => some ([Dg f], .w (.agg [.vec (.n 16) (.i64 (onceR f))]))
  | _ => none
def gWriteR : SpecF := fun args => match args with
  | [.w (.agg [.vec (.n 16) (.i64 f)])] => some ([Nm f], .w (.agg [.vec (.n 32) (.u8 (writeR f))]))
  | _ => none
def gSwapR : SpecF := fun args => match args with
  | [.w (.agg [.vec (.n 16) (.i64 a), .vec (.n 16) (.i64 b), .vec (.n 16) (.i64 c), .vec (.n 16) (.i64 e)])] => some ([], .w (.agg [.vec (.n 16) (.i64 c), .vec (.n 16) (.i64 e), .vec (.n 16) (.i64 a), .vec (.n 16) (.i64 b)]))
  | _ => none
def gStepR : SpecF := fun args => match args with
  | [.w (.agg [.vec (.n 16) (.i64 a), .vec (.n 16) (.i64 b), .vec (.n 16) (.i64 c), .vec (.n 16) (.i64 e)]), .w (.agg [.vec (.n 16) (.i64 x)])] =>
    some ([Nm a, Nm b, Nm c, Nm e, Nm x], .w (.agg [.vec (.n 16) (.i64 (stR ⟨a, b, c, e⟩ x).x2), .vec (.n 16) (.i64 (stR ⟨a, b, c, e⟩ x).z2), .vec (.n 16) (.i64 (stR ⟨a, b, c, e⟩ x).x3), .vec (.n 16) (.i64 (stR ⟨a, b, c, e⟩ x).z3)]))
  | _ => none
def gMulK : SpecF := fun args => match args with
  | [.w (.agg [.vec (.n 32) (.u8 s)]), .w (.agg [.vec (.n 32) (.u8 p)])] => some ([], .w (.agg [.vec (.n 32) (.u8 (keyR s p))]))
  | _ => none
noncomputable def JReadR (σ : St) : Option Inv :=
  match byteAt σ 1, names σ.fr 3 with
  | some k, some b => some {
      α := Nat
      ok := fun i => i ≤ 16
      mu := fun i => 16 - i
      keep := [1, 2, 3]
      slots := fun i => [(5, .s (.i64 i))]
      own := fun i => [(b, some [.vec (.n 16) (.i64 (readI k i))])]
      ext := fun _ => [] }
  | _, _ => none
noncomputable def JOnce (σ : St) : Option Inv :=
  match intAt σ 1, names σ.fr 3 with
  | some (_, f), some b => some {
      α := Nat
      ok := fun i => i ≤ 14
      mu := fun i => 14 - i
      keep := [1, 2, 3]
      slots := fun i => [(4, .s (.i64 ((i : Int) + 1)))]
      own := fun i => [(b, some [.vec (.n 16) (.i64 (onceI f i))])]
      ext := fun _ => [] }
  | _, _ => none
noncomputable def JWriteR (σ : St) : Option Inv :=
  match intAt σ 1, names σ.fr 3 with
  | some (_, f), some b => some {
      α := Nat
      ok := fun i => i ≤ 16
      mu := fun i => 16 - i
      keep := [1, 2, 3]
      slots := fun i => [(11, .s (.i64 i))]
      own := fun i => [(b, some [.vec (.n 32) (.u8 (writeI f i))])]
      ext := fun _ => [] }
  | _, _ => none
noncomputable def JMulR (σ : St) : Option Inv :=
  match byteAt σ 5, intAt σ 6, names σ.fr 7 with
  | some n, some (_, x1), some b => some {
      α := Nat
      ok := fun i => i ≤ 255
      mu := fun i => 255 - i
      keep := [2, 3, 4, 5, 6, 7]
      slots := fun i => [(9, .s (.i64 (254 - (i : Int)))), (8, .s (.u8 (ladR n x1 i).last))]
      own := fun i => [(b, some [.vec (.n 16) (.i64 (ladR n x1 i).l.x2), .vec (.n 16) (.i64 (ladR n x1 i).l.z2), .vec (.n 16) (.i64 (ladR n x1 i).l.x3), .vec (.n 16) (.i64 (ladR n x1 i).l.z3)])]
      ext := fun _ => [] }
  | _, _, _ => none
end Go.Cur
