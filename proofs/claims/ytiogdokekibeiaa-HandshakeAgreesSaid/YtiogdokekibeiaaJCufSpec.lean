/- Steps towards HandshakeAgreesSaid. -/
import Derived.Test.YtiogdokekibeiaaJKdfSpec
import Derived.Test.YtiogdokekibeiaaBase
/- A step towards HandshakeAgreesSaid: no conditions. -/

namespace Go.Cur
open Go Go.Eng Go.Cod Go.Pol
/-! the reference's numbers: sixteen digits -/
def d (l : List Int) (i : Nat) : Int := l.getD i 0
theorem d_eq (l : List Int) (i : Nat) : l.getD i 0 = d l i := rfl
/-- all digits at most m away from zero -/
def Bd (m : Int) (l : List Int) : Prop := ∀ i, -m ≤ d l i ∧ d l i ≤ m
def carS (f : List Int) (i : Nat) : List Int :=
  if i < 15 then (f.set i (d f i - d f i / 2 ^ 16 * 2 ^ 16)).set (i + 1) (d (f.set i (d f i - d f i / 2 ^ 16 * 2 ^ 16)) (i + 1) + d f i / 2 ^ 16)
  else (f.set i (d f i - d f i / 2 ^ 16 * 2 ^ 16)).set 0 (d (f.set i (d f i - d f i / 2 ^ 16 * 2 ^ 16)) 0 + 38 * (d f i / 2 ^ 16))
def carI (f : List Int) : Nat → List Int
  | 0 => f
  | i + 1 => carS (carI f i) i
def carR (f : List Int) : List Int := carI f 16
def addI (a b : List Int) : Nat → List Int
  | 0 => a
  | i + 1 => (addI a b i).set i (d (addI a b i) i + d b i)
def subI (a b : List Int) : Nat → List Int
  | 0 => a
  | i + 1 => (subI a b i).set i (d (subI a b i) i - d b i)
def rowI (a b : List Int) (i : Nat) (t : List Int) : Nat → List Int
  | 0 => t
  | j + 1 => (rowI a b i t j).set (i + j) (d (rowI a b i t j) (i + j) + d a i * d b j)
def prodI (a b : List Int) : Nat → List Int
  | 0 => List.replicate 31 0
  | i + 1 => rowI a b i (prodI a b i) 16
def foldI (t : List Int) : Nat → List Int
  | 0 => List.replicate 16 0
  | i + 1 => if i < 15 then ((foldI t i).set i (d t i)).set i (d ((foldI t i).set i (d t i)) i + 38 * d t (i + 16)) else (foldI t i).set i (d t i)
def mulR (a b : List Int) : List Int := carR (carR (foldI (prodI a b 16) 16))
def powR (a : List Int) : Nat → List Int
  | 0 => a
  | n + 1 => if (253 - n = 2 ∨ 253 - n = 4) then mulR (powR a n) (powR a n) else mulR (mulR (powR a n) (powR a n)) a
abbrev B60 : Int := 1152921504606846976
abbrev B18 : Int := 262144
abbrev B17 : Int := 131072
def gCarR : SpecF := fun args => match args with
  | [.w (.agg [.vec (.n 16) (.i64 f)])] => some ([Bd B60 f], .w (.agg [.vec (.n 16) (.i64 (carR f))]))
  | _ => none
def gAddR : SpecF := fun args => match args with
  | [.w (.agg [.vec (.n 16) (.i64 a)]), .w (.agg [.vec (.n 16) (.i64 b)])] => some ([Bd B60 a, Bd B60 b], .w (.agg [.vec (.n 16) (.i64 (addI a b 16))]))
  | _ => none
def gSubR : SpecF := fun args => match args with
  | [.w (.agg [.vec (.n 16) (.i64 a)]), .w (.agg [.vec (.n 16) (.i64 b)])] => some ([Bd B60 a, Bd B60 b], .w (.agg [.vec (.n 16) (.i64 (subI a b 16))]))
  | _ => none
def gMulR : SpecF := fun args => match args with
  | [.w (.agg [.vec (.n 16) (.i64 a)]), .w (.agg [.vec (.n 16) (.i64 b)])] => some ([Bd B18 a, Bd B18 b], .w (.agg [.vec (.n 16) (.i64 (mulR a b))]))
  | _ => none
def gPowR : SpecF := fun args => match args with
  | [.w (.agg [.vec (.n 16) (.i64 a)])] => some ([Bd B18 a], .w (.agg [.vec (.n 16) (.i64 (powR a 254))]))
  | _ => none
noncomputable def intAt (σ : St) (t : Nat) : Option (Nat × List Int) :=
  match names σ.fr t with
  | some k => match getO σ.own k with
    | some [.vec _ (.i64 l)] => some (k, l)
    | _ => none
  | none => none
noncomputable def JCarR (σ : St) : Option Inv :=
  match intAt σ 1 with
  | some (k, f) => some {
      α := Nat
      ok := fun i => i ≤ 16
      mu := fun i => 16 - i
      keep := [1, 2]
      slots := fun i => [(3, .s (.i64 i))]
      own := fun i => [(k, some [.vec (.n 16) (.i64 (carI f i))])]
      ext := fun _ => [] }
  | _ => none
noncomputable def JBin (F : List Int → List Int → Nat → List Int) (s : Nat) (σ : St) : Option Inv :=
  match intAt σ 2, intAt σ 3 with
  | some (k, a), some (_, b) => some {
      α := Nat
      ok := fun i => i ≤ 16
      mu := fun i => 16 - i
      keep := [2, 3, 4]
      slots := fun i => [(s, .s (.i64 i))]
      own := fun i => [(k, some [.vec (.n 16) (.i64 (F a b i))])]
      ext := fun _ => [] }
  | _, _ => none
noncomputable def JProd (σ : St) : Option Inv :=
  match intAt σ 2, intAt σ 3, names σ.fr 5 with
  | some (_, a), some (_, b), some k => some {
      α := Nat
      ok := fun i => i ≤ 16
      mu := fun i => 16 - i
      keep := [2, 3, 4, 5]
      slots := fun i => [(10, .s (.i64 i))]
      own := fun i => [(k, some [.vec (.n 31) (.i64 (prodI a b i))])]
      ext := fun _ => [] }
  | _, _, _ => none
noncomputable def JRow (σ : St) : Option Inv :=
  match intAt σ 2, intAt σ 3, intAt σ 5, getF σ.fr 6 with
  | some (_, a), some (_, b), some (k, t), .w (.s (.i64 i)) => some {
      α := Nat
      ok := fun j => j ≤ 16
      mu := fun j => 16 - j
      keep := [2, 3, 4, 5, 6, 10]
      slots := fun j => [(13, .s (.i64 j))]
      own := fun j => [(k, some [.vec (.n 31) (.i64 (rowI a b i.toNat t j))])]
      ext := fun _ => [] }
  | _, _, _, _ => none
noncomputable def JFold (σ : St) : Option Inv :=
  match intAt σ 5, names σ.fr 8 with
  | some (_, t), some k => some {
      α := Nat
      ok := fun i => i ≤ 16
      mu := fun i => 16 - i
      keep := [4, 5, 8]
      slots := fun i => [(32, .s (.i64 i))]
      own := fun i => [(k, some [.vec (.n 16) (.i64 (foldI t i))])]
      ext := fun _ => [] }
  | _, _ => none
noncomputable def JPowR (σ : St) : Option Inv :=
  match intAt σ 1, names σ.fr 3 with
  | some (_, a), some k => some {
      α := Nat
      ok := fun n => n ≤ 254
      mu := fun n => 254 - n
      keep := [1, 2, 3]
      slots := fun n => [(4, .s (.i64 (253 - (n : Int))))]
      own := fun n => [(k, some [.vec (.n 16) (.i64 (powR a n))])]
      ext := fun _ => [] }
  | _, _ => none
end Go.Cur

/- A step towards HandshakeAgreesSaid: no conditions. -/

namespace Go.Cur
open Go Go.Eng Go.Cod Go.Pol
abbrev addR (a b : List Int) : List Int := addI a b 16
abbrev subR (a b : List Int) : List Int := subI a b 16
def readI (k : List UInt8) : Nat → List Int
  | 0 => List.replicate 16 0
  | i + 1 => (readI k i).set i (ior (((k.getD (2 * i) 0).toNat : Nat) : Int) (((k.getD (2 * i + 1) 0).toNat : Nat) * 2 ^ 8))
def readR (k : List UInt8) : List Int := (readI k 16).set 15 (iand (d (readI k 16) 15) 32767)
def onceS (g : List Int) (i : Nat) : List Int :=
  (g.set (i + 1) (d g (i + 1) - (65535 + iand (d g i / 2 ^ 16) 1))).set i (iand (d (g.set (i + 1) (d g (i + 1) - (65535 + iand (d g i / 2 ^ 16) 1))) i) 65535)
def onceI (f : List Int) : Nat → List Int
  | 0 => f.set 0 (d f 0 - 65517)
  | i + 1 => onceS (onceI f i) i
def onceT (g : List Int) : List Int := g.set 15 (d g 15 - (32767 + iand (d g 14 / 2 ^ 16) 1))
def onceR (f : List Int) : List Int := if iand (d (onceT (onceI f 14)) 15 / 2 ^ 16) 1 = 1 then f else (onceT (onceI f 14)).set 14 (iand (d (onceT (onceI f 14)) 14) 65535)
def writeI (f : List Int) : Nat → List UInt8
  | 0 => List.replicate 32 0
  | i + 1 => ((writeI f i).set (2 * i) (to8 (d f i))).set (2 * i + 1) (to8 (d f i / 2 ^ 8))
def writeR (f : List Int) : List UInt8 := writeI (onceR (onceR (carR (carR (carR f))))) 16
/-- small digits: the first one may lie a little outside -/
structure Nm (f : List Int) : Prop where
  len : f.length = 16
  lo : -38 ≤ d f 0
  hi : d f 0 ≤ 65573
  rest : ∀ j, 1 ≤ j → 0 ≤ d f j ∧ d f j ≤ 65535
/-- true digits -/
structure Dg (f : List Int) : Prop where
  len : f.length = 16
  all : ∀ j, 0 ≤ d f j ∧ d f j ≤ 65535
structure LR where
  x2 : List Int
  z2 : List Int
  x3 : List Int
  z3 : List Int
def swapR (l : LR) : LR := ⟨l.x3, l.z3, l.x2, l.z2⟩
def a24R : List Int := [56129, 1, 0, 0, 0, 0, 0, 0, 0, 0, 0, 0, 0, 0, 0, 0]
def stR (l : LR) (x1 : List Int) : LR :=
  ⟨mulR (mulR (addR l.x2 l.z2) (addR l.x2 l.z2)) (mulR (subR l.x2 l.z2) (subR l.x2 l.z2)),
   mulR (subR (mulR (addR l.x2 l.z2) (addR l.x2 l.z2)) (mulR (subR l.x2 l.z2) (subR l.x2 l.z2))) (addR (mulR (addR l.x2 l.z2) (addR l.x2 l.z2)) (mulR a24R (subR (mulR (addR l.x2 l.z2) (addR l.x2 l.z2)) (mulR (subR l.x2 l.z2) (subR l.x2 l.z2))))),
   mulR (addR (mulR (subR l.x3 l.z3) (addR l.x2 l.z2)) (mulR (addR l.x3 l.z3) (subR l.x2 l.z2))) (addR (mulR (subR l.x3 l.z3) (addR l.x2 l.z2)) (mulR (addR l.x3 l.z3) (subR l.x2 l.z2))),
   mulR x1 (mulR (subR (mulR (subR l.x3 l.z3) (addR l.x2 l.z2)) (mulR (addR l.x3 l.z3) (subR l.x2 l.z2))) (subR (mulR (subR l.x3 l.z3) (addR l.x2 l.z2)) (mulR (addR l.x3 l.z3) (subR l.x2 l.z2))))⟩
structure LM where
  l : LR
  last : UInt8
def oneR : List Int := [1, 0, 0, 0, 0, 0, 0, 0, 0, 0, 0, 0, 0, 0, 0, 0]
def zeroR : List Int := List.replicate 16 0
def stepM (x1 : List Int) (k : UInt8) (m : LM) : LM := ⟨stR (if k = m.last then m.l else swapR m.l) x1, k⟩
def ladR (n : List UInt8) (x1 : List Int) : Nat → LM
  | 0 => ⟨⟨oneR, zeroR, x1, oneR⟩, 0⟩
  | i + 1 => stepM x1 (bitL n (254 - i)) (ladR n x1 i)
def endR (m : LM) : List UInt8 := if m.last = UInt8.ofNat 1 then writeR (mulR m.l.x3 (powR m.l.z3 254)) else writeR (mulR m.l.x2 (powR m.l.z2 254))
def keyR (s p : List UInt8) : List UInt8 := endR (ladR (clampL s) (readR p) 255)
def gReadR : SpecF := fun args => match args with
  | [.w (.agg [.vec (.n 32) (.u8 k)])] => some ([], .w (.agg [.vec (.n 16) (.i64 (readR k))]))
  | _ => none
def gOnceR : SpecF := fun args => match args with
  | [.w (.agg [.vec (.n 16) (.i64 f)])] => some ([Dg f], .w (.agg [.vec (.n 16) (.i64 (onceR f))]))
  | _ => none
def gWriteR : SpecF := fun args => match args with
  | [.w (.agg [.vec (.n 16) (.i64 f)])] => some ([Nm f], .w (.agg [.vec (.n 32) (.u8 (writeR f))]))
  | _ => none
def gSwapR : SpecF := fun args => match args with
  | [.w (.agg [.vec (.n 16) (.i64 a), .vec (.n 16) (.i64 b), .vec (.n 16) (.i64 c), .vec (.n 16) (.i64 e)])] => some ([], .w (.agg [.vec (.n 16) (.i64 c), .vec (.n 16) (.i64 e), .vec (.n 16) (.i64 a), .vec (.n 16) (.i64 b)]))
  | _ => none
def gStepR : SpecF := fun args => match args with
  | [.w (.agg [.vec (.n 16) (.i64 a), .vec (.n 16) (.i64 b), .vec (.n 16) (.i64 c), .vec (.n 16) (.i64 e)]), .w (.agg [.vec (.n 16) (.i64 x)])] =>
    some ([Nm a, Nm b, Nm c, Nm e, Nm x], .w (.agg [.vec (.n 16) (.i64 (stR ⟨a, b, c, e⟩ x).x2), .vec (.n 16) (.i64 (stR ⟨a, b, c, e⟩ x).z2), .vec (.n 16) (.i64 (stR ⟨a, b, c, e⟩ x).x3), .vec (.n 16) (.i64 (stR ⟨a, b, c, e⟩ x).z3)]))
  | _ => none
def gMulK : SpecF := fun args => match args with
  | [.w (.agg [.vec (.n 32) (.u8 s)]), .w (.agg [.vec (.n 32) (.u8 p)])] => some ([], .w (.agg [.vec (.n 32) (.u8 (keyR s p))]))
  | _ => none
noncomputable def JReadR (σ : St) : Option Inv :=
  match byteAt σ 1, names σ.fr 3 with
  | some k, some b => some {
      α := Nat
      ok := fun i => i ≤ 16
      mu := fun i => 16 - i
      keep := [1, 2, 3]
      slots := fun i => [(5, .s (.i64 i))]
      own := fun i => [(b, some [.vec (.n 16) (.i64 (readI k i))])]
      ext := fun _ => [] }
  | _, _ => none
noncomputable def JOnce (σ : St) : Option Inv :=
  match intAt σ 1, names σ.fr 3 with
  | some (_, f), some b => some {
      α := Nat
      ok := fun i => i ≤ 14
      mu := fun i => 14 - i
      keep := [1, 2, 3]
      slots := fun i => [(4, .s (.i64 ((i : Int) + 1)))]
      own := fun i => [(b, some [.vec (.n 16) (.i64 (onceI f i))])]
      ext := fun _ => [] }
  | _, _ => none
noncomputable def JWriteR (σ : St) : Option Inv :=
  match intAt σ 1, names σ.fr 3 with
  | some (_, f), some b => some {
      α := Nat
      ok := fun i => i ≤ 16
      mu := fun i => 16 - i
      keep := [1, 2, 3]
      slots := fun i => [(11, .s (.i64 i))]
      own := fun i => [(b, some [.vec (.n 32) (.u8 (writeI f i))])]
      ext := fun _ => [] }
  | _, _ => none
noncomputable def JMulR (σ : St) : Option Inv :=
  match byteAt σ 5, intAt σ 6, names σ.fr 7 with
  | some n, some (_, x1), some b => some {
      α := Nat
      ok := fun i => i ≤ 255
      mu := fun i => 255 - i
      keep := [2, 3, 4, 5, 6, 7]
      slots := fun i => [(9, .s (.i64 (254 - (i : Int)))), (8, .s (.u8 (ladR n x1 i).last))]
      own := fun i => [(b, some [.vec (.n 16) (.i64 (ladR n x1 i).l.x2), .vec (.n 16) (.i64 (ladR n x1 i).l.z2), .vec (.n 16) (.i64 (ladR n x1 i).l.x3), .vec (.n 16) (.i64 (ladR n x1 i).l.z3)])]
      ext := fun _ => [] }
  | _, _, _ => none
end Go.Cur

/- A step towards HandshakeAgreesSaid: no conditions. -/

namespace Go.Proofs.Ytiogdokekibeiaa
open Go Go.Eng Go.Cod Go.Pol Go.Cur
noncomputable def GEr : Env := mkE Try.prog [] [(0, JReadR)] 4 true
noncomputable def GEo : Env := mkE Try.prog [] [(0, JOnce)] 4 true
noncomputable def GEw : Env := mkE Try.prog [(42, gCarR), (41, gOnceR)] [(0, JWriteR)] 4 true
noncomputable def GEs : Env := mkE Try.prog [(39, gAddR), (40, gSubR), (26, gMulR)] [] 4 true
noncomputable def GEm : Env := mkE Try.prog [(21, gClamp), (22, gReadR), (23, gSwapR), (24, gStepR), (27, gPowR), (26, gMulR), (25, gWriteR)] [(0, JMulR)] 4 true
set_option maxRecDepth 100000 in
theorem vcRRead (k : List UInt8) : (vcFn GEr 100 22 [.agg [.vec (.n 32) (.u8 k)]] (.w (.agg [.vec (.n 16) (.i64 (readR k))]))) =
  ((∃ (x : Nat), x ≤ (16 : Nat) ∧ Int.ofNat (0 : Nat) = (↑x : Int) ∧ k = k ∧ List.replicate (16 : Nat) (0 : Int) = List.replicate (16 : Nat) (0 : Int) ∧ List.replicate (16 : Nat) (0 : Int) = readI k x ∧ True) ∧ ∀ (x : Nat), x ≤ (16 : Nat) → (decide ((↑x : Int) < Int.ofNat (16 : Nat)) = true → ∀ (y : Int), y = (↑x : Int) → InI (Int.ofNat (2 : Nat) * y) ∧ ((0 : Int) ≤ Int.ofNat (2 : Nat) * y ∧ Int.ofNat (2 : Nat) * y < (↑(32 : Nat) : Int)) ∧ (Int.ofNat (2 : Nat) * y).toNat < (32 : Nat) ∧ InI (Int.ofNat (2 : Nat) * y) ∧ InI (Int.ofNat (2 : Nat) * y + Int.ofNat (1 : Nat)) ∧ ((0 : Int) ≤ Int.ofNat (2 : Nat) * y + Int.ofNat (1 : Nat) ∧ Int.ofNat (2 : Nat) * y + Int.ofNat (1 : Nat) < (↑(32 : Nat) : Int)) ∧ (Int.ofNat (2 : Nat) * y + Int.ofNat (1 : Nat)).toNat < (32 : Nat) ∧ ((8 : Nat) ≤ (64 : Nat) ∧ InI ((↑(k.getD (Int.ofNat (2 : Nat) * y + Int.ofNat (1 : Nat)).toNat (0 : UInt8)).toNat : Int) * (2 : Int) ^ (8 : Nat))) ∧ ((0 : Int) ≤ y ∧ y < (↑(16 : Nat) : Int)) ∧ y.toNat < (16 : Nat) ∧ ∀ (y_1 : List Int), y_1 = (readI k x).set y.toNat (ior (↑(k.getD (Int.ofNat (2 : Nat) * y).toNat (0 : UInt8)).toNat : Int) ((↑(k.getD (Int.ofNat (2 : Nat) * y + Int.ofNat (1 : Nat)).toNat (0 : UInt8)).toNat : Int) * (2 : Int) ^ (8 : Nat))) → InI ((↑x : Int) + Int.ofNat (1 : Nat)) ∧ ∃ (y : Nat), y ≤ (16 : Nat) ∧ (16 : Nat) - y < (16 : Nat) - x ∧ (↑x : Int) + Int.ofNat (1 : Nat) = (↑y : Int) ∧ k = k ∧ List.replicate (16 : Nat) (0 : Int) = List.replicate (16 : Nat) (0 : Int) ∧ y_1 = readI k y ∧ True) ∧ (decide ((↑x : Int) < Int.ofNat (16 : Nat)) = false → ∀ (y : List Int), y = (readI k x).set (15 : Nat) (iand ((readI k x).getD (15 : Nat) (0 : Int)) (Int.ofNat (32767 : Nat))) → ∀ (y_1 : List Int), y_1 = y → y_1 = readR k ∧ True)) := by kernel_rfl
set_option maxRecDepth 100000 in
theorem vcROnce (f : List Int) : (vcFn GEo 100 41 [.agg [.vec (.n 16) (.i64 f)]] (.w (.agg [.vec (.n 16) (.i64 (onceR f))]))) =
  (∀ (y : List Int), y = f → InI (y.getD (0 : Nat) (0 : Int) - Int.ofNat (65517 : Nat)) ∧ ∀ (y_1 : List Int), y_1 = y.set (0 : Nat) (y.getD (0 : Nat) (0 : Int) - Int.ofNat (65517 : Nat)) → (∃ (x : Nat), x ≤ (14 : Nat) ∧ Int.ofNat (1 : Nat) = (↑x : Int) + (1 : Int) ∧ f = f ∧ List.replicate (16 : Nat) (0 : Int) = List.replicate (16 : Nat) (0 : Int) ∧ y_1 = onceI f x ∧ True) ∧ ∀ (x : Nat), x ≤ (14 : Nat) → (decide ((↑x : Int) + (1 : Int) < Int.ofNat (15 : Nat)) = true → ((0 : Int) ≤ (↑x : Int) + (1 : Int) ∧ (↑x : Int) + (1 : Int) < (↑(16 : Nat) : Int)) ∧ ((↑x : Int) + (1 : Int)).toNat < (16 : Nat) ∧ InI ((↑x : Int) + (1 : Int) - Int.ofNat (1 : Nat)) ∧ ((0 : Int) ≤ (↑x : Int) + (1 : Int) - Int.ofNat (1 : Nat) ∧ (↑x : Int) + (1 : Int) - Int.ofNat (1 : Nat) < (↑(16 : Nat) : Int)) ∧ ((↑x : Int) + (1 : Int) - Int.ofNat (1 : Nat)).toNat < (16 : Nat) ∧ (16 : Nat) ≤ (64 : Nat) ∧ InI (Int.ofNat (65535 : Nat) + iand ((onceI f x).getD ((↑x : Int) + (1 : Int) - Int.ofNat (1 : Nat)).toNat (0 : Int) / (2 : Int) ^ (16 : Nat)) (Int.ofNat (1 : Nat))) ∧ InI ((onceI f x).getD ((↑x : Int) + (1 : Int)).toNat (0 : Int) - (Int.ofNat (65535 : Nat) + iand ((onceI f x).getD ((↑x : Int) + (1 : Int) - Int.ofNat (1 : Nat)).toNat (0 : Int) / (2 : Int) ^ (16 : Nat)) (Int.ofNat (1 : Nat)))) ∧ ((0 : Int) ≤ (↑x : Int) + (1 : Int) ∧ (↑x : Int) + (1 : Int) < (↑(16 : Nat) : Int)) ∧ ((↑x : Int) + (1 : Int)).toNat < (16 : Nat) ∧ ∀ (y : List Int), y = (onceI f x).set ((↑x : Int) + (1 : Int)).toNat ((onceI f x).getD ((↑x : Int) + (1 : Int)).toNat (0 : Int) - (Int.ofNat (65535 : Nat) + iand ((onceI f x).getD ((↑x : Int) + (1 : Int) - Int.ofNat (1 : Nat)).toNat (0 : Int) / (2 : Int) ^ (16 : Nat)) (Int.ofNat (1 : Nat)))) → InI ((↑x : Int) + (1 : Int) - Int.ofNat (1 : Nat)) ∧ ((0 : Int) ≤ (↑x : Int) + (1 : Int) - Int.ofNat (1 : Nat) ∧ (↑x : Int) + (1 : Int) - Int.ofNat (1 : Nat) < (↑(16 : Nat) : Int)) ∧ ((↑x : Int) + (1 : Int) - Int.ofNat (1 : Nat)).toNat < (16 : Nat) ∧ ((0 : Int) ≤ (↑x : Int) + (1 : Int) - Int.ofNat (1 : Nat) ∧ (↑x : Int) + (1 : Int) - Int.ofNat (1 : Nat) < (↑(16 : Nat) : Int)) ∧ ((↑x : Int) + (1 : Int) - Int.ofNat (1 : Nat)).toNat < (16 : Nat) ∧ ∀ (y_2 : List Int), y_2 = y.set ((↑x : Int) + (1 : Int) - Int.ofNat (1 : Nat)).toNat (iand (y.getD ((↑x : Int) + (1 : Int) - Int.ofNat (1 : Nat)).toNat (0 : Int)) (Int.ofNat (65535 : Nat))) → InI ((↑x : Int) + (1 : Int) + Int.ofNat (1 : Nat)) ∧ ∀ (y : Int), y = (↑x : Int) + (1 : Int) + Int.ofNat (1 : Nat) → ∃ (y_3 : Nat), y_3 ≤ (14 : Nat) ∧ (14 : Nat) - y_3 < (14 : Nat) - x ∧ y = (↑y_3 : Int) + (1 : Int) ∧ f = f ∧ List.replicate (16 : Nat) (0 : Int) = List.replicate (16 : Nat) (0 : Int) ∧ y_2 = onceI f y_3 ∧ True) ∧ (decide ((↑x : Int) + (1 : Int) < Int.ofNat (15 : Nat)) = false → (16 : Nat) ≤ (64 : Nat) ∧ InI (Int.ofNat (32767 : Nat) + iand ((onceI f x).getD (14 : Nat) (0 : Int) / (2 : Int) ^ (16 : Nat)) (Int.ofNat (1 : Nat))) ∧ InI ((onceI f x).getD (15 : Nat) (0 : Int) - (Int.ofNat (32767 : Nat) + iand ((onceI f x).getD (14 : Nat) (0 : Int) / (2 : Int) ^ (16 : Nat)) (Int.ofNat (1 : Nat)))) ∧ ∀ (y : List Int), y = (onceI f x).set (15 : Nat) ((onceI f x).getD (15 : Nat) (0 : Int) - (Int.ofNat (32767 : Nat) + iand ((onceI f x).getD (14 : Nat) (0 : Int) / (2 : Int) ^ (16 : Nat)) (Int.ofNat (1 : Nat)))) → (16 : Nat) ≤ (64 : Nat) ∧ ∀ (y_2 : List Int), y_2 = y.set (14 : Nat) (iand (y.getD (14 : Nat) (0 : Int)) (Int.ofNat (65535 : Nat))) → (decide (iand (y.getD (15 : Nat) (0 : Int) / (2 : Int) ^ (16 : Nat)) (Int.ofNat (1 : Nat)) = Int.ofNat (1 : Nat)) = true → ∀ (y : List Int), y = f → y = onceR f ∧ True) ∧ (decide (iand (y.getD (15 : Nat) (0 : Int) / (2 : Int) ^ (16 : Nat)) (Int.ofNat (1 : Nat)) = Int.ofNat (1 : Nat)) = false → ∀ (y : List Int), y = y_2 → y = onceR f ∧ True))) := by kernel_rfl
set_option maxRecDepth 100000 in
theorem vcRWrite (f : List Int) : (vcFn GEw 100 25 [.agg [.vec (.n 16) (.i64 f)]] (.w (.agg [.vec (.n 32) (.u8 (writeR f))]))) =
  (Bd B60 f ∧ ∀ (y : List Int), y = carR f → Bd B60 y ∧ ∀ (y_1 : List Int), y_1 = carR y → Bd B60 y_1 ∧ ∀ (y : List Int), y = carR y_1 → Dg y ∧ ∀ (y_2 : List Int), y_2 = onceR y → Dg y_2 ∧ ∀ (y : List Int), y = onceR y_2 → ∀ (y_3 : List Int), y_3 = y → (∃ (x : Nat), x ≤ (16 : Nat) ∧ Int.ofNat (0 : Nat) = (↑x : Int) ∧ y_3 = y_3 ∧ List.replicate (32 : Nat) (0 : UInt8) = List.replicate (32 : Nat) (0 : UInt8) ∧ List.replicate (32 : Nat) (0 : UInt8) = writeI y_3 x ∧ True) ∧ ∀ (x : Nat), x ≤ (16 : Nat) → (decide ((↑x : Int) < Int.ofNat (16 : Nat)) = true → ∀ (y : Int), y = (↑x : Int) → InI (Int.ofNat (2 : Nat) * y) ∧ InI (Int.ofNat (2 : Nat) * y) ∧ InI (Int.ofNat (2 : Nat) * y + Int.ofNat (1 : Nat)) ∧ ((0 : Int) ≤ y ∧ y < (↑(16 : Nat) : Int)) ∧ y.toNat < (16 : Nat) ∧ ((0 : Int) ≤ y ∧ y < (↑(16 : Nat) : Int)) ∧ y.toNat < (16 : Nat) ∧ (8 : Nat) ≤ (64 : Nat) ∧ ((0 : Int) ≤ Int.ofNat (2 : Nat) * y ∧ Int.ofNat (2 : Nat) * y < (↑(32 : Nat) : Int)) ∧ (Int.ofNat (2 : Nat) * y).toNat < (32 : Nat) ∧ ∀ (y_4 : List UInt8), y_4 = (writeI y_3 x).set (Int.ofNat (2 : Nat) * y).toNat (to8 (y_3.getD y.toNat (0 : Int))) → ((0 : Int) ≤ Int.ofNat (2 : Nat) * y + Int.ofNat (1 : Nat) ∧ Int.ofNat (2 : Nat) * y + Int.ofNat (1 : Nat) < (↑(32 : Nat) : Int)) ∧ (Int.ofNat (2 : Nat) * y + Int.ofNat (1 : Nat)).toNat < (32 : Nat) ∧ ∀ (y_5 : List UInt8), y_5 = y_4.set (Int.ofNat (2 : Nat) * y + Int.ofNat (1 : Nat)).toNat (to8 (y_3.getD y.toNat (0 : Int) / (2 : Int) ^ (8 : Nat))) → InI ((↑x : Int) + Int.ofNat (1 : Nat)) ∧ ∃ (y : Nat), y ≤ (16 : Nat) ∧ (16 : Nat) - y < (16 : Nat) - x ∧ (↑x : Int) + Int.ofNat (1 : Nat) = (↑y : Int) ∧ y_3 = y_3 ∧ List.replicate (32 : Nat) (0 : UInt8) = List.replicate (32 : Nat) (0 : UInt8) ∧ y_5 = writeI y_3 y ∧ True) ∧ (decide ((↑x : Int) < Int.ofNat (16 : Nat)) = false → ∀ (y : List UInt8), y = writeI y_3 x → y = writeR f ∧ True)) := by kernel_rfl
set_option maxRecDepth 100000 in
theorem vcRSwap (a b c e : List Int) : (vcFn GEs 100 23 [.agg [.vec (.n 16) (.i64 a), .vec (.n 16) (.i64 b), .vec (.n 16) (.i64 c), .vec (.n 16) (.i64 e)]] (.w (.agg [.vec (.n 16) (.i64 c), .vec (.n 16) (.i64 e), .vec (.n 16) (.i64 a), .vec (.n 16) (.i64 b)]))) =
  (∀ (y : List Int), y = c → ∀ (y_1 : List Int), y_1 = e → ∀ (y_2 : List Int), y_2 = a → ∀ (y_3 : List Int), y_3 = b → y = c ∧ y_1 = e ∧ y_2 = a ∧ y_3 = b ∧ True) := by kernel_rfl
set_option maxRecDepth 100000 in
theorem vcRStep (a b c e x : List Int) : (vcFn GEs 200 24 [.agg [.vec (.n 16) (.i64 a), .vec (.n 16) (.i64 b), .vec (.n 16) (.i64 c), .vec (.n 16) (.i64 e)], .agg [.vec (.n 16) (.i64 x)]] (.w (.agg [.vec (.n 16) (.i64 (stR ⟨a, b, c, e⟩ x).x2), .vec (.n 16) (.i64 (stR ⟨a, b, c, e⟩ x).z2), .vec (.n 16) (.i64 (stR ⟨a, b, c, e⟩ x).x3), .vec (.n 16) (.i64 (stR ⟨a, b, c, e⟩ x).z3)]))) =
  (Bd B60 a ∧ Bd B60 b ∧ ∀ (y : List Int), y = addI a b (16 : Nat) → Bd B60 a ∧ Bd B60 b ∧ ∀ (y_1 : List Int), y_1 = subI a b (16 : Nat) → ∀ (y_2 : List Int), y_2 = y → ∀ (y : List Int), y = y_1 → Bd B18 y_2 ∧ Bd B18 y_2 ∧ ∀ (y_3 : List Int), y_3 = mulR y_2 y_2 → Bd B18 y ∧ Bd B18 y ∧ ∀ (y_4 : List Int), y_4 = mulR y y → ∀ (y_5 : List Int), y_5 = y_3 → ∀ (y_6 : List Int), y_6 = y_4 → Bd B60 y_5 ∧ Bd B60 y_6 ∧ ∀ (y_7 : List Int), y_7 = subI y_5 y_6 (16 : Nat) → ∀ (y_8 : List Int), y_8 = y_7 → Bd B60 c ∧ Bd B60 e ∧ ∀ (y_9 : List Int), y_9 = addI c e (16 : Nat) → Bd B60 c ∧ Bd B60 e ∧ ∀ (y_10 : List Int), y_10 = subI c e (16 : Nat) → ∀ (y_11 : List Int), y_11 = y_9 → ∀ (y_12 : List Int), y_12 = y_10 → Bd B18 y_12 ∧ Bd B18 y_2 ∧ ∀ (y_13 : List Int), y_13 = mulR y_12 y_2 → Bd B18 y_11 ∧ Bd B18 y ∧ ∀ (y_14 : List Int), y_14 = mulR y_11 y → ∀ (y : List Int), y = y_13 → ∀ (y_15 : List Int), y_15 = y_14 → Bd B60 y ∧ Bd B60 y_15 ∧ ∀ (y_16 : List Int), y_16 = addI y y_15 (16 : Nat) → Bd B60 y ∧ Bd B60 y_15 ∧ ∀ (y_17 : List Int), y_17 = subI y y_15 (16 : Nat) → ∀ (y : List Int), y = y_16 → ∀ (y_18 : List Int), y_18 = y_17 → Bd B18 y_5 ∧ Bd B18 y_6 ∧ ∀ (y_19 : List Int), y_19 = mulR y_5 y_6 → Bd B18 [Int.ofNat (56129 : Nat), Int.ofNat (1 : Nat), (0 : Int), (0 : Int), (0 : Int), (0 : Int), (0 : Int), (0 : Int), (0 : Int), (0 : Int), (0 : Int), (0 : Int), (0 : Int), (0 : Int), (0 : Int), (0 : Int)] ∧ Bd B18 y_8 ∧ ∀ (y_20 : List Int), y_20 = mulR [Int.ofNat (56129 : Nat), Int.ofNat (1 : Nat), (0 : Int), (0 : Int), (0 : Int), (0 : Int), (0 : Int), (0 : Int), (0 : Int), (0 : Int), (0 : Int), (0 : Int), (0 : Int), (0 : Int), (0 : Int), (0 : Int)] y_8 → Bd B60 y_5 ∧ Bd B60 y_20 ∧ ∀ (y_21 : List Int), y_21 = addI y_5 y_20 (16 : Nat) → Bd B18 y_8 ∧ Bd B18 y_21 ∧ ∀ (y_22 : List Int), y_22 = mulR y_8 y_21 → Bd B18 y ∧ Bd B18 y ∧ ∀ (y_23 : List Int), y_23 = mulR y y → Bd B18 y_18 ∧ Bd B18 y_18 ∧ ∀ (y : List Int), y = mulR y_18 y_18 → Bd B18 x ∧ Bd B18 y ∧ ∀ (y_24 : List Int), y_24 = mulR x y → ∀ (y : List Int), y = y_19 → ∀ (y_25 : List Int), y_25 = y_22 → ∀ (y_26 : List Int), y_26 = y_23 → ∀ (y_27 : List Int), y_27 = y_24 → y = (stR { x2 := a, z2 := b, x3 := c, z3 := e : LR } x).x2 ∧ y_25 = (stR { x2 := a, z2 := b, x3 := c, z3 := e : LR } x).z2 ∧ y_26 = (stR { x2 := a, z2 := b, x3 := c, z3 := e : LR } x).x3 ∧ y_27 = (stR { x2 := a, z2 := b, x3 := c, z3 := e : LR } x).z3 ∧ True) := by kernel_rfl
set_option maxRecDepth 100000 in
theorem vcRKey (s p : List UInt8) : (vcFn GEm 200 10 [.agg [.vec (.n 32) (.u8 s)], .agg [.vec (.n 32) (.u8 p)]] (.w (.agg [.vec (.n 32) (.u8 (keyR s p))]))) =
  (∀ (y : List UInt8), y = clampL s → ∀ (y_1 : List Int), y_1 = readR p → ∀ (y_2 : List UInt8), y_2 = y → ∀ (y : List Int), y = y_1 → ∀ (y_3 : List Int), y_3 = [Int.ofNat (1 : Nat), (0 : Int), (0 : Int), (0 : Int), (0 : Int), (0 : Int), (0 : Int), (0 : Int), (0 : Int), (0 : Int), (0 : Int), (0 : Int), (0 : Int), (0 : Int), (0 : Int), (0 : Int)] → ∀ (y_4 : List Int), y_4 = List.replicate (16 : Nat) (0 : Int) → ∀ (y_5 : List Int), y_5 = y → ∀ (y_6 : List Int), y_6 = [Int.ofNat (1 : Nat), (0 : Int), (0 : Int), (0 : Int), (0 : Int), (0 : Int), (0 : Int), (0 : Int), (0 : Int), (0 : Int), (0 : Int), (0 : Int), (0 : Int), (0 : Int), (0 : Int), (0 : Int)] → ∀ (y_7 : UInt8), y_7 = UInt8.ofNat (nat_lit 0) → (∃ (x : Nat), x ≤ (255 : Nat) ∧ y_7 = (ladR y_2 y x).last ∧ Int.ofNat (254 : Nat) = (254 : Int) - (↑x : Int) ∧ s = s ∧ p = p ∧ List.replicate (32 : Nat) (0 : UInt8) = List.replicate (32 : Nat) (0 : UInt8) ∧ y_2 = y_2 ∧ y = y ∧ y_3 = (ladR y_2 y x).l.x2 ∧ y_4 = (ladR y_2 y x).l.z2 ∧ y_5 = (ladR y_2 y x).l.x3 ∧ y_6 = (ladR y_2 y x).l.z3 ∧ True) ∧ ∀ (x : Nat), x ≤ (255 : Nat) → (decide (Int.ofNat (0 : Nat) ≤ (254 : Int) - (↑x : Int)) = true → (Int.ofNat (8 : Nat) ≠ (0 : Int) ∧ InI (((254 : Int) - (↑x : Int)).tdiv (Int.ofNat (8 : Nat)))) ∧ ((0 : Int) ≤ ((254 : Int) - (↑x : Int)).tdiv (Int.ofNat (8 : Nat)) ∧ ((254 : Int) - (↑x : Int)).tdiv (Int.ofNat (8 : Nat)) < (↑(32 : Nat) : Int)) ∧ (((254 : Int) - (↑x : Int)).tdiv (Int.ofNat (8 : Nat))).toNat < (32 : Nat) ∧ Int.ofNat (8 : Nat) ≠ (0 : Int) ∧ (0 : Int) ≤ ((254 : Int) - (↑x : Int)).tmod (Int.ofNat (8 : Nat)) ∧ ∀ (y_8 : UInt8), y_8 = shr8 (y_2.getD (((254 : Int) - (↑x : Int)).tdiv (Int.ofNat (8 : Nat))).toNat (0 : UInt8)) (((254 : Int) - (↑x : Int)).tmod (Int.ofNat (8 : Nat))).toNat &&& UInt8.ofNat (nat_lit 1) → ((y_8 != (ladR y_2 y x).last) = true → ∀ (y_9 : List Int), y_9 = (ladR y_2 y x).l.x3 → ∀ (y_10 : List Int), y_10 = (ladR y_2 y x).l.z3 → ∀ (y_11 : List Int), y_11 = (ladR y_2 y x).l.x2 → ∀ (y_12 : List Int), y_12 = (ladR y_2 y x).l.z2 → ∀ (y_13 : List Int), y_13 = y_9 → ∀ (y_14 : List Int), y_14 = y_10 → ∀ (y_15 : List Int), y_15 = y_11 → ∀ (y_16 : List Int), y_16 = y_12 → ∀ (y_17 : UInt8), y_17 = y_8 → Nm y_13 ∧ Nm y_14 ∧ Nm y_15 ∧ Nm y_16 ∧ Nm y ∧ ∀ (y_18 : List Int), y_18 = (stR { x2 := y_13, z2 := y_14, x3 := y_15, z3 := y_16 : LR } y).x2 → ∀ (y_19 : List Int), y_19 = (stR { x2 := y_13, z2 := y_14, x3 := y_15, z3 := y_16 : LR } y).z2 → ∀ (y_20 : List Int), y_20 = (stR { x2 := y_13, z2 := y_14, x3 := y_15, z3 := y_16 : LR } y).x3 → ∀ (y_21 : List Int), y_21 = (stR { x2 := y_13, z2 := y_14, x3 := y_15, z3 := y_16 : LR } y).z3 → ∀ (y_22 : List Int), y_22 = y_18 → ∀ (y_23 : List Int), y_23 = y_19 → ∀ (y_24 : List Int), y_24 = y_20 → ∀ (y_25 : List Int), y_25 = y_21 → InI ((254 : Int) - (↑x : Int) - Int.ofNat (1 : Nat)) ∧ ∀ (y_26 : Int), y_26 = (254 : Int) - (↑x : Int) - Int.ofNat (1 : Nat) → ∃ (y_27 : Nat), y_27 ≤ (255 : Nat) ∧ (255 : Nat) - y_27 < (255 : Nat) - x ∧ y_17 = (ladR y_2 y y_27).last ∧ y_26 = (254 : Int) - (↑y_27 : Int) ∧ s = s ∧ p = p ∧ List.replicate (32 : Nat) (0 : UInt8) = List.replicate (32 : Nat) (0 : UInt8) ∧ y_2 = y_2 ∧ y = y ∧ y_22 = (ladR y_2 y y_27).l.x2 ∧ y_23 = (ladR y_2 y y_27).l.z2 ∧ y_24 = (ladR y_2 y y_27).l.x3 ∧ y_25 = (ladR y_2 y y_27).l.z3 ∧ True) ∧ ((y_8 != (ladR y_2 y x).last) = false → ∀ (y_9 : UInt8), y_9 = y_8 → Nm (ladR y_2 y x).l.x2 ∧ Nm (ladR y_2 y x).l.z2 ∧ Nm (ladR y_2 y x).l.x3 ∧ Nm (ladR y_2 y x).l.z3 ∧ Nm y ∧ ∀ (y_10 : List Int), y_10 = (stR (ladR y_2 y x).l y).x2 → ∀ (y_11 : List Int), y_11 = (stR (ladR y_2 y x).l y).z2 → ∀ (y_12 : List Int), y_12 = (stR (ladR y_2 y x).l y).x3 → ∀ (y_13 : List Int), y_13 = (stR (ladR y_2 y x).l y).z3 → ∀ (y_14 : List Int), y_14 = y_10 → ∀ (y_15 : List Int), y_15 = y_11 → ∀ (y_16 : List Int), y_16 = y_12 → ∀ (y_17 : List Int), y_17 = y_13 → InI ((254 : Int) - (↑x : Int) - Int.ofNat (1 : Nat)) ∧ ∀ (y_18 : Int), y_18 = (254 : Int) - (↑x : Int) - Int.ofNat (1 : Nat) → ∃ (y_19 : Nat), y_19 ≤ (255 : Nat) ∧ (255 : Nat) - y_19 < (255 : Nat) - x ∧ y_9 = (ladR y_2 y y_19).last ∧ y_18 = (254 : Int) - (↑y_19 : Int) ∧ s = s ∧ p = p ∧ List.replicate (32 : Nat) (0 : UInt8) = List.replicate (32 : Nat) (0 : UInt8) ∧ y_2 = y_2 ∧ y = y ∧ y_14 = (ladR y_2 y y_19).l.x2 ∧ y_15 = (ladR y_2 y y_19).l.z2 ∧ y_16 = (ladR y_2 y y_19).l.x3 ∧ y_17 = (ladR y_2 y y_19).l.z3 ∧ True)) ∧ (decide (Int.ofNat (0 : Nat) ≤ (254 : Int) - (↑x : Int)) = false → (((ladR y_2 y x).last == UInt8.ofNat (nat_lit 1)) = true → ∀ (y_8 : List Int), y_8 = (ladR y_2 y x).l.x3 → ∀ (y_9 : List Int), y_9 = (ladR y_2 y x).l.z3 → ∀ (y_10 : List Int), y_10 = (ladR y_2 y x).l.x2 → ∀ (y_11 : List Int), y_11 = (ladR y_2 y x).l.z2 → ∀ (y : List Int), y = y_8 → ∀ (y_12 : List Int), y_12 = y_9 → ∀ (y_13 : List Int), y_13 = y_10 → ∀ (y_14 : List Int), y_14 = y_11 → Bd B18 y_12 ∧ ∀ (y_15 : List Int), y_15 = powR y_12 (254 : Nat) → Bd B18 y ∧ Bd B18 y_15 ∧ ∀ (y_16 : List Int), y_16 = mulR y y_15 → Nm y_16 ∧ ∀ (y : List UInt8), y = writeR y_16 → ∀ (y_17 : List UInt8), y_17 = y → y_17 = keyR s p ∧ True) ∧ (((ladR y_2 y x).last == UInt8.ofNat (nat_lit 1)) = false → Bd B18 (ladR y_2 y x).l.z2 ∧ ∀ (y_8 : List Int), y_8 = powR (ladR y_2 y x).l.z2 (254 : Nat) → Bd B18 (ladR y_2 y x).l.x2 ∧ Bd B18 y_8 ∧ ∀ (y_9 : List Int), y_9 = mulR (ladR y_2 y x).l.x2 y_8 → Nm y_9 ∧ ∀ (y : List UInt8), y = writeR y_9 → ∀ (y_10 : List UInt8), y_10 = y → y_10 = keyR s p ∧ True))) := by kernel_rfl
end Go.Proofs.Ytiogdokekibeiaa

/- A step towards HandshakeAgreesSaid: no conditions. -/

namespace Go.Cur
open Go Go.Eng Go.Cod Go.Pol
theorem d_set {l : List Int} {i : Nat} {x : Int} (h : i < l.length) : d (l.set i x) i = x := by
  unfold d; rw [List.getD_eq_getElem?_getD, List.getElem?_set_self h]; rfl
theorem d_ne {l : List Int} {i j : Nat} {x : Int} (h : i ≠ j) : d (l.set i x) j = d l j := by
  unfold d; rw [List.getD_eq_getElem?_getD, List.getElem?_set_ne h, ← List.getD_eq_getElem?_getD]
theorem d_out {l : List Int} {i : Nat} (h : l.length ≤ i) : d l i = 0 := by
  unfold d; rw [List.getD_eq_getElem?_getD, List.getElem?_eq_none h]; rfl
/-! the value -/
def ev : List Int → Int
  | [] => 0
  | x :: r => x + 65536 * ev r
theorem ev_set : ∀ (l : List Int) (i : Nat) (x : Int), i < l.length → ev (l.set i x) = ev l + (x - d l i) * 65536 ^ i
  | [], i, x, h => by simp at h
  | y :: r, 0, x, _ => by
    show x + 65536 * ev r = y + 65536 * ev r + (x - y) * 65536 ^ 0
    rw [Int.pow_zero]; omega
  | y :: r, i + 1, x, h => by
    show y + 65536 * ev (r.set i x) = y + 65536 * ev r + (x - d r i) * 65536 ^ (i + 1)
    rw [ev_set r i x (by simpa using h), Int.pow_succ]
    generalize (65536 : Int) ^ i = p
    grind
theorem ev_rep : ∀ n, ev (List.replicate n 0) = 0
  | 0 => rfl
  | n + 1 => by
    show 0 + 65536 * ev (List.replicate n 0) = 0
    rw [ev_rep n]; rfl
theorem ev_take : ∀ (l : List Int) (j : Nat), j < l.length → ev (l.take (j + 1)) = ev (l.take j) + d l j * 65536 ^ j
  | [], j, h => by simp at h
  | y :: r, 0, _ => by
    show y + 65536 * ev (r.take 0) = 0 + y * 65536 ^ 0
    rw [Int.pow_zero]; simp [ev]
  | y :: r, j + 1, h => by
    show y + 65536 * ev (r.take (j + 1)) = y + 65536 * ev (r.take j) + d r j * 65536 ^ (j + 1)
    rw [ev_take r j (by simpa using h), Int.pow_succ]
    generalize (65536 : Int) ^ j = p
    grind
/-! carrying -/
theorem carS_len (f : List Int) (i : Nat) : (carS f i).length = f.length := by
  unfold carS; split <;> simp
theorem carI_len (f : List Int) : ∀ i, (carI f i).length = f.length
  | 0 => rfl
  | i + 1 => by rw [carI, carS_len, carI_len f i]
/-- how the digits stand on the way -/
theorem car_inv {f : List Int} {m : Int} (hl : f.length = 16) (hm : m ≤ B60) (h : Bd m f) : ∀ i, i ≤ 15 →
    (∀ j, j < i → 0 ≤ d (carI f i) j ∧ d (carI f i) j ≤ 65535) ∧ (-m - 35184372088832 ≤ d (carI f i) i ∧ d (carI f i) i ≤ m + 35184372088832) ∧ (∀ j, i < j → d (carI f i) j = d f j)
  | 0, _ => ⟨fun j hj => by omega, ⟨by have := (h 0).1; show _ ≤ d f 0; omega, by have := (h 0).2; show d f 0 ≤ _; omega⟩, fun j _ => rfl⟩
  | i + 1, hi => by
    obtain ⟨h1, h2, h3⟩ := car_inv hl hm h i (by omega)
    have l1 : (carI f i).length = 16 := by rw [carI_len, hl]
    have e : carI f (i + 1) = ((carI f i).set i (d (carI f i) i - d (carI f i) i / 2 ^ 16 * 2 ^ 16)).set (i + 1) (d ((carI f i).set i (d (carI f i) i - d (carI f i) i / 2 ^ 16 * 2 ^ 16)) (i + 1) + d (carI f i) i / 2 ^ 16) := by
      show carS (carI f i) i = _
      unfold carS; rw [if_pos (by omega)]
    rw [d_ne (by omega), h3 (i + 1) (by omega)] at e
    rw [e]
    have hb := h (i + 1)
    refine ⟨fun j hj => ?_, ?_, fun j hj => ?_⟩
    · rw [d_ne (by omega)]
      by_cases hji : j = i
      · subst hji
        rw [d_set (by omega)]; omega
      · rw [d_ne (by omega)]
        exact h1 j (by omega)
    · rw [d_set (by rw [List.length_set]; omega)]
      simp only [B60] at hm
      omega
    · rw [d_ne (by omega), d_ne (by omega)]
      exact h3 j (by omega)
theorem car_step {f : List Int} (hl : f.length = 16) {i : Nat} (hi : i < 15) : ev (carI f (i + 1)) = ev (carI f i) := by
  have l1 : (carI f i).length = 16 := by rw [carI_len, hl]
  show ev (carS (carI f i) i) = _
  unfold carS
  have p1 : (65536 : Int) ^ (i + 1) = 65536 ^ i * 65536 := Int.pow_succ ..
  rw [if_pos hi, ev_set _ _ _ (by rw [List.length_set]; omega), ev_set _ _ _ (by omega), p1]
  generalize (65536 : Int) ^ i = p
  generalize d ((carI f i).set i (d (carI f i) i - d (carI f i) i / 2 ^ 16 * 2 ^ 16)) (i + 1) = y
  generalize d (carI f i) i / 2 ^ 16 = c
  generalize d (carI f i) i = x
  generalize ev (carI f i) = z
  have : (2 : Int) ^ 16 = 65536 := rfl
  rw [this]
  grind
theorem car_ev {f : List Int} (hl : f.length = 16) : ∀ i, i ≤ 15 → ev (carI f i) = ev f
  | 0, _ => rfl
  | i + 1, hi => by rw [car_step hl (by omega), car_ev hl i (by omega)]
abbrev P2 : Int := 115792089237316195423570985008687907853269984665640564039457584007913129639898
/-- the digits and the number behind a round of carrying -/
theorem carR_ev {f : List Int} (hl : f.length = 16) : ev (carR f) = ev f - P2 * (d (carI f 15) 15 / 2 ^ 16) := by
  have l1 : (carI f 15).length = 16 := by rw [carI_len, hl]
  show ev (carS (carI f 15) 15) = _
  unfold carS
  rw [if_neg (by omega), ev_set _ _ _ (by rw [List.length_set]; omega), ev_set _ _ _ (by omega), car_ev hl 15 (by omega)]
  generalize d ((carI f 15).set 15 (d (carI f 15) 15 - d (carI f 15) 15 / 2 ^ 16 * 2 ^ 16)) 0 = y
  generalize d (carI f 15) 15 / 2 ^ 16 = c
  generalize d (carI f 15) 15 = x
  generalize ev f = z
  have : (2 : Int) ^ 16 = 65536 := rfl
  have e15 : (65536 : Int) ^ 15 = 1766847064778384329583297500742918515827483896875618958121606201292619776 := rfl
  rw [this, e15, Int.pow_zero]
  simp only [P2]
  omega
theorem carR_dig {f : List Int} {m : Int} (hl : f.length = 16) (hm : m ≤ B60) (h : Bd m f) : (∀ j, 1 ≤ j → 0 ≤ d (carR f) j ∧ d (carR f) j ≤ 65535) ∧ ∃ r, 0 ≤ r ∧ r ≤ 65535 ∧ d (carR f) 0 = r + 38 * (d (carI f 15) 15 / 2 ^ 16) := by
  obtain ⟨h1, h2, h3⟩ := car_inv hl hm h 15 (by omega)
  have l1 : (carI f 15).length = 16 := by rw [carI_len, hl]
  have e : carR f = ((carI f 15).set 15 (d (carI f 15) 15 - d (carI f 15) 15 / 2 ^ 16 * 2 ^ 16)).set 0 (d (carI f 15) 0 + 38 * (d (carI f 15) 15 / 2 ^ 16)) := by
    show carS (carI f 15) 15 = _
    unfold carS
    rw [if_neg (by omega), d_ne (by omega)]
  rw [e]
  refine ⟨fun j hj => ?_, d (carI f 15) 0, (h1 0 (by omega)).1, (h1 0 (by omega)).2, ?_⟩
  · rw [d_ne (by omega)]
    by_cases h15 : j = 15
    · subst h15; rw [d_set (by omega)]; omega
    · rw [d_ne (by omega)]
      by_cases hj : j < 15
      · exact h1 j hj
      · rw [d_out (by omega)]; omega
  · rw [d_set (by rw [List.length_set]; omega)]
theorem carR_len (f : List Int) : (carR f).length = f.length := carI_len f 16
theorem carR_bd {f : List Int} {m : Int} (hl : f.length = 16) (hm : m ≤ B60) (h : Bd m f) (h0 : 0 ≤ m) : Bd (m / 1024 + 1099511627776) (carR f) := by
  obtain ⟨g1, r, g2, g3, g4⟩ := carR_dig hl hm h
  obtain ⟨_, h2, _⟩ := car_inv hl hm h 15 (by omega)
  intro j
  by_cases hj : j = 0
  · subst hj
    rw [g4]; omega
  · have := g1 j (by omega); omega
theorem Nm.bd {f : List Int} (h : Nm f) : Bd B17 f := fun i => by
  simp only [B17]
  by_cases hi : i = 0
  · subst hi; have := h.lo; have := h.hi; omega
  · have := h.rest i (by omega); omega
/-- carries die out -/
theorem car_small {f : List Int} (hl : f.length = 16) (h0 : -1099511627776 ≤ d f 0 ∧ d f 0 ≤ 1099511627776) (hr : ∀ j, 1 ≤ j → 0 ≤ d f j ∧ d f j ≤ 65535) : ∀ i, i + 3 ≤ 15 → -1 ≤ d (carI f (i + 3)) (i + 3) ∧ d (carI f (i + 3)) (i + 3) ≤ 65536 := by
  have hb : Bd 1099511627776 f := fun i => by
    by_cases hi : i = 0
    · subst hi; exact h0
    · have := hr i (by omega); omega
  have st : ∀ i, i < 15 → d (carI f (i + 1)) (i + 1) = d f (i + 1) + d (carI f i) i / 2 ^ 16 := fun i hi => by
    have l1 : (carI f i).length = 16 := by rw [carI_len, hl]
    show d (carS (carI f i) i) (i + 1) = _
    unfold carS
    rw [if_pos hi, d_set (by rw [List.length_set]; omega), d_ne (by omega), (car_inv hl (by decide) hb i (by omega)).2.2 (i + 1) (by omega)]
  have s1 : d (carI f 1) 1 = d f 1 + d f 0 / 2 ^ 16 := st 0 (by omega)
  have s2 : d (carI f 2) 2 = d f 2 + d (carI f 1) 1 / 2 ^ 16 := st 1 (by omega)
  have s3 : d (carI f 3) 3 = d f 3 + d (carI f 2) 2 / 2 ^ 16 := st 2 (by omega)
  intro i
  induction i with
  | zero =>
    intro _
    have r1 := hr 1 (by omega)
    have r2 := hr 2 (by omega)
    have r3 := hr 3 (by omega)
    show -1 ≤ d (carI f 3) 3 ∧ d (carI f 3) 3 ≤ 65536
    rw [s3, s2, s1]
    omega
  | succ i ih =>
    intro hi
    have ih := ih (by omega)
    have r := hr (i + 3 + 1) (by omega)
    have s := st (i + 3) (by omega)
    rw [show i + 1 + 3 = i + 3 + 1 by omega, s]
    omega
theorem carR_nm {f : List Int} (hl : f.length = 16) (h0 : -1099511627776 ≤ d f 0 ∧ d f 0 ≤ 1099511627776) (hr : ∀ j, 1 ≤ j → 0 ≤ d f j ∧ d f j ≤ 65535) : Nm (carR f) ∧ (d (carI f 15) 15 / 2 ^ 16 = -1 ∨ d (carI f 15) 15 / 2 ^ 16 = 0 ∨ d (carI f 15) 15 / 2 ^ 16 = 1) := by
  have hb : Bd 1099511627776 f := fun i => by
    by_cases hi : i = 0
    · subst hi; exact h0
    · have := hr i (by omega); omega
  have h15 := car_small hl h0 hr 12 (by omega)
  obtain ⟨g1, r, g2, g3, g4⟩ := carR_dig hl (by decide) hb
  have hc : d (carI f 15) 15 / 2 ^ 16 = -1 ∨ d (carI f 15) 15 / 2 ^ 16 = 0 ∨ d (carI f 15) 15 / 2 ^ 16 = 1 := by
    have : d (carI f (12 + 3)) (12 + 3) = d (carI f 15) 15 := rfl
    omega
  exact ⟨⟨by rw [carR_len, hl], by rw [g4]; omega, by rw [g4]; omega, g1⟩, hc⟩
/-! sums and differences -/
theorem addI_len (a b : List Int) : ∀ i, (addI a b i).length = a.length
  | 0 => rfl
  | i + 1 => by rw [addI, List.length_set, addI_len a b i]
theorem subI_len (a b : List Int) : ∀ i, (subI a b i).length = a.length
  | 0 => rfl
  | i + 1 => by rw [subI, List.length_set, subI_len a b i]
theorem addI_d {a b : List Int} (ha : a.length = 16) : ∀ i, i ≤ 16 → ∀ j, d (addI a b i) j = if j < i then d a j + d b j else d a j
  | 0, _, j => by rw [if_neg (by omega)]; rfl
  | i + 1, hi, j => by
    rw [addI]
    by_cases h : i = j
    · subst h
      rw [d_set (by rw [addI_len]; omega), addI_d ha i (by omega) i, if_neg (by omega), if_pos (by omega)]
    · rw [d_ne h, addI_d ha i (by omega) j]
      by_cases h2 : j < i
      · rw [if_pos h2, if_pos (by omega)]
      · rw [if_neg h2, if_neg (by omega)]
theorem subI_d {a b : List Int} (ha : a.length = 16) : ∀ i, i ≤ 16 → ∀ j, d (subI a b i) j = if j < i then d a j - d b j else d a j
  | 0, _, j => by rw [if_neg (by omega)]; rfl
  | i + 1, hi, j => by
    rw [subI]
    by_cases h : i = j
    · subst h
      rw [d_set (by rw [subI_len]; omega), subI_d ha i (by omega) i, if_neg (by omega), if_pos (by omega)]
    · rw [d_ne h, subI_d ha i (by omega) j]
      by_cases h2 : j < i
      · rw [if_pos h2, if_pos (by omega)]
      · rw [if_neg h2, if_neg (by omega)]
theorem addI_ev {a b : List Int} (ha : a.length = 16) (hb : b.length = 16) : ∀ i, i ≤ 16 → ev (addI a b i) = ev a + ev (b.take i)
  | 0, _ => by show ev a = ev a + ev []; simp [ev]
  | i + 1, hi => by
    rw [addI, ev_set _ _ _ (by rw [addI_len]; omega), addI_ev ha hb i (by omega), ev_take _ _ (by omega)]
    generalize (65536 : Int) ^ i = p
    grind
theorem subI_ev {a b : List Int} (ha : a.length = 16) (hb : b.length = 16) : ∀ i, i ≤ 16 → ev (subI a b i) = ev a - ev (b.take i)
  | 0, _ => by show ev a = ev a - ev []; simp [ev]
  | i + 1, hi => by
    rw [subI, ev_set _ _ _ (by rw [subI_len]; omega), subI_ev ha hb i (by omega), ev_take _ _ (by omega)]
    generalize (65536 : Int) ^ i = p
    grind
/-! products -/
theorem rowI_len (a b : List Int) (i : Nat) (t : List Int) : ∀ j, (rowI a b i t j).length = t.length
  | 0 => rfl
  | j + 1 => by rw [rowI, List.length_set, rowI_len a b i t j]
theorem prodI_len (a b : List Int) : ∀ i, (prodI a b i).length = 31
  | 0 => rfl
  | i + 1 => by rw [prodI, rowI_len, prodI_len a b i]
theorem pr_bd {x y : Int} (hx : -B18 ≤ x ∧ x ≤ B18) (hy : -B18 ≤ y ∧ y ≤ B18) : -68719476736 ≤ x * y ∧ x * y ≤ 68719476736 := by
  simp only [B18] at *
  have h1 : 0 ≤ (262144 - x) * (262144 + y) := Int.mul_nonneg (by omega) (by omega)
  have h2 : 0 ≤ (262144 + x) * (262144 - y) := Int.mul_nonneg (by omega) (by omega)
  have h3 : 0 ≤ (262144 - x) * (262144 - y) := Int.mul_nonneg (by omega) (by omega)
  have h4 : 0 ≤ (262144 + x) * (262144 + y) := Int.mul_nonneg (by omega) (by omega)
  simp only [Int.sub_mul, Int.add_mul, Int.mul_sub, Int.mul_add] at h1 h2 h3 h4
  omega
theorem rowI_bd {a b : List Int} (ha : Bd B18 a) (hb : Bd B18 b) (i : Nat) (hi : i ≤ 15) {t : List Int} (ht : t.length = 31) {m : Int} (h : Bd m t) : ∀ j : Nat, j ≤ 16 → Bd (m + (j : Int) * 68719476736) (rowI a b i t j)
  | 0, _ => fun k => by have := h k; show _ ≤ d t k ∧ d t k ≤ _; omega
  | j + 1, hj => fun k => by
    have ih := rowI_bd ha hb i hi ht h j (by omega)
    have hp := pr_bd (ha i) (hb j)
    rw [rowI]
    by_cases hk : i + j = k
    · subst hk
      rw [d_set (by rw [rowI_len]; omega)]
      have := ih (i + j)
      omega
    · rw [d_ne hk]
      have := ih k
      omega
theorem prodI_bd {a b : List Int} (ha : Bd B18 a) (hb : Bd B18 b) : ∀ i : Nat, i ≤ 16 → Bd ((i : Int) * 1099511627776) (prodI a b i)
  | 0, _ => fun k => by
    have : d (List.replicate 31 0) k = 0 := by
      by_cases hk : k < 31
      · unfold d; rw [List.getD_eq_getElem?_getD, List.getElem?_replicate, if_pos hk]; rfl
      · exact d_out (by rw [List.length_replicate]; omega)
    show _ ≤ d (List.replicate 31 0) k ∧ d (List.replicate 31 0) k ≤ _
    rw [this]; omega
  | i + 1, hi => fun k => by
    have := rowI_bd ha hb i (by omega) (prodI_len a b i) (prodI_bd ha hb i (by omega)) 16 (by omega) k
    show _ ≤ d (rowI a b i (prodI a b i) 16) k ∧ d (rowI a b i (prodI a b i) 16) k ≤ _
    omega
theorem rowI_ev {a b : List Int} (hb : b.length = 16) (i : Nat) (hi : i ≤ 15) {t : List Int} (ht : t.length = 31) : ∀ j, j ≤ 16 → ev (rowI a b i t j) = ev t + d a i * 65536 ^ i * ev (b.take j)
  | 0, _ => by show ev t = ev t + d a i * 65536 ^ i * ev []; simp [ev]
  | j + 1, hj => by
    rw [rowI, ev_set _ _ _ (by rw [rowI_len]; omega), rowI_ev hb i hi ht j (by omega), ev_take _ _ (by omega), Int.pow_add]
    generalize (65536 : Int) ^ i = p
    generalize (65536 : Int) ^ j = q
    grind
theorem prodI_ev {a b : List Int} (ha : a.length = 16) (hb : b.length = 16) : ∀ i, i ≤ 16 → ev (prodI a b i) = ev (a.take i) * ev b
  | 0, _ => by
    show ev (List.replicate 31 0) = ev [] * ev b
    rw [ev_rep]; simp [ev]
  | i + 1, hi => by
    rw [prodI, rowI_ev hb i (by omega) (prodI_len a b i) 16 (by omega), List.take_of_length_le (l := b) (by omega), prodI_ev ha hb i (by omega), ev_take a i (by omega)]
    generalize (65536 : Int) ^ i = p
    grind
theorem foldI_len (t : List Int) : ∀ i, (foldI t i).length = 16
  | 0 => rfl
  | i + 1 => by rw [foldI]; split <;> simp [foldI_len t i]
theorem rep16 (k : Nat) : d (List.replicate 16 0) k = 0 := by
  by_cases hk : k < 16
  · unfold d; rw [List.getD_eq_getElem?_getD, List.getElem?_replicate, if_pos hk]; rfl
  · exact d_out (by rw [List.length_replicate]; omega)
theorem foldI_d {t : List Int} : ∀ i, i ≤ 16 → ∀ j, d (foldI t i) j = if j < i then (if j < 15 then d t j + 38 * d t (j + 16) else d t j) else 0
  | 0, _, j => by rw [if_neg (by omega)]; exact rep16 j
  | i + 1, hi, j => by
    have ih := foldI_d (t := t) i (by omega) j
    rw [foldI]
    by_cases h15 : i < 15
    · rw [if_pos h15]
      by_cases h : i = j
      · subst h
        rw [d_set (by rw [List.length_set, foldI_len]; omega), d_set (by rw [foldI_len]; omega), if_pos (by omega), if_pos h15]
      · rw [d_ne h, d_ne h, ih]
        by_cases h2 : j < i
        · rw [if_pos h2, if_pos (show j < i + 1 by omega)]
        · rw [if_neg h2, if_neg (show ¬ j < i + 1 by omega)]
    · rw [if_neg h15]
      by_cases h : i = j
      · subst h
        rw [d_set (by rw [foldI_len]; omega), if_pos (by omega), if_neg h15]
      · rw [d_ne h, ih]
        by_cases h2 : j < i
        · rw [if_pos h2, if_pos (show j < i + 1 by omega)]
        · rw [if_neg h2, if_neg (show ¬ j < i + 1 by omega)]
theorem foldI_bd {t : List Int} (h : Bd 17592186044416 t) {i : Nat} (hi : i ≤ 16) : Bd 686095255732224 (foldI t i) := fun j => by
  rw [foldI_d i hi j]
  have h1 := h j
  have h2 := h (j + 16)
  split
  · split <;> omega
  · omega
theorem foldI_ev {t : List Int} (ht : t.length = 31) : ∀ i, i ≤ 15 → ev (foldI t i) = ev (t.take i) + 38 * ev ((t.drop 16).take i)
  | 0, _ => by
    show ev (List.replicate 16 0) = ev [] + 38 * ev []
    rw [ev_rep]; simp [ev]
  | i + 1, hi => by
    have hd : d (t.drop 16) i = d t (i + 16) := by
      unfold d; rw [List.getD_eq_getElem?_getD, List.getElem?_drop, List.getD_eq_getElem?_getD, Nat.add_comm]
    have h0 : d (foldI t i) i = 0 := by rw [foldI_d i (by omega) i, if_neg (by omega)]
    rw [foldI, if_pos (by omega), ev_set _ _ _ (by rw [List.length_set, foldI_len]; omega), ev_set _ _ _ (by rw [foldI_len]; omega), d_set (by rw [foldI_len]; omega), foldI_ev ht i (by omega), ev_take t i (by omega), ev_take (t.drop 16) i (by rw [List.length_drop]; omega), hd, h0]
    generalize (65536 : Int) ^ i = p
    grind
theorem ev_drop : ∀ (l : List Int) (n : Nat), n ≤ l.length → ev l = ev (l.take n) + 65536 ^ n * ev (l.drop n)
  | l, 0, _ => by rw [Int.pow_zero]; simp [ev]
  | [], n + 1, h => by simp at h
  | x :: r, n + 1, h => by
    show x + 65536 * ev r = x + 65536 * ev (r.take n) + 65536 ^ (n + 1) * ev (r.drop n)
    rw [ev_drop r n (by simpa using h), Int.pow_succ]
    generalize (65536 : Int) ^ n = p
    grind
theorem foldI_all {t : List Int} (ht : t.length = 31) : ev (foldI t 16) = ev t - P2 * ev (t.drop 16) := by
  have h0 : d (foldI t 15) 15 = 0 := by rw [foldI_d 15 (by omega) 15, if_neg (by omega)]
  have e1 := ev_drop t 16 (by omega)
  have e2 := ev_take t 15 (by omega)
  have e3 : (t.drop 16).take 15 = t.drop 16 := List.take_of_length_le (by rw [List.length_drop]; omega)
  rw [foldI, if_neg (by omega), ev_set _ _ _ (by rw [foldI_len]; omega), foldI_ev ht 15 (by omega), h0, e3]
  have p16 : (65536 : Int) ^ 16 = 115792089237316195423570985008687907853269984665640564039457584007913129639936 := rfl
  rw [p16] at e1
  rw [e1, e2]
  generalize (65536 : Int) ^ 15 = p
  simp only [P2]
  grind
theorem mulR_nm {a b : List Int} (ha : Bd B18 a) (hb : Bd B18 b) (la : a.length = 16) (lb : b.length = 16) : Nm (mulR a b) ∧ ∃ q, ev (mulR a b) = ev a * ev b - P2 * q := by
  have hp := prodI_bd ha hb 16 (by omega)
  have hf : Bd 686095255732224 (foldI (prodI a b 16) 16) := foldI_bd (fun j => by have := hp j; omega) (by omega)
  have hl := foldI_len (prodI a b 16) 16
  obtain ⟨g1, r, g2, g3, g4⟩ := carR_dig hl (by decide) hf
  obtain ⟨_, k2, _⟩ := car_inv hl (by decide) hf 15 (by omega)
  obtain ⟨n1, _⟩ := carR_nm (f := carR (foldI (prodI a b 16) 16)) (by rw [carR_len, hl]) (by rw [g4]; omega) g1
  refine ⟨n1, ?_⟩
  have e1 := carR_ev hl
  have e2 := carR_ev (f := carR (foldI (prodI a b 16) 16)) (by rw [carR_len, hl])
  have e3 := foldI_all (prodI_len a b 16)
  have e4 := prodI_ev la lb 16 (by omega)
  rw [List.take_of_length_le (by omega)] at e4
  unfold mulR
  rw [e2, e1, e3, e4]
  exact ⟨_, by rw [Int.sub_sub, Int.sub_sub, ← Int.mul_add, ← Int.mul_add]⟩
end Go.Cur
