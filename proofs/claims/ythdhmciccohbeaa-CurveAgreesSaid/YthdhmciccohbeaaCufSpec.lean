/- A step towards CurveAgreesSaid: no conditions. -/
import Derived.Test.YthdhmciccohbeaaCubSpec
namespace Go.Cur
open Go Go.Eng Go.Cod Go.Pol
/-! the reference's numbers: sixteen digits -/
def d (l : List Int) (i : Nat) : Int := l.getD i 0
theorem d_eq (l : List Int) (i : Nat) : l.getD i 0 = d l i := rfl
/-- all digits at most m away from zero -/
def Bd (m : Int) (l : List Int) : Prop := ∀ i, -m ≤ d l i ∧ d l i ≤ m
def carS (f : List Int) (i : Nat) : List Int :=
  if i < 15 then (f.set i (d f i - d f i / 2 ^ 16 * 2 ^ 16)).set (i + 1) (d (f.set i (d f i - d f i / 2 ^ 16 * 2 ^ 16)) (i + 1) + d f i / 2 ^ 16)
  else (f.set i (d f i - d f i / 2 ^ 16 * 2 ^ 16)).set 0 (d (f.set i (d f i - d f i / 2 ^ 16 * 2 ^ 16)) 0 + 38 * (d f i / 2 ^ 16))
def carI (f : List Int) : Nat → List Int
  | 0 => f
  | i + 1 => carS (carI f i) i
def carR (f : List Int) : List Int := carI f 16
def addI (a b : List Int) : Nat → List Int
  | 0 => a
  | i + 1 => (addI a b i).set i (d (addI a b i) i + d b i)
def subI (a b : List Int) : Nat → List Int
  | 0 => a
  | i + 1 => (subI a b i).set i (d (subI a b i) i - d b i)
def rowI (a b : List Int) (i : Nat) (t : List Int) : Nat → List Int
  | 0 => t
  | j + 1 => (rowI a b i t j).set (i + j) (d (rowI a b i t j) (i + j) + d a i * d b j)
def prodI (a b : List Int) : Nat → List Int
  | 0 => List.replicate 31 0
  | i + 1 => rowI a b i (prodI a b i) 16
def foldI (t : List Int) : Nat → List Int
  | 0 => List.replicate 16 0
  | i + 1 => if i < 15 then ((foldI t i).set i (d t i)).set i (d ((foldI t i).set i (d t i)) i + 38 * d t (i + 16)) else (foldI t i).set i (d t i)
def mulR (a b : List Int) : List Int := carR (carR (foldI (prodI a b 16) 16))
def powR (a : List Int) : Nat → List Int
  | 0 => a
  | n + 1 => if (253 - n = 2 ∨ 253 - n = 4) then mulR (powR a n) (powR a n) else mulR (mulR (powR a n) (powR a n)) a
abbrev B60 : Int := 1152921504606846976
abbrev B18 : Int := 262144
abbrev B17 : Int := 131072
def gCarR : SpecF := fun args => match args with
  | [.w (.agg [.vec (.n 16) (.i64 f)])] => some ([Bd B60 f], .w (.agg [.vec (.n 16) (.i64 (carR f))]))
  | _ => none
def gAddR : SpecF := fun args => match args with
  | [.w (.agg [.vec (.n 16) (.i64 a)]), .w (.agg [.vec (.n 16) (.i64 b)])] => some ([Bd B60 a, Bd B60 b], .w (.agg [.vec (.n 16) (.i64 (addI a b 16))]))
  | _ => none
def gSubR : SpecF := fun args => match args with
  | [.w (.agg [.vec (.n 16) (.i64 a)]), .w (.agg [.vec (.n 16) (.i64 b)])] => some ([Bd B60 a, Bd B60 b], .w (.agg [.vec (.n 16) (.i64 (subI a b 16))]))
  | _ => none
def gMulR : SpecF := fun args => match args with
  | [.w (.agg [.vec (.n 16) (.i64 a)]), .w (.agg [.vec (.n 16) (.i64 b)])] => some ([Bd B18 a, Bd B18 b], .w (.agg [.vec (.n 16) (.i64 (mulR a b))]))
  | _ => none
def gPowR : SpecF := fun args => match args with
  | [.w (.agg [.vec (.n 16) (.i64 a)])] => some ([Bd B18 a], .w (.agg [.vec (.n 16) (.i64 (powR a 254))]))
  | _ => none
noncomputable def intAt (σ : St) (t : Nat) : Option (Nat × List Int) :=
  match names σ.fr t with
  | some k => match getO σ.own k with
    | some [.vec _ (.i64 l)] => some (k, l)
    | _ => none
  | none => none
noncomputable def JCarR (σ : St) : Option Inv :=
  match intAt σ 1 with
  | some (k, f) => some {
      α := Nat
      ok := fun i => i ≤ 16
      mu := fun i => 16 - i
      keep := [1, 2]
      slots := fun i => [(3, .s (.i64 i))]
      own := fun i => [(k, some [.vec (.n 16) (.i64 (carI f i))])]
      ext := fun _ => [] }
  | _ => none
noncomputable def JBin (F : List Int → List Int → Nat → List Int) (s : Nat) (σ : St) : Option Inv :=
  match intAt σ 2, intAt σ 3 with
  | some (k, a), some (_, b) => some {
      α := Nat
      ok := fun i => i ≤ 16
      mu := fun i => 16 - i
      keep := [2, 3, 4]
      slots := fun i => [(s, .s (.i64 i))]
      own := fun i => [(k, some [.vec (.n 16) (.i64 (F a b i))])]
      ext := fun _ => [] }
  | _, _ => none
noncomputable def JProd (σ : St) : Option Inv :=
  match intAt σ 2, intAt σ 3, names σ.fr 5 with
  | some (_, a), some (_, b), some k => some {
      α := Nat
      ok := fun i => i ≤ 16
      mu := fun i => 16 - i
      keep := [2, 3, 4, 5]
      slots := fun i => [(10, .s (.i64 i))]
      own := fun i => [(k, some [.vec (.n 31) (.i64 (prodI a b i))])]
      ext := fun _ => [] }
  | _, _, _ => none
noncomputable def JRow (σ : St) : Option Inv :=
  match intAt σ 2, intAt σ 3, intAt σ 5, getF σ.fr 6 with
  | some (_, a), some (_, b), some (k, t), .w (.s (.i64 i)) => some {
      α := Nat
      ok := fun j => j ≤ 16
      mu := fun j => 16 - j
      keep := [2, 3, 4, 5, 6, 10]
      slots := fun j => [(13, .s (.i64 j))]
      own := fun j => [(k, some [.vec (.n 31) (.i64 (rowI a b i.toNat t j))])]
      ext := fun _ => [] }
  | _, _, _, _ => none
noncomputable def JFold (σ : St) : Option Inv :=
  match intAt σ 5, names σ.fr 8 with
  | some (_, t), some k => some {
      α := Nat
      ok := fun i => i ≤ 16
      mu := fun i => 16 - i
      keep := [4, 5, 8]
      slots := fun i => [(32, .s (.i64 i))]
      own := fun i => [(k, some [.vec (.n 16) (.i64 (foldI t i))])]
      ext := fun _ => [] }
  | _, _ => none
noncomputable def JPowR (σ : St) : Option Inv :=
  match intAt σ 1, names σ.fr 3 with
  | some (_, a), some k => some {
      α := Nat
      ok := fun n => n ≤ 254
      mu := fun n => 254 - n
      keep := [1, 2, 3]
      slots := fun n => [(4, .s (.i64 (253 - (n : Int))))]
      own := fun n => [(k, some [.vec (.n 16) (.i64 (powR a n))])]
      ext := fun _ => [] }
  | _, _ => none
end Go.Cur
