/- A step towards CurveAgreesSaid: no conditions. -/
import Derived.Test.YthdhmciccohbeaaPolSpec
namespace Go.Cur
open Go Go.Eng Go.Cod Go.Pol
/-! the program's numbers: five limbs -/
abbrev M51 : UInt64 := 2251799813685247
abbrev g (l : List UInt64) (i : Nat) : UInt64 := l.getD i 0
def carL (a : List UInt64) : List UInt64 := [(g a 0 &&& UInt64.ofNat 2251799813685247) + UInt64.ofNat 19 * shr64 (g a 4) 51, (g a 1 &&& UInt64.ofNat 2251799813685247) + shr64 (g a 0) 51, (g a 2 &&& UInt64.ofNat 2251799813685247) + shr64 (g a 1) 51, (g a 3 &&& UInt64.ofNat 2251799813685247) + shr64 (g a 2) 51, (g a 4 &&& UInt64.ofNat 2251799813685247) + shr64 (g a 3) 51]
def addL (a b : List UInt64) : List UInt64 := [g a 0 + g b 0, g a 1 + g b 1, g a 2 + g b 2, g a 3 + g b 3, g a 4 + g b 4]
def subL (a b : List UInt64) : List UInt64 := [g a 0 + (UInt64.ofNat 4503599627370458 - g b 0), g a 1 + (UInt64.ofNat 4503599627370494 - g b 1), g a 2 + (UInt64.ofNat 4503599627370494 - g b 2), g a 3 + (UInt64.ofNat 4503599627370494 - g b 3), g a 4 + (UInt64.ofNat 4503599627370494 - g b 4)]
abbrev pr (x y : UInt64) : Nat := x.toNat * y.toNat
abbrev pn (x y : UInt64) : Nat := (UInt64.ofNat 19 * x).toNat * y.toNat
def s0 (a b : List UInt64) : Nat := pr (g a 0) (g b 0) + (pn (g a 1) (g b 4) + (pn (g a 2) (g b 3) + (pn (g a 3) (g b 2) + (pn (g a 4) (g b 1)))))
def s1 (a b : List UInt64) : Nat := pr (g a 0) (g b 1) + (pr (g a 1) (g b 0) + (pn (g a 2) (g b 4) + (pn (g a 3) (g b 3) + (pn (g a 4) (g b 2)))))
def s2 (a b : List UInt64) : Nat := pr (g a 0) (g b 2) + (pr (g a 1) (g b 1) + (pr (g a 2) (g b 0) + (pn (g a 3) (g b 4) + (pn (g a 4) (g b 3)))))
def s3 (a b : List UInt64) : Nat := pr (g a 0) (g b 3) + (pr (g a 1) (g b 2) + (pr (g a 2) (g b 1) + (pr (g a 3) (g b 0) + (pn (g a 4) (g b 4)))))
def s4 (a b : List UInt64) : Nat := pr (g a 0) (g b 4) + (pr (g a 1) (g b 3) + (pr (g a 2) (g b 2) + (pr (g a 3) (g b 1) + (pr (g a 4) (g b 0)))))
def lo51 (n : Nat) : UInt64 := u n &&& UInt64.ofNat 2251799813685247
def hi51 (n : Nat) : UInt64 := shl64 (u (n / D64)) 13 ||| shr64 (u n) 51
def mulL (a b : List UInt64) : List UInt64 := carL [lo51 (s0 a b) + UInt64.ofNat 19 * hi51 (s4 a b), lo51 (s1 a b) + hi51 (s0 a b), lo51 (s2 a b) + hi51 (s1 a b), lo51 (s3 a b) + hi51 (s2 a b), lo51 (s4 a b) + hi51 (s3 a b)]
def wd (k : List UInt8) (i : Nat) : UInt64 := readL ((k.drop (8 * i)).take 8)
def loadL (k : List UInt8) : List UInt64 := [wd k 0 &&& UInt64.ofNat 2251799813685247, (shr64 (wd k 0) 51 ||| shl64 (wd k 1) 13) &&& UInt64.ofNat 2251799813685247, (shr64 (wd k 1) 38 ||| shl64 (wd k 2) 26) &&& UInt64.ofNat 2251799813685247, (shr64 (wd k 2) 25 ||| shl64 (wd k 3) 39) &&& UInt64.ofNat 2251799813685247, shr64 (wd k 3) 12 &&& UInt64.ofNat 2251799813685247]
def oneL : List UInt64 := [1, 0, 0, 0, 0]
def zeroL : List UInt64 := [0, 0, 0, 0, 0]
/-- the power after n rounds -/
def invN (a : List UInt64) : Nat → List UInt64
  | 0 => oneL
  | n + 1 => if (254 - n = 2 ∨ 254 - n = 4) then mulL (invN a n) (invN a n) else mulL (mulL (invN a n) (invN a n)) a
def gCar : SpecF := fun args => match args with
  | [.w (.agg [.vec (.n 5) (.u64 a)])] => some ([], .w (.agg [.vec (.n 5) (.u64 (carL a))]))
  | _ => none
def gAdd : SpecF := fun args => match args with
  | [.w (.agg [.vec (.n 5) (.u64 a)]), .w (.agg [.vec (.n 5) (.u64 b)])] => some ([], .w (.agg [.vec (.n 5) (.u64 (addL a b))]))
  | _ => none
def gSub : SpecF := fun args => match args with
  | [.w (.agg [.vec (.n 5) (.u64 a)]), .w (.agg [.vec (.n 5) (.u64 b)])] => some ([], .w (.agg [.vec (.n 5) (.u64 (subL a b))]))
  | _ => none
def gWPlus : SpecF := fun args => match args with
  | [.w (.agg [.one (.u64 h), .one (.u64 l)]), .w (.s (.u64 x)), .w (.s (.u64 y))] => some ([], .w (.agg [.one (.u64 (u ((l.toNat + D64 * h.toNat + x.toNat * y.toNat) / D64))), .one (.u64 (u (l.toNat + D64 * h.toNat + x.toNat * y.toNat)))]))
  | _ => none
def gFMul : SpecF := fun args => match args with
  | [.w (.agg [.vec (.n 5) (.u64 a)]), .w (.agg [.vec (.n 5) (.u64 b)])] => some ([], .w (.agg [.vec (.n 5) (.u64 (mulL a b))]))
  | _ => none
def gLoad : SpecF := fun args => match args with
  | [.w (.agg [.vec (.n 32) (.u8 k)])] => some ([], .w (.agg [.vec (.n 5) (.u64 (loadL k))]))
  | _ => none
def gInv : SpecF := fun args => match args with
  | [.w (.agg [.vec (.n 5) (.u64 a)])] => some ([], .w (.agg [.vec (.n 5) (.u64 (invN a 255))]))
  | _ => none
/-- slot names: what lies in the block that a slot leads to -/
noncomputable def vecAt (σ : St) (t : Nat) : Option (List UInt64) :=
  match names σ.fr t with
  | some k => match getO σ.own k with
    | some [.vec _ (.u64 l)] => some l
    | _ => none
  | none => none
noncomputable def JInv (σ : St) : Option Inv :=
  match names σ.fr 3, vecAt σ 1 with
  | some kb, some a => some {
      α := Nat
      ok := fun n => n ≤ 255
      mu := fun n => 255 - n
      keep := [1, 2, 3]
      slots := fun n => [(4, .s (.i64 (254 - (n : Int))))]
      own := fun n => [(kb, some [.vec (.n 5) (.u64 (invN a n))])]
      ext := fun _ => [] }
  | _, _ => none
def clampL (k : List UInt8) : List UInt8 := (k.set 0 (k.getD 0 0 &&& UInt8.ofNat 248)).set 31 ((k.getD 31 0 &&& UInt8.ofNat 127) ||| UInt8.ofNat 64)
def gClamp : SpecF := fun args => match args with
  | [.w (.agg [.vec (.n 32) (.u8 k)])] => some ([], .w (.agg [.vec (.n 32) (.u8 (clampL k))]))
  | _ => none
end Go.Cur
