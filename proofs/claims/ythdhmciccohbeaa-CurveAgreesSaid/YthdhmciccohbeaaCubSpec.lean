/- A step towards CurveAgreesSaid: no conditions. -/
import Derived.Test.YthdhmciccohbeaaCurSpec
namespace Go.Cur
open Go Go.Eng Go.Cod Go.Pol
def qL (c : List UInt64) : UInt64 := shr64 (g c 4 + shr64 (g c 3 + shr64 (g c 2 + shr64 (g c 1 + shr64 (g c 0 + UInt64.ofNat 19) 51) 51) 51) 51) 51
def b0 (c : List UInt64) : UInt64 := g c 0 + UInt64.ofNat 19 * qL c
def b1 (c : List UInt64) : UInt64 := g c 1 + shr64 (b0 c) 51
def b2 (c : List UInt64) : UInt64 := g c 2 + shr64 (b1 c) 51
def b3 (c : List UInt64) : UInt64 := g c 3 + shr64 (b2 c) 51
def b4 (c : List UInt64) : UInt64 := g c 4 + shr64 (b3 c) 51
def mk (x : UInt64) : UInt64 := x &&& UInt64.ofNat 2251799813685247
def wordsL (c : List UInt64) : List UInt64 := [mk (b0 c) ||| shl64 (mk (b1 c)) 51, shr64 (mk (b1 c)) 13 ||| shl64 (mk (b2 c)) 38, shr64 (mk (b2 c)) 26 ||| shl64 (mk (b3 c)) 25, shr64 (mk (b3 c)) 39 ||| shl64 (mk (b4 c)) 12]
def bytesW (w : List UInt64) : List UInt8 := littleL (g w 0) 8 ++ (littleL (g w 1) 8 ++ (littleL (g w 2) 8 ++ littleL (g w 3) 8))
def bytesL (a : List UInt64) : List UInt8 := bytesW (wordsL (carL a))
def gBytes : SpecF := fun args => match args with
  | [.w (.agg [.vec (.n 5) (.u64 a)])] => some ([], .w (.agg [.vec (.n 32) (.u8 (bytesL a))]))
  | _ => none
structure Lad where
  x2 : List UInt64
  z2 : List UInt64
  x3 : List UInt64
  z3 : List UInt64
  last : UInt8
def bitL (n : List UInt8) (t : Nat) : UInt8 := shr8 (n.getD (t / 8) 0) (t % 8) &&& UInt8.ofNat 1
def swL (k : UInt8) (l : Lad) : Lad := if k = l.last then l else ⟨l.x3, l.z3, l.x2, l.z2, l.last⟩
def stL (x1 : List UInt64) (k : UInt8) (l : Lad) : Lad :=
  ⟨mulL (mulL (addL l.x2 l.z2) (addL l.x2 l.z2)) (mulL (subL l.x2 l.z2) (subL l.x2 l.z2)),
   mulL (addL (mulL (subL (mulL (addL l.x2 l.z2) (addL l.x2 l.z2)) (mulL (subL l.x2 l.z2) (subL l.x2 l.z2))) [UInt64.ofNat 121665, 0, 0, 0, 0]) (mulL (addL l.x2 l.z2) (addL l.x2 l.z2))) (subL (mulL (addL l.x2 l.z2) (addL l.x2 l.z2)) (mulL (subL l.x2 l.z2) (subL l.x2 l.z2))),
   mulL (addL (mulL (subL l.x3 l.z3) (addL l.x2 l.z2)) (mulL (addL l.x3 l.z3) (subL l.x2 l.z2))) (addL (mulL (subL l.x3 l.z3) (addL l.x2 l.z2)) (mulL (addL l.x3 l.z3) (subL l.x2 l.z2))),
   mulL (mulL (subL (mulL (subL l.x3 l.z3) (addL l.x2 l.z2)) (mulL (addL l.x3 l.z3) (subL l.x2 l.z2))) (subL (mulL (subL l.x3 l.z3) (addL l.x2 l.z2)) (mulL (addL l.x3 l.z3) (subL l.x2 l.z2)))) x1,
   k⟩
def ladL (n : List UInt8) (x1 : List UInt64) : Nat → Lad
  | 0 => ⟨oneL, zeroL, x1, oneL, 0⟩
  | i + 1 => stL x1 (bitL n (254 - i)) (swL (bitL n (254 - i)) (ladL n x1 i))
def endL (l : Lad) : List UInt8 := if l.last = UInt8.ofNat 1 then bytesL (mulL l.x3 (invN l.z3 255)) else bytesL (mulL l.x2 (invN l.z2 255))
def keyL (s p : List UInt8) : List UInt8 := endL (ladL (clampL s) (loadL p) 255)
def gMulP : SpecF := fun args => match args with
  | [.w (.agg [.vec (.n 32) (.u8 s)]), .w (.agg [.vec (.n 32) (.u8 p)])] => some ([], .w (.agg [.vec (.n 32) (.u8 (keyL s p))]))
  | _ => none
noncomputable def byteAt (σ : St) (t : Nat) : Option (List UInt8) :=
  match names σ.fr t with
  | some k => match getO σ.own k with
    | some [.vec _ (.u8 l)] => some l
    | _ => none
  | none => none
noncomputable def JMul (σ : St) : Option Inv :=
  match names σ.fr 7, names σ.fr 8, names σ.fr 9, names σ.fr 10 with
  | some k2, some m2, some k3, some m3 => match byteAt σ 5, vecAt σ 6 with
    | some n, some x1 => some {
        α := Nat
        ok := fun i => i ≤ 255
        mu := fun i => 255 - i
        keep := [2, 3, 4, 5, 6, 7, 8, 9, 10]
        slots := fun i => [(12, .s (.i64 (254 - (i : Int)))), (11, .s (.u8 (ladL n x1 i).last))]
        own := fun i => [(k2, some [.vec (.n 5) (.u64 (ladL n x1 i).x2)]), (m2, some [.vec (.n 5) (.u64 (ladL n x1 i).z2)]), (k3, some [.vec (.n 5) (.u64 (ladL n x1 i).x3)]), (m3, some [.vec (.n 5) (.u64 (ladL n x1 i).z3)])]
        ext := fun _ => [] }
    | _, _ => none
  | _, _, _, _ => none
end Go.Cur
