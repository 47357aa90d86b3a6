/- Steps towards SessionExchangesSaid. -/
import Derived.Test.YtimjfjlaoekfkaaJMsgSpec
import Derived.Test.YtimjfjlaoekfkaaJCodNum
/- A step towards SessionExchangesSaid: no conditions. -/
namespace Go.Ses
open Go Go.Eng Go.Cod Go.Cha Go.Pol Go.Aed Go.Msg Go.Win
/-! what one side seals the other one opens -/
def exA (sd rv : List UInt8) (i : Nat) : Ses := ⟨UInt32.ofNat 7, UInt32.ofNat 8, sd, rv, UInt64.ofNat i, UInt64.ofNat 1000, false, 0, List.replicate 4 0, 0, true⟩
def exM (sd rv : List UInt8) (ks : List (List UInt8)) (i : Nat) : List UInt8 := sSealL (exA sd rv i) (UInt64.ofNat 1000) ((ks.getD i []).take 40)
def exL (sd rv : List UInt8) (ks : List (List UInt8)) (i : Nat) : List (List UInt8) := (List.range i).map (exM sd rv ks)
noncomputable def JE0 (σ : St) : Option Inv :=
  match names σ.fr 9, getF σ.fr 37 with
  | some ka, .w (.s (.xs _ _ (.sl ks))) => match getO σ.own ka with
    | some [lo, re, .vec sn (.u8 sd), .vec rn (.u8 rv), _, fe, wu, wt, ww, bo, ini] => some {
        α := Nat
        ok := fun i => i ≤ ks.length
        mu := fun i => ks.length - i
        keep := [2, 3, 9, 10, 37, 38]
        slots := fun i => [(39, .s (.i64 i)), (11, .s (.sl σ.own.length 0 (.n 0) (.s i) 1))]
        own := fun i => [(ka, some [lo, re, .vec sn (.u8 sd), .vec rn (.u8 rv), .one (.u64 (UInt64.ofNat i)), fe, wu, wt, ww, bo, ini])]
        ext := fun i => [(11, [.vec (.s i) (.sl (exL sd rv ks i))])] }
    | _ => none
  | _, _ => none
structure SX where
  w : Win
  d : List Bool
def exS (os : List UInt8) (n : Nat) : Nat → SX
  | 0 => ⟨⟨false, 0, List.replicate 4 0⟩, List.replicate n false⟩
  | j + 1 => if (exS os n j).d.getD ((os.getD j 0).toNat % n) false = true then exS os n j else ⟨acc (exS os n j).w (UInt64.ofNat ((os.getD j 0).toNat % n)), (exS os n j).d.set ((os.getD j 0).toNat % n) true⟩
noncomputable def JE2 (σ : St) : Option Inv :=
  match names σ.fr 10, names σ.fr 19, names σ.fr 11, getF σ.fr 88 with
  | some kb, some kd, some kl, .w (.s (.xs _ _ (.u8 os))) => match getO σ.own kb, getO σ.own kl with
    | some [lo, re, sd, rv, nx, fe, _, _, _, bo, ini], some [.vec _ (.sl ls)] => some {
        α := Nat
        ok := fun j => j ≤ os.length
        mu := fun j => os.length - j
        keep := [2, 9, 10, 11, 19, 88, 89]
        slots := fun j => [(90, .s (.i64 j))]
        own := fun j => [(kb, some [lo, re, sd, rv, nx, fe, .one (.b (exS os ls.length j).w.u), .one (.u64 (exS os ls.length j).w.t), .vec (.n 4) (.u64 (exS os ls.length j).w.ws), bo, ini]), (kd, some [.vec (.s ls.length) (.bo (exS os ls.length j).d)])]
        ext := fun _ => [] }
    | _, _ => none
  | _, _, _, _ => none
end Go.Ses

/- A step towards SessionExchangesSaid: no conditions. -/
namespace Go.Pol
open Go Go.Eng Go.Cod
def gTrue0 : SpecF := fun args => match args with
  | [] => some ([], .s (.b true))
  | _ => none
/-- what is carried into byte i -/
def car (a s : List UInt8) (i : Nat) : Nat := (natL a % 256 ^ i + natL s % 256 ^ i) / 256 ^ i
noncomputable def JAdds (σ : St) : Option Inv :=
  match names σ.fr 2, names σ.fr 8 with
  | some p, some q => match getO σ.own p, getO σ.own q with
    | some [.vec _ (.u8 k)], some [.vec _ (.u8 a)] => some {
        α := Nat
        ok := fun i => i ≤ 16
        mu := fun i => 16 - i
        keep := [2, 4, 8, 9]
        slots := fun i => [(28, .s (.i64 i)), (10, .s (.i64 (car a (k.drop 16) i : Nat)))]
        own := fun _ => []
        ext := fun _ => [] }
    | _, _ => none
  | _, _ => none
end Go.Pol
