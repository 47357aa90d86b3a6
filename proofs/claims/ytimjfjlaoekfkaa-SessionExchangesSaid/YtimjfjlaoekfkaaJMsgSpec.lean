/- Steps towards SessionExchangesSaid. -/
import Derived.Test.YtimjfjlaoekfkaaJChaSpec
import Derived.Test.YtimjfjlaoekfkaaJCodNum
import Derived.Test.YtimjfjlaoekfkaaEngD
import Derived.KernelRfl
/- A step towards SessionExchangesSaid: no conditions. -/
namespace Go.Msg
open Go Go.Eng Go.Cod
def initL (s : UInt32) (e st t m1 m2 : List UInt8) : List UInt8 := [1, 0, 0, 0] ++ (littleL s.toUInt64 4 ++ (e ++ (st ++ (t ++ (m1 ++ m2)))))
def respL (s r : UInt32) (e em m1 m2 : List UInt8) : List UInt8 := [2, 0, 0, 0] ++ (littleL s.toUInt64 4 ++ (littleL r.toUInt64 4 ++ (e ++ (em ++ (m1 ++ m2)))))
def cookL (r : UInt32) (n c : List UInt8) : List UInt8 := [3, 0, 0, 0] ++ (littleL r.toUInt64 4 ++ (n ++ c))
def tranL (r : UInt32) (c : UInt64) (b : List UInt8) : List UInt8 := [4, 0, 0, 0] ++ (littleL r.toUInt64 4 ++ (littleL c 8 ++ b))
def tranR (r : UInt32) (c : UInt64) (b : List UInt8) : List UInt8 := if b.length < 16 then [] else if 2084 < b.length then [] else tranL r c b
def tranE (b : List UInt8) : Int := if b.length < 16 then 2 else if 2084 < b.length then 3 else 0
def gInit : SpecF := fun args => match args with
  | [.w (.agg [.one (.u32 s), .vec (.n 32) (.u8 e), .vec (.n 48) (.u8 st), .vec (.n 28) (.u8 t), .vec (.n 16) (.u8 m1), .vec (.n 16) (.u8 m2)])] => some ([], .s (.xs 1 (.n 148) (.u8 (initL s e st t m1 m2))))
  | _ => none
def gResp : SpecF := fun args => match args with
  | [.w (.agg [.one (.u32 s), .one (.u32 r), .vec (.n 32) (.u8 e), .vec (.n 16) (.u8 em), .vec (.n 16) (.u8 m1), .vec (.n 16) (.u8 m2)])] => some ([], .s (.xs 1 (.n 92) (.u8 (respL s r e em m1 m2))))
  | _ => none
def gCook : SpecF := fun args => match args with
  | [.w (.agg [.one (.u32 r), .vec (.n 24) (.u8 n), .vec (.n 32) (.u8 c)])] => some ([], .s (.xs 1 (.n 64) (.u8 (cookL r n c))))
  | _ => none
def gTran : SpecF := fun args => match args with
  | [.w (.agg [.one (.u32 r), .one (.u64 c), .one (.xs 1 (.s m) (.u8 b))])] => some ([m = b.length, m ≤ 4294967296], .tup [.s (.xs 1 (.s (tranR r c b).length) (.u8 (tranR r c b))), .s (.i64 (tranE b))])
  | _ => none
def gTrue0 : SpecF := fun args => match args with
  | [] => some ([], .s (.b true))
  | _ => none
def gU32 : SpecF := fun args => match args with
  | [.w (.s (.u32 n))] => some ([], .s (.xs 1 (.n 4) (.u8 [(shr64 n.toUInt64 0).toUInt8, (shr64 n.toUInt64 8).toUInt8, (shr64 n.toUInt64 16).toUInt8, (shr64 n.toUInt64 24).toUInt8])))
  | _ => none
end Go.Msg

/- A step towards SessionExchangesSaid: no conditions. -/
namespace Go.Msg
open Go Go.Eng Go.Cod
def kindL (b : List UInt8) : Int :=
  if b.length < 4 ∨ b.getD 1 0 ≠ 0 ∨ b.getD 2 0 ≠ 0 ∨ b.getD 3 0 ≠ 0 then 0 else
    if (b.getD 0 0 = 1 ∧ b.length = 148) ∨ (b.getD 0 0 = 2 ∧ b.length = 92) ∨ (b.getD 0 0 = 3 ∧ b.length = 64) ∨ (b.getD 0 0 = 4 ∧ 32 ≤ b.length ∧ b.length ≤ 2100) then ((b.getD 0 0).toNat : Int) else 0
/-- n bytes from place o on, of a message of kind k -/
def fld (k : Int) (b : List UInt8) (o n : Nat) : List UInt8 := if kindL b = k then (b.drop o).take n else List.replicate n 0
def fld32 (k : Int) (b : List UInt8) (o : Nat) : UInt32 := if kindL b = k then (readL ((b.drop o).take 4)).toUInt32 else 0
def fld64 (k : Int) (b : List UInt8) (o : Nat) : UInt64 := if kindL b = k then readL ((b.drop o).take 8) else 0
def fldR (k : Int) (b : List UInt8) (o : Nat) : List UInt8 := if kindL b = k then b.drop o else []
def decE (k : Int) (b : List UInt8) : Int := if kindL b = k then 0 else 4
def gKind : SpecF := fun args => match args with
  | [.w (.s (.xs 1 (.s m) (.u8 b)))] => some ([m = b.length, m ≤ 4294967296], .s (.i64 (kindL b)))
  | _ => none
def gN32 : SpecF := fun args => match args with
  | [.w (.s (.xs 1 (.s m) (.u8 b)))] => some ([m = b.length, 4 ≤ m], .s (.u32 (readL (b.take 4)).toUInt32))
  | _ => none
def dInit (b : List UInt8) : V := .tup [.agg [.one (.u32 (fld32 1 b 4)), .vec (.n 32) (.u8 (fld 1 b 8 32)), .vec (.n 48) (.u8 (fld 1 b 40 48)), .vec (.n 28) (.u8 (fld 1 b 88 28)), .vec (.n 16) (.u8 (fld 1 b 116 16)), .vec (.n 16) (.u8 (fld 1 b 132 16))], .s (.i64 (decE 1 b))]
def dResp (b : List UInt8) : V := .tup [.agg [.one (.u32 (fld32 2 b 4)), .one (.u32 (fld32 2 b 8)), .vec (.n 32) (.u8 (fld 2 b 12 32)), .vec (.n 16) (.u8 (fld 2 b 44 16)), .vec (.n 16) (.u8 (fld 2 b 60 16)), .vec (.n 16) (.u8 (fld 2 b 76 16))], .s (.i64 (decE 2 b))]
def dCook (b : List UInt8) : V := .tup [.agg [.one (.u32 (fld32 3 b 4)), .vec (.n 24) (.u8 (fld 3 b 8 24)), .vec (.n 32) (.u8 (fld 3 b 32 32))], .s (.i64 (decE 3 b))]
def dTran (b : List UInt8) : V := .tup [.agg [.one (.u32 (fld32 4 b 4)), .one (.u64 (fld64 4 b 8)), .one (.xs 1 (.s (fldR 4 b 16).length) (.u8 (fldR 4 b 16)))], .s (.i64 (decE 4 b))]
def gDec (d : List UInt8 → V) : SpecF := fun args => match args with
  | [.w (.s (.xs 1 (.s m) (.u8 b)))] => some ([m = b.length, m ≤ 4294967296], d b)
  | _ => none
end Go.Msg

/- A step towards SessionExchangesSaid: no conditions. -/
namespace Go.Win
open Go Go.Eng
structure Win where
  u : Bool
  t : UInt64
  ws : List UInt64
def chk (w : Win) (c : UInt64) : Bool :=
  !w.u || decide (w.t < c) || (decide (w.t / 64 - c / 64 < 4) && (shr64 (w.ws.getD (c / 64 % 4).toNat 0) (c % 64).toNat &&& 1 == 0))
def clr (ws : List UInt64) (b : UInt64) : Nat → List UInt64
  | 0 => ws
  | n + 1 => (clr ws b n).set ((b + 1 + UInt64.ofNat n) % 4).toNat 0
def m4 (x : UInt64) : UInt64 := if 4 < x then 4 else x
def acc1 (w : Win) (c : UInt64) : Win :=
  if w.u then if w.t < c then ⟨w.u, c, clr w.ws (w.t / 64) (m4 (c / 64 - w.t / 64)).toNat⟩ else w else ⟨true, c, List.replicate 4 0⟩
def orAt (l : List UInt64) (c : UInt64) : List UInt64 := l.set (c / 64 % 4).toNat (l.getD (c / 64 % 4).toNat 0 ||| shl64 1 (c % 64).toNat)
def acc (w : Win) (c : UInt64) : Win :=
  if chk w c then ⟨(acc1 w c).u, (acc1 w c).t, orAt (acc1 w c).ws c⟩ else w
abbrev Win.V (w : Win) : V := .agg [.one (.b w.u), .one (.u64 w.t), .vec (.n 4) (.u64 w.ws)]
abbrev Win.W (w : Win) : Go.Eng.W := .agg [.one (.b w.u), .one (.u64 w.t), .vec (.n 4) (.u64 w.ws)]
def gCheck : SpecF := fun args => match args with
  | [.w (.agg [.one (.b u), .one (.u64 t), .vec (.n 4) (.u64 ws)]), .w (.s (.u64 c))] => some ([], .s (.b (chk ⟨u, t, ws⟩ c)))
  | _ => none
def gAcc : SpecF := fun args => match args with
  | [.w (.agg [.one (.b u), .one (.u64 t), .vec (.n 4) (.u64 ws)]), .w (.s (.u64 c))] => some ([], .tup [(acc ⟨u, t, ws⟩ c).W, .s (.b (chk ⟨u, t, ws⟩ c))])
  | _ => none
noncomputable def JA (σ : St) : Option Inv :=
  match getO σ.own 0, getF σ.fr 33 with
  | some [_, .one (.u64 t), .vec _ (.u64 ws)], .w (.s (.u64 m)) => some {
      α := Nat
      ok := fun n => n ≤ m.toNat
      mu := fun n => m.toNat - n
      keep := [1, 2, 4, 6, 7, 33]
      slots := fun n => [(34, .s (.u64 (UInt64.ofNat n)))]
      own := fun n => [(0, some [.one (.b true), .one (.u64 t), .vec (.n 4) (.u64 (clr ws (t / 64) n))])]
      ext := fun _ => [] }
  | _, _ => none
noncomputable def JB (σ : St) : Option Inv :=
  match getO σ.own 0, getF σ.fr 1 with
  | some [_, .one (.u64 t), .vec _ (.u64 ws)], .w (.s (.u64 c)) => some {
      α := Nat
      ok := fun n => n ≤ (m4 (c / 64 - t / 64)).toNat
      mu := fun n => (m4 (c / 64 - t / 64)).toNat - n
      keep := [1, 2, 4]
      slots := fun n => [(6, .s (.u64 (1 + UInt64.ofNat n)))]
      own := fun n => [(0, some [.one (.b true), .one (.u64 t), .vec (.n 4) (.u64 (clr ws (t / 64) n))])]
      ext := fun _ => [] }
  | _, _ => none
end Go.Win

/- A step towards SessionExchangesSaid: no conditions. -/
namespace Go.Ses
open Go Go.Eng Go.Cod Go.Cha Go.Pol Go.Aed Go.Msg Go.Win
structure Ses where
  lo : UInt32
  re : UInt32
  sd : List UInt8
  rv : List UInt8
  nx : UInt64
  fe : UInt64
  wu : Bool
  wt : UInt64
  ww : List UInt64
  bo : Int
  ini : Bool
abbrev Ses.C (s : Ses) : List Ch := [.one (.u32 s.lo), .one (.u32 s.re), .vec (.n 32) (.u8 s.sd), .vec (.n 32) (.u8 s.rv), .one (.u64 s.nx), .one (.u64 s.fe), .one (.b s.wu), .one (.u64 s.wt), .vec (.n 4) (.u64 s.ww), .one (.i64 s.bo), .one (.b s.ini)]
def zS : Ses := ⟨0, 0, List.replicate 32 0, List.replicate 32 0, 0, 0, false, 0, List.replicate 4 0, 0, false⟩
def maxC : UInt64 := 18446744073709543423
def gPad : SpecF := fun args => match args with
  | [.w (.s (.xs 1 (.s m) (.u8 b)))] => some ([m = b.length, b.length ≤ 4294967000], .s (.xs 1 (.s (fillL b).length) (.u8 (fillL b))))
  | _ => none
def newS (lo re : UInt32) (sd rv : List UInt8) (bo : Int) (ini : Bool) (fe : UInt64) : Ses := ⟨lo, re, sd, rv, 0, fe, false, 0, List.replicate 4 0, bo, ini⟩
def gNew : SpecF := fun args => match args with
  | [.w (.s (.u32 lo)), .w (.s (.u32 re)), .w (.agg [.vec (.n 32) (.u8 sd)]), .w (.agg [.vec (.n 32) (.u8 rv)]), .w (.s (.i64 bo)), .w (.s (.b ini)), .w (.s (.u64 fe))] => some ([], .w (.agg (newS lo re sd rv bo ini fe).C))
  | _ => none
def sSealE (s : Ses) (limit : UInt64) (p : List UInt8) : Int := if 2000 < p.length then 3 else if s.nx < s.fe ∧ s.nx < limit ∧ s.nx < maxC then 0 else 12
def sBody (s : Ses) (p : List UInt8) : List UInt8 := sealL s.sd (countL s.nx) (fillL p) []
def sSealL (s : Ses) (limit : UInt64) (p : List UInt8) : List UInt8 := if sSealE s limit p = 0 then tranL s.re s.nx (sBody s p) else []
def sSealS (s : Ses) (limit : UInt64) (p : List UInt8) : Ses := if sSealE s limit p = 0 then ⟨s.lo, s.re, s.sd, s.rv, s.nx + 1, s.fe, s.wu, s.wt, s.ww, s.bo, s.ini⟩ else zS
def gSSeal : SpecF := fun args => match args with
  | [.w (.agg [.one (.u32 lo), .one (.u32 re), .vec (.n 32) (.u8 sd), .vec (.n 32) (.u8 rv), .one (.u64 nx), .one (.u64 fe), .one (.b wu), .one (.u64 wt), .vec (.n 4) (.u64 ww), .one (.i64 bo), .one (.b ini)]), .w (.s (.u64 limit)), .w (.s (.xs 1 (.s m) (.u8 p)))] =>
    some ([m = p.length, p.length ≤ 1073741824], .tup [.agg (sSealS ⟨lo, re, sd, rv, nx, fe, wu, wt, ww, bo, ini⟩ limit p).C, .s (.xs 1 (.s (sSealL ⟨lo, re, sd, rv, nx, fe, wu, wt, ww, bo, ini⟩ limit p).length) (.u8 (sSealL ⟨lo, re, sd, rv, nx, fe, wu, wt, ww, bo, ini⟩ limit p))), .s (.i64 (sSealE ⟨lo, re, sd, rv, nx, fe, wu, wt, ww, bo, ini⟩ limit p))])
  | _ => none
def sOpenE (s : Ses) (limit : UInt64) (b : List UInt8) : Int :=
  if kindL b ≠ 4 then 4 else if fld32 4 b 4 ≠ s.lo then 9 else if ¬ (fld64 4 b 8 < limit ∧ fld64 4 b 8 < maxC) then 12 else if chk ⟨s.wu, s.wt, s.ww⟩ (fld64 4 b 8) = false then 10
    else if openE s.rv (countL (fld64 4 b 8)) (fldR 4 b 16) [] ≠ 0 then 6 else 0
def sOpenL (s : Ses) (limit : UInt64) (b : List UInt8) : List UInt8 := if sOpenE s limit b = 0 then openL s.rv (countL (fld64 4 b 8)) (fldR 4 b 16) [] else []
def sOpenS (s : Ses) (limit : UInt64) (b : List UInt8) : Ses := if sOpenE s limit b = 0 then ⟨s.lo, s.re, s.sd, s.rv, s.nx, s.fe, (acc ⟨s.wu, s.wt, s.ww⟩ (fld64 4 b 8)).u, (acc ⟨s.wu, s.wt, s.ww⟩ (fld64 4 b 8)).t, (acc ⟨s.wu, s.wt, s.ww⟩ (fld64 4 b 8)).ws, s.bo, s.ini⟩ else zS
def gSOpen : SpecF := fun args => match args with
  | [.w (.agg [.one (.u32 lo), .one (.u32 re), .vec (.n 32) (.u8 sd), .vec (.n 32) (.u8 rv), .one (.u64 nx), .one (.u64 fe), .one (.b wu), .one (.u64 wt), .vec (.n 4) (.u64 ww), .one (.i64 bo), .one (.b ini)]), .w (.s (.u64 limit)), .w (.s (.xs 1 (.s m) (.u8 b)))] =>
    some ([m = b.length, b.length ≤ 1073741824], .tup [.agg (sOpenS ⟨lo, re, sd, rv, nx, fe, wu, wt, ww, bo, ini⟩ limit b).C, .s (.xs 1 (.s (sOpenL ⟨lo, re, sd, rv, nx, fe, wu, wt, ww, bo, ini⟩ limit b).length) (.u8 (sOpenL ⟨lo, re, sd, rv, nx, fe, wu, wt, ww, bo, ini⟩ limit b))), .s (.i64 (sOpenE ⟨lo, re, sd, rv, nx, fe, wu, wt, ww, bo, ini⟩ limit b))])
  | _ => none
/-- the datagram of the other side -/
def sealedL (s : Ses) (c : UInt64) (p : List UInt8) : List UInt8 := tranL s.lo c (sealL s.rv (countL c) (fillL p) [])
def gSealed : SpecF := fun args => match args with
  | [.w (.agg [.one (.u32 lo), .one (.u32 re), .vec (.n 32) (.u8 sd), .vec (.n 32) (.u8 rv), .one (.u64 nx), .one (.u64 fe), .one (.b wu), .one (.u64 wt), .vec (.n 4) (.u64 ww), .one (.i64 bo), .one (.b ini)]), .w (.s (.u64 c)), .w (.s (.xs 1 (.s m) (.u8 p)))] =>
    some ([m = p.length, p.length ≤ 2000], .s (.xs 1 (.s (sealedL ⟨lo, re, sd, rv, nx, fe, wu, wt, ww, bo, ini⟩ c p).length) (.u8 (sealedL ⟨lo, re, sd, rv, nx, fe, wu, wt, ww, bo, ini⟩ c p))))
  | _ => none
end Go.Ses
