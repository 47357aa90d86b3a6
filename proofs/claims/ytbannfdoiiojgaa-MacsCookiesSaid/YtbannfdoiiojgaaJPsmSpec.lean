/- Steps towards MacsCookiesSaid. -/
import Derived.Test.YtbannfdoiiojgaaJMdcSpec
import Derived.Test.YtbannfdoiiojgaaJBlhSpec
/- A step towards MacsCookiesSaid: no conditions. -/
namespace Go.Pol
open Go Go.Eng Go.Cod
/-- block j of a text, a one behind it -/
def blkP (d : List UInt8) (j : Nat) : Nat := natL ((d.drop (16 * j)).take 16) + 256 ^ (min 16 (d.length - 16 * j))
def hN (r : Nat) (d : List UInt8) : Nat → Nat
  | 0 => 0
  | j + 1 => red1 ((hN r d j + blkP d j) * r)
def nbP (d : List UInt8) : Nat := (d.length + 15) / 16
def r0 (k : List UInt8) : UInt64 := readL (k.take 8) &&& UInt64.ofNat 1152921487695413247
def r1 (k : List UInt8) : UInt64 := readL ((k.drop 8).take 8) &&& UInt64.ofNat 1152921487695413244
def rOf (k : List UInt8) : Nat := (r0 k).toNat + D64 * (r1 k).toNat
def sOf (k : List UInt8) : Nat := (readL ((k.drop 16).take 8)).toNat + D64 * (readL ((k.drop 24).take 8)).toNat
def redP (h : Nat) : Nat := if h < P130 then h else h - P130
def polyN (k d : List UInt8) : Nat := redP (hN (rOf k) d (nbP d)) + sOf k
def polyL (k d : List UInt8) : List UInt8 := littleL (u (polyN k d)) 8 ++ littleL (u (polyN k d / D64)) 8
def gPoly : SpecF := fun args => match args with
  | [.w (.agg [.vec (.n 32) (.u8 k)]), .w (.s (.xs 1 (.s m) (.u8 d)))] => some ([m = d.length, d.length ≤ 4294967296], .w (.agg [.vec (.n 16) (.u8 (polyL k d))]))
  | _ => none
noncomputable def JPoly (σ : St) : Option Inv :=
  match getF σ.fr 1, names σ.fr 7, getF σ.fr 5, getF σ.fr 6 with
  | .w (.s (.xs _ _ (.u8 d))), some kh, .w (.s (.u64 r)), .w (.s (.u64 s)) => some {
      α := Nat
      ok := fun j => j ≤ nbP d
      mu := fun j => nbP d - j
      keep := [2, 4, 5, 6, 7]
      slots := fun j => [(1, .s (.xs 1 (.s (d.drop (16 * j)).length) (.u8 (d.drop (16 * j)))))]
      own := fun j => [(kh, some [.vec (.n 3) (.u64 (w3 (hN (r.toNat + D64 * s.toNat) d j)))])]
      ext := fun _ => [] }
  | _, _, _, _ => none
end Go.Pol

/- A step towards MacsCookiesSaid: no conditions. -/
namespace Go.Aed
open Go Go.Eng Go.Cod Go.Cha Go.Pol
def dif (a b : List UInt8) : Nat → UInt8
  | 0 => 0
  | i + 1 => dif a b i ||| (a.getD i 0 ^^^ b.getD i 0)
def gEqual : SpecF := fun args => match args with
  | [.w (.s (.xs 1 (.s m) (.u8 a))), .w (.s (.xs 1 (.s n) (.u8 b)))] => some ([m = a.length, n = b.length, a.length < 4611686018427387904, b.length < 4611686018427387904], .s (.b (a == b)))
  | _ => none
noncomputable def JEqual (σ : St) : Option Inv :=
  match getF σ.fr 0, getF σ.fr 1 with
  | .w (.s (.xs _ _ (.u8 a))), .w (.s (.xs _ _ (.u8 b))) => some {
      α := Nat
      ok := fun i => i ≤ a.length
      mu := fun i => a.length - i
      keep := [0, 1, 13]
      slots := fun i => [(5, .s (.u8 (dif a b i))), (14, .s (.i64 i))]
      own := fun _ => []
      ext := fun _ => [] }
  | _, _ => none
def zp (n : Nat) : Nat := (16 - n % 16) % 16
def zerosL (n : Nat) : List UInt8 := List.replicate (zp n) 0
def gFilled : SpecF := fun args => match args with
  | [.w (.s (.xs 1 (.s m) (.u8 b)))] => some ([m = b.length, b.length ≤ 4294967296], .s (.xs 1 (.s (zp b.length)) (.u8 (zerosL b.length))))
  | _ => none
def fillL (b : List UInt8) : List UInt8 := b ++ zerosL b.length
def gFilledR : SpecF := fun args => match args with
  | [.w (.s (.xs 1 (.s m) (.u8 b)))] => some ([m = b.length, b.length ≤ 4294967000], .s (.xs 1 (.s (fillL b).length) (.u8 (fillL b))))
  | _ => none
noncomputable def JFilledR (σ : St) : Option Inv :=
  match getF σ.fr 0, names σ.fr 3 with
  | .w (.s (.xs _ _ (.u8 b))), some kb => some {
      α := Nat
      ok := fun i => i ≤ zp b.length
      mu := fun i => zp b.length - i
      keep := [0]
      slots := fun i => [(3, .s (.sl σ.own.length 0 (.n 0) (.s (b.length + i)) 1))]
      own := fun _ => [(kb, none)]
      ext := fun i => [(3, [.vec (.s (b.length + i)) (.u8 (b ++ List.replicate i 0))])] }
  | _, _ => none
def macL (c m : List UInt8) : List UInt8 := m ++ (zerosL m.length ++ (c ++ (zerosL c.length ++ (littleL (to64 m.length) 8 ++ littleL (to64 c.length) 8))))
def tagL (k n c m : List UInt8) : List UInt8 := polyL ((block k 0 n).take 32) (macL c m)
def gTag : SpecF := fun args => match args with
  | [.w (.agg [.vec (.n 32) (.u8 k)]), .w (.agg [.vec (.n 12) (.u8 n)]), .w (.s (.xs 1 (.s u) (.u8 c))), .w (.s (.xs 1 (.s v) (.u8 m)))] => some ([u = c.length, v = m.length, c.length ≤ 1073741824, m.length ≤ 1073741824], .w (.agg [.vec (.n 16) (.u8 (tagL k n c m))]))
  | _ => none
def sealL (k n p m : List UInt8) : List UInt8 := xorL k n 1 p ++ tagL k n (xorL k n 1 p) m
def gSeal : SpecF := fun args => match args with
  | [.w (.agg [.vec (.n 32) (.u8 k)]), .w (.agg [.vec (.n 12) (.u8 n)]), .w (.s (.xs 1 (.s u) (.u8 p))), .w (.s (.xs 1 (.s v) (.u8 m)))] => some ([u = p.length, v = m.length, p.length ≤ 1073741824, m.length ≤ 1073741824], .s (.xs 1 (.s (sealL k n p m).length) (.u8 (sealL k n p m))))
  | _ => none
def openE (k n s m : List UInt8) : Int := if s.length < 16 then 2 else if tagL k n (s.take (s.length - 16)) m = s.drop (s.length - 16) then 0 else 6
def openL (k n s m : List UInt8) : List UInt8 := if openE k n s m = 0 then xorL k n 1 (s.take (s.length - 16)) else []
def gOpen : SpecF := fun args => match args with
  | [.w (.agg [.vec (.n 32) (.u8 k)]), .w (.agg [.vec (.n 12) (.u8 n)]), .w (.s (.xs 1 (.s u) (.u8 s))), .w (.s (.xs 1 (.s v) (.u8 m)))] => some ([u = s.length, v = m.length, s.length ≤ 1073741824, m.length ≤ 1073741824], .tup [.s (.xs 1 (.s (openL k n s m).length) (.u8 (openL k n s m))), .s (.i64 (openE k n s m))])
  | _ => none
def countL (c : UInt64) : List UInt8 := List.replicate 4 0 ++ littleL c 8
def gCounter : SpecF := fun args => match args with
  | [.w (.s (.u64 c))] => some ([], .w (.agg [.vec (.n 12) (.u8 (countL c))]))
  | _ => none
end Go.Aed

/- A step towards MacsCookiesSaid: no conditions. -/
namespace Go.Xc
open Go Go.Eng Go.Cod Go.Cha Go.Pol Go.Aed
def b4 (x : UInt32) (r : List UInt8) : List UInt8 := (shr64 x.toUInt64 0).toUInt8 :: (shr64 x.toUInt64 8).toUInt8 :: (shr64 x.toUInt64 16).toUInt8 :: (shr64 x.toUInt64 24).toUInt8 :: r
def outD (o : List UInt32) : List UInt8 := b4 (o.getD 0 0) (b4 (o.getD 1 0) (b4 (o.getD 2 0) (b4 (o.getD 3 0) (b4 (o.getD 12 0) (b4 (o.getD 13 0) (b4 (o.getD 14 0) (b4 (o.getD 15 0) [])))))))
def deriveL (k i : List UInt8) : List UInt8 := outD (coreL (stateL k i))
def gDerive : SpecF := fun args => match args with
  | [.w (.agg [.vec (.n 32) (.u8 k)]), .w (.agg [.vec (.n 16) (.u8 i)])] => some ([], .w (.agg [.vec (.n 32) (.u8 (deriveL k i))]))
  | _ => none
def nonceL (n : List UInt8) : List UInt8 := List.replicate 4 0 ++ (n.drop 16).take 8
def keyL (k n : List UInt8) : List UInt8 := deriveL k (n.take 16)
def gInside : SpecF := fun args => match args with
  | [.w (.agg [.vec (.n 32) (.u8 k)]), .w (.agg [.vec (.n 24) (.u8 n)])] => some ([], .tup [.agg [.vec (.n 32) (.u8 (keyL k n))], .agg [.vec (.n 12) (.u8 (nonceL n))]])
  | _ => none
def gXSeal : SpecF := fun args => match args with
  | [.w (.agg [.vec (.n 32) (.u8 k)]), .w (.agg [.vec (.n 24) (.u8 n)]), .w (.s (.xs 1 (.s u) (.u8 p))), .w (.s (.xs 1 (.s v) (.u8 m)))] => some ([u = p.length, v = m.length, p.length ≤ 1073741824, m.length ≤ 1073741824], .s (.xs 1 (.s (sealL (keyL k n) (nonceL n) p m).length) (.u8 (sealL (keyL k n) (nonceL n) p m))))
  | _ => none
def gXOpen : SpecF := fun args => match args with
  | [.w (.agg [.vec (.n 32) (.u8 k)]), .w (.agg [.vec (.n 24) (.u8 n)]), .w (.s (.xs 1 (.s u) (.u8 s))), .w (.s (.xs 1 (.s v) (.u8 m)))] => some ([u = s.length, v = m.length, s.length ≤ 1073741824, m.length ≤ 1073741824], .tup [.s (.xs 1 (.s (openL (keyL k n) (nonceL n) s m).length) (.u8 (openL (keyL k n) (nonceL n) s m))), .s (.i64 (openE (keyL k n) (nonceL n) s m))])
  | _ => none
end Go.Xc

/- A step towards MacsCookiesSaid: no conditions. -/
namespace Go.Mac
open Go Go.Eng Go.Cod Go.Cha Go.Pol Go.Aed Go.Msg Go.Bla Go.Xc
def lab1 : List UInt8 := [109, 97, 99, 49, 45, 45, 45, 45]
def lab2 : List UInt8 := [99, 111, 111, 107, 105, 101, 45, 45]
def hid1 (k : List UInt8) : List UInt8 := sumL 32 [] (lab1 ++ k)
def hid2 (k : List UInt8) : List UInt8 := sumL 32 [] (lab2 ++ k)
/-- the first code -/
def mac1L (k part : List UInt8) : List UInt8 := codeL (hid1 k) part
/-- the second code -/
def mac2L (has : Bool) (c d : List UInt8) : List UInt8 := match has with | true => codeL c d | false => List.replicate 16 0
def bigL2 (n : UInt64) : List UInt8 := [(shr64 n 8).toUInt8, (shr64 n 0).toUInt8]
def ipL (six : Bool) (ip : List UInt8) : List UInt8 := match six with | true => ip | false => ip.take 4
def cookieL (s : List UInt8) (six : Bool) (ip : List UInt8) (port : Int) : List UInt8 := codeL s (ipL six ip ++ bigL2 (to64 port))
def iB (s : UInt32) (e st t : List UInt8) : List UInt8 := [1, 0, 0, 0] ++ (littleL s.toUInt64 4 ++ (e ++ (st ++ t)))
def rB (s r : UInt32) (e em : List UInt8) : List UInt8 := [2, 0, 0, 0] ++ (littleL s.toUInt64 4 ++ (littleL r.toUInt64 4 ++ (e ++ em)))
def sealI (k : List UInt8) (has : Bool) (c : List UInt8) (s : UInt32) (e st t : List UInt8) : List UInt8 :=
  initL s e st t (mac1L k (iB s e st t)) (mac2L has c (iB s e st t ++ mac1L k (iB s e st t)))
def sealR (k : List UInt8) (has : Bool) (c : List UInt8) (s r : UInt32) (e em : List UInt8) : List UInt8 :=
  respL s r e em (mac1L k (rB s r e em)) (mac2L has c (rB s r e em ++ mac1L k (rB s r e em)))
def gMac1 : SpecF := fun args => match args with
  | [.w (.agg [.vec (.n 32) (.u8 k)]), .w (.s (.xs 1 (.s m) (.u8 p)))] => some ([m = p.length, p.length ≤ 4294966000], .w (.agg [.vec (.n 16) (.u8 (mac1L k p))]))
  | _ => none
def gBig2 : SpecF := fun args => match args with
  | [.w (.s (.u64 n)), .w (.s (.i64 s))] => match s with
    | .ofNat m => bif Nat.beq m 2 then some ([], .s (.xs 1 (.n 2) (.u8 (bigL2 n)))) else none
    | _ => none
  | _ => none
def gCookie : SpecF := fun args => match args with
  | [.w (.agg [.vec (.n 32) (.u8 s)]), .w (.agg [.one (.b six), .vec (.n 16) (.u8 ip), .one (.i64 port)])] => some ([], .w (.agg [.vec (.n 16) (.u8 (cookieL s six ip port))]))
  | _ => none
def gSealI : SpecF := fun args => match args with
  | [.w (.agg [.vec (.n 32) (.u8 k)]), .w (.s (.b has)), .w (.agg [.vec (.n 16) (.u8 c)]), .w (.agg [.one (.u32 s), .vec (.n 32) (.u8 e), .vec (.n 48) (.u8 st), .vec (.n 28) (.u8 t), .vec (.n 16) (.u8 _), .vec (.n 16) (.u8 _)])] =>
    some ([], .tup [.s (.xs 1 (.n 148) (.u8 (sealI k has c s e st t))), .agg [.vec (.n 16) (.u8 (mac1L k (iB s e st t)))]])
  | _ => none
def gSealR : SpecF := fun args => match args with
  | [.w (.agg [.vec (.n 32) (.u8 k)]), .w (.s (.b has)), .w (.agg [.vec (.n 16) (.u8 c)]), .w (.agg [.one (.u32 s), .one (.u32 r), .vec (.n 32) (.u8 e), .vec (.n 16) (.u8 em), .vec (.n 16) (.u8 _), .vec (.n 16) (.u8 _)])] =>
    some ([], .tup [.s (.xs 1 (.n 92) (.u8 (sealR k has c s r e em))), .agg [.vec (.n 16) (.u8 (mac1L k (rB s r e em)))]])
  | _ => none
def bodyL (b : List UInt8) : List UInt8 := b.take (b.length - 32)
def sldL (k : List UInt8) (has : Bool) (c b : List UInt8) : List UInt8 := bodyL b ++ (mac1L k (bodyL b) ++ mac2L has c (bodyL b ++ mac1L k (bodyL b)))
def gSld : SpecF := fun args => match args with
  | [.w (.agg [.vec (.n 32) (.u8 k)]), .w (.s (.b has)), .w (.agg [.vec (.n 16) (.u8 c)]), .w (.s (.xs 1 (.s m) (.u8 b)))] =>
    some ([m = b.length, 32 ≤ b.length, b.length ≤ 4294960000], .tup [.s (.xs 1 (.s (sldL k has c b).length) (.u8 (sldL k has c b))), .agg [.vec (.n 16) (.u8 (mac1L k (bodyL b)))]])
  | _ => none
def codedL (b : List UInt8) : Bool := decide (kindL b = 1) || decide (kindL b = 2)
def gCoded : SpecF := fun args => match args with
  | [.w (.s (.xs 1 (.s m) (.u8 b)))] => some ([m = b.length, b.length ≤ 4294967000], .s (.b (codedL b)))
  | _ => none
def chk1 (k b : List UInt8) : Bool := codedL b && (mac1L k (b.take (b.length - 32)) == (b.drop (b.length - 32)).take 16)
def chk2 (c b : List UInt8) : Bool := codedL b && (codeL c (b.take (b.length - 16)) == b.drop (b.length - 16))
def gChk1 : SpecF := fun args => match args with
  | [.w (.agg [.vec (.n 32) (.u8 k)]), .w (.s (.xs 1 (.s m) (.u8 b)))] => some ([m = b.length, b.length ≤ 4294966000], .s (.b (chk1 k b)))
  | _ => none
def gChk2 : SpecF := fun args => match args with
  | [.w (.agg [.vec (.n 16) (.u8 c)]), .w (.s (.xs 1 (.s m) (.u8 b)))] => some ([m = b.length, b.length ≤ 4294966000], .s (.b (chk2 c b)))
  | _ => none
def gHidden : SpecF := fun args => match args with
  | [.w (.agg [.vec (.n 32) (.u8 k)])] => some ([], .w (.agg [.vec (.n 32) (.u8 (hid2 k))]))
  | _ => none
def repC (k n c m1 : List UInt8) : List UInt8 := sealL (keyL (hid2 k) n) (nonceL n) c m1
def repL (k n c m1 : List UInt8) (r : UInt32) : List UInt8 := cookL r n (repC k n c m1)
def gReply : SpecF := fun args => match args with
  | [.w (.agg [.vec (.n 32) (.u8 k)]), .w (.agg [.vec (.n 24) (.u8 n)]), .w (.agg [.vec (.n 16) (.u8 c)]), .w (.agg [.vec (.n 16) (.u8 m1)]), .w (.s (.u32 r))] => some ([], .s (.xs 1 (.n 64) (.u8 (repL k n c m1 r))))
  | _ => none
def oRepE (k m1 b : List UInt8) : Int := if kindL b = 3 then openE (keyL (hid2 k) (fld 3 b 8 24)) (nonceL (fld 3 b 8 24)) (fld 3 b 32 32) m1 else 4
def oRepL (k m1 b : List UInt8) : List UInt8 := if oRepE k m1 b = 0 then openL (keyL (hid2 k) (fld 3 b 8 24)) (nonceL (fld 3 b 8 24)) (fld 3 b 32 32) m1 else List.replicate 16 0
def gORep : SpecF := fun args => match args with
  | [.w (.agg [.vec (.n 32) (.u8 k)]), .w (.agg [.vec (.n 16) (.u8 m1)]), .w (.s (.xs 1 (.s m) (.u8 b)))] => some ([m = b.length, b.length ≤ 4294966000], .tup [.agg [.vec (.n 16) (.u8 (oRepL k m1 b))], .s (.i64 (oRepE k m1 b))])
  | _ => none
end Go.Mac
