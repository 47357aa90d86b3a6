/- Steps towards SessionValuesSaid. -/
import Derived.Test.YtimjfjlaoekfkaaGreatEngE
import Derived.KernelRfl
import Derived.Test.YtimjfjlaoekfkaaGreatJCodSpec
import Derived.Test.YtimjfjlaoekfkaaGreatJDbbSpec
/- A step towards SessionValuesSaid: no conditions. -/

namespace Go.Cha
open Go Go.Eng
def rol (x : UInt32) (k : Nat) : UInt32 := shl32 x k ||| shr32 x (32 - k)
structure Q where
  a : UInt32
  b : UInt32
  c : UInt32
  d : UInt32
def qr (a b c d : UInt32) : Q :=
  let a1 := a + b
  let d1 := rol (d ^^^ a1) 16
  let c1 := c + d1
  let b1 := rol (b ^^^ c1) 12
  let a2 := a1 + b1
  let d2 := rol (d1 ^^^ a2) 8
  let c2 := c1 + d2
  let b2 := rol (b1 ^^^ c2) 7
  ⟨a2, b2, c2, d2⟩
structure W16 where
  x0 : UInt32
  x1 : UInt32
  x2 : UInt32
  x3 : UInt32
  x4 : UInt32
  x5 : UInt32
  x6 : UInt32
  x7 : UInt32
  x8 : UInt32
  x9 : UInt32
  x10 : UInt32
  x11 : UInt32
  x12 : UInt32
  x13 : UInt32
  x14 : UInt32
  x15 : UInt32
abbrev W16.l (w : W16) : List UInt32 := [w.x0, w.x1, w.x2, w.x3, w.x4, w.x5, w.x6, w.x7, w.x8, w.x9, w.x10, w.x11, w.x12, w.x13, w.x14, w.x15]
def col (w : W16) : W16 :=
  let p := qr w.x0 w.x4 w.x8 w.x12
  let q := qr w.x1 w.x5 w.x9 w.x13
  let r := qr w.x2 w.x6 w.x10 w.x14
  let s := qr w.x3 w.x7 w.x11 w.x15
  ⟨p.a, q.a, r.a, s.a, p.b, q.b, r.b, s.b, p.c, q.c, r.c, s.c, p.d, q.d, r.d, s.d⟩
def dia (w : W16) : W16 :=
  let p := qr w.x0 w.x5 w.x10 w.x15
  let q := qr w.x1 w.x6 w.x11 w.x12
  let r := qr w.x2 w.x7 w.x8 w.x13
  let s := qr w.x3 w.x4 w.x9 w.x14
  ⟨p.a, q.a, r.a, s.a, s.b, p.b, q.b, r.b, r.c, s.c, p.c, q.c, q.d, r.d, s.d, p.d⟩
def dbl (w : W16) : W16 := dia (col w)
def iter {α : Type} (f : α → α) : Nat → α → α
  | 0, x => x
  | n + 1, x => f (iter f n x)
def coreW (w : W16) : W16 := iter dbl 10 w
def coreL (l : List UInt32) : List UInt32 :=
  match l with
  | [x0, x1, x2, x3, x4, x5, x6, x7, x8, x9, x10, x11, x12, x13, x14, x15] => (coreW ⟨x0, x1, x2, x3, x4, x5, x6, x7, x8, x9, x10, x11, x12, x13, x14, x15⟩).l
  | l => l
theorem len16 {l : List UInt32} (h : l.length = 16) : ∃ w : W16, l = w.l := by
  match l, h with
  | [x0, x1, x2, x3, x4, x5, x6, x7, x8, x9, x10, x11, x12, x13, x14, x15], _ => exact ⟨⟨x0, x1, x2, x3, x4, x5, x6, x7, x8, x9, x10, x11, x12, x13, x14, x15⟩, rfl⟩
def gQuarter : SpecF := fun args => match args with
  | [.w (.s (.u32 a)), .w (.s (.u32 b)), .w (.s (.u32 c)), .w (.s (.u32 d))] => some ([], .tup [.s (.u32 (qr a b c d).a), .s (.u32 (qr a b c d).b), .s (.u32 (qr a b c d).c), .s (.u32 (qr a b c d).d)])
  | _ => none
def gCore : SpecF := fun args => match args with
  | [.w (.agg [.vec (.n 16) (.u32 w)])] => some ([w.length = 16], .w (.agg [.vec (.n 16) (.u32 (coreL w))]))
  | _ => none
noncomputable def JCore (slot blk : Nat) (keep : List Nat) (σ : St) : Option Inv :=
  match getO σ.own blk with
  | some [.vec _ (.u32 l)] => some {
      α := Nat × W16
      ok := fun x => x.1 ≤ 10 ∧ coreL l = (iter dbl (10 - x.1) x.2).l
      mu := fun x => 10 - x.1
      keep := keep
      slots := fun x => [(slot, .s (.i64 x.1))]
      own := fun x => [(blk, some [.vec (.n 16) (.u32 x.2.l)])]
      ext := fun _ => [] }
  | _ => none
end Go.Cha

/- A step towards SessionValuesSaid: no conditions. -/

namespace Go.Cha
open Go Go.Eng Go.Cod
def rd (l : List UInt8) (o : Nat) : UInt32 := (readL ((l.drop o).take 4)).toUInt32
def blkIn (k : List UInt8) (c : UInt32) (n : List UInt8) : W16 :=
  ⟨1634760805, 857760878, 2036477234, 1797285236, rd k 0, rd k 4, rd k 8, rd k 12, rd k 16, rd k 20, rd k 24, rd k 28, c, rd n 0, rd n 4, rd n 8⟩
abbrev by4 (x : UInt32) (r : List UInt8) : List UInt8 := (shr64 x.toUInt64 0).toUInt8 :: (shr64 x.toUInt64 8).toUInt8 :: (shr64 x.toUInt64 16).toUInt8 :: (shr64 x.toUInt64 24).toUInt8 :: r
def outL (w o : W16) : List UInt8 :=
  by4 (o.x0 + w.x0) (by4 (o.x1 + w.x1) (by4 (o.x2 + w.x2) (by4 (o.x3 + w.x3) (by4 (o.x4 + w.x4) (by4 (o.x5 + w.x5) (by4 (o.x6 + w.x6) (by4 (o.x7 + w.x7)
    (by4 (o.x8 + w.x8) (by4 (o.x9 + w.x9) (by4 (o.x10 + w.x10) (by4 (o.x11 + w.x11) (by4 (o.x12 + w.x12) (by4 (o.x13 + w.x13) (by4 (o.x14 + w.x14) (by4 (o.x15 + w.x15) [])))))))))))))))
def block (k : List UInt8) (c : UInt32) (n : List UInt8) : List UInt8 := outL (blkIn k c n) (coreW (blkIn k c n))
def gBlock : SpecF := fun args => match args with
  | [.w (.agg [.vec (.n 32) (.u8 k)]), .w (.s (.u32 c)), .w (.agg [.vec (.n 12) (.u8 n)])] => some ([], .w (.agg [.vec (.n 64) (.u8 (block k c n))]))
  | _ => none
end Go.Cha

/- A step towards SessionValuesSaid: no conditions. -/

namespace Go.Cha
open Go Go.Eng Go.Cod
def padB (k n : List UInt8) (c : UInt32) (i : Nat) : UInt8 := (block k (c + UInt32.ofNat (i / 64)) n).getD (i % 64) 0
def xorTo (k n : List UInt8) (c : UInt32) (d : List UInt8) : Nat → List UInt8
  | 0 => []
  | i + 1 => xorTo k n c d i ++ [d.getD i 0 ^^^ padB k n c i]
def xorL (k n : List UInt8) (c : UInt32) (d : List UInt8) : List UInt8 := xorTo k n c d d.length
theorem xorTo_len (k n : List UInt8) (c : UInt32) (d : List UInt8) : ∀ i, (xorTo k n c d i).length = i
  | 0 => rfl
  | i + 1 => by simp [xorTo, xorTo_len k n c d i]
theorem xorL_len (k n : List UInt8) (c : UInt32) (d : List UInt8) : (xorL k n c d).length = d.length := xorTo_len ..
def padAt (k n : List UInt8) (c : UInt32) (i : Nat) : List UInt8 :=
  match i with
  | 0 => List.replicate 64 0
  | i + 1 => block k (c + UInt32.ofNat (i / 64)) n
def gXor : SpecF := fun args => match args with
  | [.w (.agg [.vec (.n 32) (.u8 k)]), .w (.s (.u32 c)), .w (.agg [.vec (.n 12) (.u8 n)]), .w (.s (.xs 1 (.s m) (.u8 d)))] => some ([m = d.length, d.length ≤ 4294967296], .s (.xs 1 (.s d.length) (.u8 (xorL k n c d))))
  | _ => none
noncomputable def JXor (σ : St) : Option Inv :=
  match getF σ.fr 0, getF σ.fr 1, getF σ.fr 2, getF σ.fr 3, names σ.fr 10 with
  | .w (.agg [.vec _ (.u8 k)]), .w (.s (.u32 c)), .w (.agg [.vec _ (.u8 n)]), .w (.s (.xs _ _ (.u8 d))), some b => some {
      α := Nat
      ok := fun i => i ≤ d.length
      mu := fun i => d.length - i
      keep := [0, 2, 3, 4, 6, 8, 10, 13, 14]
      slots := fun i => [(1, .s (.u32 (c + UInt32.ofNat ((i + 63) / 64)))), (9, .s (.sl σ.own.length 0 (.n 0) (.s i) 1)), (15, .s (.i64 i))]
      own := fun i => [(b, some [.vec (.n 64) (.u8 (padAt k n c i))])]
      ext := fun i => [(9, [.vec (.s i) (.u8 (xorTo k n c d i))])] }
  | _, _, _, _, _ => none
def gTrue0 : SpecF := fun args => match args with
  | [] => some ([], .s (.b true))
  | _ => none
end Go.Cha

/- A step towards SessionValuesSaid: no conditions. -/

namespace Go.Aed
open Go Go.Eng Go.Cod Go.Cha Go.Pol
def zp (n : Nat) : Nat := (16 - n % 16) % 16
def zerosL (n : Nat) : List UInt8 := List.replicate (zp n) 0
def gFilled : SpecF := fun args => match args with
  | [.w (.s (.xs 1 (.s m) (.u8 b)))] => some ([m = b.length, b.length ≤ 4294967296], .s (.xs 1 (.s (zp b.length)) (.u8 (zerosL b.length))))
  | _ => none
def macL (c m : List UInt8) : List UInt8 := m ++ (zerosL m.length ++ (c ++ (zerosL c.length ++ (littleL (to64 m.length) 8 ++ littleL (to64 c.length) 8))))
def tagL (k n c m : List UInt8) : List UInt8 := polyL ((block k 0 n).take 32) (macL c m)
def gTag : SpecF := fun args => match args with
  | [.w (.agg [.vec (.n 32) (.u8 k)]), .w (.agg [.vec (.n 12) (.u8 n)]), .w (.s (.xs 1 (.s u) (.u8 c))), .w (.s (.xs 1 (.s v) (.u8 m)))] => some ([u = c.length, v = m.length, c.length ≤ 1073741824, m.length ≤ 1073741824], .w (.agg [.vec (.n 16) (.u8 (tagL k n c m))]))
  | _ => none
def sealL (k n p m : List UInt8) : List UInt8 := xorL k n 1 p ++ tagL k n (xorL k n 1 p) m
def gSeal : SpecF := fun args => match args with
  | [.w (.agg [.vec (.n 32) (.u8 k)]), .w (.agg [.vec (.n 12) (.u8 n)]), .w (.s (.xs 1 (.s u) (.u8 p))), .w (.s (.xs 1 (.s v) (.u8 m)))] => some ([u = p.length, v = m.length, p.length ≤ 1073741824, m.length ≤ 1073741824], .s (.xs 1 (.s (sealL k n p m).length) (.u8 (sealL k n p m))))
  | _ => none
def countL (c : UInt64) : List UInt8 := List.replicate 4 0 ++ littleL c 8
def gCounter : SpecF := fun args => match args with
  | [.w (.s (.u64 c))] => some ([], .w (.agg [.vec (.n 12) (.u8 (countL c))]))
  | _ => none
end Go.Aed
