/- A step towards AeadSealsSaid: no conditions. -/
import Derived.Test.YtcfkgodidnhbdaaEngD
import Derived.KernelRfl
namespace Go.Cha
open Go Go.Eng
def rol (x : UInt32) (k : Nat) : UInt32 := shl32 x k ||| shr32 x (32 - k)
structure Q where
  a : UInt32
  b : UInt32
  c : UInt32
  d : UInt32
def qr (a b c d : UInt32) : Q :=
  let a1 := a + b
  let d1 := rol (d ^^^ a1) 16
  let c1 := c + d1
  let b1 := rol (b ^^^ c1) 12
  let a2 := a1 + b1
  let d2 := rol (d1 ^^^ a2) 8
  let c2 := c1 + d2
  let b2 := rol (b1 ^^^ c2) 7
  ⟨a2, b2, c2, d2⟩
structure W16 where
  x0 : UInt32
  x1 : UInt32
  x2 : UInt32
  x3 : UInt32
  x4 : UInt32
  x5 : UInt32
  x6 : UInt32
  x7 : UInt32
  x8 : UInt32
  x9 : UInt32
  x10 : UInt32
  x11 : UInt32
  x12 : UInt32
  x13 : UInt32
  x14 : UInt32
  x15 : UInt32
abbrev W16.l (w : W16) : List UInt32 := [w.x0, w.x1, w.x2, w.x3, w.x4, w.x5, w.x6, w.x7, w.x8, w.x9, w.x10, w.x11, w.x12, w.x13, w.x14, w.x15]
def col (w : W16) : W16 :=
  let p := qr w.x0 w.x4 w.x8 w.x12
  let q := qr w.x1 w.x5 w.x9 w.x13
  let r := qr w.x2 w.x6 w.x10 w.x14
  let s := qr w.x3 w.x7 w.x11 w.x15
  ⟨p.a, q.a, r.a, s.a, p.b, q.b, r.b, s.b, p.c, q.c, r.c, s.c, p.d, q.d, r.d, s.d⟩
def dia (w : W16) : W16 :=
  let p := qr w.x0 w.x5 w.x10 w.x15
  let q := qr w.x1 w.x6 w.x11 w.x12
  let r := qr w.x2 w.x7 w.x8 w.x13
  let s := qr w.x3 w.x4 w.x9 w.x14
  ⟨p.a, q.a, r.a, s.a, s.b, p.b, q.b, r.b, r.c, s.c, p.c, q.c, q.d, r.d, s.d, p.d⟩
def dbl (w : W16) : W16 := dia (col w)
def iter {α : Type} (f : α → α) : Nat → α → α
  | 0, x => x
  | n + 1, x => f (iter f n x)
def coreW (w : W16) : W16 := iter dbl 10 w
def coreL (l : List UInt32) : List UInt32 :=
  match l with
  | [x0, x1, x2, x3, x4, x5, x6, x7, x8, x9, x10, x11, x12, x13, x14, x15] => (coreW ⟨x0, x1, x2, x3, x4, x5, x6, x7, x8, x9, x10, x11, x12, x13, x14, x15⟩).l
  | l => l
theorem len16 {l : List UInt32} (h : l.length = 16) : ∃ w : W16, l = w.l := by
  match l, h with
  | [x0, x1, x2, x3, x4, x5, x6, x7, x8, x9, x10, x11, x12, x13, x14, x15], _ => exact ⟨⟨x0, x1, x2, x3, x4, x5, x6, x7, x8, x9, x10, x11, x12, x13, x14, x15⟩, rfl⟩
theorem coreL_l (w : W16) : coreL w.l = (coreW w).l := rfl
def qrAt (w : List UInt32) (a b c d : Nat) : List UInt32 :=
  let w1 := w.set a (w.getD a 0 + w.getD b 0)
  let w2 := w1.set d (rol (w1.getD d 0 ^^^ w1.getD a 0) 16)
  let w3 := w2.set c (w2.getD c 0 + w2.getD d 0)
  let w4 := w3.set b (rol (w3.getD b 0 ^^^ w3.getD c 0) 12)
  let w5 := w4.set a (w4.getD a 0 + w4.getD b 0)
  let w6 := w5.set d (rol (w5.getD d 0 ^^^ w5.getD a 0) 8)
  let w7 := w6.set c (w6.getD c 0 + w6.getD d 0)
  w7.set b (rol (w7.getD b 0 ^^^ w7.getD c 0) 7)
theorem qr8 (w : W16) : qrAt (qrAt (qrAt (qrAt (qrAt (qrAt (qrAt (qrAt w.l 0 4 8 12) 1 5 9 13) 2 6 10 14) 3 7 11 15) 0 5 10 15) 1 6 11 12) 2 7 8 13) 3 4 9 14 = (dbl w).l := by kernel_rfl
def gQuarter : SpecF := fun args => match args with
  | [.w (.s (.u32 a)), .w (.s (.u32 b)), .w (.s (.u32 c)), .w (.s (.u32 d))] => some ([], .tup [.s (.u32 (qr a b c d).a), .s (.u32 (qr a b c d).b), .s (.u32 (qr a b c d).c), .s (.u32 (qr a b c d).d)])
  | _ => none
def gLeft : SpecF := fun args => match args with
  | [.w (.s (.u32 x)), .w (.s (.i64 k))] => some ([0 ≤ k ∧ k ≤ 32], .s (.u32 (rol x k.toNat)))
  | _ => none
def gQuarterAt : SpecF := fun args => match args with
  | [.w (.agg [.vec (.n 16) (.u32 w)]), .w (.s (.i64 a)), .w (.s (.i64 b)), .w (.s (.i64 c)), .w (.s (.i64 d))] =>
    some ([0 ≤ a ∧ a < 16, 0 ≤ b ∧ b < 16, 0 ≤ c ∧ c < 16, 0 ≤ d ∧ d < 16], .w (.agg [.vec (.n 16) (.u32 (qrAt w a.toNat b.toNat c.toNat d.toNat))]))
  | _ => none
def gCore : SpecF := fun args => match args with
  | [.w (.agg [.vec (.n 16) (.u32 w)])] => some ([w.length = 16], .w (.agg [.vec (.n 16) (.u32 (coreL w))]))
  | _ => none
/-- the loop over the double rounds -/
noncomputable def JCore (slot blk : Nat) (keep : List Nat) (σ : St) : Option Inv :=
  match getO σ.own blk with
  | some [.vec _ (.u32 l)] => some {
      α := Nat × W16
      ok := fun x => x.1 ≤ 10 ∧ coreL l = (iter dbl (10 - x.1) x.2).l
      mu := fun x => 10 - x.1
      keep := keep
      slots := fun x => [(slot, .s (.i64 x.1))]
      own := fun x => [(blk, some [.vec (.n 16) (.u32 x.2.l)])]
      ext := fun _ => [] }
  | _ => none
end Go.Cha
