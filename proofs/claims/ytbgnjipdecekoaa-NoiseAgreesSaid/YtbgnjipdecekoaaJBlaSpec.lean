/- Steps towards NoiseAgreesSaid. -/
import Derived.Test.YtbgnjipdecekoaaJChaSpec
/- A step towards NoiseAgreesSaid: no conditions. -/
namespace Go.Bla
open Go Go.Eng Go.Cha Go.Cod
def mixq (a b c d x y : UInt32) : Q :=
  let a1 := a + b + x
  let d1 := rol (d ^^^ a1) 16
  let c1 := c + d1
  let b1 := rol (b ^^^ c1) 20
  let a2 := a1 + b1 + y
  let d2 := rol (d1 ^^^ a2) 24
  let c2 := c1 + d2
  let b2 := rol (b1 ^^^ c2) 25
  ⟨a2, b2, c2, d2⟩
def sigma : List Int :=
  [0, 1, 2, 3, 4, 5, 6, 7, 8, 9, 10, 11, 12, 13, 14, 15,
   14, 10, 4, 8, 9, 15, 13, 6, 1, 12, 0, 2, 11, 7, 5, 3,
   11, 8, 12, 0, 5, 2, 15, 13, 10, 14, 3, 6, 7, 1, 9, 4,
   7, 9, 3, 1, 13, 12, 11, 14, 2, 6, 5, 10, 4, 0, 15, 8,
   9, 0, 5, 7, 2, 4, 10, 15, 14, 1, 11, 12, 6, 8, 3, 13,
   2, 12, 6, 10, 0, 11, 8, 3, 4, 13, 7, 5, 15, 14, 1, 9,
   12, 5, 1, 15, 14, 13, 4, 10, 0, 7, 6, 3, 9, 2, 8, 11,
   13, 11, 7, 14, 12, 1, 3, 9, 5, 0, 15, 4, 8, 6, 2, 10,
   6, 15, 14, 9, 11, 3, 0, 8, 12, 2, 13, 7, 1, 4, 10, 5,
   10, 2, 8, 4, 7, 6, 1, 5, 15, 11, 9, 14, 3, 12, 13, 0]
def prow (r : Nat) : List Int := (sigma.drop (r * 16)).take 16
theorem prow_ok : ∀ r, r < 10 → ∀ i, i < 16 → 0 ≤ (prow r).getD i 0 ∧ (prow r).getD i 0 < 16 := by decide +kernel
/-- word i of the block, in the order of round r -/
def mw (m : List UInt32) (r i : Nat) : UInt32 := m.getD ((prow r).getD i 0).toNat 0
def colB (v : W16) (m : List UInt32) (r : Nat) : W16 :=
  let p := mixq v.x0 v.x4 v.x8 v.x12 (mw m r 0) (mw m r 1)
  let q := mixq v.x1 v.x5 v.x9 v.x13 (mw m r 2) (mw m r 3)
  let s := mixq v.x2 v.x6 v.x10 v.x14 (mw m r 4) (mw m r 5)
  let t := mixq v.x3 v.x7 v.x11 v.x15 (mw m r 6) (mw m r 7)
  ⟨p.a, q.a, s.a, t.a, p.b, q.b, s.b, t.b, p.c, q.c, s.c, t.c, p.d, q.d, s.d, t.d⟩
def diaB (v : W16) (m : List UInt32) (r : Nat) : W16 :=
  let p := mixq v.x0 v.x5 v.x10 v.x15 (mw m r 8) (mw m r 9)
  let q := mixq v.x1 v.x6 v.x11 v.x12 (mw m r 10) (mw m r 11)
  let s := mixq v.x2 v.x7 v.x8 v.x13 (mw m r 12) (mw m r 13)
  let t := mixq v.x3 v.x4 v.x9 v.x14 (mw m r 14) (mw m r 15)
  ⟨p.a, q.a, s.a, t.a, t.b, p.b, q.b, s.b, s.c, t.c, p.c, q.c, q.d, s.d, t.d, p.d⟩
def roundB (v : W16) (m : List UInt32) (r : Nat) : W16 := diaB (colB v m r) m r
def roundsB (m : List UInt32) (v : W16) : Nat → W16
  | 0 => v
  | r + 1 => roundB (roundsB m v r) m r
def rdw (b : List UInt8) (o : Nat) : UInt32 := (readL ((b.drop o).take 4)).toUInt32
def words (b : List UInt8) : List UInt32 := [rdw b 0, rdw b 4, rdw b 8, rdw b 12, rdw b 16, rdw b 20, rdw b 24, rdw b 28, rdw b 32, rdw b 36, rdw b 40, rdw b 44, rdw b 48, rdw b 52, rdw b 56, rdw b 60]
def iv : List UInt32 := [0x6A09E667, 0xBB67AE85, 0x3C6EF372, 0xA54FF53A, 0x510E527F, 0x9B05688C, 0x1F83D9AB, 0x5BE0CD19]
structure W8 where
  x0 : UInt32
  x1 : UInt32
  x2 : UInt32
  x3 : UInt32
  x4 : UInt32
  x5 : UInt32
  x6 : UInt32
  x7 : UInt32
abbrev W8.l (w : W8) : List UInt32 := [w.x0, w.x1, w.x2, w.x3, w.x4, w.x5, w.x6, w.x7]
theorem len8 {l : List UInt32} (h : l.length = 8) : ∃ w : W8, l = w.l := by
  match l, h with
  | [x0, x1, x2, x3, x4, x5, x6, x7], _ => exact ⟨⟨x0, x1, x2, x3, x4, x5, x6, x7⟩, rfl⟩
def initV (h : W8) (t : UInt64) (last : Bool) : W16 :=
  ⟨h.x0, h.x1, h.x2, h.x3, h.x4, h.x5, h.x6, h.x7, 0x6A09E667, 0xBB67AE85, 0x3C6EF372, 0xA54FF53A, 0x510E527F ^^^ t.toUInt32, 0x9B05688C ^^^ (shr64 t 32).toUInt32, if last then ~~~(0x1F83D9AB) else 0x1F83D9AB, 0x5BE0CD19⟩
def compW (h : W8) (b : List UInt8) (t : UInt64) (last : Bool) : W8 :=
  let v := roundsB (words b) (initV h t last) 10
  ⟨h.x0 ^^^ (v.x0 ^^^ v.x8), h.x1 ^^^ (v.x1 ^^^ v.x9), h.x2 ^^^ (v.x2 ^^^ v.x10), h.x3 ^^^ (v.x3 ^^^ v.x11), h.x4 ^^^ (v.x4 ^^^ v.x12), h.x5 ^^^ (v.x5 ^^^ v.x13), h.x6 ^^^ (v.x6 ^^^ v.x14), h.x7 ^^^ (v.x7 ^^^ v.x15)⟩
def compL (l : List UInt32) (b : List UInt8) (t : UInt64) (last : Bool) : List UInt32 :=
  match l with
  | [x0, x1, x2, x3, x4, x5, x6, x7] => (compW ⟨x0, x1, x2, x3, x4, x5, x6, x7⟩ b t last).l
  | l => l
def gRotl : SpecF := fun args => match args with
  | [.w (.s (.u32 x)), .w (.s (.i64 n))] => some ([], .s (.u32 (rol x (to64 n &&& 31).toNat)))
  | _ => none
def gRight : SpecF := fun args => match args with
  | [.w (.s (.u32 x)), .w (.s (.i64 n))] => some ([0 ≤ n ∧ n ≤ 32], .s (.u32 (rol x (32 - n.toNat))))
  | _ => none
def mixAt (v : List UInt32) (a b c d : Nat) (x y : UInt32) : List UInt32 :=
  let v1 := v.set a (v.getD a 0 + v.getD b 0 + x)
  let v2 := v1.set d (rol (v1.getD d 0 ^^^ v1.getD a 0) 16)
  let v3 := v2.set c (v2.getD c 0 + v2.getD d 0)
  let v4 := v3.set b (rol (v3.getD b 0 ^^^ v3.getD c 0) 20)
  let v5 := v4.set a (v4.getD a 0 + v4.getD b 0 + y)
  let v6 := v5.set d (rol (v5.getD d 0 ^^^ v5.getD a 0) 24)
  let v7 := v6.set c (v6.getD c 0 + v6.getD d 0)
  v7.set b (rol (v7.getD b 0 ^^^ v7.getD c 0) 25)
theorem mix8 (v : W16) (m : List UInt32) (r : Nat) : mixAt (mixAt (mixAt (mixAt (mixAt (mixAt (mixAt (mixAt v.l 0 4 8 12 (mw m r 0) (mw m r 1)) 1 5 9 13 (mw m r 2) (mw m r 3)) 2 6 10 14 (mw m r 4) (mw m r 5)) 3 7 11 15 (mw m r 6) (mw m r 7))
    0 5 10 15 (mw m r 8) (mw m r 9)) 1 6 11 12 (mw m r 10) (mw m r 11)) 2 7 8 13 (mw m r 12) (mw m r 13)) 3 4 9 14 (mw m r 14) (mw m r 15) = (roundB v m r).l := by kernel_rfl
def gMixAt : SpecF := fun args => match args with
  | [.w (.agg [.vec (.n 16) (.u32 v)]), .w (.s (.i64 a)), .w (.s (.i64 b)), .w (.s (.i64 c)), .w (.s (.i64 d)), .w (.s (.u32 x)), .w (.s (.u32 y))] =>
    some ([0 ≤ a ∧ a < 16, 0 ≤ b ∧ b < 16, 0 ≤ c ∧ c < 16, 0 ≤ d ∧ d < 16], .w (.agg [.vec (.n 16) (.u32 (mixAt v a.toNat b.toNat c.toNat d.toNat x y))]))
  | _ => none
def gOrder : SpecF := fun args => match args with
  | [.w (.s (.i64 r))] => some ([0 ≤ r ∧ r < 10], .w (.agg [.vec (.n 16) (.i64 (prow r.toNat))]))
  | _ => none
def gComp : SpecF := fun args => match args with
  | [.w (.agg [.vec (.n 8) (.u32 h)]), .w (.s (.xs 1 (.s m) (.u8 b))), .w (.s (.u64 t)), .w (.s (.b last))] => some ([m = b.length, b.length = 64], .w (.agg [.vec (.n 8) (.u32 (compL h b t last))]))
  | _ => none
/-- the loop over the rounds: block blk holds the words v, slot the round -/
noncomputable def JRounds (slot blk : Nat) (mblk : Nat) (keep : List Nat) (σ : St) : Option Inv :=
  match getO σ.own blk, getO σ.own mblk with
  | some [.vec _ (.u32 l)], some [.vec _ (.u32 m)] => some {
      α := Nat × W16
      ok := fun x => x.1 ≤ 10 ∧ ∀ v : W16, l = v.l → x.2 = roundsB m v x.1
      mu := fun x => 10 - x.1
      keep := keep
      slots := fun x => [(slot, .s (.i64 x.1))]
      own := fun x => [(blk, some [.vec (.n 16) (.u32 x.2.l)])]
      ext := fun _ => [] }
  | _, _ => none
/-- behind the block's last word: slot c tells whether this is the last block -/
noncomputable def JLast (c blk : Nat) (keep : List Nat) (σ : St) : Option Inv :=
  match getF σ.fr c, getO σ.own blk with
  | .w (.s (.b x)), some [.vec _ (.u32 l)] => some {
      α := W16
      ok := fun w => w.l = if x then l.set 14 (~~~(l.getD 14 0)) else l
      mu := fun _ => 0
      keep := keep
      slots := fun _ => []
      own := fun w => [(blk, some [.vec (.n 16) (.u32 w.l)])]
      ext := fun _ => [] }
  | _, _ => none
end Go.Bla

/- A step towards NoiseAgreesSaid: no conditions. -/
namespace Go.Bla
open Go Go.Eng Go.Cha Go.Cod
/-- block j of a text, with zeros behind its end -/
def blk (l : List UInt8) (j : Nat) : List UInt8 := over (List.replicate 64 0) 0 ((l.drop (64 * j)).take 64)
def hst (h0 : List UInt32) (l : List UInt8) : Nat → List UInt32
  | 0 => h0
  | j + 1 => compL (hst h0 l j) (blk l j) (to64 ((64 * (j + 1) : Nat) : Int)) false
/-- how many blocks there are ahead of the last one -/
def nb (l : List UInt8) : Nat := (l.length - 1) / 64
def sumH (h0 : List UInt32) (l : List UInt8) : List UInt32 := compL (hst h0 l (nb l)) (blk l (nb l)) (to64 (l.length : Int)) true
def h0 (size k : Int) : List UInt32 := iv.set 0 (0x6A09E667 ^^^ (0x01010000 ^^^ shl32 (to32 k) 8 ^^^ to32 size))
def textK (key data : List UInt8) : List UInt8 := if key.length = 0 then data else key ++ (List.replicate (64 - key.length) 0 ++ data)
def le4 (x : UInt32) : List UInt8 := [(shr64 x.toUInt64 0).toUInt8, (shr64 x.toUInt64 8).toUInt8, (shr64 x.toUInt64 16).toUInt8, (shr64 x.toUInt64 24).toUInt8]
def sumL (size : Int) (key data : List UInt8) : List UInt8 := ((sumH (h0 size key.length) (textK key data)).flatMap le4).take size.toNat
def sumR (size : Int) (key data : List UInt8) : List UInt8 := if 1 ≤ size ∧ size ≤ 32 ∧ key.length ≤ 32 then sumL size key data else []
def sumE (size : Int) (key : List UInt8) : Int := if 1 ≤ size ∧ size ≤ 32 ∧ key.length ≤ 32 then 0 else 1
def gSum : SpecF := fun args => match args with
  | [.w (.s (.i64 size)), .w (.s (.xs 1 (.s m) (.u8 key))), .w (.s (.xs 1 (.s n) (.u8 data)))] => some ([m = key.length, n = data.length, n ≤ 4294967000], .tup [.s (.xs 1 (.s (sumR size key data).length) (.u8 (sumR size key data))), .s (.i64 (sumE size key))])
  | _ => none
/-- the loop over the blocks -/
noncomputable def JSum (σ : St) : Option Inv :=
  match names σ.fr 8, getF σ.fr 9 with
  | some kh, .w (.s (.xs _ _ (.u8 l))) => match getO σ.own kh with
    | some [.vec _ (.u32 h)] => some {
        α := Nat
        ok := fun j => j ≤ nb l
        mu := fun j => nb l - j
        keep := [0, 1, 2, 6, 7, 8]
        slots := fun j => [(9, .s (.xs 1 (.s (l.drop (64 * j)).length) (.u8 (l.drop (64 * j))))), (10, .s (.i64 (64 * j : Nat)))]
        own := fun j => [(kh, some [.vec (.n 8) (.u32 (hst h l j))])]
        ext := fun _ => [] }
    | _ => none
  | some kh, .w (.s (.sl kt _ _ _ _)) => match getO σ.own kh, getO σ.own kt with
    | some [.vec _ (.u32 h)], some [.vec _ (.u8 l)] => some {
        α := Nat
        ok := fun j => j ≤ nb l
        mu := fun j => nb l - j
        keep := [0, 1, 2, 6, 7, 8]
        slots := fun j => [(9, .s (.sl kt 0 (.s (64 * j)) (.s (l.length - 64 * j)) 1)), (10, .s (.i64 (64 * j : Nat)))]
        own := fun j => [(kh, some [.vec (.n 8) (.u32 (hst h l j))])]
        ext := fun _ => [] }
    | _, _ => none
  | _, _ => none
end Go.Bla

/- A step towards NoiseAgreesSaid: no conditions. -/
namespace Go.Bla
open Go Go.Eng Go.Cha Go.Cod
def gHash : SpecF := fun args => match args with
  | [.w (.s (.xs 1 (.s m) (.sl ls)))] => some ([m = ls.length, ls.length < 4611686018427387904, ls.flatten.length ≤ 4294966000], .w (.agg [.vec (.n 32) (.u8 (sumL 32 [] ls.flatten))]))
  | _ => none
def gCode : SpecF := fun args => match args with
  | [.w (.s (.xs 1 (.s m) (.u8 key))), .w (.s (.xs 1 (.s n) (.sl ls)))] => some ([m = key.length, key.length ≤ 32, n = ls.length, ls.length < 4611686018427387904, ls.flatten.length ≤ 4294966000], .w (.agg [.vec (.n 16) (.u8 (sumL 16 key ls.flatten))]))
  | _ => none
def gTrue0 : SpecF := fun args => match args with
  | [] => some ([], .s (.b true))
  | _ => none
end Go.Bla

/- A step towards NoiseAgreesSaid: no conditions. -/
namespace Go.Bla
open Go Go.Eng Go.Cha Go.Cod
/-- the code under a key of any length: zeros where the key is too long -/
def codeL (key d : List UInt8) : List UInt8 := if key.length ≤ 32 then sumL 16 key d else List.replicate 16 0
def gCodeA : SpecF := fun args => match args with
  | [.w (.s (.xs 1 (.s m) (.u8 key))), .w (.s (.xs 1 (.s n) (.sl ls)))] => some ([m = key.length, n = ls.length, ls.length < 4611686018427387904, ls.flatten.length ≤ 4294966000], .w (.agg [.vec (.n 16) (.u8 (codeL key ls.flatten))]))
  | _ => none
end Go.Bla
