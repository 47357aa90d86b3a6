/- Steps towards SessionExchangesSaid. -/
import Derived.Test.YtimjfjlaoekfkaaEngD
import Derived.KernelRfl
/- A step towards SessionExchangesSaid: no conditions. -/
namespace Go.Cha
open Go Go.Eng
def rol (x : UInt32) (k : Nat) : UInt32 := shl32 x k ||| shr32 x (32 - k)
structure Q where
  a : UInt32
  b : UInt32
  c : UInt32
  d : UInt32
def qr (a b c d : UInt32) : Q :=
  let a1 := a + b
  let d1 := rol (d ^^^ a1) 16
  let c1 := c + d1
  let b1 := rol (b ^^^ c1) 12
  let a2 := a1 + b1
  let d2 := rol (d1 ^^^ a2) 8
  let c2 := c1 + d2
  let b2 := rol (b1 ^^^ c2) 7
  ⟨a2, b2, c2, d2⟩
structure W16 where
  x0 : UInt32
  x1 : UInt32
  x2 : UInt32
  x3 : UInt32
  x4 : UInt32
  x5 : UInt32
  x6 : UInt32
  x7 : UInt32
  x8 : UInt32
  x9 : UInt32
  x10 : UInt32
  x11 : UInt32
  x12 : UInt32
  x13 : UInt32
  x14 : UInt32
  x15 : UInt32
abbrev W16.l (w : W16) : List UInt32 := [w.x0, w.x1, w.x2, w.x3, w.x4, w.x5, w.x6, w.x7, w.x8, w.x9, w.x10, w.x11, w.x12, w.x13, w.x14, w.x15]
def col (w : W16) : W16 :=
  let p := qr w.x0 w.x4 w.x8 w.x12
  let q := qr w.x1 w.x5 w.x9 w.x13
  let r := qr w.x2 w.x6 w.x10 w.x14
  let s := qr w.x3 w.x7 w.x11 w.x15
  ⟨p.a, q.a, r.a, s.a, p.b, q.b, r.b, s.b, p.c, q.c, r.c, s.c, p.d, q.d, r.d, s.d⟩
def dia (w : W16) : W16 :=
  let p := qr w.x0 w.x5 w.x10 w.x15
  let q := qr w.x1 w.x6 w.x11 w.x12
  let r := qr w.x2 w.x7 w.x8 w.x13
  let s := qr w.x3 w.x4 w.x9 w.x14
  ⟨p.a, q.a, r.a, s.a, s.b, p.b, q.b, r.b, r.c, s.c, p.c, q.c, q.d, r.d, s.d, p.d⟩
def dbl (w : W16) : W16 := dia (col w)
def iter {α : Type} (f : α → α) : Nat → α → α
  | 0, x => x
  | n + 1, x => f (iter f n x)
def coreW (w : W16) : W16 := iter dbl 10 w
def coreL (l : List UInt32) : List UInt32 :=
  match l with
  | [x0, x1, x2, x3, x4, x5, x6, x7, x8, x9, x10, x11, x12, x13, x14, x15] => (coreW ⟨x0, x1, x2, x3, x4, x5, x6, x7, x8, x9, x10, x11, x12, x13, x14, x15⟩).l
  | l => l
theorem len16 {l : List UInt32} (h : l.length = 16) : ∃ w : W16, l = w.l := by
  match l, h with
  | [x0, x1, x2, x3, x4, x5, x6, x7, x8, x9, x10, x11, x12, x13, x14, x15], _ => exact ⟨⟨x0, x1, x2, x3, x4, x5, x6, x7, x8, x9, x10, x11, x12, x13, x14, x15⟩, rfl⟩
theorem coreL_l (w : W16) : coreL w.l = (coreW w).l := rfl
def qrAt (w : List UInt32) (a b c d : Nat) : List UInt32 :=
  let w1 := w.set a (w.getD a 0 + w.getD b 0)
  let w2 := w1.set d (rol (w1.getD d 0 ^^^ w1.getD a 0) 16)
  let w3 := w2.set c (w2.getD c 0 + w2.getD d 0)
  let w4 := w3.set b (rol (w3.getD b 0 ^^^ w3.getD c 0) 12)
  let w5 := w4.set a (w4.getD a 0 + w4.getD b 0)
  let w6 := w5.set d (rol (w5.getD d 0 ^^^ w5.getD a 0) 8)
  let w7 := w6.set c (w6.getD c 0 + w6.getD d 0)
  w7.set b (rol (w7.getD b 0 ^^^ w7.getD c 0) 7)
theorem qr8 (w : W16) : qrAt (qrAt (qrAt (qrAt (qrAt (qrAt (qrAt (qrAt w.l 0 4 8 12) 1 5 9 13) 2 6 10 14) 3 7 11 15) 0 5 10 15) 1 6 11 12) 2 7 8 13) 3 4 9 14 = (dbl w).l := by kernel_rfl
def gQuarter : SpecF := fun args => match args with
  | [.w (.s (.u32 a)), .w (.s (.u32 b)), .w (.s (.u32 c)), .w (.s (.u32 d))] => some ([], .tup [.s (.u32 (qr a b c d).a), .s (.u32 (qr a b c d).b), .s (.u32 (qr a b c d).c), .s (.u32 (qr a b c d).d)])
  | _ => none
def gLeft : SpecF := fun args => match args with
  | [.w (.s (.u32 x)), .w (.s (.i64 k))] => some ([0 ≤ k ∧ k ≤ 32], .s (.u32 (rol x k.toNat)))
  | _ => none
def gQuarterAt : SpecF := fun args => match args with
  | [.w (.agg [.vec (.n 16) (.u32 w)]), .w (.s (.i64 a)), .w (.s (.i64 b)), .w (.s (.i64 c)), .w (.s (.i64 d))] =>
    some ([0 ≤ a ∧ a < 16, 0 ≤ b ∧ b < 16, 0 ≤ c ∧ c < 16, 0 ≤ d ∧ d < 16], .w (.agg [.vec (.n 16) (.u32 (qrAt w a.toNat b.toNat c.toNat d.toNat))]))
  | _ => none
def gCore : SpecF := fun args => match args with
  | [.w (.agg [.vec (.n 16) (.u32 w)])] => some ([w.length = 16], .w (.agg [.vec (.n 16) (.u32 (coreL w))]))
  | _ => none
/-- the loop over the double rounds -/
noncomputable def JCore (slot blk : Nat) (keep : List Nat) (σ : St) : Option Inv :=
  match getO σ.own blk with
  | some [.vec _ (.u32 l)] => some {
      α := Nat × W16
      ok := fun x => x.1 ≤ 10 ∧ coreL l = (iter dbl (10 - x.1) x.2).l
      mu := fun x => 10 - x.1
      keep := keep
      slots := fun x => [(slot, .s (.i64 x.1))]
      own := fun x => [(blk, some [.vec (.n 16) (.u32 x.2.l)])]
      ext := fun _ => [] }
  | _ => none
end Go.Cha

/- A step towards SessionExchangesSaid: no conditions. -/
namespace Go.Cod
open Go Go.Eng
/-- the number of bytes, the least significant one first -/
def readL : List UInt8 → UInt64
  | [] => 0
  | b :: r => shl64 (readL r) 8 ||| b.toUInt64
theorem shl64_or (x y : UInt64) (n : Nat) : shl64 (x ||| y) n = shl64 x n ||| shl64 y n := by
  unfold shl64
  apply UInt64.toBitVec_inj.1
  show (x.toBitVec ||| y.toBitVec) <<< n = x.toBitVec <<< n ||| y.toBitVec <<< n
  exact BitVec.shiftLeft_or_distrib ..
theorem shl64_add (x : UInt64) (m n : Nat) : shl64 (shl64 x m) n = shl64 x (m + n) := by
  unfold shl64
  apply UInt64.toBitVec_inj.1
  show (x.toBitVec <<< m) <<< n = x.toBitVec <<< (m + n)
  exact (BitVec.shiftLeft_add ..).symm
theorem shl64_zero (x : UInt64) : shl64 x 0 = x := by
  unfold shl64
  apply UInt64.toBitVec_inj.1
  show x.toBitVec <<< 0 = x.toBitVec
  exact BitVec.shiftLeft_zero ..
theorem shl64_big (x : UInt64) {n : Nat} (h : 64 ≤ n) : shl64 x n = 0 := by
  unfold shl64
  apply UInt64.toBitVec_inj.1
  show x.toBitVec <<< n = 0
  exact BitVec.shiftLeft_eq_zero h
theorem shl64_of0 (n : Nat) : shl64 0 n = 0 := by
  unfold shl64
  apply UInt64.toBitVec_inj.1
  show (0 : BitVec 64) <<< n = 0
  exact BitVec.zero_shiftLeft n
theorem or_right_comm64 (a b c : UInt64) : a ||| b ||| c = a ||| c ||| b := by
  rw [UInt64.or_assoc, UInt64.or_comm b c, ← UInt64.or_assoc]
theorem readL_append : ∀ (a : List UInt8) (b : UInt8), readL (a ++ [b]) = readL a ||| shl64 b.toUInt64 (8 * a.length)
  | [], b => by
    show shl64 0 8 ||| b.toUInt64 = 0 ||| shl64 b.toUInt64 0
    rw [shl64_of0, shl64_zero]
  | x :: a, b => by
    show shl64 (readL (a ++ [b])) 8 ||| x.toUInt64 = (shl64 (readL a) 8 ||| x.toUInt64) ||| shl64 b.toUInt64 (8 * (a.length + 1))
    rw [readL_append a b, shl64_or, shl64_add, or_right_comm64, show 8 * a.length + 8 = 8 * (a.length + 1) by omega]
theorem readL_take (l : List UInt8) : ∀ n, 8 ≤ n → n ≤ l.length → readL (l.take n) = readL (l.take 8) := by
  intro n hn hl
  induction n with
  | zero => omega
  | succ n ih =>
    by_cases h : n + 1 = 8
    · rw [h]
    · rw [List.take_add_one, List.getElem?_eq_getElem (by omega), Option.toList_some, readL_append, shl64_big, UInt64.or_zero, ih (by omega) (by omega)]
      rw [List.length_take]; omega
theorem readL_min (l : List UInt8) : readL (l.take (min l.length 8)) = readL l := by
  by_cases h : l.length ≤ 8
  · rw [Nat.min_eq_left h, List.take_length]
  · rw [Nat.min_eq_right (by omega), ← readL_take l l.length (by omega) (Nat.le_refl _), List.take_length]
theorem readL_step (l : List UInt8) (i : Nat) (h : i < l.length) : readL (l.take (i + 1)) = readL (l.take i) ||| shl64 (l.getD i 0).toUInt64 (8 * i) := by
  rw [List.take_add_one, List.getElem?_eq_getElem h, Option.toList_some, readL_append, List.length_take, Nat.min_eq_left (by omega)]
  rw [List.getD_eq_getElem?_getD, List.getElem?_eq_getElem h]; rfl
theorem readL_drop (l : List UInt8) (i : Nat) (h : i < l.length) : readL (l.drop i) = shl64 (readL (l.drop (i + 1))) 8 ||| (l.getD i 0).toUInt64 := by
  rw [List.drop_eq_getElem_cons h]
  show shl64 _ 8 ||| _ = _
  rw [List.getD_eq_getElem?_getD, List.getElem?_eq_getElem h]; rfl
def gReadL : SpecF := fun args => match args with
  | [.w (.s (.xs 1 (.s m) (.u8 l)))] => some ([m = l.length, l.length < 4611686018427387904], .s (.u64 (readL l)))
  | _ => none
def gJoin : SpecF := fun args => match args with
  | [.w (.s (.xs 1 (.s m) (.sl ls)))] => some ([m = ls.length, ls.length < 4611686018427387904, ls.flatten.length ≤ 4294967296], .s (.xs 1 (.s ls.flatten.length) (.u8 ls.flatten)))
  | _ => none
noncomputable def JReadL (σ : St) : Option Inv :=
  match getF σ.fr 0 with
  | .w (.s (.xs _ _ (.u8 l))) => some {
      α := Nat
      ok := fun i => i ≤ min l.length 8
      mu := fun i => 8 - i
      keep := [0, 2, 7]
      slots := fun i => [(3, .s (.u64 (readL (l.take i)))), (8, .s (.i64 i))]
      own := fun _ => []
      ext := fun _ => [] }
  | _ => none
noncomputable def JReadLr (σ : St) : Option Inv :=
  match getF σ.fr 0 with
  | .w (.s (.xs _ _ (.u8 l))) => some {
      α := Nat
      ok := fun i => i ≤ l.length
      mu := fun i => i
      keep := [0, 2]
      slots := fun i => [(3, .s (.u64 (readL (l.drop i)))), (4, .s (.i64 ((i : Int) - 1)))]
      own := fun _ => []
      ext := fun _ => [] }
  | _ => none
noncomputable def JJoin (σ : St) : Option Inv :=
  match getF σ.fr 0 with
  | .w (.s (.xs _ _ (.sl ls))) => some {
      α := Nat
      ok := fun i => i ≤ ls.length
      mu := fun i => ls.length - i
      keep := [0, 2, 6, 7]
      slots := fun i => [(3, .s (.sl σ.own.length 0 (.n 0) (.s (ls.take i).flatten.length) 1)), (8, .s (.i64 i))]
      own := fun _ => []
      ext := fun i => [(3, [.vec (.s (ls.take i).flatten.length) (.u8 (ls.take i).flatten)])] }
  | _ => none
/-- the lowest bytes of a number, the least significant one first -/
def littleL (n : UInt64) : Nat → List UInt8
  | 0 => []
  | s + 1 => littleL n s ++ [(shr64 n (8 * s)).toUInt8]
theorem littleL_len (n : UInt64) : ∀ s, (littleL n s).length = s
  | 0 => rfl
  | s + 1 => by simp [littleL, littleL_len n s]
def gLittle : SpecF := fun args => match args with
  | [.w (.s (.u64 n)), .w (.s (.i64 s))] => some ([1 ≤ s ∧ s ≤ 8], .s (.xs 1 (.s s.toNat) (.u8 (littleL n s.toNat))))
  | _ => none
/-- .. where the size is written out -/
def gLittleN : SpecF := fun args => match args with
  | [.w (.s (.u64 n)), .w (.s (.i64 s))] => match s with
    | .ofNat m => bif Nat.beq m 4 then some ([], .s (.xs 1 (.n 4) (.u8 [(shr64 n 0).toUInt8, (shr64 n 8).toUInt8, (shr64 n 16).toUInt8, (shr64 n 24).toUInt8])))
      else bif Nat.beq m 8 then some ([], .s (.xs 1 (.n 8) (.u8 [(shr64 n 0).toUInt8, (shr64 n 8).toUInt8, (shr64 n 16).toUInt8, (shr64 n 24).toUInt8, (shr64 n 32).toUInt8, (shr64 n 40).toUInt8, (shr64 n 48).toUInt8, (shr64 n 56).toUInt8])))
      else none
    | _ => none
  | _ => none
theorem littleN_of {P : Program} {f : FuncId} (h : Con P f gLittle) : Con P f gLittleN := con_conv h fun args ps res hg hp => by
  unfold gLittleN at hg
  split at hg
  · rename_i n s
    split at hg
    · rename_i m
      cases h4 : Nat.beq m 4
      · rw [h4] at hg
        cases h8 : Nat.beq m 8
        · rw [h8] at hg; cases hg
        · rw [h8] at hg
          have h8 := Nat.eq_of_beq_eq_true h8
          subst h8
          cases hg
          exact ⟨_, _, rfl, all_cons.2 ⟨by decide, all_nil⟩, out_len rfl rfl⟩
      · rw [h4] at hg
        have h4 := Nat.eq_of_beq_eq_true h4
        subst h4
        cases hg
        exact ⟨_, _, rfl, all_cons.2 ⟨by decide, all_nil⟩, out_len rfl rfl⟩
    · cases hg
  · cases hg
noncomputable def JLittle (slot : Nat) (keep : List Nat) (σ : St) : Option Inv :=
  match getF σ.fr 0, getF σ.fr 1 with
  | .w (.s (.u64 n)), .w (.s (.i64 s)) => some {
      α := Nat
      ok := fun i => (i : Int) ≤ s
      mu := fun i => s.toNat - i
      keep := keep
      slots := fun i => [(5, .s (.sl σ.own.length 0 (.n 0) (.s i) 1)), (slot, .s (.i64 i))]
      own := fun _ => []
      ext := fun i => [(5, [.vec (.s i) (.u8 (littleL n i))])] }
  | _, _ => none
end Go.Cod

/- A step towards SessionExchangesSaid: no conditions. -/
namespace Go.Cha
open Go Go.Eng Go.Cod
def rd (l : List UInt8) (o : Nat) : UInt32 := (readL ((l.drop o).take 4)).toUInt32
def blkIn (k : List UInt8) (c : UInt32) (n : List UInt8) : W16 :=
  ⟨1634760805, 857760878, 2036477234, 1797285236, rd k 0, rd k 4, rd k 8, rd k 12, rd k 16, rd k 20, rd k 24, rd k 28, c, rd n 0, rd n 4, rd n 8⟩
abbrev by4 (x : UInt32) (r : List UInt8) : List UInt8 := (shr64 x.toUInt64 0).toUInt8 :: (shr64 x.toUInt64 8).toUInt8 :: (shr64 x.toUInt64 16).toUInt8 :: (shr64 x.toUInt64 24).toUInt8 :: r
def outL (w o : W16) : List UInt8 :=
  by4 (o.x0 + w.x0) (by4 (o.x1 + w.x1) (by4 (o.x2 + w.x2) (by4 (o.x3 + w.x3) (by4 (o.x4 + w.x4) (by4 (o.x5 + w.x5) (by4 (o.x6 + w.x6) (by4 (o.x7 + w.x7)
    (by4 (o.x8 + w.x8) (by4 (o.x9 + w.x9) (by4 (o.x10 + w.x10) (by4 (o.x11 + w.x11) (by4 (o.x12 + w.x12) (by4 (o.x13 + w.x13) (by4 (o.x14 + w.x14) (by4 (o.x15 + w.x15) [])))))))))))))))
def block (k : List UInt8) (c : UInt32) (n : List UInt8) : List UInt8 := outL (blkIn k c n) (coreW (blkIn k c n))
theorem block_len (k : List UInt8) (c : UInt32) (n : List UInt8) : (block k c n).length = 64 := rfl
def stateL (k rest : List UInt8) : List UInt32 :=
  [1634760805, 857760878, 2036477234, 1797285236, rd k 0, rd k 4, rd k 8, rd k 12, rd k 16, rd k 20, rd k 24, rd k 28, rd rest 0, rd rest 4, rd rest 8, rd rest 12]
def gState : SpecF := fun args => match args with
  | [.w (.agg [.vec (.n 32) (.u8 k)]), .w (.s (.xs 1 (.s m) (.u8 r)))] => some ([m = r.length, 16 ≤ m], .w (.agg [.vec (.n 16) (.u32 (stateL k r))]))
  | _ => none
def gBlock : SpecF := fun args => match args with
  | [.w (.agg [.vec (.n 32) (.u8 k)]), .w (.s (.u32 c)), .w (.agg [.vec (.n 12) (.u8 n)])] => some ([], .w (.agg [.vec (.n 64) (.u8 (block k c n))]))
  | _ => none
end Go.Cha

/- A step towards SessionExchangesSaid: no conditions. -/
namespace Go.Cha
open Go Go.Eng Go.Cod
def padB (k n : List UInt8) (c : UInt32) (i : Nat) : UInt8 := (block k (c + UInt32.ofNat (i / 64)) n).getD (i % 64) 0
def xorTo (k n : List UInt8) (c : UInt32) (d : List UInt8) : Nat → List UInt8
  | 0 => []
  | i + 1 => xorTo k n c d i ++ [d.getD i 0 ^^^ padB k n c i]
def xorL (k n : List UInt8) (c : UInt32) (d : List UInt8) : List UInt8 := xorTo k n c d d.length
theorem xorTo_len (k n : List UInt8) (c : UInt32) (d : List UInt8) : ∀ i, (xorTo k n c d i).length = i
  | 0 => rfl
  | i + 1 => by simp [xorTo, xorTo_len k n c d i]
theorem xorL_len (k n : List UInt8) (c : UInt32) (d : List UInt8) : (xorL k n c d).length = d.length := xorTo_len ..
theorem xorTo_get (k n : List UInt8) (c : UInt32) (d : List UInt8) : ∀ (m i : Nat), i < m → (xorTo k n c d m)[i]? = some (d.getD i 0 ^^^ padB k n c i)
  | m + 1, i, h => by
    rw [xorTo]
    by_cases hi : i < m
    · rw [List.getElem?_append_left (by rw [xorTo_len]; exact hi)]
      exact xorTo_get k n c d m i hi
    · have : i = m := by omega
      subst this
      rw [List.getElem?_append_right (by rw [xorTo_len]; exact Nat.le_refl _), xorTo_len, Nat.sub_self]
      rfl
theorem xorL_get (k n : List UInt8) (c : UInt32) (d : List UInt8) (i : Nat) : (xorL k n c d)[i]? = d[i]?.map fun x => x ^^^ padB k n c i := by
  by_cases h : i < d.length
  · rw [xorL, xorTo_get _ _ _ _ _ _ h, List.getElem?_eq_getElem h, List.getD_eq_getElem?_getD, List.getElem?_eq_getElem h]; rfl
  · rw [List.getElem?_eq_none (by rw [xorL_len]; omega), List.getElem?_eq_none (by omega)]; rfl
def padAt (k n : List UInt8) (c : UInt32) (i : Nat) : List UInt8 :=
  match i with
  | 0 => List.replicate 64 0
  | i + 1 => block k (c + UInt32.ofNat (i / 64)) n
def gXor : SpecF := fun args => match args with
  | [.w (.agg [.vec (.n 32) (.u8 k)]), .w (.s (.u32 c)), .w (.agg [.vec (.n 12) (.u8 n)]), .w (.s (.xs 1 (.s m) (.u8 d)))] => some ([m = d.length, d.length ≤ 4294967296], .s (.xs 1 (.s d.length) (.u8 (xorL k n c d))))
  | _ => none
noncomputable def JXor (σ : St) : Option Inv :=
  match getF σ.fr 0, getF σ.fr 1, getF σ.fr 2, getF σ.fr 3, names σ.fr 10 with
  | .w (.agg [.vec _ (.u8 k)]), .w (.s (.u32 c)), .w (.agg [.vec _ (.u8 n)]), .w (.s (.xs _ _ (.u8 d))), some b => some {
      α := Nat
      ok := fun i => i ≤ d.length
      mu := fun i => d.length - i
      keep := [0, 2, 3, 4, 6, 8, 10, 13, 14]
      slots := fun i => [(1, .s (.u32 (c + UInt32.ofNat ((i + 63) / 64)))), (9, .s (.sl σ.own.length 0 (.n 0) (.s i) 1)), (15, .s (.i64 i))]
      own := fun i => [(b, some [.vec (.n 64) (.u8 (padAt k n c i))])]
      ext := fun i => [(9, [.vec (.s i) (.u8 (xorTo k n c d i))])] }
  | _, _, _, _, _ => none
noncomputable def JXorR (σ : St) : Option Inv :=
  match getF σ.fr 0, getF σ.fr 1, getF σ.fr 2, getF σ.fr 3, names σ.fr 10 with
  | .w (.agg [.vec _ (.u8 k)]), .w (.s (.u32 c)), .w (.agg [.vec _ (.u8 n)]), .w (.s (.xs _ _ (.u8 d))), some b => some {
      α := Nat
      ok := fun i => i ≤ d.length
      mu := fun i => d.length - i
      keep := [0, 1, 2, 3, 4, 6, 8, 10, 13, 14]
      slots := fun i => [(9, .s (.sl σ.own.length 0 (.n 0) (.s i) 1)), (15, .s (.i64 i))]
      own := fun i => [(b, some [.vec (.n 64) (.u8 (padAt k n c i))])]
      ext := fun i => [(9, [.vec (.s i) (.u8 (xorTo k n c d i))])] }
  | _, _, _, _, _ => none
def gTrue0 : SpecF := fun args => match args with
  | [] => some ([], .s (.b true))
  | _ => none
end Go.Cha
