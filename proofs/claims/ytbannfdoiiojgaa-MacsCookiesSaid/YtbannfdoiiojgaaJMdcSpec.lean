/- Steps towards MacsCookiesSaid. -/
import Derived.Test.YtbannfdoiiojgaaJBlhSpec
import Derived.Test.YtbannfdoiiojgaaJChaSpec
/- A step towards MacsCookiesSaid: no conditions. -/
namespace Go.Msg
open Go Go.Eng Go.Cod
def kindL (b : List UInt8) : Int :=
  if b.length < 4 ∨ b.getD 1 0 ≠ 0 ∨ b.getD 2 0 ≠ 0 ∨ b.getD 3 0 ≠ 0 then 0 else
    if (b.getD 0 0 = 1 ∧ b.length = 148) ∨ (b.getD 0 0 = 2 ∧ b.length = 92) ∨ (b.getD 0 0 = 3 ∧ b.length = 64) ∨ (b.getD 0 0 = 4 ∧ 32 ≤ b.length ∧ b.length ≤ 2100) then ((b.getD 0 0).toNat : Int) else 0
/-- n bytes from place o on, of a message of kind k -/
def fld (k : Int) (b : List UInt8) (o n : Nat) : List UInt8 := if kindL b = k then (b.drop o).take n else List.replicate n 0
def fld32 (k : Int) (b : List UInt8) (o : Nat) : UInt32 := if kindL b = k then (readL ((b.drop o).take 4)).toUInt32 else 0
def fld64 (k : Int) (b : List UInt8) (o : Nat) : UInt64 := if kindL b = k then readL ((b.drop o).take 8) else 0
def fldR (k : Int) (b : List UInt8) (o : Nat) : List UInt8 := if kindL b = k then b.drop o else []
def decE (k : Int) (b : List UInt8) : Int := if kindL b = k then 0 else 4
def gKind : SpecF := fun args => match args with
  | [.w (.s (.xs 1 (.s m) (.u8 b)))] => some ([m = b.length, m ≤ 4294967296], .s (.i64 (kindL b)))
  | _ => none
def gN32 : SpecF := fun args => match args with
  | [.w (.s (.xs 1 (.s m) (.u8 b)))] => some ([m = b.length, 4 ≤ m], .s (.u32 (readL (b.take 4)).toUInt32))
  | _ => none
def dInit (b : List UInt8) : V := .tup [.agg [.one (.u32 (fld32 1 b 4)), .vec (.n 32) (.u8 (fld 1 b 8 32)), .vec (.n 48) (.u8 (fld 1 b 40 48)), .vec (.n 28) (.u8 (fld 1 b 88 28)), .vec (.n 16) (.u8 (fld 1 b 116 16)), .vec (.n 16) (.u8 (fld 1 b 132 16))], .s (.i64 (decE 1 b))]
def dResp (b : List UInt8) : V := .tup [.agg [.one (.u32 (fld32 2 b 4)), .one (.u32 (fld32 2 b 8)), .vec (.n 32) (.u8 (fld 2 b 12 32)), .vec (.n 16) (.u8 (fld 2 b 44 16)), .vec (.n 16) (.u8 (fld 2 b 60 16)), .vec (.n 16) (.u8 (fld 2 b 76 16))], .s (.i64 (decE 2 b))]
def dCook (b : List UInt8) : V := .tup [.agg [.one (.u32 (fld32 3 b 4)), .vec (.n 24) (.u8 (fld 3 b 8 24)), .vec (.n 32) (.u8 (fld 3 b 32 32))], .s (.i64 (decE 3 b))]
def dTran (b : List UInt8) : V := .tup [.agg [.one (.u32 (fld32 4 b 4)), .one (.u64 (fld64 4 b 8)), .one (.xs 1 (.s (fldR 4 b 16).length) (.u8 (fldR 4 b 16)))], .s (.i64 (decE 4 b))]
def gDec (d : List UInt8 → V) : SpecF := fun args => match args with
  | [.w (.s (.xs 1 (.s m) (.u8 b)))] => some ([m = b.length, m ≤ 4294967296], d b)
  | _ => none
end Go.Msg

/- A step towards MacsCookiesSaid: no conditions. -/
namespace Go.Cha
open Go Go.Eng Go.Cod
def rd (l : List UInt8) (o : Nat) : UInt32 := (readL ((l.drop o).take 4)).toUInt32
def blkIn (k : List UInt8) (c : UInt32) (n : List UInt8) : W16 :=
  ⟨1634760805, 857760878, 2036477234, 1797285236, rd k 0, rd k 4, rd k 8, rd k 12, rd k 16, rd k 20, rd k 24, rd k 28, c, rd n 0, rd n 4, rd n 8⟩
abbrev by4 (x : UInt32) (r : List UInt8) : List UInt8 := (shr64 x.toUInt64 0).toUInt8 :: (shr64 x.toUInt64 8).toUInt8 :: (shr64 x.toUInt64 16).toUInt8 :: (shr64 x.toUInt64 24).toUInt8 :: r
def outL (w o : W16) : List UInt8 :=
  by4 (o.x0 + w.x0) (by4 (o.x1 + w.x1) (by4 (o.x2 + w.x2) (by4 (o.x3 + w.x3) (by4 (o.x4 + w.x4) (by4 (o.x5 + w.x5) (by4 (o.x6 + w.x6) (by4 (o.x7 + w.x7)
    (by4 (o.x8 + w.x8) (by4 (o.x9 + w.x9) (by4 (o.x10 + w.x10) (by4 (o.x11 + w.x11) (by4 (o.x12 + w.x12) (by4 (o.x13 + w.x13) (by4 (o.x14 + w.x14) (by4 (o.x15 + w.x15) [])))))))))))))))
def block (k : List UInt8) (c : UInt32) (n : List UInt8) : List UInt8 := outL (blkIn k c n) (coreW (blkIn k c n))
theorem block_len (k : List UInt8) (c : UInt32) (n : List UInt8) : (block k c n).length = 64 := rfl
def stateL (k rest : List UInt8) : List UInt32 :=
  [1634760805, 857760878, 2036477234, 1797285236, rd k 0, rd k 4, rd k 8, rd k 12, rd k 16, rd k 20, rd k 24, rd k 28, rd rest 0, rd rest 4, rd rest 8, rd rest 12]
def gState : SpecF := fun args => match args with
  | [.w (.agg [.vec (.n 32) (.u8 k)]), .w (.s (.xs 1 (.s m) (.u8 r)))] => some ([m = r.length, 16 ≤ m], .w (.agg [.vec (.n 16) (.u32 (stateL k r))]))
  | _ => none
def gBlock : SpecF := fun args => match args with
  | [.w (.agg [.vec (.n 32) (.u8 k)]), .w (.s (.u32 c)), .w (.agg [.vec (.n 12) (.u8 n)])] => some ([], .w (.agg [.vec (.n 64) (.u8 (block k c n))]))
  | _ => none
end Go.Cha

/- A step towards MacsCookiesSaid: no conditions. -/
namespace Go.Cha
open Go Go.Eng Go.Cod
def padB (k n : List UInt8) (c : UInt32) (i : Nat) : UInt8 := (block k (c + UInt32.ofNat (i / 64)) n).getD (i % 64) 0
def xorTo (k n : List UInt8) (c : UInt32) (d : List UInt8) : Nat → List UInt8
  | 0 => []
  | i + 1 => xorTo k n c d i ++ [d.getD i 0 ^^^ padB k n c i]
def xorL (k n : List UInt8) (c : UInt32) (d : List UInt8) : List UInt8 := xorTo k n c d d.length
theorem xorTo_len (k n : List UInt8) (c : UInt32) (d : List UInt8) : ∀ i, (xorTo k n c d i).length = i
  | 0 => rfl
  | i + 1 => by simp [xorTo, xorTo_len k n c d i]
theorem xorL_len (k n : List UInt8) (c : UInt32) (d : List UInt8) : (xorL k n c d).length = d.length := xorTo_len ..
theorem xorTo_get (k n : List UInt8) (c : UInt32) (d : List UInt8) : ∀ (m i : Nat), i < m → (xorTo k n c d m)[i]? = some (d.getD i 0 ^^^ padB k n c i)
  | m + 1, i, h => by
    rw [xorTo]
    by_cases hi : i < m
    · rw [List.getElem?_append_left (by rw [xorTo_len]; exact hi)]
      exact xorTo_get k n c d m i hi
    · have : i = m := by omega
      subst this
      rw [List.getElem?_append_right (by rw [xorTo_len]; exact Nat.le_refl _), xorTo_len, Nat.sub_self]
      rfl
theorem xorL_get (k n : List UInt8) (c : UInt32) (d : List UInt8) (i : Nat) : (xorL k n c d)[i]? = d[i]?.map fun x => x ^^^ padB k n c i := by
  by_cases h : i < d.length
  · rw [xorL, xorTo_get _ _ _ _ _ _ h, List.getElem?_eq_getElem h, List.getD_eq_getElem?_getD, List.getElem?_eq_getElem h]; rfl
  · rw [List.getElem?_eq_none (by rw [xorL_len]; omega), List.getElem?_eq_none (by omega)]; rfl
def padAt (k n : List UInt8) (c : UInt32) (i : Nat) : List UInt8 :=
  match i with
  | 0 => List.replicate 64 0
  | i + 1 => block k (c + UInt32.ofNat (i / 64)) n
def gXor : SpecF := fun args => match args with
  | [.w (.agg [.vec (.n 32) (.u8 k)]), .w (.s (.u32 c)), .w (.agg [.vec (.n 12) (.u8 n)]), .w (.s (.xs 1 (.s m) (.u8 d)))] => some ([m = d.length, d.length ≤ 4294967296], .s (.xs 1 (.s d.length) (.u8 (xorL k n c d))))
  | _ => none
noncomputable def JXor (σ : St) : Option Inv :=
  match getF σ.fr 0, getF σ.fr 1, getF σ.fr 2, getF σ.fr 3, names σ.fr 10 with
  | .w (.agg [.vec _ (.u8 k)]), .w (.s (.u32 c)), .w (.agg [.vec _ (.u8 n)]), .w (.s (.xs _ _ (.u8 d))), some b => some {
      α := Nat
      ok := fun i => i ≤ d.length
      mu := fun i => d.length - i
      keep := [0, 2, 3, 4, 6, 8, 10, 13, 14]
      slots := fun i => [(1, .s (.u32 (c + UInt32.ofNat ((i + 63) / 64)))), (9, .s (.sl σ.own.length 0 (.n 0) (.s i) 1)), (15, .s (.i64 i))]
      own := fun i => [(b, some [.vec (.n 64) (.u8 (padAt k n c i))])]
      ext := fun i => [(9, [.vec (.s i) (.u8 (xorTo k n c d i))])] }
  | _, _, _, _, _ => none
noncomputable def JXorR (σ : St) : Option Inv :=
  match getF σ.fr 0, getF σ.fr 1, getF σ.fr 2, getF σ.fr 3, names σ.fr 10 with
  | .w (.agg [.vec _ (.u8 k)]), .w (.s (.u32 c)), .w (.agg [.vec _ (.u8 n)]), .w (.s (.xs _ _ (.u8 d))), some b => some {
      α := Nat
      ok := fun i => i ≤ d.length
      mu := fun i => d.length - i
      keep := [0, 1, 2, 3, 4, 6, 8, 10, 13, 14]
      slots := fun i => [(9, .s (.sl σ.own.length 0 (.n 0) (.s i) 1)), (15, .s (.i64 i))]
      own := fun i => [(b, some [.vec (.n 64) (.u8 (padAt k n c i))])]
      ext := fun i => [(9, [.vec (.s i) (.u8 (xorTo k n c d i))])] }
  | _, _, _, _, _ => none
def gTrue0 : SpecF := fun args => match args with
  | [] => some ([], .s (.b true))
  | _ => none
end Go.Cha

/- A step towards MacsCookiesSaid: no conditions. -/
namespace Go.Pol
open Go Go.Eng Go.Cod
abbrev D64 : Nat := 18446744073709551616
abbrev D128 : Nat := 340282366920938463463374607431768211456
abbrev D192 : Nat := 6277101735386680763835789423207666416102355444464034512896
abbrev P130 : Nat := 1361129467683753853853498429727072845819
def u (n : Nat) : UInt64 := UInt64.ofNat n
theorem u_nat (n : Nat) : (u n).toNat = n % D64 := by unfold u; rw [UInt64.toNat_ofNat']
theorem u_eq {x : UInt64} {n : Nat} (h : x.toNat = n % D64) : x = u n := UInt64.toNat_inj.1 (by rw [h, u_nat])
def val3 (l : List UInt64) : Nat := (l.getD 0 0).toNat + D64 * (l.getD 1 0).toNat + D128 * (l.getD 2 0).toNat
def w3 (n : Nat) : List UInt64 := [u n, u (n / D64), u (n / D128)]
theorem w3_val {n : Nat} (h : n < D192) : val3 (w3 n) = n := by
  show (u n).toNat + D64 * (u (n / D64)).toNat + D128 * (u (n / D128)).toNat = n
  rw [u_nat, u_nat, u_nat]
  simp only [D64, D128, D192] at h ⊢
  omega
/-- a product, reduced to little more than 130 bits -/
def red1 (x : Nat) : Nat := x % 1361129467683753853853498429727072845824 + 5 * (x / 1361129467683753853853498429727072845824)
def gAdd64 : SpecF := fun args => match args with
  | [.w (.s (.u64 x)), .w (.s (.u64 y)), .w (.s (.u64 c))] => some ([c.toNat ≤ 1], .tup [.s (.u64 (u (x.toNat + y.toNat + c.toNat))), .s (.u64 (u ((x.toNat + y.toNat + c.toNat) / D64)))])
  | _ => none
def gSub64 : SpecF := fun args => match args with
  | [.w (.s (.u64 x)), .w (.s (.u64 y)), .w (.s (.u64 c))] => some ([c.toNat ≤ 1], .tup [.s (.u64 (u (x.toNat + D64 - y.toNat - c.toNat))), .s (.u64 (u (if x.toNat < y.toNat + c.toNat then 1 else 0)))])
  | _ => none
def gMul64 : SpecF := fun args => match args with
  | [.w (.s (.u64 x)), .w (.s (.u64 y))] => some ([], .tup [.s (.u64 (u (x.toNat * y.toNat / D64))), .s (.u64 (u (x.toNat * y.toNat)))])
  | _ => none
def gProd : SpecF := fun args => match args with
  | [.w (.s (.u64 x)), .w (.s (.u64 y))] => some ([], .w (.agg [.one (.u64 (u (x.toNat * y.toNat / D64))), .one (.u64 (u (x.toNat * y.toNat)))]))
  | _ => none
def gPlus : SpecF := fun args => match args with
  | [.w (.agg [.one (.u64 a), .one (.u64 b)]), .w (.agg [.one (.u64 c), .one (.u64 d)])] => some ([], .w (.agg [.one (.u64 (u ((b.toNat + D64 * a.toNat + (d.toNat + D64 * c.toNat)) / D64))), .one (.u64 (u (b.toNat + D64 * a.toNat + (d.toNat + D64 * c.toNat))))]))
  | _ => none
def gAddN : SpecF := fun args => match args with
  | [.w (.agg [.vec (.n 3) (.u64 l)]), .w (.agg [.one (.u64 c), .one (.u64 d)])] => some ([], .w (.agg [.vec (.n 3) (.u64 (w3 (val3 l + (d.toNat + D64 * c.toNat))))]))
  | _ => none
def gTimes : SpecF := fun args => match args with
  | [.w (.agg [.vec (.n 3) (.u64 l)]), .w (.s (.u64 r)), .w (.s (.u64 s))] => some ([val3 l < 2722258935367507707706996859454145691648, r.toNat < 1152921504606846976, s.toNat < 1152921504606846976], .w (.agg [.vec (.n 3) (.u64 (w3 (red1 (val3 l * (r.toNat + D64 * s.toNat)))))]))
  | _ => none
def gReduced : SpecF := fun args => match args with
  | [.w (.agg [.vec (.n 3) (.u64 l)])] => some ([], .w (.agg [.vec (.n 3) (.u64 (w3 (if val3 l < P130 then val3 l else val3 l - P130)))]))
  | _ => none
end Go.Pol
