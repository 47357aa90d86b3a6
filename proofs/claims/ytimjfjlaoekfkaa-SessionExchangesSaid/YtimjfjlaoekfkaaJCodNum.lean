/- Steps towards SessionExchangesSaid. -/
import Derived.Test.YtimjfjlaoekfkaaJChaSpec
/- A step towards SessionExchangesSaid: no conditions. -/
namespace Go.Cod
open Go Go.Eng
/-- the number of bytes, as a natural number -/
def natL : List UInt8 → Nat
  | [] => 0
  | b :: r => b.toNat + 256 * natL r
theorem natL_lt : ∀ l : List UInt8, natL l < 256 ^ l.length
  | [] => by simp [natL]
  | b :: r => by
    have h1 := natL_lt r
    have h2 := b.toNat_lt
    rw [List.length_cons, Nat.pow_succ, natL]
    omega
theorem natL_append : ∀ (a b : List UInt8), natL (a ++ b) = natL a + 256 ^ a.length * natL b
  | [], b => by simp [natL]
  | x :: a, b => by
    rw [List.cons_append, natL, natL_append a b, natL, List.length_cons, Nat.pow_succ, Nat.mul_add]
    rw [Nat.mul_comm (256 ^ a.length) 256, Nat.mul_assoc]
    omega
theorem pow256_8 {n : Nat} (h : n ≤ 8) : 256 ^ n ≤ 18446744073709551616 := by
  calc 256 ^ n ≤ 256 ^ 8 := Nat.pow_le_pow_right (by omega) h
    _ = 18446744073709551616 := rfl
theorem shl64_toNat (x : UInt64) (n : Nat) : (shl64 x n).toNat = x.toNat * 2 ^ n % 18446744073709551616 := by
  show (x.toBitVec <<< n).toNat = _
  rw [BitVec.toNat_shiftLeft, Nat.shiftLeft_eq]; rfl
theorem shr64_toNat (x : UInt64) (n : Nat) : (shr64 x n).toNat = x.toNat / 2 ^ n := by
  show (x.toBitVec >>> n).toNat = _
  rw [BitVec.toNat_ushiftRight, Nat.shiftRight_eq_div_pow]; rfl
theorem shr32_toNat (x : UInt32) (n : Nat) : (shr32 x n).toNat = x.toNat / 2 ^ n := by
  show (x.toBitVec >>> n).toNat = _
  rw [BitVec.toNat_ushiftRight, Nat.shiftRight_eq_div_pow]; rfl
theorem shl32_toNat (x : UInt32) (n : Nat) : (shl32 x n).toNat = x.toNat * 2 ^ n % 4294967296 := by
  show (x.toBitVec <<< n).toNat = _
  rw [BitVec.toNat_shiftLeft, Nat.shiftLeft_eq]; rfl
theorem readL_nat : ∀ l : List UInt8, l.length ≤ 8 → (readL l).toNat = natL l
  | [], _ => rfl
  | b :: r, h => by
    rw [List.length_cons] at h
    have ih := readL_nat r (by omega)
    have h1 := natL_lt r
    have h2 : 256 ^ r.length ≤ 256 ^ 7 := Nat.pow_le_pow_right (by omega) (by omega)
    have h3 : (256 : Nat) ^ 7 = 72057594037927936 := rfl
    have hb := b.toNat_lt
    show (shl64 (readL r) 8 ||| b.toUInt64).toNat = _
    rw [UInt64.toNat_or, shl64_toNat, ih, UInt8.toNat_toUInt64, natL, Nat.mod_eq_of_lt (by omega)]
    have := Nat.shiftLeft_add_eq_or_of_lt (a := natL r) (b := b.toNat) (i := 8) (by omega)
    rw [Nat.shiftLeft_eq] at this
    rw [← this]
    omega
theorem natL_little (x : UInt64) : ∀ s, natL (littleL x s) = x.toNat % 256 ^ s
  | 0 => by simp [littleL, natL, Nat.mod_one]
  | s + 1 => by
    rw [littleL, natL_append, littleL_len, natL_little x s, natL, natL, Nat.mul_zero, Nat.add_zero]
    rw [UInt64.toNat_toUInt8, shr64_toNat, show 2 ^ (8 * s) = 256 ^ s by rw [Nat.pow_mul], show (2 : Nat) ^ 8 = 256 from rfl]
    exact (Nat.mod_pow_succ).symm
theorem readL_little8 (x : UInt64) : readL (littleL x 8) = x := by
  apply UInt64.toNat.inj
  rw [readL_nat _ (by rw [littleL_len]; omega), natL_little]
  exact Nat.mod_eq_of_lt x.toNat_lt
theorem readL_little4 (c : UInt32) : (readL (littleL c.toUInt64 4)).toUInt32 = c := by
  apply UInt32.toNat.inj
  rw [UInt64.toNat_toUInt32, readL_nat _ (by rw [littleL_len]; omega), natL_little, UInt32.toNat_toUInt64]
  have := c.toNat_lt
  have e : (256 : Nat) ^ 4 = 4294967296 := rfl
  rw [e, Nat.mod_eq_of_lt this, Nat.mod_eq_of_lt this]
end Go.Cod

/- A step towards SessionExchangesSaid: no conditions. -/
namespace Go.Pol
open Go Go.Eng Go.Cod
abbrev D64 : Nat := 18446744073709551616
abbrev D128 : Nat := 340282366920938463463374607431768211456
abbrev D192 : Nat := 6277101735386680763835789423207666416102355444464034512896
abbrev P130 : Nat := 1361129467683753853853498429727072845819
def u (n : Nat) : UInt64 := UInt64.ofNat n
theorem u_nat (n : Nat) : (u n).toNat = n % D64 := by unfold u; rw [UInt64.toNat_ofNat']
theorem u_eq {x : UInt64} {n : Nat} (h : x.toNat = n % D64) : x = u n := UInt64.toNat_inj.1 (by rw [h, u_nat])
def val3 (l : List UInt64) : Nat := (l.getD 0 0).toNat + D64 * (l.getD 1 0).toNat + D128 * (l.getD 2 0).toNat
def w3 (n : Nat) : List UInt64 := [u n, u (n / D64), u (n / D128)]
theorem w3_val {n : Nat} (h : n < D192) : val3 (w3 n) = n := by
  show (u n).toNat + D64 * (u (n / D64)).toNat + D128 * (u (n / D128)).toNat = n
  rw [u_nat, u_nat, u_nat]
  simp only [D64, D128, D192] at h ⊢
  omega
/-- a product, reduced to little more than 130 bits -/
def red1 (x : Nat) : Nat := x % 1361129467683753853853498429727072845824 + 5 * (x / 1361129467683753853853498429727072845824)
def gAdd64 : SpecF := fun args => match args with
  | [.w (.s (.u64 x)), .w (.s (.u64 y)), .w (.s (.u64 c))] => some ([c.toNat ≤ 1], .tup [.s (.u64 (u (x.toNat + y.toNat + c.toNat))), .s (.u64 (u ((x.toNat + y.toNat + c.toNat) / D64)))])
  | _ => none
def gSub64 : SpecF := fun args => match args with
  | [.w (.s (.u64 x)), .w (.s (.u64 y)), .w (.s (.u64 c))] => some ([c.toNat ≤ 1], .tup [.s (.u64 (u (x.toNat + D64 - y.toNat - c.toNat))), .s (.u64 (u (if x.toNat < y.toNat + c.toNat then 1 else 0)))])
  | _ => none
def gMul64 : SpecF := fun args => match args with
  | [.w (.s (.u64 x)), .w (.s (.u64 y))] => some ([], .tup [.s (.u64 (u (x.toNat * y.toNat / D64))), .s (.u64 (u (x.toNat * y.toNat)))])
  | _ => none
def gProd : SpecF := fun args => match args with
  | [.w (.s (.u64 x)), .w (.s (.u64 y))] => some ([], .w (.agg [.one (.u64 (u (x.toNat * y.toNat / D64))), .one (.u64 (u (x.toNat * y.toNat)))]))
  | _ => none
def gPlus : SpecF := fun args => match args with
  | [.w (.agg [.one (.u64 a), .one (.u64 b)]), .w (.agg [.one (.u64 c), .one (.u64 d)])] => some ([], .w (.agg [.one (.u64 (u ((b.toNat + D64 * a.toNat + (d.toNat + D64 * c.toNat)) / D64))), .one (.u64 (u (b.toNat + D64 * a.toNat + (d.toNat + D64 * c.toNat))))]))
  | _ => none
def gAddN : SpecF := fun args => match args with
  | [.w (.agg [.vec (.n 3) (.u64 l)]), .w (.agg [.one (.u64 c), .one (.u64 d)])] => some ([], .w (.agg [.vec (.n 3) (.u64 (w3 (val3 l + (d.toNat + D64 * c.toNat))))]))
  | _ => none
def gTimes : SpecF := fun args => match args with
  | [.w (.agg [.vec (.n 3) (.u64 l)]), .w (.s (.u64 r)), .w (.s (.u64 s))] => some ([val3 l < 2722258935367507707706996859454145691648, r.toNat < 1152921504606846976, s.toNat < 1152921504606846976], .w (.agg [.vec (.n 3) (.u64 (w3 (red1 (val3 l * (r.toNat + D64 * s.toNat)))))]))
  | _ => none
def gReduced : SpecF := fun args => match args with
  | [.w (.agg [.vec (.n 3) (.u64 l)])] => some ([], .w (.agg [.vec (.n 3) (.u64 (w3 (if val3 l < P130 then val3 l else val3 l - P130)))]))
  | _ => none
end Go.Pol

/- A step towards SessionExchangesSaid: no conditions. -/
namespace Go.Pol
open Go Go.Eng Go.Cod
/-- block j of a text, a one behind it -/
def blkP (d : List UInt8) (j : Nat) : Nat := natL ((d.drop (16 * j)).take 16) + 256 ^ (min 16 (d.length - 16 * j))
def hN (r : Nat) (d : List UInt8) : Nat → Nat
  | 0 => 0
  | j + 1 => red1 ((hN r d j + blkP d j) * r)
def nbP (d : List UInt8) : Nat := (d.length + 15) / 16
def r0 (k : List UInt8) : UInt64 := readL (k.take 8) &&& UInt64.ofNat 1152921487695413247
def r1 (k : List UInt8) : UInt64 := readL ((k.drop 8).take 8) &&& UInt64.ofNat 1152921487695413244
def rOf (k : List UInt8) : Nat := (r0 k).toNat + D64 * (r1 k).toNat
def sOf (k : List UInt8) : Nat := (readL ((k.drop 16).take 8)).toNat + D64 * (readL ((k.drop 24).take 8)).toNat
def redP (h : Nat) : Nat := if h < P130 then h else h - P130
def polyN (k d : List UInt8) : Nat := redP (hN (rOf k) d (nbP d)) + sOf k
def polyL (k d : List UInt8) : List UInt8 := littleL (u (polyN k d)) 8 ++ littleL (u (polyN k d / D64)) 8
def gPoly : SpecF := fun args => match args with
  | [.w (.agg [.vec (.n 32) (.u8 k)]), .w (.s (.xs 1 (.s m) (.u8 d)))] => some ([m = d.length, d.length ≤ 4294967296], .w (.agg [.vec (.n 16) (.u8 (polyL k d))]))
  | _ => none
noncomputable def JPoly (σ : St) : Option Inv :=
  match getF σ.fr 1, names σ.fr 7, getF σ.fr 5, getF σ.fr 6 with
  | .w (.s (.xs _ _ (.u8 d))), some kh, .w (.s (.u64 r)), .w (.s (.u64 s)) => some {
      α := Nat
      ok := fun j => j ≤ nbP d
      mu := fun j => nbP d - j
      keep := [2, 4, 5, 6, 7]
      slots := fun j => [(1, .s (.xs 1 (.s (d.drop (16 * j)).length) (.u8 (d.drop (16 * j)))))]
      own := fun j => [(kh, some [.vec (.n 3) (.u64 (w3 (hN (r.toNat + D64 * s.toNat) d j)))])]
      ext := fun _ => [] }
  | _, _, _, _ => none
end Go.Pol

/- A step towards SessionExchangesSaid: no conditions. -/
namespace Go.Aed
open Go Go.Eng Go.Cod Go.Cha Go.Pol
def dif (a b : List UInt8) : Nat → UInt8
  | 0 => 0
  | i + 1 => dif a b i ||| (a.getD i 0 ^^^ b.getD i 0)
def gEqual : SpecF := fun args => match args with
  | [.w (.s (.xs 1 (.s m) (.u8 a))), .w (.s (.xs 1 (.s n) (.u8 b)))] => some ([m = a.length, n = b.length, a.length < 4611686018427387904, b.length < 4611686018427387904], .s (.b (a == b)))
  | _ => none
noncomputable def JEqual (σ : St) : Option Inv :=
  match getF σ.fr 0, getF σ.fr 1 with
  | .w (.s (.xs _ _ (.u8 a))), .w (.s (.xs _ _ (.u8 b))) => some {
      α := Nat
      ok := fun i => i ≤ a.length
      mu := fun i => a.length - i
      keep := [0, 1, 13]
      slots := fun i => [(5, .s (.u8 (dif a b i))), (14, .s (.i64 i))]
      own := fun _ => []
      ext := fun _ => [] }
  | _, _ => none
def zp (n : Nat) : Nat := (16 - n % 16) % 16
def zerosL (n : Nat) : List UInt8 := List.replicate (zp n) 0
def gFilled : SpecF := fun args => match args with
  | [.w (.s (.xs 1 (.s m) (.u8 b)))] => some ([m = b.length, b.length ≤ 4294967296], .s (.xs 1 (.s (zp b.length)) (.u8 (zerosL b.length))))
  | _ => none
def fillL (b : List UInt8) : List UInt8 := b ++ zerosL b.length
def gFilledR : SpecF := fun args => match args with
  | [.w (.s (.xs 1 (.s m) (.u8 b)))] => some ([m = b.length, b.length ≤ 4294967000], .s (.xs 1 (.s (fillL b).length) (.u8 (fillL b))))
  | _ => none
noncomputable def JFilledR (σ : St) : Option Inv :=
  match getF σ.fr 0, names σ.fr 3 with
  | .w (.s (.xs _ _ (.u8 b))), some kb => some {
      α := Nat
      ok := fun i => i ≤ zp b.length
      mu := fun i => zp b.length - i
      keep := [0]
      slots := fun i => [(3, .s (.sl σ.own.length 0 (.n 0) (.s (b.length + i)) 1))]
      own := fun _ => [(kb, none)]
      ext := fun i => [(3, [.vec (.s (b.length + i)) (.u8 (b ++ List.replicate i 0))])] }
  | _, _ => none
def macL (c m : List UInt8) : List UInt8 := m ++ (zerosL m.length ++ (c ++ (zerosL c.length ++ (littleL (to64 m.length) 8 ++ littleL (to64 c.length) 8))))
def tagL (k n c m : List UInt8) : List UInt8 := polyL ((block k 0 n).take 32) (macL c m)
def gTag : SpecF := fun args => match args with
  | [.w (.agg [.vec (.n 32) (.u8 k)]), .w (.agg [.vec (.n 12) (.u8 n)]), .w (.s (.xs 1 (.s u) (.u8 c))), .w (.s (.xs 1 (.s v) (.u8 m)))] => some ([u = c.length, v = m.length, c.length ≤ 1073741824, m.length ≤ 1073741824], .w (.agg [.vec (.n 16) (.u8 (tagL k n c m))]))
  | _ => none
def sealL (k n p m : List UInt8) : List UInt8 := xorL k n 1 p ++ tagL k n (xorL k n 1 p) m
def gSeal : SpecF := fun args => match args with
  | [.w (.agg [.vec (.n 32) (.u8 k)]), .w (.agg [.vec (.n 12) (.u8 n)]), .w (.s (.xs 1 (.s u) (.u8 p))), .w (.s (.xs 1 (.s v) (.u8 m)))] => some ([u = p.length, v = m.length, p.length ≤ 1073741824, m.length ≤ 1073741824], .s (.xs 1 (.s (sealL k n p m).length) (.u8 (sealL k n p m))))
  | _ => none
def openE (k n s m : List UInt8) : Int := if s.length < 16 then 2 else if tagL k n (s.take (s.length - 16)) m = s.drop (s.length - 16) then 0 else 6
def openL (k n s m : List UInt8) : List UInt8 := if openE k n s m = 0 then xorL k n 1 (s.take (s.length - 16)) else []
def gOpen : SpecF := fun args => match args with
  | [.w (.agg [.vec (.n 32) (.u8 k)]), .w (.agg [.vec (.n 12) (.u8 n)]), .w (.s (.xs 1 (.s u) (.u8 s))), .w (.s (.xs 1 (.s v) (.u8 m)))] => some ([u = s.length, v = m.length, s.length ≤ 1073741824, m.length ≤ 1073741824], .tup [.s (.xs 1 (.s (openL k n s m).length) (.u8 (openL k n s m))), .s (.i64 (openE k n s m))])
  | _ => none
def countL (c : UInt64) : List UInt8 := List.replicate 4 0 ++ littleL c 8
def gCounter : SpecF := fun args => match args with
  | [.w (.s (.u64 c))] => some ([], .w (.agg [.vec (.n 12) (.u8 (countL c))]))
  | _ => none
end Go.Aed
