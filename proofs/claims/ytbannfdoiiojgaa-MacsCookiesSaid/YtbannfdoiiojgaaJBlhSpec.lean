/- Steps towards MacsCookiesSaid. -/
import Derived.Test.YtbannfdoiiojgaaJChaSpec
/- A step towards MacsCookiesSaid: no conditions. -/
namespace Go.Bla
open Go Go.Eng Go.Cha Go.Cod
def gHash : SpecF := fun args => match args with
  | [.w (.s (.xs 1 (.s m) (.sl ls)))] => some ([m = ls.length, ls.length < 4611686018427387904, ls.flatten.length ≤ 4294966000], .w (.agg [.vec (.n 32) (.u8 (sumL 32 [] ls.flatten))]))
  | _ => none
def gCode : SpecF := fun args => match args with
  | [.w (.s (.xs 1 (.s m) (.u8 key))), .w (.s (.xs 1 (.s n) (.sl ls)))] => some ([m = key.length, key.length ≤ 32, n = ls.length, ls.length < 4611686018427387904, ls.flatten.length ≤ 4294966000], .w (.agg [.vec (.n 16) (.u8 (sumL 16 key ls.flatten))]))
  | _ => none
def gTrue0 : SpecF := fun args => match args with
  | [] => some ([], .s (.b true))
  | _ => none
end Go.Bla

/- A step towards MacsCookiesSaid: no conditions. -/
namespace Go.Bla
open Go Go.Eng Go.Cha Go.Cod
/-- the code under a key of any length: zeros where the key is too long -/
def codeL (key d : List UInt8) : List UInt8 := if key.length ≤ 32 then sumL 16 key d else List.replicate 16 0
def gCodeA : SpecF := fun args => match args with
  | [.w (.s (.xs 1 (.s m) (.u8 key))), .w (.s (.xs 1 (.s n) (.sl ls)))] => some ([m = key.length, n = ls.length, ls.length < 4611686018427387904, ls.flatten.length ≤ 4294966000], .w (.agg [.vec (.n 16) (.u8 (codeL key ls.flatten))]))
  | _ => none
end Go.Bla

/- A step towards MacsCookiesSaid: no conditions. -/
namespace Go.Cod
open Go Go.Eng
/-- the number of bytes, as a natural number -/
def natL : List UInt8 → Nat
  | [] => 0
  | b :: r => b.toNat + 256 * natL r
theorem natL_lt : ∀ l : List UInt8, natL l < 256 ^ l.length
  | [] => by simp [natL]
  | b :: r => by
    have h1 := natL_lt r
    have h2 := b.toNat_lt
    rw [List.length_cons, Nat.pow_succ, natL]
    omega
theorem natL_append : ∀ (a b : List UInt8), natL (a ++ b) = natL a + 256 ^ a.length * natL b
  | [], b => by simp [natL]
  | x :: a, b => by
    rw [List.cons_append, natL, natL_append a b, natL, List.length_cons, Nat.pow_succ, Nat.mul_add]
    rw [Nat.mul_comm (256 ^ a.length) 256, Nat.mul_assoc]
    omega
theorem pow256_8 {n : Nat} (h : n ≤ 8) : 256 ^ n ≤ 18446744073709551616 := by
  calc 256 ^ n ≤ 256 ^ 8 := Nat.pow_le_pow_right (by omega) h
    _ = 18446744073709551616 := rfl
theorem shl64_toNat (x : UInt64) (n : Nat) : (shl64 x n).toNat = x.toNat * 2 ^ n % 18446744073709551616 := by
  show (x.toBitVec <<< n).toNat = _
  rw [BitVec.toNat_shiftLeft, Nat.shiftLeft_eq]; rfl
theorem shr64_toNat (x : UInt64) (n : Nat) : (shr64 x n).toNat = x.toNat / 2 ^ n := by
  show (x.toBitVec >>> n).toNat = _
  rw [BitVec.toNat_ushiftRight, Nat.shiftRight_eq_div_pow]; rfl
theorem shr32_toNat (x : UInt32) (n : Nat) : (shr32 x n).toNat = x.toNat / 2 ^ n := by
  show (x.toBitVec >>> n).toNat = _
  rw [BitVec.toNat_ushiftRight, Nat.shiftRight_eq_div_pow]; rfl
theorem shl32_toNat (x : UInt32) (n : Nat) : (shl32 x n).toNat = x.toNat * 2 ^ n % 4294967296 := by
  show (x.toBitVec <<< n).toNat = _
  rw [BitVec.toNat_shiftLeft, Nat.shiftLeft_eq]; rfl
theorem readL_nat : ∀ l : List UInt8, l.length ≤ 8 → (readL l).toNat = natL l
  | [], _ => rfl
  | b :: r, h => by
    rw [List.length_cons] at h
    have ih := readL_nat r (by omega)
    have h1 := natL_lt r
    have h2 : 256 ^ r.length ≤ 256 ^ 7 := Nat.pow_le_pow_right (by omega) (by omega)
    have h3 : (256 : Nat) ^ 7 = 72057594037927936 := rfl
    have hb := b.toNat_lt
    show (shl64 (readL r) 8 ||| b.toUInt64).toNat = _
    rw [UInt64.toNat_or, shl64_toNat, ih, UInt8.toNat_toUInt64, natL, Nat.mod_eq_of_lt (by omega)]
    have := Nat.shiftLeft_add_eq_or_of_lt (a := natL r) (b := b.toNat) (i := 8) (by omega)
    rw [Nat.shiftLeft_eq] at this
    rw [← this]
    omega
theorem natL_little (x : UInt64) : ∀ s, natL (littleL x s) = x.toNat % 256 ^ s
  | 0 => by simp [littleL, natL, Nat.mod_one]
  | s + 1 => by
    rw [littleL, natL_append, littleL_len, natL_little x s, natL, natL, Nat.mul_zero, Nat.add_zero]
    rw [UInt64.toNat_toUInt8, shr64_toNat, show 2 ^ (8 * s) = 256 ^ s by rw [Nat.pow_mul], show (2 : Nat) ^ 8 = 256 from rfl]
    exact (Nat.mod_pow_succ).symm
theorem readL_little8 (x : UInt64) : readL (littleL x 8) = x := by
  apply UInt64.toNat.inj
  rw [readL_nat _ (by rw [littleL_len]; omega), natL_little]
  exact Nat.mod_eq_of_lt x.toNat_lt
theorem readL_little4 (c : UInt32) : (readL (littleL c.toUInt64 4)).toUInt32 = c := by
  apply UInt32.toNat.inj
  rw [UInt64.toNat_toUInt32, readL_nat _ (by rw [littleL_len]; omega), natL_little, UInt32.toNat_toUInt64]
  have := c.toNat_lt
  have e : (256 : Nat) ^ 4 = 4294967296 := rfl
  rw [e, Nat.mod_eq_of_lt this, Nat.mod_eq_of_lt this]
end Go.Cod

/- A step towards MacsCookiesSaid: no conditions. -/
namespace Go.Msg
open Go Go.Eng Go.Cod
def initL (s : UInt32) (e st t m1 m2 : List UInt8) : List UInt8 := [1, 0, 0, 0] ++ (littleL s.toUInt64 4 ++ (e ++ (st ++ (t ++ (m1 ++ m2)))))
def respL (s r : UInt32) (e em m1 m2 : List UInt8) : List UInt8 := [2, 0, 0, 0] ++ (littleL s.toUInt64 4 ++ (littleL r.toUInt64 4 ++ (e ++ (em ++ (m1 ++ m2)))))
def cookL (r : UInt32) (n c : List UInt8) : List UInt8 := [3, 0, 0, 0] ++ (littleL r.toUInt64 4 ++ (n ++ c))
def tranL (r : UInt32) (c : UInt64) (b : List UInt8) : List UInt8 := [4, 0, 0, 0] ++ (littleL r.toUInt64 4 ++ (littleL c 8 ++ b))
def tranR (r : UInt32) (c : UInt64) (b : List UInt8) : List UInt8 := if b.length < 16 then [] else if 2084 < b.length then [] else tranL r c b
def tranE (b : List UInt8) : Int := if b.length < 16 then 2 else if 2084 < b.length then 3 else 0
def gInit : SpecF := fun args => match args with
  | [.w (.agg [.one (.u32 s), .vec (.n 32) (.u8 e), .vec (.n 48) (.u8 st), .vec (.n 28) (.u8 t), .vec (.n 16) (.u8 m1), .vec (.n 16) (.u8 m2)])] => some ([], .s (.xs 1 (.n 148) (.u8 (initL s e st t m1 m2))))
  | _ => none
def gResp : SpecF := fun args => match args with
  | [.w (.agg [.one (.u32 s), .one (.u32 r), .vec (.n 32) (.u8 e), .vec (.n 16) (.u8 em), .vec (.n 16) (.u8 m1), .vec (.n 16) (.u8 m2)])] => some ([], .s (.xs 1 (.n 92) (.u8 (respL s r e em m1 m2))))
  | _ => none
def gCook : SpecF := fun args => match args with
  | [.w (.agg [.one (.u32 r), .vec (.n 24) (.u8 n), .vec (.n 32) (.u8 c)])] => some ([], .s (.xs 1 (.n 64) (.u8 (cookL r n c))))
  | _ => none
def gTran : SpecF := fun args => match args with
  | [.w (.agg [.one (.u32 r), .one (.u64 c), .one (.xs 1 (.s m) (.u8 b))])] => some ([m = b.length, m ≤ 4294967296], .tup [.s (.xs 1 (.s (tranR r c b).length) (.u8 (tranR r c b))), .s (.i64 (tranE b))])
  | _ => none
def gTrue0 : SpecF := fun args => match args with
  | [] => some ([], .s (.b true))
  | _ => none
def gU32 : SpecF := fun args => match args with
  | [.w (.s (.u32 n))] => some ([], .s (.xs 1 (.n 4) (.u8 [(shr64 n.toUInt64 0).toUInt8, (shr64 n.toUInt64 8).toUInt8, (shr64 n.toUInt64 16).toUInt8, (shr64 n.toUInt64 24).toUInt8])))
  | _ => none
end Go.Msg
