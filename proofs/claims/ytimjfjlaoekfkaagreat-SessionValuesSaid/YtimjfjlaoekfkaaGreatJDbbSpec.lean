/- Steps towards SessionValuesSaid. -/
import Derived.Test.YtimjfjlaoekfkaaGreatJDakSpec
import Derived.Test.YtimjfjlaoekfkaaGreatJDauSpec
import Derived.Test.YtimjfjlaoekfkaaGreatJDaxCon
import Derived.Test.YtimjfjlaoekfkaaGreatJCodSpec
/- A step towards SessionValuesSaid: no conditions. -/

namespace Go.Cds
open Go Go.Eng Go.Cod Go.Dae Go.Win
def dmS (d : Dm) (n : Nat) : List Ch := rulC d.r ++ [.vec (.n 32) (.u8 d.priv), .vec (.n 32) (.u8 d.pub), .one (.i64 d.port), .vec (.n 32) (.u8 d.rnd), .one (.i64 d.now), .one (.sl n 0 (.n 0) (.s d.np) 464), .one (.sl (n + 1) 0 (.n 0) (.s d.nr) 50), .one (.sl (n + 2) 0 (.n 0) (.s d.ns) 34), .one (.sl (n + 3) 0 (.n 0) (.s d.nt) 34), .vec (.n 32) (.u8 d.sec), .one (.i64 d.sat), .one (.sl (n + 4) 0 (.n 0) (.s d.nc) 1), .one (.sl (n + 5) 0 (.n 0) (.s d.nb) 19), .one (.i64 d.bad)]
noncomputable def JD0 (σ : St) : Option Inv :=
  match Nat.beq σ.fr.length 124, names σ.fr 0, names σ.fr 3 with
  | true, some kc, some kd => match getO σ.own kc with
    | some (.one (.xs 1 (.s m) (.u8 l)) :: _) => some {
        α := Nat × Int × Dm
        ok := fun a => a.1 ≤ 3 ∧ (0 ≤ a.2.1 ∧ a.2.1 ≤ l.length) ∧ a.2.2.Ok ∧ a.2.2.Bd ∧ a.2.2.np ≤ a.1 ∧ a.2.2.nr ≤ a.1 ∧ a.2.2.nt ≤ a.1 ∧ a.2.2.ns = 0
        mu := fun a => 3 - a.1
        keep := [0, 2, 3, 4]
        slots := fun a => [(5, .s (.i64 a.1))]
        own := fun a => [(kc, some [.one (.xs 1 (.s m) (.u8 l)), .one (.i64 a.2.1)]), (kd, some (dmS a.2.2 σ.own.length))]
        ext := fun a => [(40015, [.vec (.s (a.2.2.np * 464)) (.va a.2.2.ps)]), (40016, [.vec (.s (a.2.2.nr * 50)) (.va a.2.2.rs)]), (40017, [.vec (.s (a.2.2.ns * 34)) (.va a.2.2.ss)]), (40018, [.vec (.s (a.2.2.nt * 34)) (.va a.2.2.ts)]), (40021, [.vec (.s a.2.2.nc) (.u8 a.2.2.rc)]), (40022, [.vec (.s (a.2.2.nb * 19)) (.va a.2.2.bk)])] }
    | _ => none
  | _, _, _ => none
noncomputable def JX0 (σ : St) : Option Inv :=
  match Nat.beq σ.fr.length 124, names σ.fr 0, names σ.fr 3 with
  | true, some kc, some kd => match getO σ.own kc with
    | some (.one (.xs 1 (.s m) (.u8 l)) :: _) => some {
        α := Int × Dm
        ok := fun a => (0 ≤ a.1 ∧ a.1 ≤ l.length) ∧ a.2.Ok ∧ a.2.Bd ∧ a.2.ns = 0 ∧ a.2.nt ≤ 3
        mu := fun _ => 0
        keep := [0, 2, 3, 4]
        slots := fun _ => []
        own := fun a => [(kc, some [.one (.xs 1 (.s m) (.u8 l)), .one (.i64 a.1)]), (kd, some (dmC a.2))]
        ext := fun _ => [] }
    | _ => none
  | _, _, _ => none
noncomputable def JD2 (σ : St) : Option Inv :=
  match Nat.beq σ.fr.length 124, names σ.fr 0, names σ.fr 3 with
  | true, some kc, some kd => match getO σ.own kc with
    | some (.one (.xs 1 (.s m) (.u8 l)) :: _) => some {
        α := Nat × Int × Dm
        ok := fun a => a.1 ≤ 3 ∧ (0 ≤ a.2.1 ∧ a.2.1 ≤ l.length) ∧ a.2.2.Ok ∧ a.2.2.Bd ∧ a.2.2.ns ≤ 3 * a.1 ∧ a.2.2.nt ≤ 3 + 3 * a.1
        mu := fun a => 3 - a.1
        keep := [0, 2, 3, 4]
        slots := fun a => [(7, .s (.i64 a.1))]
        own := fun a => [(kc, some [.one (.xs 1 (.s m) (.u8 l)), .one (.i64 a.2.1)]), (kd, some (dmC a.2.2))]
        ext := fun _ => [] }
    | _ => none
  | _, _, _ => none
noncomputable def JD4 (σ : St) : Option Inv :=
  match names σ.fr 0, names σ.fr 3, getF σ.fr 7 with
  | some kc, some kd, .w (.s (.i64 e)) => match getO σ.own kc with
    | some (.one (.xs 1 (.s m) (.u8 l)) :: _) => some {
        α := Nat × Int × Dm
        ok := fun a => a.1 ≤ 3 ∧ (0 ≤ a.2.1 ∧ a.2.1 ≤ l.length) ∧ a.2.2.Ok ∧ a.2.2.Bd ∧ (a.2.2.ns : Int) ≤ 3 * e + 3 - a.1 ∧ (a.2.2.nt : Int) ≤ 6 + 3 * e - a.1
        mu := fun a => a.1
        keep := [0, 2, 3, 4, 7]
        slots := fun a => [(8, .s (.i64 a.1))]
        own := fun a => [(kc, some [.one (.xs 1 (.s m) (.u8 l)), .one (.i64 a.2.1)]), (kd, some (dmC a.2.2))]
        ext := fun _ => [] }
    | _ => none
  | _, _, _ => none
noncomputable def J50 (σ : St) : Option Inv :=
  match Nat.beq σ.fr.length 54, Nat.beq σ.fr.length 124 with
  | true, _ => match names σ.fr 3 with
    | some k => match getO σ.own k with
      | some cs => some {
          α := UInt64 × UInt64
          ok := fun _ => True
          mu := fun _ => 0
          keep := [0, 2, 3]
          slots := fun _ => []
          own := fun a => [(k, some (.one (.u64 a.1) :: .one (.u64 a.2) :: cs.drop 2))]
          ext := fun _ => [] }
      | none => none
    | none => none
  | _, true => match names σ.fr 6 with
    | some k => match getO σ.own k with
      | some cs => some {
          α := BS × Int
          ok := fun a => a.1.length = 16
          mu := fun _ => 0
          keep := [0, 2, 3, 4, 5, 6]
          slots := fun _ => []
          own := fun a => [(k, some (cs.take 4 ++ .vec (.n 16) (.u8 a.1) :: .one (.i64 a.2) :: cs.drop 6))]
          ext := fun _ => [] }
      | none => none
    | none => none
  | _, _ => none
end Go.Cds

/- A step towards SessionValuesSaid: no conditions. -/

namespace Go.Cod
open Go Go.Eng
def natL : List UInt8 → Nat
  | [] => 0
  | b :: r => b.toNat + 256 * natL r
theorem natL_lt : ∀ l : List UInt8, natL l < 256 ^ l.length
  | [] => by simp [natL]
  | b :: r => by
    have h1 := natL_lt r
    have h2 := b.toNat_lt
    rw [List.length_cons, Nat.pow_succ, natL]
    omega
theorem natL_append : ∀ (a b : List UInt8), natL (a ++ b) = natL a + 256 ^ a.length * natL b
  | [], b => by simp [natL]
  | x :: a, b => by
    rw [List.cons_append, natL, natL_append a b, natL, List.length_cons, Nat.pow_succ, Nat.mul_add]
    rw [Nat.mul_comm (256 ^ a.length) 256, Nat.mul_assoc]
    omega
theorem shl64_toNat (x : UInt64) (n : Nat) : (shl64 x n).toNat = x.toNat * 2 ^ n % 18446744073709551616 := by
  show (x.toBitVec <<< n).toNat = _
  rw [BitVec.toNat_shiftLeft, Nat.shiftLeft_eq]; rfl
theorem shr64_toNat (x : UInt64) (n : Nat) : (shr64 x n).toNat = x.toNat / 2 ^ n := by
  show (x.toBitVec >>> n).toNat = _
  rw [BitVec.toNat_ushiftRight, Nat.shiftRight_eq_div_pow]; rfl
theorem shr32_toNat (x : UInt32) (n : Nat) : (shr32 x n).toNat = x.toNat / 2 ^ n := by
  show (x.toBitVec >>> n).toNat = _
  rw [BitVec.toNat_ushiftRight, Nat.shiftRight_eq_div_pow]; rfl
theorem shl32_toNat (x : UInt32) (n : Nat) : (shl32 x n).toNat = x.toNat * 2 ^ n % 4294967296 := by
  show (x.toBitVec <<< n).toNat = _
  rw [BitVec.toNat_shiftLeft, Nat.shiftLeft_eq]; rfl
theorem readL_nat : ∀ l : List UInt8, l.length ≤ 8 → (readL l).toNat = natL l
  | [], _ => rfl
  | b :: r, h => by
    rw [List.length_cons] at h
    have ih := readL_nat r (by omega)
    have h1 := natL_lt r
    have h2 : 256 ^ r.length ≤ 256 ^ 7 := Nat.pow_le_pow_right (by omega) (by omega)
    have h3 : (256 : Nat) ^ 7 = 72057594037927936 := rfl
    have hb := b.toNat_lt
    show (shl64 (readL r) 8 ||| b.toUInt64).toNat = _
    rw [UInt64.toNat_or, shl64_toNat, ih, UInt8.toNat_toUInt64, natL, Nat.mod_eq_of_lt (by omega)]
    have := Nat.shiftLeft_add_eq_or_of_lt (a := natL r) (b := b.toNat) (i := 8) (by omega)
    rw [Nat.shiftLeft_eq] at this
    rw [← this]
    omega
end Go.Cod

/- A step towards SessionValuesSaid: no conditions. -/

namespace Go.Pol
open Go Go.Eng Go.Cod
abbrev D64 : Nat := 18446744073709551616
abbrev D128 : Nat := 340282366920938463463374607431768211456
abbrev D192 : Nat := 6277101735386680763835789423207666416102355444464034512896
abbrev P130 : Nat := 1361129467683753853853498429727072845819
def u (n : Nat) : UInt64 := UInt64.ofNat n
theorem u_nat (n : Nat) : (u n).toNat = n % D64 := by unfold u; rw [UInt64.toNat_ofNat']
theorem u_eq {x : UInt64} {n : Nat} (h : x.toNat = n % D64) : x = u n := UInt64.toNat_inj.1 (by rw [h, u_nat])
def val3 (l : List UInt64) : Nat := (l.getD 0 0).toNat + D64 * (l.getD 1 0).toNat + D128 * (l.getD 2 0).toNat
def w3 (n : Nat) : List UInt64 := [u n, u (n / D64), u (n / D128)]
theorem w3_val {n : Nat} (h : n < D192) : val3 (w3 n) = n := by
  show (u n).toNat + D64 * (u (n / D64)).toNat + D128 * (u (n / D128)).toNat = n
  rw [u_nat, u_nat, u_nat]
  simp only [D64, D128, D192] at h ⊢
  omega
def red1 (x : Nat) : Nat := x % 1361129467683753853853498429727072845824 + 5 * (x / 1361129467683753853853498429727072845824)
def gAdd64 : SpecF := fun args => match args with
  | [.w (.s (.u64 x)), .w (.s (.u64 y)), .w (.s (.u64 c))] => some ([c.toNat ≤ 1], .tup [.s (.u64 (u (x.toNat + y.toNat + c.toNat))), .s (.u64 (u ((x.toNat + y.toNat + c.toNat) / D64)))])
  | _ => none
def gSub64 : SpecF := fun args => match args with
  | [.w (.s (.u64 x)), .w (.s (.u64 y)), .w (.s (.u64 c))] => some ([c.toNat ≤ 1], .tup [.s (.u64 (u (x.toNat + D64 - y.toNat - c.toNat))), .s (.u64 (u (if x.toNat < y.toNat + c.toNat then 1 else 0)))])
  | _ => none
def gMul64 : SpecF := fun args => match args with
  | [.w (.s (.u64 x)), .w (.s (.u64 y))] => some ([], .tup [.s (.u64 (u (x.toNat * y.toNat / D64))), .s (.u64 (u (x.toNat * y.toNat)))])
  | _ => none
def gProd : SpecF := fun args => match args with
  | [.w (.s (.u64 x)), .w (.s (.u64 y))] => some ([], .w (.agg [.one (.u64 (u (x.toNat * y.toNat / D64))), .one (.u64 (u (x.toNat * y.toNat)))]))
  | _ => none
def gPlus : SpecF := fun args => match args with
  | [.w (.agg [.one (.u64 a), .one (.u64 b)]), .w (.agg [.one (.u64 c), .one (.u64 d)])] => some ([], .w (.agg [.one (.u64 (u ((b.toNat + D64 * a.toNat + (d.toNat + D64 * c.toNat)) / D64))), .one (.u64 (u (b.toNat + D64 * a.toNat + (d.toNat + D64 * c.toNat))))]))
  | _ => none
def gAddN : SpecF := fun args => match args with
  | [.w (.agg [.vec (.n 3) (.u64 l)]), .w (.agg [.one (.u64 c), .one (.u64 d)])] => some ([], .w (.agg [.vec (.n 3) (.u64 (w3 (val3 l + (d.toNat + D64 * c.toNat))))]))
  | _ => none
def gTimes : SpecF := fun args => match args with
  | [.w (.agg [.vec (.n 3) (.u64 l)]), .w (.s (.u64 r)), .w (.s (.u64 s))] => some ([val3 l < 2722258935367507707706996859454145691648, r.toNat < 1152921504606846976, s.toNat < 1152921504606846976], .w (.agg [.vec (.n 3) (.u64 (w3 (red1 (val3 l * (r.toNat + D64 * s.toNat)))))]))
  | _ => none
def gReduced : SpecF := fun args => match args with
  | [.w (.agg [.vec (.n 3) (.u64 l)])] => some ([], .w (.agg [.vec (.n 3) (.u64 (w3 (if val3 l < P130 then val3 l else val3 l - P130)))]))
  | _ => none
end Go.Pol

/- A step towards SessionValuesSaid: no conditions. -/

namespace Go.Pol
open Go Go.Eng Go.Cod
def blkP (d : List UInt8) (j : Nat) : Nat := natL ((d.drop (16 * j)).take 16) + 256 ^ (min 16 (d.length - 16 * j))
def hN (r : Nat) (d : List UInt8) : Nat → Nat
  | 0 => 0
  | j + 1 => red1 ((hN r d j + blkP d j) * r)
def nbP (d : List UInt8) : Nat := (d.length + 15) / 16
def r0 (k : List UInt8) : UInt64 := readL (k.take 8) &&& UInt64.ofNat 1152921487695413247
def r1 (k : List UInt8) : UInt64 := readL ((k.drop 8).take 8) &&& UInt64.ofNat 1152921487695413244
def rOf (k : List UInt8) : Nat := (r0 k).toNat + D64 * (r1 k).toNat
def sOf (k : List UInt8) : Nat := (readL ((k.drop 16).take 8)).toNat + D64 * (readL ((k.drop 24).take 8)).toNat
def redP (h : Nat) : Nat := if h < P130 then h else h - P130
def polyN (k d : List UInt8) : Nat := redP (hN (rOf k) d (nbP d)) + sOf k
def polyL (k d : List UInt8) : List UInt8 := littleL (u (polyN k d)) 8 ++ littleL (u (polyN k d / D64)) 8
def gPoly : SpecF := fun args => match args with
  | [.w (.agg [.vec (.n 32) (.u8 k)]), .w (.s (.xs 1 (.s m) (.u8 d)))] => some ([m = d.length, d.length ≤ 4294967296], .w (.agg [.vec (.n 16) (.u8 (polyL k d))]))
  | _ => none
noncomputable def JPoly (σ : St) : Option Inv :=
  match getF σ.fr 1, names σ.fr 7, getF σ.fr 5, getF σ.fr 6 with
  | .w (.s (.xs _ _ (.u8 d))), some kh, .w (.s (.u64 r)), .w (.s (.u64 s)) => some {
      α := Nat
      ok := fun j => j ≤ nbP d
      mu := fun j => nbP d - j
      keep := [2, 4, 5, 6, 7]
      slots := fun j => [(1, .s (.xs 1 (.s (d.drop (16 * j)).length) (.u8 (d.drop (16 * j)))))]
      own := fun j => [(kh, some [.vec (.n 3) (.u64 (w3 (hN (r.toNat + D64 * s.toNat) d j)))])]
      ext := fun _ => [] }
  | _, _, _, _ => none
end Go.Pol
