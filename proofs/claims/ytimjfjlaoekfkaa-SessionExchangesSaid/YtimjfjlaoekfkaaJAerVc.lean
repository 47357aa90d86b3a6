/- Steps towards SessionExchangesSaid. -/
import Derived.Test.YtimjfjlaoekfkaaJCodNum
import Derived.Test.YtimjfjlaoekfkaaBase
import Derived.Test.YtimjfjlaoekfkaaJSexSpec
/- A step towards SessionExchangesSaid: no conditions. -/
namespace Go.Proofs.Ytimjfjlaoekfkaa
open Go Go.Eng Go.Cod Go.Cha Go.Pol Go.Aed
noncomputable def ARf : Env := mkE Try.prog [] [(0, JFilledR)] 2 true
noncomputable def ARt : Env := mkE Try.prog [(56, gBlock), (58, gFilledR), (47, gLittleN), (48, gJoin), (57, gPoly)] [] 10 true
noncomputable def ARs : Env := mkE Try.prog [(45, gXor), (46, gTag)] [] 10 true
noncomputable def ARc : Env := mkE Try.prog [(47, gLittleN)] [] 10 true
set_option maxRecDepth 100000 in
theorem vcFilledR (b : List UInt8) : (vcFn ARf 100 58 [.s (.xs 1 (.s b.length) (.u8 b))] (.s (.xs 1 (.s (fillL b).length) (.u8 (fillL b))))) =
  ((0 : Nat) + b.length ≤ (4294967296 : Nat) ∧ ∀ (y : List UInt8), y = [] ++ b → (∃ (x : Nat), x ≤ zp b.length ∧ b.length = b.length ∧ b = b ∧ (0 : Nat) + b.length = b.length + x ∧ (0 : Nat) + b.length = b.length + x ∧ y = b ++ List.replicate x (0 : UInt8) ∧ True) ∧ ∀ (x : Nat), x ≤ zp b.length → ∀ (y : Int), y = (↑(b.length + x) : Int) → Int.ofNat (16 : Nat) ≠ (0 : Int) ∧ (decide (y.tmod (Int.ofNat (16 : Nat)) ≠ Int.ofNat (0 : Nat)) = true → b.length + x = b.length + x ∧ b.length + x + (1 : Nat) ≤ (4294967296 : Nat) ∧ ∀ (y : List UInt8), y = b ++ List.replicate x (0 : UInt8) ++ [UInt8.ofNat (nat_lit 0)] → ∃ (y_1 : Nat), y_1 ≤ zp b.length ∧ zp b.length - y_1 < zp b.length - x ∧ b.length = b.length ∧ b = b ∧ b.length + x + (1 : Nat) = b.length + y_1 ∧ b.length + x + (1 : Nat) = b.length + y_1 ∧ y = b ++ List.replicate y_1 (0 : UInt8) ∧ True) ∧ (decide (y.tmod (Int.ofNat (16 : Nat)) ≠ Int.ofNat (0 : Nat)) = false → (0 : Nat) + (b.length + x) ≤ b.length + x ∧ b.length + x = (fillL b).length ∧ List.take (b.length + x) (dropL (dropL (b ++ List.replicate x (0 : UInt8)) (0 : Nat)) (0 : Nat)) = fillL b ∧ True)) := by kernel_rfl
set_option maxRecDepth 100000 in
theorem vcTagR (k n c m : List UInt8) : (vcFn ARt 200 46 [.agg [.vec (.n 32) (.u8 k)], .agg [.vec (.n 12) (.u8 n)], .s (.xs 1 (.s c.length) (.u8 c)), .s (.xs 1 (.s m.length) (.u8 m))] (.w (.agg [.vec (.n 16) (.u8 (tagL k n c m))]))) =
  (∀ (y : List UInt8), y = block k (UInt32.ofNat (nat_lit 0)) n → ∀ (y_1 : List UInt8), y_1 = y → (32 : Nat) ≤ (64 : Nat) ∧ ∀ (y : List UInt8), y = List.take (32 : Nat) y_1 → m.length = m.length ∧ m.length ≤ (4294967000 : Nat) ∧ ∀ (y_2 : List UInt8), y_2 = fillL m → c.length = c.length ∧ c.length ≤ (4294967000 : Nat) ∧ ∀ (y_3 : List UInt8), y_3 = fillL c → ∀ (y_4 : Int), y_4 = (↑m.length : Int) → ∀ (y_5 : List UInt8), y_5 = [(shr64 (to64 y_4) (0 : Nat)).toUInt8, (shr64 (to64 y_4) (8 : Nat)).toUInt8, (shr64 (to64 y_4) (16 : Nat)).toUInt8, (shr64 (to64 y_4) (24 : Nat)).toUInt8, (shr64 (to64 y_4) (32 : Nat)).toUInt8, (shr64 (to64 y_4) (40 : Nat)).toUInt8, (shr64 (to64 y_4) (48 : Nat)).toUInt8, (shr64 (to64 y_4) (56 : Nat)).toUInt8] → ∀ (y_6 : Int), y_6 = (↑c.length : Int) → ∀ (y_7 : List UInt8), y_7 = [(shr64 (to64 y_6) (0 : Nat)).toUInt8, (shr64 (to64 y_6) (8 : Nat)).toUInt8, (shr64 (to64 y_6) (16 : Nat)).toUInt8, (shr64 (to64 y_6) (24 : Nat)).toUInt8, (shr64 (to64 y_6) (32 : Nat)).toUInt8, (shr64 (to64 y_6) (40 : Nat)).toUInt8, (shr64 (to64 y_6) (48 : Nat)).toUInt8, (shr64 (to64 y_6) (56 : Nat)).toUInt8] → (0 : Nat) + (fillL m).length ≤ (fillL m).length ∧ (0 : Nat) + (fillL c).length ≤ (fillL c).length ∧ [List.take (fillL m).length (dropL (dropL y_2 (0 : Nat)) (0 : Nat)), List.take (fillL c).length (dropL (dropL y_3 (0 : Nat)) (0 : Nat)), y_5, y_7].length = (4 : Nat) ∧ (4 : Nat) < (4611686018427387904 : Nat) ∧ [List.take (fillL m).length (dropL (dropL y_2 (0 : Nat)) (0 : Nat)), List.take (fillL c).length (dropL (dropL y_3 (0 : Nat)) (0 : Nat)), y_5, y_7].flatten.length ≤ (4294967296 : Nat) ∧ ∀ (y_8 : List UInt8), y_8 = [List.take (fillL m).length (dropL (dropL y_2 (0 : Nat)) (0 : Nat)), List.take (fillL c).length (dropL (dropL y_3 (0 : Nat)) (0 : Nat)), y_5, y_7].flatten → (0 : Nat) + [List.take (fillL m).length (dropL (dropL y_2 (0 : Nat)) (0 : Nat)), List.take (fillL c).length (dropL (dropL y_3 (0 : Nat)) (0 : Nat)), y_5, y_7].flatten.length ≤ [List.take (fillL m).length (dropL (dropL y_2 (0 : Nat)) (0 : Nat)), List.take (fillL c).length (dropL (dropL y_3 (0 : Nat)) (0 : Nat)), y_5, y_7].flatten.length ∧ (List.take [List.take (fillL m).length (dropL (dropL y_2 (0 : Nat)) (0 : Nat)), List.take (fillL c).length (dropL (dropL y_3 (0 : Nat)) (0 : Nat)), y_5, y_7].flatten.length (dropL (dropL y_8 (0 : Nat)) (0 : Nat))).length = (List.take [List.take (fillL m).length (dropL (dropL y_2 (0 : Nat)) (0 : Nat)), List.take (fillL c).length (dropL (dropL y_3 (0 : Nat)) (0 : Nat)), y_5, y_7].flatten.length (dropL (dropL y_8 (0 : Nat)) (0 : Nat))).length ∧ (List.take [List.take (fillL m).length (dropL (dropL y_2 (0 : Nat)) (0 : Nat)), List.take (fillL c).length (dropL (dropL y_3 (0 : Nat)) (0 : Nat)), y_5, y_7].flatten.length (dropL (dropL y_8 (0 : Nat)) (0 : Nat))).length ≤ (4294967296 : Nat) ∧ ∀ (y_9 : List UInt8), y_9 = polyL y (List.take [List.take (fillL m).length (dropL (dropL y_2 (0 : Nat)) (0 : Nat)), List.take (fillL c).length (dropL (dropL y_3 (0 : Nat)) (0 : Nat)), y_5, y_7].flatten.length (dropL (dropL y_8 (0 : Nat)) (0 : Nat))) → ∀ (y : List UInt8), y = y_9 → y = tagL k n c m ∧ True) := by kernel_rfl
set_option maxRecDepth 100000 in
theorem vcSealR (k n p m : List UInt8) : (vcFn ARs 200 24 [.agg [.vec (.n 32) (.u8 k)], .agg [.vec (.n 12) (.u8 n)], .s (.xs 1 (.s p.length) (.u8 p)), .s (.xs 1 (.s m.length) (.u8 m))] (.s (.xs 1 (.s (sealL k n p m).length) (.u8 (sealL k n p m))))) =
  (p.length = p.length ∧ p.length ≤ (4294967296 : Nat) ∧ ∀ (y : List UInt8), y = xorL k n (UInt32.ofNat (nat_lit 1)) p → (0 : Nat) + p.length ≤ p.length ∧ (List.take p.length (dropL (dropL y (0 : Nat)) (0 : Nat))).length = (List.take p.length (dropL (dropL y (0 : Nat)) (0 : Nat))).length ∧ m.length = m.length ∧ (List.take p.length (dropL (dropL y (0 : Nat)) (0 : Nat))).length ≤ (1073741824 : Nat) ∧ m.length ≤ (1073741824 : Nat) ∧ ∀ (y_1 : List UInt8), y_1 = tagL k n (List.take p.length (dropL (dropL y (0 : Nat)) (0 : Nat))) m → ∀ (y_2 : List UInt8), y_2 = y_1 → p.length = p.length ∧ p.length + (16 : Nat) ≤ (4294967296 : Nat) ∧ ∀ (y_3 : List UInt8), y_3 = y ++ y_2 → (0 : Nat) + (p.length + (16 : Nat)) ≤ p.length + (16 : Nat) ∧ p.length + (16 : Nat) = (sealL k n p m).length ∧ List.take (p.length + (16 : Nat)) (dropL (dropL y_3 (0 : Nat)) (0 : Nat)) = sealL k n p m ∧ True) := by kernel_rfl
set_option maxRecDepth 100000 in
theorem vcOpenR (k n s m : List UInt8) : (vcFn ARs 200 41 [.agg [.vec (.n 32) (.u8 k)], .agg [.vec (.n 12) (.u8 n)], .s (.xs 1 (.s s.length) (.u8 s)), .s (.xs 1 (.s m.length) (.u8 m))] (.tup [.s (.xs 1 (.s (openL k n s m).length) (.u8 (openL k n s m))), .s (.i64 (openE k n s m))])) =
  (∀ (y : Int), y = (↑s.length : Int) → (decide (y < Int.ofNat (16 : Nat)) = true → (openL k n s m).length = (0 : Nat) ∧ (openL k n s m).length = (0 : Nat) ∧ Int.ofNat (2 : Nat) = openE k n s m ∧ True) ∧ (decide (y < Int.ofNat (16 : Nat)) = false → ∀ (y : Int), y = (↑s.length : Int) → InI (y - Int.ofNat (16 : Nat)) ∧ ((0 : Int) ≤ y - Int.ofNat (16 : Nat) ∧ y - Int.ofNat (16 : Nat) ≤ (↑s.length : Int)) ∧ (List.take (y - Int.ofNat (16 : Nat)).toNat s).length = (List.take (y - Int.ofNat (16 : Nat)).toNat s).length ∧ m.length = m.length ∧ (List.take (y - Int.ofNat (16 : Nat)).toNat s).length ≤ (1073741824 : Nat) ∧ m.length ≤ (1073741824 : Nat) ∧ ∀ (y_1 : List UInt8), y_1 = tagL k n (List.take (y - Int.ofNat (16 : Nat)).toNat s) m → ∀ (y_2 : List UInt8), y_2 = y_1 → ∀ (y_3 : Int), y_3 = (↑((y - Int.ofNat (16 : Nat)).toNat - (0 : Nat)) : Int) → ((0 : Int) ≤ y_3 ∧ y_3 ≤ (↑s.length : Int)) ∧ (decide (y_2 ≠ List.drop y_3.toNat s) = true → (openL k n s m).length = (0 : Nat) ∧ (openL k n s m).length = (0 : Nat) ∧ Int.ofNat (6 : Nat) = openE k n s m ∧ True) ∧ (decide (y_2 ≠ List.drop y_3.toNat s) = false → (List.take (y - Int.ofNat (16 : Nat)).toNat s).length = (List.take (y - Int.ofNat (16 : Nat)).toNat s).length ∧ (List.take (y - Int.ofNat (16 : Nat)).toNat s).length ≤ (4294967296 : Nat) ∧ ∀ (y_4 : List UInt8), y_4 = xorL k n (UInt32.ofNat (nat_lit 1)) (List.take (y - Int.ofNat (16 : Nat)).toNat s) → (0 : Nat) + (List.take (y - Int.ofNat (16 : Nat)).toNat s).length ≤ (List.take (y - Int.ofNat (16 : Nat)).toNat s).length ∧ (List.take (y - Int.ofNat (16 : Nat)).toNat s).length = (openL k n s m).length ∧ List.take (List.take (y - Int.ofNat (16 : Nat)).toNat s).length (dropL (dropL y_4 (0 : Nat)) (0 : Nat)) = openL k n s m ∧ Int.ofNat (0 : Nat) = openE k n s m ∧ True))) := by kernel_rfl
set_option maxRecDepth 100000 in
theorem vcCounterR (c : UInt64) : (vcFn ARc 200 25 [.s (.u64 c)] (.w (.agg [.vec (.n 12) (.u8 (countL c))]))) =
  (∀ (y : List UInt8), y = [(shr64 c (0 : Nat)).toUInt8, (shr64 c (8 : Nat)).toUInt8, (shr64 c (16 : Nat)).toUInt8, (shr64 c (24 : Nat)).toUInt8, (shr64 c (32 : Nat)).toUInt8, (shr64 c (40 : Nat)).toUInt8, (shr64 c (48 : Nat)).toUInt8, (shr64 c (56 : Nat)).toUInt8] → (12 : Nat) ≤ (12 : Nat) ∧ ∀ (y_1 : List UInt8), y_1 = over (List.replicate (12 : Nat) (0 : UInt8)) (4 : Nat) y → ∀ (y : List UInt8), y = y_1 → y = countL c ∧ True) := by kernel_rfl
end Go.Proofs.Ytimjfjlaoekfkaa

/- A step towards SessionExchangesSaid: no conditions. -/
namespace Go.Pol
open Go Go.Eng Go.Cod
/-- digits of 8 bits: the number, and back -/
def valD : List UInt32 → Nat
  | [] => 0
  | b :: r => b.toNat + 256 * valD r
def digs (n : Nat) : Nat → List UInt32
  | 0 => []
  | j + 1 => digs n j ++ [UInt32.ofNat (n / 256 ^ j % 256)]
/-- 17 digits, the last one not cut -/
def d17 (n : Nat) : List UInt32 := digs n 16 ++ [UInt32.ofNat (n / 256 ^ 16)]
def pv (l : List UInt32) (j : Nat) : Nat := valD (l.take j)
def small (l : List UInt32) (b : Nat) : Prop := ∀ x ∈ l, x.toNat < b
/-- a term of a product's digit -/
def term (a b : List UInt32) (i j : Nat) : Nat := if j ≤ i then (a.getD j 0).toNat * (b.getD (i - j) 0).toNat else 320 * (a.getD j 0).toNat * (b.getD (i + 17 - j) 0).toNat
def uS (a b : List UInt32) (i : Nat) : Nat → Nat
  | 0 => 0
  | j + 1 => uS a b i j + term a b i j
def outD (a b : List UInt32) : Nat → List UInt32
  | 0 => []
  | i + 1 => outD a b i ++ [UInt32.ofNat (uS a b i 17)]
def timesV (a b : List UInt32) : Nat := valD (outD a b 17)
def lst (m : Nat) : Nat := if P130 ≤ m then m - P130 else m
def gPlusD : SpecF := fun args => match args with
  | [.w (.agg [.vec (.n 17) (.u32 a)]), .w (.agg [.vec (.n 17) (.u32 b)])] => some ([small a 1048576, small b 1048576], .w (.agg [.vec (.n 17) (.u32 (d17 ((valD a + valD b) % 87112285931760246646623899502532662132736)))]))
  | _ => none
def gReducedD : SpecF := fun args => match args with
  | [.w (.agg [.vec (.n 17) (.u32 a)])] => some ([small a 536870912], .w (.agg [.vec (.n 17) (.u32 (d17 (red1 (red1 (valD a)))))]))
  | _ => none
def gTimesD : SpecF := fun args => match args with
  | [.w (.agg [.vec (.n 17) (.u32 a)]), .w (.agg [.vec (.n 17) (.u32 b)])] => some ([small a 256, small b 256], .w (.agg [.vec (.n 17) (.u32 (d17 (red1 (red1 (timesV a b)))))]))
  | _ => none
def gLeast : SpecF := fun args => match args with
  | [.w (.agg [.vec (.n 17) (.u32 a)])] => some ([small a 256], .w (.agg [.vec (.n 17) (.u32 (d17 (lst (red1 (red1 (valD a))))))]))
  | _ => none
/-- carries run through 16 digits: slot sj the place, slot su the carry, block named by slot sb -/
noncomputable def JCarry (sj su sb : Nat) (keep : List Nat) (σ : St) : Option Inv :=
  match names σ.fr sb, getF σ.fr su with
  | some kb, .w (.s (.u32 c)) => match getO σ.own kb with
    | some [.vec _ (.u32 l)] => some {
        α := Nat
        ok := fun j => j ≤ 16
        mu := fun j => 16 - j
        keep := keep
        slots := fun j => [(sj, .s (.i64 j)), (su, .s (.u32 (UInt32.ofNat ((c.toNat + pv l j) / 256 ^ j))))]
        own := fun j => [(kb, some [.vec (.n 17) (.u32 (digs (c.toNat + pv l j) j ++ l.drop j))])]
        ext := fun _ => [] }
    | _ => none
  | _, _ => none
noncomputable def JPlusD (σ : St) : Option Inv :=
  match names σ.fr 2, names σ.fr 3 with
  | some ka, some kb => match getO σ.own ka, getO σ.own kb with
    | some [.vec _ (.u32 a)], some [.vec _ (.u32 b)] => some {
        α := Nat
        ok := fun j => j ≤ 17
        mu := fun j => 17 - j
        keep := [2, 3, 4]
        slots := fun j => [(7, .s (.i64 j)), (5, .s (.u32 (UInt32.ofNat ((pv a j + pv b j) / 256 ^ j))))]
        own := fun j => [(ka, some [.vec (.n 17) (.u32 (digs (pv a j + pv b j) j ++ a.drop j))])]
        ext := fun _ => [] }
    | _, _ => none
  | _, _ => none
noncomputable def JOutD (σ : St) : Option Inv :=
  match names σ.fr 2, names σ.fr 3, names σ.fr 5 with
  | some ka, some kb, some ko => match getO σ.own ka, getO σ.own kb with
    | some [.vec _ (.u32 a)], some [.vec _ (.u32 b)] => some {
        α := Nat
        ok := fun i => i ≤ 17
        mu := fun i => 17 - i
        keep := [2, 3, 4, 5]
        slots := fun i => [(6, .s (.i64 i))]
        own := fun i => [(ko, some [.vec (.n 17) (.u32 (outD a b i ++ List.replicate (17 - i) 0))])]
        ext := fun _ => [] }
    | _, _ => none
  | _, _, _ => none
noncomputable def JInD (σ : St) : Option Inv :=
  match names σ.fr 2, names σ.fr 3, getF σ.fr 6 with
  | some ka, some kb, .w (.s (.i64 i)) => match getO σ.own ka, getO σ.own kb with
    | some [.vec _ (.u32 a)], some [.vec _ (.u32 b)] => some {
        α := Nat
        ok := fun j => j ≤ 17
        mu := fun j => 17 - j
        keep := [2, 3, 4, 5, 6]
        slots := fun j => [(8, .s (.i64 j)), (7, .s (.u32 (UInt32.ofNat (uS a b i.toNat j))))]
        own := fun _ => []
        ext := fun _ => [] }
    | _, _ => none
  | _, _, _ => none
end Go.Pol

/- A step towards SessionExchangesSaid: no conditions. -/
namespace Go.Pol
open Go Go.Eng Go.Cod
theorem lt32 (x : UInt32) : x.toNat < 4294967296 := x.toNat_lt
theorem valD_append : ∀ (a b : List UInt32), valD (a ++ b) = valD a + 256 ^ a.length * valD b
  | [], b => by simp [valD]
  | x :: a, b => by
    rw [List.cons_append, valD, valD_append a b, valD, List.length_cons, Nat.pow_succ, Nat.mul_add, Nat.mul_comm (256 ^ a.length) 256, Nat.mul_assoc]
    omega
theorem digs_len (n : Nat) : ∀ j, (digs n j).length = j
  | 0 => rfl
  | j + 1 => by simp [digs, digs_len n j]
theorem ofNat_dig (x : Nat) : (UInt32.ofNat (x % 256)).toNat = x % 256 := UInt32.toNat_ofNat_of_lt' (by have : UInt32.size = 4294967296 := rfl; omega)
theorem digs_val (n : Nat) : ∀ j, valD (digs n j) = n % 256 ^ j
  | 0 => by simp [digs, valD, Nat.mod_one]
  | j + 1 => by
    rw [digs, valD_append, digs_val n j, digs_len, valD, valD, ofNat_dig, Nat.mul_zero, Nat.add_zero]
    exact (Nat.mod_pow_succ).symm
theorem digs_small (n : Nat) : ∀ j, small (digs n j) 256
  | 0 => by intro x hx; cases hx
  | j + 1 => by
    intro x hx
    rcases List.mem_append.1 hx with h | h
    · exact digs_small n j x h
    · rw [List.mem_singleton] at h
      rw [h, ofNat_dig]
      exact Nat.mod_lt _ (by decide)
theorem digs_congr {n m : Nat} : ∀ {j : Nat}, n % 256 ^ j = m % 256 ^ j → digs n j = digs m j
  | 0, _ => rfl
  | j + 1, h => by
    have hp : 0 < 256 ^ j := Nat.pow_pos (by decide)
    have e : ∀ x : Nat, x % 256 ^ (j + 1) % 256 ^ j = x % 256 ^ j := fun x => by rw [Nat.pow_succ, Nat.mod_mul_right_mod]
    have f : ∀ x : Nat, x % 256 ^ (j + 1) / 256 ^ j = x / 256 ^ j % 256 := fun x => by rw [Nat.pow_succ, Nat.mod_mul_right_div_self]
    rw [digs, digs, digs_congr (j := j) ((e n).symm.trans ((congrArg (· % 256 ^ j) h).trans (e m))), (f n).symm.trans ((congrArg (· / 256 ^ j) h).trans (f m))]
theorem digs_add (n m j : Nat) : digs (n + 256 ^ j * m) j = digs n j := digs_congr (by rw [Nat.add_mul_mod_self_left])
theorem digs_mod (n j : Nat) : digs (n % 256 ^ j) j = digs n j := digs_congr (Nat.mod_mod _ _)
theorem pv_zero (l : List UInt32) : pv l 0 = 0 := rfl
theorem pv_succ {l : List UInt32} {j : Nat} (h : j < l.length) : pv l (j + 1) = pv l j + 256 ^ j * (l.getD j 0).toNat := by
  unfold pv
  rw [List.take_add_one, List.getElem?_eq_getElem h, Option.toList_some, valD_append, List.length_take, Nat.min_eq_left (by omega), valD, valD, Nat.mul_zero, Nat.add_zero, List.getD_eq_getElem?_getD, List.getElem?_eq_getElem h]
  rfl
theorem pv_all (l : List UInt32) : pv l l.length = valD l := by unfold pv; rw [List.take_length]
theorem small_get {l : List UInt32} {B : Nat} (h : small l B) (hB : 0 < B) (j : Nat) : (l.getD j 0).toNat < B := by
  rw [List.getD_eq_getElem?_getD]
  by_cases hj : j < l.length
  · rw [List.getElem?_eq_getElem hj]; exact h _ (List.getElem_mem hj)
  · rw [List.getElem?_eq_none (by omega)]; exact hB
theorem pv_lt {l : List UInt32} {B : Nat} (h : small l B) (hB : 0 < B) : ∀ {j : Nat}, j ≤ l.length → pv l j + B ≤ B * 256 ^ j
  | 0, _ => by rw [pv_zero]; omega
  | j + 1, hj => by
    have ih := pv_lt h hB (j := j) (by omega)
    have hs := small_get h hB j
    rw [pv_succ (by omega), Nat.pow_succ]
    have := Nat.mul_le_mul_left (256 ^ j) (show (l.getD j 0).toNat + 1 ≤ B by omega)
    rw [Nat.mul_add, Nat.mul_one] at this
    have hp : 1 ≤ 256 ^ j := Nat.one_le_pow _ _ (by decide)
    rw [← Nat.mul_assoc, Nat.mul_comm (256 ^ j) B] at *
    omega
/-- the carry is small -/
theorem carry_lt {l : List UInt32} {B c : Nat} (h : small l B) (hB : 0 < B) {j : Nat} (hj : j ≤ l.length) : (c + pv l j) / 256 ^ j ≤ c + B := by
  have hp : 0 < 256 ^ j := Nat.pow_pos (by decide)
  have := pv_lt h hB hj
  have h1 : c + pv l j ≤ (c + B) * 256 ^ j := by
    rw [Nat.add_mul]
    have : c * 1 ≤ c * 256 ^ j := Nat.mul_le_mul_left c hp
    omega
  exact Nat.div_le_of_le_mul (by rw [Nat.mul_comm]; exact h1)
theorem getD_mid {n j : Nat} {l : List UInt32} : (digs n j ++ l.drop j).getD j 0 = l.getD j 0 := by
  rw [List.getD_eq_getElem?_getD, List.getElem?_append_right (by rw [digs_len]; exact Nat.le_refl _), digs_len, Nat.sub_self, List.getElem?_drop, Nat.add_zero, List.getD_eq_getElem?_getD]
theorem set_mid {n j : Nat} {l : List UInt32} (h : j < l.length) (x : UInt32) : (digs n j ++ l.drop j).set j x = (digs n j ++ [x]) ++ l.drop (j + 1) := by
  rw [List.set_append_right _ _ (by rw [digs_len]; exact Nat.le_refl _), digs_len, Nat.sub_self, List.drop_eq_getElem_cons h, List.set_cons_zero]
  simp
theorem and255 (x : UInt32) : (x &&& UInt32.ofNat 255).toNat = x.toNat % 256 := by
  rw [UInt32.toNat_and]
  exact Nat.and_two_pow_sub_one_eq_mod x.toNat 8
theorem and3d (x : UInt32) : (x &&& UInt32.ofNat 3).toNat = x.toNat % 4 := by
  rw [UInt32.toNat_and]
  exact Nat.and_two_pow_sub_one_eq_mod x.toNat 2
theorem ofNat_lt {n : Nat} (h : n < 4294967296) : (UInt32.ofNat n).toNat = n := UInt32.toNat_ofNat_of_lt' h
/-- one step of carrying: N is what was added up so far, t the next digit's term -/
theorem step_gen {N t j : Nat} {v : UInt32} (hv : v.toNat = N / 256 ^ j + t) :
    shr32 v 8 = UInt32.ofNat ((N + 256 ^ j * t) / 256 ^ (j + 1)) ∧ digs N j ++ [v &&& UInt32.ofNat 255] = digs (N + 256 ^ j * t) (j + 1) := by
  have hp : 0 < 256 ^ j := Nat.pow_pos (by decide)
  have e : (N + 256 ^ j * t) / 256 ^ j = v.toNat := by rw [Nat.add_mul_div_left _ _ hp, hv]
  constructor
  · apply UInt32.toNat_inj.1
    rw [Nat.pow_succ, ← Nat.div_div_eq_div_mul, e, Cod.shr32_toNat, ofNat_lt (by have := lt32 v; omega)]
  · rw [digs, digs_add, e]
    congr 2
    apply UInt32.toNat_inj.1
    rw [and255, ofNat_dig]
theorem carry_step {c : UInt32} {l : List UInt32} {B j : Nat} (h : small l B) (hB : 0 < B) (hj : j < l.length) (hb : c.toNat + 2 * B ≤ 4294967296) :
    shr32 (UInt32.ofNat ((c.toNat + pv l j) / 256 ^ j) + (digs (c.toNat + pv l j) j ++ l.drop j).getD j 0) 8 = UInt32.ofNat ((c.toNat + pv l (j + 1)) / 256 ^ (j + 1)) ∧
    (digs (c.toNat + pv l j) j ++ l.drop j).set j ((UInt32.ofNat ((c.toNat + pv l j) / 256 ^ j) + (digs (c.toNat + pv l j) j ++ l.drop j).getD j 0) &&& UInt32.ofNat 255) = digs (c.toNat + pv l (j + 1)) (j + 1) ++ l.drop (j + 1) := by
  rw [getD_mid, set_mid hj, pv_succ hj, ← Nat.add_assoc]
  have h1 := carry_lt (c := c.toNat) h hB (j := j) (by omega)
  have h2 := small_get h hB j
  have hv : (UInt32.ofNat ((c.toNat + pv l j) / 256 ^ j) + l.getD j 0).toNat = (c.toNat + pv l j) / 256 ^ j + (l.getD j 0).toNat := by
    rw [UInt32.toNat_add, ofNat_lt (by omega), Nat.mod_eq_of_lt (by omega)]
  obtain ⟨g1, g2⟩ := step_gen (j := j) hv
  rw [g2]
  exact ⟨g1, rfl⟩
theorem plus_step {a b : List UInt32} {j : Nat} (ha : small a 1048576) (hb : small b 1048576) (hja : j < a.length) (hjb : j < b.length) :
    shr32 (UInt32.ofNat ((pv a j + pv b j) / 256 ^ j) + ((digs (pv a j + pv b j) j ++ a.drop j).getD j 0 + b.getD j 0)) 8 = UInt32.ofNat ((pv a (j + 1) + pv b (j + 1)) / 256 ^ (j + 1)) ∧
    (digs (pv a j + pv b j) j ++ a.drop j).set j ((UInt32.ofNat ((pv a j + pv b j) / 256 ^ j) + ((digs (pv a j + pv b j) j ++ a.drop j).getD j 0 + b.getD j 0)) &&& UInt32.ofNat 255) = digs (pv a (j + 1) + pv b (j + 1)) (j + 1) ++ a.drop (j + 1) := by
  rw [getD_mid, set_mid hja, pv_succ hja, pv_succ hjb]
  have h1 := pv_lt ha (by decide) (j := j) (by omega)
  have h2 := pv_lt hb (by decide) (j := j) (by omega)
  have h3 := small_get ha (by decide) j
  have h4 := small_get hb (by decide) j
  have hp : 0 < 256 ^ j := Nat.pow_pos (by decide)
  have hd : (pv a j + pv b j) / 256 ^ j ≤ 2097152 := Nat.div_le_of_le_mul (by rw [Nat.mul_comm]; omega)
  have hv : (UInt32.ofNat ((pv a j + pv b j) / 256 ^ j) + (a.getD j 0 + b.getD j 0)).toNat = (pv a j + pv b j) / 256 ^ j + ((a.getD j 0).toNat + (b.getD j 0).toNat) := by
    rw [UInt32.toNat_add, UInt32.toNat_add, ofNat_lt (by omega), Nat.mod_eq_of_lt (a := (a.getD j 0).toNat + _) (by omega), Nat.mod_eq_of_lt (by omega)]
  obtain ⟨g1, g2⟩ := step_gen (j := j) hv
  rw [g2]
  have e : pv a j + pv b j + 256 ^ j * ((a.getD j 0).toNat + (b.getD j 0).toNat) = pv a j + 256 ^ j * (a.getD j 0).toNat + (pv b j + 256 ^ j * (b.getD j 0).toNat) := by rw [Nat.mul_add]; omega
  rw [← e]
  exact ⟨g1, rfl⟩
theorem p16 : (256 : Nat) ^ 16 = 340282366920938463463374607431768211456 := rfl
theorem p17 : (256 : Nat) ^ 17 = 87112285931760246646623899502532662132736 := rfl
theorem d17_len (n : Nat) : (d17 n).length = 17 := by unfold d17; simp [digs_len]
theorem d17_val {n : Nat} (h : n < 1461501637330902918203684832716283019655932542976) : valD (d17 n) = n := by
  unfold d17
  rw [valD_append, digs_val, digs_len, valD, valD, p16, ofNat_lt (by omega)]
  omega
theorem d17_small {n : Nat} (h : n < 87112285931760246646623899502532662132736) : small (d17 n) 256 := by
  intro x hx
  unfold d17 at hx
  rcases List.mem_append.1 hx with h1 | h1
  · exact digs_small n 16 x h1
  · rw [List.mem_singleton] at h1
    rw [h1, p16, ofNat_lt (by omega)]
    omega
theorem small_mono {l : List UInt32} {B C : Nat} (h : small l B) (hBC : B ≤ C) : small l C := fun x hx => Nat.lt_of_lt_of_le (h x hx) hBC
theorem top_eq {l : List UInt32} (hl : l.length = 17) (hs : small l 536870912) :
    (UInt32.ofNat ((0 + pv l 16) / 256 ^ 16) + (digs (0 + pv l 16) 16 ++ l.drop 16).getD 16 0).toNat = valD l / 256 ^ 16 ∧ valD l / 256 ^ 16 < 1073741825 ∧ digs (0 + pv l 16) 16 = digs (valD l) 16 := by
  have hv : valD l = pv l 16 + 256 ^ 16 * (l.getD 16 0).toNat := by
    have h := pv_all l
    rw [hl, pv_succ (by omega)] at h
    exact h.symm
  have hp : 0 < 256 ^ 16 := by decide
  have h1 := carry_lt (c := 0) hs (by decide) (j := 16) (by omega)
  have h2 := small_get hs (by decide) 16
  rw [getD_mid, Nat.zero_add] at *
  refine ⟨?_, ?_, ?_⟩
  · rw [UInt32.toNat_add, ofNat_lt (by omega), hv, Nat.add_mul_div_left _ _ hp, Nat.mod_eq_of_lt (by omega)]
  · rw [hv, Nat.add_mul_div_left _ _ hp]; omega
  · rw [hv, digs_add]
theorem last_get {n : Nat} {l : List UInt32} (hl : l.length = 17) : (digs n 16 ++ l.drop 16).getD 16 0 = l.getD 16 0 := getD_mid
theorem set16 {n : Nat} {l : List UInt32} (hl : l.length = 17) (x : UInt32) : (digs n 16 ++ l.drop 16).set 16 x = digs n 16 ++ [x] := by
  rw [set_mid (by omega), List.drop_of_length_le (by omega), List.append_nil]
/-- behind both passes -/
theorem round_fin {l : List UInt32} {U : UInt32} {n : Nat} (hU : U.toNat = n / 256 ^ 16) (hn : n / 256 ^ 16 < 1073741825) (hl : l = digs n 16 ++ [U &&& UInt32.ofNat 3]) :
    (UInt32.ofNat 5 * shr32 U 2).toNat = 5 * (n / 256 ^ 16 / 4) ∧ l.length = 17 ∧ small l 536870912 ∧
    (digs (5 * (n / 256 ^ 16 / 4) + pv l 16) 16 ++ l.drop 16).set 16 ((digs (5 * (n / 256 ^ 16 / 4) + pv l 16) 16 ++ l.drop 16).getD 16 0 + UInt32.ofNat ((5 * (n / 256 ^ 16 / 4) + pv l 16) / 256 ^ 16)) = d17 (red1 n) ∧ red1 n < 1461501637330902918203684832716283019655932542976 := by
  have hc : (UInt32.ofNat 5 * shr32 U 2).toNat = 5 * (n / 256 ^ 16 / 4) := by
    rw [UInt32.toNat_mul, Cod.shr32_toNat, hU]
    show 5 * (n / 256 ^ 16 / 2 ^ 2) % 2 ^ 32 = _
    omega
  have hll : l.length = 17 := by rw [hl]; simp [digs_len]
  have h3 : (U &&& UInt32.ofNat 3).toNat = n / 256 ^ 16 % 4 := by rw [and3d, hU]
  have hsm : small l 536870912 := by
    intro x hx
    rw [hl] at hx
    rcases List.mem_append.1 hx with h1 | h1
    · exact Nat.lt_of_lt_of_le (digs_small n 16 x h1) (by decide)
    · rw [List.mem_singleton] at h1
      rw [h1, h3]; omega
  have hpv : pv l 16 = n % 256 ^ 16 := by
    unfold pv
    rw [hl, List.take_append_of_le_length (by rw [digs_len]; exact Nat.le_refl _), List.take_of_length_le (by rw [digs_len]; exact Nat.le_refl _), digs_val]
  have hg : l.getD 16 0 = U &&& UInt32.ofNat 3 := by
    rw [hl, List.getD_eq_getElem?_getD, List.getElem?_append_right (by rw [digs_len]; exact Nat.le_refl _), digs_len]
    rfl
  refine ⟨hc, hll, hsm, ?_, ?_⟩
  · rw [set16 hll, last_get hll, hg, hpv]
    have e : red1 n = (5 * (n / 256 ^ 16 / 4) + n % 256 ^ 16) + 256 ^ 16 * (n / 256 ^ 16 % 4) := by
      unfold red1
      rw [p16]
      omega
    unfold d17
    rw [e, digs_add]
    congr 2
    apply UInt32.toNat_inj.1
    have hp : 0 < 256 ^ 16 := by decide
    rw [Nat.add_mul_div_left _ _ hp, UInt32.toNat_add, h3]
    have hb : (5 * (n / 256 ^ 16 / 4) + n % 256 ^ 16) / 256 ^ 16 < 1000 := by rw [p16] at *; omega
    rw [ofNat_lt (by omega), ofNat_lt (by omega), Nat.mod_eq_of_lt (by omega)]
    omega
  · unfold red1
    rw [p16] at hn
    omega
end Go.Pol

/- A step towards SessionExchangesSaid: no conditions. -/
namespace Go.Pol
open Go Go.Eng Go.Cod
/-- the first j bytes, as digits of a number of 17 -/
def padD (l : List UInt8) (j : Nat) : List UInt32 := (l.take j).map UInt8.toUInt32 ++ List.replicate (17 - j) 0
def cutD (l : List UInt32) (j : Nat) : List UInt8 := (l.take j).map UInt32.toUInt8 ++ List.replicate (16 - j) 0
def cN (l : List UInt8) : List UInt32 := (padD l (min l.length 16)).set (min l.length 16) 1
def vN (rr : List UInt32) (d : List UInt8) : Nat → Nat
  | 0 => 0
  | j + 1 => red1 (red1 (timesV (d17 ((valD (d17 (vN rr d j)) + valD (cN (d.drop (16 * j)))) % 87112285931760246646623899502532662132736)) rr))
/-- bytes of slot or block into a number: slot sj the place, block named by slot sb -/
noncomputable def JPad (sj sb : Nat) (keep : List Nat) (l : List UInt8) (n : Nat) (σ : St) : Option Inv :=
  match names σ.fr sb with
  | some kb => some {
      α := Nat
      ok := fun j => j ≤ n
      mu := fun j => n - j
      keep := keep
      slots := fun j => [(sj, .s (.i64 j))]
      own := fun j => [(kb, some [.vec (.n 17) (.u32 (padD l j))])]
      ext := fun _ => [] }
  | _ => none
noncomputable def JPadK (sj sb : Nat) (off : Nat) (keep : List Nat) (σ : St) : Option Inv :=
  match names σ.fr 2 with
  | some kk => match getO σ.own kk with
    | some [.vec _ (.u8 k)] => JPad sj sb keep (k.drop off) 16 σ
    | _ => none
  | _ => none
noncomputable def JPadD (σ : St) : Option Inv :=
  match getF σ.fr 1 with
  | .w (.s (.xs _ _ (.u8 d))) => JPad 10 9 [1, 2, 4, 5, 6, 8, 9] d (min d.length 16) σ
  | _ => none
noncomputable def JPolyR (σ : St) : Option Inv :=
  match getF σ.fr 1, names σ.fr 5, names σ.fr 6 with
  | .w (.s (.xs _ _ (.u8 d))), some kr, some kh => match getO σ.own kr with
    | some [.vec _ (.u32 rr)] => some {
        α := Nat
        ok := fun j => j ≤ nbP d
        mu := fun j => nbP d - j
        keep := [2, 4, 5, 6]
        slots := fun j => [(1, .s (.xs 1 (.s (d.drop (16 * j)).length) (.u8 (d.drop (16 * j)))))]
        own := fun j => [(kh, some [.vec (.n 17) (.u32 (d17 (vN rr d j)))])]
        ext := fun _ => [] }
    | _ => none
  | _, _, _ => none
noncomputable def JCutR (σ : St) : Option Inv :=
  match names σ.fr 6, names σ.fr 13 with
  | some kh, some ko => match getO σ.own kh with
    | some [.vec _ (.u32 h)] => some {
        α := Nat
        ok := fun j => j ≤ 16
        mu := fun j => 16 - j
        keep := [4, 6, 13]
        slots := fun j => [(97, .s (.i64 j))]
        own := fun j => [(ko, some [.vec (.n 16) (.u8 (cutD h j))])]
        ext := fun _ => [] }
    | _ => none
  | _, _ => none
end Go.Pol
