/- A step towards AeadSealsSaid: no conditions. -/
import Derived.Test.YtcfkgodidnhbdaaPslSpec
namespace Go.Pol
open Go Go.Eng Go.Cod
/-- digits of 8 bits: the number, and back -/
def valD : List UInt32 → Nat
  | [] => 0
  | b :: r => b.toNat + 256 * valD r
def digs (n : Nat) : Nat → List UInt32
  | 0 => []
  | j + 1 => digs n j ++ [UInt32.ofNat (n / 256 ^ j % 256)]
/-- 17 digits, the last one not cut -/
def d17 (n : Nat) : List UInt32 := digs n 16 ++ [UInt32.ofNat (n / 256 ^ 16)]
def pv (l : List UInt32) (j : Nat) : Nat := valD (l.take j)
def small (l : List UInt32) (b : Nat) : Prop := ∀ x ∈ l, x.toNat < b
/-- a term of a product's digit -/
def term (a b : List UInt32) (i j : Nat) : Nat := if j ≤ i then (a.getD j 0).toNat * (b.getD (i - j) 0).toNat else 320 * (a.getD j 0).toNat * (b.getD (i + 17 - j) 0).toNat
def uS (a b : List UInt32) (i : Nat) : Nat → Nat
  | 0 => 0
  | j + 1 => uS a b i j + term a b i j
def outD (a b : List UInt32) : Nat → List UInt32
  | 0 => []
  | i + 1 => outD a b i ++ [UInt32.ofNat (uS a b i 17)]
def timesV (a b : List UInt32) : Nat := valD (outD a b 17)
def lst (m : Nat) : Nat := if P130 ≤ m then m - P130 else m
def gPlusD : SpecF := fun args => match args with
  | [.w (.agg [.vec (.n 17) (.u32 a)]), .w (.agg [.vec (.n 17) (.u32 b)])] => some ([small a 1048576, small b 1048576], .w (.agg [.vec (.n 17) (.u32 (d17 ((valD a + valD b) % 87112285931760246646623899502532662132736)))]))
  | _ => none
def gReducedD : SpecF := fun args => match args with
  | [.w (.agg [.vec (.n 17) (.u32 a)])] => some ([small a 536870912], .w (.agg [.vec (.n 17) (.u32 (d17 (red1 (red1 (valD a)))))]))
  | _ => none
def gTimesD : SpecF := fun args => match args with
  | [.w (.agg [.vec (.n 17) (.u32 a)]), .w (.agg [.vec (.n 17) (.u32 b)])] => some ([small a 256, small b 256], .w (.agg [.vec (.n 17) (.u32 (d17 (red1 (red1 (timesV a b)))))]))
  | _ => none
def gLeast : SpecF := fun args => match args with
  | [.w (.agg [.vec (.n 17) (.u32 a)])] => some ([small a 256], .w (.agg [.vec (.n 17) (.u32 (d17 (lst (red1 (red1 (valD a))))))]))
  | _ => none
/-- carries run through 16 digits: slot sj the place, slot su the carry, block named by slot sb -/
noncomputable def JCarry (sj su sb : Nat) (keep : List Nat) (σ : St) : Option Inv :=
  match names σ.fr sb, getF σ.fr su with
  | some kb, .w (.s (.u32 c)) => match getO σ.own kb with
    | some [.vec _ (.u32 l)] => some {
        α := Nat
        ok := fun j => j ≤ 16
        mu := fun j => 16 - j
        keep := keep
        slots := fun j => [(sj, .s (.i64 j)), (su, .s (.u32 (UInt32.ofNat ((c.toNat + pv l j) / 256 ^ j))))]
        own := fun j => [(kb, some [.vec (.n 17) (.u32 (digs (c.toNat + pv l j) j ++ l.drop j))])]
        ext := fun _ => [] }
    | _ => none
  | _, _ => none
noncomputable def JPlusD (σ : St) : Option Inv :=
  match names σ.fr 2, names σ.fr 3 with
  | some ka, some kb => match getO σ.own ka, getO σ.own kb with
    | some [.vec _ (.u32 a)], some [.vec _ (.u32 b)] => some {
        α := Nat
        ok := fun j => j ≤ 17
        mu := fun j => 17 - j
        keep := [2, 3, 4]
        slots := fun j => [(7, .s (.i64 j)), (5, .s (.u32 (UInt32.ofNat ((pv a j + pv b j) / 256 ^ j))))]
        own := fun j => [(ka, some [.vec (.n 17) (.u32 (digs (pv a j + pv b j) j ++ a.drop j))])]
        ext := fun _ => [] }
    | _, _ => none
  | _, _ => none
noncomputable def JOutD (σ : St) : Option Inv :=
  match names σ.fr 2, names σ.fr 3, names σ.fr 5 with
  | some ka, some kb, some ko => match getO σ.own ka, getO σ.own kb with
    | some [.vec _ (.u32 a)], some [.vec _ (.u32 b)] => some {
        α := Nat
        ok := fun i => i ≤ 17
        mu := fun i => 17 - i
        keep := [2, 3, 4, 5]
        slots := fun i => [(6, .s (.i64 i))]
        own := fun i => [(ko, some [.vec (.n 17) (.u32 (outD a b i ++ List.replicate (17 - i) 0))])]
        ext := fun _ => [] }
    | _, _ => none
  | _, _, _ => none
noncomputable def JInD (σ : St) : Option Inv :=
  match names σ.fr 2, names σ.fr 3, getF σ.fr 6 with
  | some ka, some kb, .w (.s (.i64 i)) => match getO σ.own ka, getO σ.own kb with
    | some [.vec _ (.u32 a)], some [.vec _ (.u32 b)] => some {
        α := Nat
        ok := fun j => j ≤ 17
        mu := fun j => 17 - j
        keep := [2, 3, 4, 5, 6]
        slots := fun j => [(8, .s (.i64 j)), (7, .s (.u32 (UInt32.ofNat (uS a b i.toNat j))))]
        own := fun _ => []
        ext := fun _ => [] }
    | _, _ => none
  | _, _, _ => none
end Go.Pol
