/- A step towards CurveAgreesSaid: no conditions. -/
import Derived.Test.YthdhmciccohbeaaEngD
import Derived.KernelRfl
namespace Go.Cod
open Go Go.Eng
/-- the number of bytes, the least significant one first -/
def readL : List UInt8 → UInt64
  | [] => 0
  | b :: r => shl64 (readL r) 8 ||| b.toUInt64
theorem shl64_or (x y : UInt64) (n : Nat) : shl64 (x ||| y) n = shl64 x n ||| shl64 y n := by
  unfold shl64
  apply UInt64.toBitVec_inj.1
  show (x.toBitVec ||| y.toBitVec) <<< n = x.toBitVec <<< n ||| y.toBitVec <<< n
  exact BitVec.shiftLeft_or_distrib ..
theorem shl64_add (x : UInt64) (m n : Nat) : shl64 (shl64 x m) n = shl64 x (m + n) := by
  unfold shl64
  apply UInt64.toBitVec_inj.1
  show (x.toBitVec <<< m) <<< n = x.toBitVec <<< (m + n)
  exact (BitVec.shiftLeft_add ..).symm
theorem shl64_zero (x : UInt64) : shl64 x 0 = x := by
  unfold shl64
  apply UInt64.toBitVec_inj.1
  show x.toBitVec <<< 0 = x.toBitVec
  exact BitVec.shiftLeft_zero ..
theorem shl64_big (x : UInt64) {n : Nat} (h : 64 ≤ n) : shl64 x n = 0 := by
  unfold shl64
  apply UInt64.toBitVec_inj.1
  show x.toBitVec <<< n = 0
  exact BitVec.shiftLeft_eq_zero h
theorem shl64_of0 (n : Nat) : shl64 0 n = 0 := by
  unfold shl64
  apply UInt64.toBitVec_inj.1
  show (0 : BitVec 64) <<< n = 0
  exact BitVec.zero_shiftLeft n
theorem or_right_comm64 (a b c : UInt64) : a ||| b ||| c = a ||| c ||| b := by
  rw [UInt64.or_assoc, UInt64.or_comm b c, ← UInt64.or_assoc]
theorem readL_append : ∀ (a : List UInt8) (b : UInt8), readL (a ++ [b]) = readL a ||| shl64 b.toUInt64 (8 * a.length)
  | [], b => by
    show shl64 0 8 ||| b.toUInt64 = 0 ||| shl64 b.toUInt64 0
    rw [shl64_of0, shl64_zero]
  | x :: a, b => by
    show shl64 (readL (a ++ [b])) 8 ||| x.toUInt64 = (shl64 (readL a) 8 ||| x.toUInt64) ||| shl64 b.toUInt64 (8 * (a.length + 1))
    rw [readL_append a b, shl64_or, shl64_add, or_right_comm64, show 8 * a.length + 8 = 8 * (a.length + 1) by omega]
theorem readL_take (l : List UInt8) : ∀ n, 8 ≤ n → n ≤ l.length → readL (l.take n) = readL (l.take 8) := by
  intro n hn hl
  induction n with
  | zero => omega
  | succ n ih =>
    by_cases h : n + 1 = 8
    · rw [h]
    · rw [List.take_add_one, List.getElem?_eq_getElem (by omega), Option.toList_some, readL_append, shl64_big, UInt64.or_zero, ih (by omega) (by omega)]
      rw [List.length_take]; omega
theorem readL_min (l : List UInt8) : readL (l.take (min l.length 8)) = readL l := by
  by_cases h : l.length ≤ 8
  · rw [Nat.min_eq_left h, List.take_length]
  · rw [Nat.min_eq_right (by omega), ← readL_take l l.length (by omega) (Nat.le_refl _), List.take_length]
theorem readL_step (l : List UInt8) (i : Nat) (h : i < l.length) : readL (l.take (i + 1)) = readL (l.take i) ||| shl64 (l.getD i 0).toUInt64 (8 * i) := by
  rw [List.take_add_one, List.getElem?_eq_getElem h, Option.toList_some, readL_append, List.length_take, Nat.min_eq_left (by omega)]
  rw [List.getD_eq_getElem?_getD, List.getElem?_eq_getElem h]; rfl
theorem readL_drop (l : List UInt8) (i : Nat) (h : i < l.length) : readL (l.drop i) = shl64 (readL (l.drop (i + 1))) 8 ||| (l.getD i 0).toUInt64 := by
  rw [List.drop_eq_getElem_cons h]
  show shl64 _ 8 ||| _ = _
  rw [List.getD_eq_getElem?_getD, List.getElem?_eq_getElem h]; rfl
def gReadL : SpecF := fun args => match args with
  | [.w (.s (.xs 1 (.s m) (.u8 l)))] => some ([m = l.length, l.length < 4611686018427387904], .s (.u64 (readL l)))
  | _ => none
def gJoin : SpecF := fun args => match args with
  | [.w (.s (.xs 1 (.s m) (.sl ls)))] => some ([m = ls.length, ls.length < 4611686018427387904, ls.flatten.length ≤ 4294967296], .s (.xs 1 (.s ls.flatten.length) (.u8 ls.flatten)))
  | _ => none
noncomputable def JReadL (σ : St) : Option Inv :=
  match getF σ.fr 0 with
  | .w (.s (.xs _ _ (.u8 l))) => some {
      α := Nat
      ok := fun i => i ≤ min l.length 8
      mu := fun i => 8 - i
      keep := [0, 2, 7]
      slots := fun i => [(3, .s (.u64 (readL (l.take i)))), (8, .s (.i64 i))]
      own := fun _ => []
      ext := fun _ => [] }
  | _ => none
noncomputable def JReadLr (σ : St) : Option Inv :=
  match getF σ.fr 0 with
  | .w (.s (.xs _ _ (.u8 l))) => some {
      α := Nat
      ok := fun i => i ≤ l.length
      mu := fun i => i
      keep := [0, 2]
      slots := fun i => [(3, .s (.u64 (readL (l.drop i)))), (4, .s (.i64 ((i : Int) - 1)))]
      own := fun _ => []
      ext := fun _ => [] }
  | _ => none
noncomputable def JJoin (σ : St) : Option Inv :=
  match getF σ.fr 0 with
  | .w (.s (.xs _ _ (.sl ls))) => some {
      α := Nat
      ok := fun i => i ≤ ls.length
      mu := fun i => ls.length - i
      keep := [0, 2, 6, 7]
      slots := fun i => [(3, .s (.sl σ.own.length 0 (.n 0) (.s (ls.take i).flatten.length) 1)), (8, .s (.i64 i))]
      own := fun _ => []
      ext := fun i => [(3, [.vec (.s (ls.take i).flatten.length) (.u8 (ls.take i).flatten)])] }
  | _ => none
/-- the lowest bytes of a number, the least significant one first -/
def littleL (n : UInt64) : Nat → List UInt8
  | 0 => []
  | s + 1 => littleL n s ++ [(shr64 n (8 * s)).toUInt8]
theorem littleL_len (n : UInt64) : ∀ s, (littleL n s).length = s
  | 0 => rfl
  | s + 1 => by simp [littleL, littleL_len n s]
def gLittle : SpecF := fun args => match args with
  | [.w (.s (.u64 n)), .w (.s (.i64 s))] => some ([1 ≤ s ∧ s ≤ 8], .s (.xs 1 (.s s.toNat) (.u8 (littleL n s.toNat))))
  | _ => none
/-- .. where the size is written out -/
def gLittleN : SpecF := fun args => match args with
  | [.w (.s (.u64 n)), .w (.s (.i64 s))] => match s with
    | .ofNat m => bif Nat.beq m 4 then some ([], .s (.xs 1 (.n 4) (.u8 [(shr64 n 0).toUInt8, (shr64 n 8).toUInt8, (shr64 n 16).toUInt8, (shr64 n 24).toUInt8])))
      else bif Nat.beq m 8 then some ([], .s (.xs 1 (.n 8) (.u8 [(shr64 n 0).toUInt8, (shr64 n 8).toUInt8, (shr64 n 16).toUInt8, (shr64 n 24).toUInt8, (shr64 n 32).toUInt8, (shr64 n 40).toUInt8, (shr64 n 48).toUInt8, (shr64 n 56).toUInt8])))
      else none
    | _ => none
  | _ => none
theorem littleN_of {P : Program} {f : FuncId} (h : Con P f gLittle) : Con P f gLittleN := con_conv h fun args ps res hg hp => by
  unfold gLittleN at hg
  split at hg
  · rename_i n s
    split at hg
    · rename_i m
      cases h4 : Nat.beq m 4
      · rw [h4] at hg
        cases h8 : Nat.beq m 8
        · rw [h8] at hg; cases hg
        · rw [h8] at hg
          have h8 := Nat.eq_of_beq_eq_true h8
          subst h8
          cases hg
          exact ⟨_, _, rfl, all_cons.2 ⟨by decide, all_nil⟩, out_len rfl rfl⟩
      · rw [h4] at hg
        have h4 := Nat.eq_of_beq_eq_true h4
        subst h4
        cases hg
        exact ⟨_, _, rfl, all_cons.2 ⟨by decide, all_nil⟩, out_len rfl rfl⟩
    · cases hg
  · cases hg
noncomputable def JLittle (slot : Nat) (keep : List Nat) (σ : St) : Option Inv :=
  match getF σ.fr 0, getF σ.fr 1 with
  | .w (.s (.u64 n)), .w (.s (.i64 s)) => some {
      α := Nat
      ok := fun i => (i : Int) ≤ s
      mu := fun i => s.toNat - i
      keep := keep
      slots := fun i => [(5, .s (.sl σ.own.length 0 (.n 0) (.s i) 1)), (slot, .s (.i64 i))]
      own := fun _ => []
      ext := fun i => [(5, [.vec (.s i) (.u8 (littleL n i))])] }
  | _, _ => none
end Go.Cod
