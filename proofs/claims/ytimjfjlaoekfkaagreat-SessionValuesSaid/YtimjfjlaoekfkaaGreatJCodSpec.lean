/- Steps towards SessionValuesSaid. -/
import Derived.Test.YtimjfjlaoekfkaaGreatEngE
import Derived.KernelRfl
/- A step towards SessionValuesSaid: no conditions. -/

namespace Go.Cod
open Go Go.Eng
def readL : List UInt8 → UInt64
  | [] => 0
  | b :: r => shl64 (readL r) 8 ||| b.toUInt64
theorem shl64_or (x y : UInt64) (n : Nat) : shl64 (x ||| y) n = shl64 x n ||| shl64 y n := by
  unfold shl64
  apply UInt64.toBitVec_inj.1
  show (x.toBitVec ||| y.toBitVec) <<< n = x.toBitVec <<< n ||| y.toBitVec <<< n
  exact BitVec.shiftLeft_or_distrib ..
theorem shl64_add (x : UInt64) (m n : Nat) : shl64 (shl64 x m) n = shl64 x (m + n) := by
  unfold shl64
  apply UInt64.toBitVec_inj.1
  show (x.toBitVec <<< m) <<< n = x.toBitVec <<< (m + n)
  exact (BitVec.shiftLeft_add ..).symm
theorem shl64_zero (x : UInt64) : shl64 x 0 = x := by
  unfold shl64
  apply UInt64.toBitVec_inj.1
  show x.toBitVec <<< 0 = x.toBitVec
  exact BitVec.shiftLeft_zero ..
theorem shl64_big (x : UInt64) {n : Nat} (h : 64 ≤ n) : shl64 x n = 0 := by
  unfold shl64
  apply UInt64.toBitVec_inj.1
  show x.toBitVec <<< n = 0
  exact BitVec.shiftLeft_eq_zero h
theorem shl64_of0 (n : Nat) : shl64 0 n = 0 := by
  unfold shl64
  apply UInt64.toBitVec_inj.1
  show (0 : BitVec 64) <<< n = 0
  exact BitVec.zero_shiftLeft n
theorem or_right_comm64 (a b c : UInt64) : a ||| b ||| c = a ||| c ||| b := by
  rw [UInt64.or_assoc, UInt64.or_comm b c, ← UInt64.or_assoc]
theorem readL_append : ∀ (a : List UInt8) (b : UInt8), readL (a ++ [b]) = readL a ||| shl64 b.toUInt64 (8 * a.length)
  | [], b => by
    show shl64 0 8 ||| b.toUInt64 = 0 ||| shl64 b.toUInt64 0
    rw [shl64_of0, shl64_zero]
  | x :: a, b => by
    show shl64 (readL (a ++ [b])) 8 ||| x.toUInt64 = (shl64 (readL a) 8 ||| x.toUInt64) ||| shl64 b.toUInt64 (8 * (a.length + 1))
    rw [readL_append a b, shl64_or, shl64_add, or_right_comm64, show 8 * a.length + 8 = 8 * (a.length + 1) by omega]
theorem readL_take (l : List UInt8) : ∀ n, 8 ≤ n → n ≤ l.length → readL (l.take n) = readL (l.take 8) := by
  intro n hn hl
  induction n with
  | zero => omega
  | succ n ih =>
    by_cases h : n + 1 = 8
    · rw [h]
    · rw [List.take_add_one, List.getElem?_eq_getElem (by omega), Option.toList_some, readL_append, shl64_big, UInt64.or_zero, ih (by omega) (by omega)]
      rw [List.length_take]; omega
theorem readL_min (l : List UInt8) : readL (l.take (min l.length 8)) = readL l := by
  by_cases h : l.length ≤ 8
  · rw [Nat.min_eq_left h, List.take_length]
  · rw [Nat.min_eq_right (by omega), ← readL_take l l.length (by omega) (Nat.le_refl _), List.take_length]
theorem readL_step (l : List UInt8) (i : Nat) (h : i < l.length) : readL (l.take (i + 1)) = readL (l.take i) ||| shl64 (l.getD i 0).toUInt64 (8 * i) := by
  rw [List.take_add_one, List.getElem?_eq_getElem h, Option.toList_some, readL_append, List.length_take, Nat.min_eq_left (by omega)]
  rw [List.getD_eq_getElem?_getD, List.getElem?_eq_getElem h]; rfl
def gReadL : SpecF := fun args => match args with
  | [.w (.s (.xs 1 (.s m) (.u8 l)))] => some ([m = l.length, l.length < 4611686018427387904], .s (.u64 (readL l)))
  | _ => none
def gJoin : SpecF := fun args => match args with
  | [.w (.s (.xs 1 (.s m) (.sl ls)))] => some ([m = ls.length, ls.length < 4611686018427387904, ls.flatten.length ≤ 4294967296], .s (.xs 1 (.s ls.flatten.length) (.u8 ls.flatten)))
  | _ => none
noncomputable def JReadL (σ : St) : Option Inv :=
  match getF σ.fr 0 with
  | .w (.s (.xs _ _ (.u8 l))) => some {
      α := Nat
      ok := fun i => i ≤ min l.length 8
      mu := fun i => 8 - i
      keep := [0, 2, 7]
      slots := fun i => [(3, .s (.u64 (readL (l.take i)))), (8, .s (.i64 i))]
      own := fun _ => []
      ext := fun _ => [] }
  | _ => none
noncomputable def JJoin (σ : St) : Option Inv :=
  match getF σ.fr 0 with
  | .w (.s (.xs _ _ (.sl ls))) => some {
      α := Nat
      ok := fun i => i ≤ ls.length
      mu := fun i => ls.length - i
      keep := [0, 2, 6, 7]
      slots := fun i => [(3, .s (.sl σ.own.length 0 (.n 0) (.s (ls.take i).flatten.length) 1)), (8, .s (.i64 i))]
      own := fun _ => []
      ext := fun i => [(3, [.vec (.s (ls.take i).flatten.length) (.u8 (ls.take i).flatten)])] }
  | _ => none
def littleL (n : UInt64) : Nat → List UInt8
  | 0 => []
  | s + 1 => littleL n s ++ [(shr64 n (8 * s)).toUInt8]
theorem littleL_len (n : UInt64) : ∀ s, (littleL n s).length = s
  | 0 => rfl
  | s + 1 => by simp [littleL, littleL_len n s]
def gLittle : SpecF := fun args => match args with
  | [.w (.s (.u64 n)), .w (.s (.i64 s))] => some ([1 ≤ s ∧ s ≤ 8], .s (.xs 1 (.s s.toNat) (.u8 (littleL n s.toNat))))
  | _ => none
def gLittleN : SpecF := fun args => match args with
  | [.w (.s (.u64 n)), .w (.s (.i64 s))] => match s with
    | .ofNat m => bif Nat.beq m 4 then some ([], .s (.xs 1 (.n 4) (.u8 [(shr64 n 0).toUInt8, (shr64 n 8).toUInt8, (shr64 n 16).toUInt8, (shr64 n 24).toUInt8])))
      else bif Nat.beq m 8 then some ([], .s (.xs 1 (.n 8) (.u8 [(shr64 n 0).toUInt8, (shr64 n 8).toUInt8, (shr64 n 16).toUInt8, (shr64 n 24).toUInt8, (shr64 n 32).toUInt8, (shr64 n 40).toUInt8, (shr64 n 48).toUInt8, (shr64 n 56).toUInt8])))
      else none
    | _ => none
  | _ => none
theorem littleN_of {P : Program} {f : FuncId} (h : Con P f gLittle) : Con P f gLittleN := con_conv h fun args ps res hg hp => by
  unfold gLittleN at hg
  split at hg
  · rename_i n s
    split at hg
    · rename_i m
      cases h4 : Nat.beq m 4
      · rw [h4] at hg
        cases h8 : Nat.beq m 8
        · rw [h8] at hg; cases hg
        · rw [h8] at hg
          have h8 := Nat.eq_of_beq_eq_true h8
          subst h8
          cases hg
          exact ⟨_, _, rfl, all_cons.2 ⟨by decide, all_nil⟩, out_len rfl rfl⟩
      · rw [h4] at hg
        have h4 := Nat.eq_of_beq_eq_true h4
        subst h4
        cases hg
        exact ⟨_, _, rfl, all_cons.2 ⟨by decide, all_nil⟩, out_len rfl rfl⟩
    · cases hg
  · cases hg
noncomputable def JLittle (slot : Nat) (keep : List Nat) (σ : St) : Option Inv :=
  match getF σ.fr 0, getF σ.fr 1 with
  | .w (.s (.u64 n)), .w (.s (.i64 s)) => some {
      α := Nat
      ok := fun i => (i : Int) ≤ s
      mu := fun i => s.toNat - i
      keep := keep
      slots := fun i => [(5, .s (.sl σ.own.length 0 (.n 0) (.s i) 1)), (slot, .s (.i64 i))]
      own := fun _ => []
      ext := fun i => [(5, [.vec (.s i) (.u8 (littleL n i))])] }
  | _, _ => none
end Go.Cod

/- A step towards SessionValuesSaid: no conditions. -/

namespace Go.Cds
open Go Go.Eng Go.Cod
abbrev BS := List UInt8
noncomputable def nrmCs : List Ch → List Ch
  | [] => []
  | .one (.n k) :: r => .one (.i64 k) :: nrmCs r
  | c :: r => c :: nrmCs r
noncomputable def nrm (g : SpecM) : SpecM := fun cs o args => g (nrmCs cs) o args
def nxV (l : BS) (at_ n : Int) : Int := if at_ < l.length ∧ 1 ≤ n then ((l.getD at_.toNat 0).toNat : Int).tmod n else 0
def nxA (l : BS) (at_ n : Int) : Int := if at_ < l.length ∧ 1 ≤ n then at_ + 1 else at_
def gmNext : SpecM := fun cs o args => match cs, o, args with
  | [.one (.xs 1 (.s m) (.u8 l)), .one (.i64 a)], 0, [.w (.s (.i64 n))] => some ([0 ≤ a, a ≤ l.length, l.length ≤ 4294967296], .s (.i64 (nxV l a n)), [.one (.i64 (nxA l a n))])
  | _, _, _ => none
def nx3 (l : BS) (a : Int) : Int := nxA l (nxA l (nxA l a 256) 256) 256
def bigV (l : BS) (a n : Int) : Int := (ior (ior (nxV l a 256 * (2 : Int) ^ 16) (nxV l (nxA l a 256) 256 * (2 : Int) ^ 8)) (nxV l (nxA l (nxA l a 256) 256) 256)).tmod n
def gmBig : SpecM := fun cs o args => match cs, o, args with
  | [.one (.xs 1 (.s m) (.u8 l)), .one (.i64 a)], 0, [.w (.s (.i64 n))] => some ([0 ≤ a, a ≤ l.length, l.length ≤ 4294967296, 1 ≤ n], .s (.i64 (bigV l a n)), [.one (.i64 (nx3 l a))])
  | _, _, _ => none
theorem nxA_rng {l : BS} {a : Int} (n : Int) (h : 0 ≤ a ∧ a ≤ l.length) : 0 ≤ nxA l a n ∧ nxA l a n ≤ l.length := by
  unfold nxA
  split <;> omega
theorem nxV_rng (l : BS) (a n : Int) : 0 ≤ nxV l a n ∧ nxV l a n ≤ 255 := by
  unfold nxV
  split
  · have h1 : (l.getD a.toNat 0).toNat < 256 := UInt8.toNat_lt _
    have h2 := Int.tmod_nonneg n (a := ((l.getD a.toNat 0).toNat : Int)) (by omega)
    have h3 : ((l.getD a.toNat 0).toNat : Int).tmod n ≤ (l.getD a.toNat 0).toNat := by
      rename_i hc
      obtain ⟨_, hn⟩ := hc
      obtain ⟨k, rfl⟩ := Int.eq_ofNat_of_zero_le (show 0 ≤ n by omega)
      have e : ((l.getD a.toNat 0).toNat : Int).tmod (k : Int) = (((l.getD a.toNat 0).toNat % k : Nat) : Int) := rfl
      rw [e]
      have := Nat.mod_le (l.getD a.toNat 0).toNat k
      omega
    omega
  · omega
end Go.Cds

/- A step towards SessionValuesSaid: no conditions. -/

namespace Go.Win
open Go Go.Eng
structure Win where
  u : Bool
  t : UInt64
  ws : List UInt64
def chk (w : Win) (c : UInt64) : Bool :=
  !w.u || decide (w.t < c) || (decide (w.t / 64 - c / 64 < 4) && (shr64 (w.ws.getD (c / 64 % 4).toNat 0) (c % 64).toNat &&& 1 == 0))
def clr (ws : List UInt64) (b : UInt64) : Nat → List UInt64
  | 0 => ws
  | n + 1 => (clr ws b n).set ((b + 1 + UInt64.ofNat n) % 4).toNat 0
def m4 (x : UInt64) : UInt64 := if 4 < x then 4 else x
def acc1 (w : Win) (c : UInt64) : Win :=
  if w.u then if w.t < c then ⟨w.u, c, clr w.ws (w.t / 64) (m4 (c / 64 - w.t / 64)).toNat⟩ else w else ⟨true, c, List.replicate 4 0⟩
def orAt (l : List UInt64) (c : UInt64) : List UInt64 := l.set (c / 64 % 4).toNat (l.getD (c / 64 % 4).toNat 0 ||| shl64 1 (c % 64).toNat)
def acc (w : Win) (c : UInt64) : Win :=
  if chk w c then ⟨(acc1 w c).u, (acc1 w c).t, orAt (acc1 w c).ws c⟩ else w
abbrev Win.V (w : Win) : V := .agg [.one (.b w.u), .one (.u64 w.t), .vec (.n 4) (.u64 w.ws)]
abbrev Win.W (w : Win) : Go.Eng.W := .agg [.one (.b w.u), .one (.u64 w.t), .vec (.n 4) (.u64 w.ws)]
def gCheck : SpecF := fun args => match args with
  | [.w (.agg [.one (.b u), .one (.u64 t), .vec (.n 4) (.u64 ws)]), .w (.s (.u64 c))] => some ([], .s (.b (chk ⟨u, t, ws⟩ c)))
  | _ => none
def gAcc : SpecF := fun args => match args with
  | [.w (.agg [.one (.b u), .one (.u64 t), .vec (.n 4) (.u64 ws)]), .w (.s (.u64 c))] => some ([], .tup [(acc ⟨u, t, ws⟩ c).W, .s (.b (chk ⟨u, t, ws⟩ c))])
  | _ => none
noncomputable def JB (σ : St) : Option Inv :=
  match getO σ.own 0, getF σ.fr 1 with
  | some [_, .one (.u64 t), .vec _ (.u64 ws)], .w (.s (.u64 c)) => some {
      α := Nat
      ok := fun n => n ≤ (m4 (c / 64 - t / 64)).toNat
      mu := fun n => (m4 (c / 64 - t / 64)).toNat - n
      keep := [1, 2, 4]
      slots := fun n => [(6, .s (.u64 (1 + UInt64.ofNat n)))]
      own := fun n => [(0, some [.one (.b true), .one (.u64 t), .vec (.n 4) (.u64 (clr ws (t / 64) n))])]
      ext := fun _ => [] }
  | _, _ => none
end Go.Win

/- A step towards SessionValuesSaid: no conditions. -/

namespace Go.Dae
open Go Go.Eng
abbrev BS := List UInt8
abbrev VL := List Value
def Row (ks : List TK) (z n : Nat) (l : VL) : Prop := l.length = n * z ∧ ∀ i, i < n → WT ks ((l.drop (i * z)).take z)
def ksT : List TK := [.one .i64, .vec 32 .u8, .one .i64]
def ksS : List TK := [.one .u32, .vec 32 .u8, .one .b]
def ksR : List TK := [.one .b, .vec 16 .u8, .one .i64, .vec 32 .u8]
theorem Row.nil {ks : List TK} {z : Nat} : Row ks z 0 [] := ⟨by simp, fun i h => by omega⟩
theorem Row.app {ks : List TK} {z n m : Nat} {l k : VL} (h : Row ks z n l) (h2 : Row ks z m k) : Row ks z (n + m) (l ++ k) := by
  refine ⟨by rw [List.length_append, h.1, h2.1, Nat.add_mul], fun i hi => ?_⟩
  by_cases hn : i < n
  · have e : ((l ++ k).drop (i * z)).take z = (l.drop (i * z)).take z := by
      have h1 : (i + 1) * z ≤ n * z := Nat.mul_le_mul_right _ hn
      rw [Nat.add_mul] at h1
      have := h.1
      rw [List.drop_append_of_le_length (by omega), List.take_append_of_le_length (by simp; omega)]
    rw [e]; exact h.2 i hn
  · have e : ((l ++ k).drop (i * z)).take z = (k.drop ((i - n) * z)).take z := by
      have : i * z = l.length + (i - n) * z := by rw [h.1, ← Nat.add_mul]; congr 1; omega
      rw [this, ← List.drop_drop, List.drop_left]
    rw [e]; exact h2.2 _ (by omega)
theorem Row.one {ks : List TK} {z : Nat} {l : VL} (h : WT ks l) (hl : l.length = z) : Row ks z 1 l := by
  refine ⟨by omega, fun i hi => ?_⟩
  have : i = 0 := by omega
  subst this
  rw [Nat.zero_mul, List.drop_zero, List.take_of_length_le (by omega)]
  exact h
theorem Row.take {ks : List TK} {z n : Nat} {l : VL} (h : Row ks z n l) (i : Nat) (hi : i ≤ n) : Row ks z i (l.take (i * z)) := by
  have h1 : i * z ≤ n * z := Nat.mul_le_mul_right _ hi
  refine ⟨by rw [List.length_take, h.1]; omega, fun j hj => ?_⟩
  have h2 : (j + 1) * z ≤ i * z := Nat.mul_le_mul_right _ hj
  rw [Nat.add_mul] at h2
  rw [List.drop_take, List.take_take, Nat.min_eq_left (by omega)]
  exact h.2 j (by omega)
theorem Row.drop {ks : List TK} {z n : Nat} {l : VL} (h : Row ks z n l) (i : Nat) (hi : i ≤ n) : Row ks z (n - i) (l.drop (i * z)) := by
  refine ⟨by rw [List.length_drop, h.1, Nat.sub_mul], fun j hj => ?_⟩
  rw [List.drop_drop, ← Nat.add_mul]
  exact h.2 (i + j) (by omega)
theorem Row.all {ks : List TK} {z n : Nat} {l : VL} (h : Row ks z n l) : l.take (n * z) = l := List.take_of_length_le (by rw [h.1]; exact Nat.le_refl _)
end Go.Dae
