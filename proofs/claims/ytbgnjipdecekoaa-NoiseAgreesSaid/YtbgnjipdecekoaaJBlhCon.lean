/- Steps towards NoiseAgreesSaid. -/
import Derived.Test.YtbgnjipdecekoaaBlhVc
import Derived.Test.YtbgnjipdecekoaaSumCon
import Derived.Test.YtbgnjipdecekoaaJBlaSpec
/- A step towards NoiseAgreesSaid: no conditions. -/
namespace Go.Proofs.Ytbgnjipdecekoaa
open Go Go.Eng Go.Cod Go.Cha Go.Bla
theorem sumL_len (size : Int) (key data : List UInt8) (hs : 1 ≤ size ∧ size ≤ 32) : (sumL size key data).length = size.toNat :=
  sum_len size (h0 size key.length) (textK key data) rfl hs
theorem sumR_ok {size : Int} {key : List UInt8} (data : List UInt8) (hs : 1 ≤ size ∧ size ≤ 32) (hk : key.length ≤ 32) : sumR size key data = sumL size key data ∧ sumE size key = 0 :=
  ⟨if_pos ⟨hs.1, hs.2, hk⟩, if_pos ⟨hs.1, hs.2, hk⟩⟩
set_option maxRecDepth 100000 in
theorem conHash : Con Try.prog 28 gHash := con_of_vcl fun args ps res h hp hlen => by
  unfold gHash at h
  split at h <;> cases h
  rename_i m ls
  obtain ⟨rfl, hp2⟩ := all_cons.1 hp
  obtain ⟨hl, hp3⟩ := all_cons.1 hp2
  have hf := (all_cons.1 hp3).1
  refine ⟨BEh, 100, rfl, eok (gs := [(38, gJoin), (37, gSum)]) ⟨conJoin, conSum, trivial⟩, ?_⟩
  refine Eq.mpr (vcHash ls) ?_
  refine ⟨rfl, hl, by omega, ?_⟩
  intro y hy
  subst hy
  have e : List.take ls.flatten.length (dropL (dropL ls.flatten 0) 0) = ls.flatten := List.take_length
  rw [e]
  have hr := (sumR_ok (size := 32) (key := []) ls.flatten (by decide) (by decide)).1
  have hr' : sumR (Int.ofNat 32) (List.replicate 0 0) ls.flatten = sumL 32 [] ls.flatten := hr
  have hn := sumL_len 32 [] ls.flatten (by decide)
  have hn' : (sumL 32 [] ls.flatten).length = 32 := hn
  rw [hr', hn']
  refine ⟨by omega, rfl, rfl, by omega, fun y1 _ y2 hy2 y3 _ => ⟨Nat.le_refl _, Nat.le_refl _, fun y hy => ⟨?_, trivial⟩⟩⟩
  rw [hy, hy2, List.take_of_length_le (by rw [hn']; exact Nat.le_refl _)]
end Go.Proofs.Ytbgnjipdecekoaa

/- A step towards NoiseAgreesSaid: no conditions. -/
namespace Go.Proofs.Ytbgnjipdecekoaa
open Go Go.Eng Go.Cod Go.Cha Go.Bla
noncomputable def BEhr : Env := mkE Try.prog [(40, gJoin), (39, gSum)] [] 2 true
set_option maxRecDepth 100000 in
theorem vcHashR (ls : List (List UInt8)) : (vcFn BEhr 100 29 [.s (.xs 1 (.s ls.length) (.sl ls))] (.w (.agg [.vec (.n 32) (.u8 (sumL 32 [] ls.flatten))]))) =
  (ls.length = ls.length ∧ ls.length < (4611686018427387904 : Nat) ∧ ls.flatten.length ≤ (4294967296 : Nat) ∧ ∀ (y : List UInt8), y = ls.flatten → (0 : Nat) + ls.flatten.length ≤ ls.flatten.length ∧ (0 : Nat) = (0 : Nat) ∧ (List.take ls.flatten.length (dropL (dropL y (0 : Nat)) (0 : Nat))).length = (List.take ls.flatten.length (dropL (dropL y (0 : Nat)) (0 : Nat))).length ∧ (List.take ls.flatten.length (dropL (dropL y (0 : Nat)) (0 : Nat))).length ≤ (4294967000 : Nat) ∧ ∀ (y_1 : Int), y_1 = sumE (Int.ofNat (32 : Nat)) (List.replicate (0 : Nat) (0 : UInt8)) → ∀ (y_2 : List UInt8), y_2 = sumR (Int.ofNat (32 : Nat)) (List.replicate (0 : Nat) (0 : UInt8)) (List.take ls.flatten.length (dropL (dropL y (0 : Nat)) (0 : Nat))) → ∀ (y_3 : Int), y_3 = y_1 → (0 : Nat) + (sumR (Int.ofNat (32 : Nat)) (List.replicate (0 : Nat) (0 : UInt8)) (List.take ls.flatten.length (dropL (dropL y (0 : Nat)) (0 : Nat)))).length ≤ (sumR (Int.ofNat (32 : Nat)) (List.replicate (0 : Nat) (0 : UInt8)) (List.take ls.flatten.length (dropL (dropL y (0 : Nat)) (0 : Nat)))).length ∧ (0 : Nat) + (List.take (32 : Nat) (List.take (sumR (Int.ofNat (32 : Nat)) (List.replicate (0 : Nat) (0 : UInt8)) (List.take ls.flatten.length (dropL (dropL y (0 : Nat)) (0 : Nat)))).length (dropL (dropL y_2 (0 : Nat)) (0 : Nat)))).length ≤ (32 : Nat) ∧ ∀ (y_4 : List UInt8), y_4 = over (List.replicate (32 : Nat) (0 : UInt8)) (0 : Nat) (List.take (32 : Nat) (List.take (sumR (Int.ofNat (32 : Nat)) (List.replicate (0 : Nat) (0 : UInt8)) (List.take ls.flatten.length (dropL (dropL y (0 : Nat)) (0 : Nat)))).length (dropL (dropL y_2 (0 : Nat)) (0 : Nat)))) → ∀ (y : List UInt8), y = y_4 → y = sumL (32 : Int) [] ls.flatten ∧ True) := by kernel_rfl
end Go.Proofs.Ytbgnjipdecekoaa

/- A step towards NoiseAgreesSaid: no conditions. -/
namespace Go.Bla
open Go Go.Eng Go.Cha Go.Cod
/-- the key, filled up to a block, if there is one -/
def padK (key : List UInt8) : List UInt8 := if key.length = 0 then [] else key ++ List.replicate (64 - key.length) 0
noncomputable def JKey (σ : St) : Option Inv :=
  match getF σ.fr 1, names σ.fr 9 with
  | .w (.s (.xs _ _ (.u8 key))), some k => some {
      α := Nat
      ok := fun n => n ≤ 64 - key.length
      mu := fun n => 64 - key.length - n
      keep := [0, 1, 2, 6, 7, 8]
      slots := fun n => [(9, .s (.sl σ.own.length 0 (.n 0) (.s (key.length + n)) 1))]
      own := fun _ => [(k, none)]
      ext := fun n => [(9, [.vec (.s (key.length + n)) (.u8 (key ++ List.replicate n 0))])] }
  | _, _ => none
/-- behind the key -/
noncomputable def JKeyed (σ : St) : Option Inv :=
  match getF σ.fr 1 with
  | .w (.s (.xs _ _ (.u8 key))) => some {
      α := Unit
      ok := fun _ => True
      mu := fun _ => 0
      keep := [0, 1, 2, 6, 7, 8]
      slots := fun _ => [(9, .s (.sl σ.own.length 0 (.n 0) (.s (padK key).length) 1))]
      own := fun _ => []
      ext := fun _ => [(9, [.vec (.s (padK key).length) (.u8 (padK key))])] }
  | _ => none
/-- how many zeros fill the last block -/
def fillN (l : List UInt8) : Nat := 64 * (nb l + 1) - l.length
noncomputable def JFill (σ : St) : Option Inv :=
  match names σ.fr 9 with
  | some k => match getO σ.own k with
    | some [.vec _ (.u8 l)] => some {
        α := Nat
        ok := fun n => n ≤ fillN l
        mu := fun n => fillN l - n
        keep := [0, 1, 2, 6, 7, 8, 10]
        slots := fun n => [(9, .s (.sl σ.own.length 0 (.n 0) (.s (l.length + n)) 1))]
        own := fun _ => [(k, none)]
        ext := fun n => [(9, [.vec (.s (l.length + n)) (.u8 (l ++ List.replicate n 0))])] }
    | _ => none
  | none => none
/-- the state behind j blocks, the last one included -/
def hstR (h0 : List UInt32) (l : List UInt8) (j : Nat) : List UInt32 := if j ≤ nb l then hst h0 l j else sumH h0 l
noncomputable def JSumR (σ : St) : Option Inv :=
  match names σ.fr 8, names σ.fr 9, getF σ.fr 10 with
  | some kh, some km, .w (.s (.i64 len)) => match getO σ.own kh, getO σ.own km with
    | some [.vec _ (.u32 h)], some [.vec _ (.u8 m)] => some {
        α := Nat
        ok := fun j => 64 * j ≤ m.length
        mu := fun j => m.length - 64 * j
        keep := [0, 1, 2, 6, 7, 8, 9, 10]
        slots := fun j => [(11, .s (.i64 (64 * j : Nat)))]
        own := fun j => [(kh, some [.vec (.n 8) (.u32 (hstR h (m.take len.toNat) j))])]
        ext := fun _ => [] }
    | _, _ => none
  | _, _, _ => none
end Go.Bla
