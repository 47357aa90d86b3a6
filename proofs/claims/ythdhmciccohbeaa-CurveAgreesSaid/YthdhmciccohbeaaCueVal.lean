/- A step towards CurveAgreesSaid: no conditions. -/
import Derived.Test.YthdhmciccohbeaaCuvLad
/-! the ladder carried out by the kernel -/
namespace Go.Cur
open Go Go.Eng Go.Cod Go.Pol
noncomputable def frcLN {β : Type} (l : LN) (k : LN → β) : β := frcN l.x2 fun a => frcN l.z2 fun b => frcN l.x3 fun c => frcN l.z3 fun e => k ⟨a, b, c, e, l.last⟩
theorem frcLN_eq {β : Type} (l : LN) (k : LN → β) : frcLN l k = k l := by unfold frcLN; rw [frcN_eq, frcN_eq, frcN_eq, frcN_eq]
noncomputable def ladF {β : Type} (n : List UInt8) (x1 : Nat) (k : LN → β) (i : Nat) : β :=
  Nat.rec (motive := fun _ => (LN → β) → β) (fun k => k ⟨1, 0, x1, 1, 0⟩) (fun i ih k => ih fun l => frcLN (stN x1 (bitL n (254 - i)) (swN (bitL n (254 - i)) l)) k) i k
theorem ladF_succ {β : Type} (n : List UInt8) (x1 : Nat) (i : Nat) (k : LN → β) : ladF n x1 k (Nat.succ i) = ladF n x1 (fun l => frcLN (stN x1 (bitL n (254 - i)) (swN (bitL n (254 - i)) l)) k) i := rfl
theorem ladN_succ (n : List UInt8) (x1 : Nat) (i : Nat) : ladN n x1 (Nat.succ i) = stN x1 (bitL n (254 - i)) (swN (bitL n (254 - i)) (ladN n x1 i)) := by rw [ladN]
theorem ladF_eq {β : Type} (n : List UInt8) (x1 : Nat) (i : Nat) (k : LN → β) : ladF n x1 k i = k (ladN n x1 i) := by
  induction i generalizing k with
  | zero => rfl
  | succ i ih => exact (ladF_succ n x1 i k).trans ((ih _).trans ((frcLN_eq _ k).trans (congrArg k (ladN_succ n x1 i).symm)))
noncomputable def pstF {β : Type} (a : Nat) (n y : Nat) (k : Nat → β) : β := frcN (fm y y) fun z => if (254 - n = 2 ∨ 254 - n = 4) then k z else frcN (fm z a) k
noncomputable def powF {β : Type} (a : Nat) (k : Nat → β) (n : Nat) : β :=
  Nat.rec (motive := fun _ => (Nat → β) → β) (fun k => k 1) (fun n ih k => ih fun y => pstF a n y k) n k
theorem powF_succ {β : Type} (a : Nat) (n : Nat) (k : Nat → β) : powF a k (Nat.succ n) = powF a (fun y => pstF a n y k) n := rfl
theorem pstF_eq {β : Type} (a n y : Nat) (k : Nat → β) : pstF a n y k = k (if (254 - n = 2 ∨ 254 - n = 4) then fm y y else fm (fm y y) a) := by
  unfold pstF
  rw [frcN_eq]
  split
  · rfl
  · rw [frcN_eq]
theorem powF_eq {β : Type} (a : Nat) (n : Nat) (k : Nat → β) : powF a k n = k (powN a n) := by
  induction n generalizing k with
  | zero => rfl
  | succ n ih =>
    refine (powF_succ a n k).trans ((ih _).trans ((pstF_eq a n _ k).trans (congrArg k ?_)))
    rw [powN]
noncomputable def keyF (n : List UInt8) (x : Nat) : List UInt8 := ladF n x (fun l => if l.last = UInt8.ofNat 1 then powF l.z3 (fun y => frcN (fm l.x3 y) outN) 255 else powF l.z2 (fun y => frcN (fm l.x2 y) outN) 255) 255
theorem keyF_eq (s : List UInt8) (x : Nat) : outN (keyN s x) = keyF (clampL s) x := by
  unfold keyF keyN endN
  rw [ladF_eq]
  split
  · rw [powF_eq, frcN_eq]
  · rw [powF_eq, frcN_eq]
end Go.Cur
