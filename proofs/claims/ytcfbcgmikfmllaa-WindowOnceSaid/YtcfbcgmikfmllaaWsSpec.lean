/- A step towards WindowOnceSaid: no conditions. -/
import Derived.Test.YtcfbcgmikfmllaaWinSpec
namespace Go.Proofs.Ytcfbcgmikfmllaa
open Go Go.Eng
def w0 : Win := ⟨false, 0, List.replicate 4 0⟩
def ctr (base : UInt64) (x : UInt8) : UInt64 := base + x.toUInt64
def seqA (base : UInt64) (l : List UInt8) : Nat → Win
  | 0 => w0
  | i + 1 => acc (seqA base l i) (ctr base (l.getD i 0))
def seqB (base : UInt64) (l : List UInt8) (k : Nat) : Nat → Win
  | 0 => w0
  | i + 1 => acc (seqB base l k i) (ctr base (l.getD ((i + k) % l.length) 0))
noncomputable def JSets (σ : St) : Option Inv :=
  match getF σ.fr 7, getF σ.fr 8, getF σ.fr 2, names σ.fr 9, names σ.fr 10 with
  | .w (.s (.xs _ _ (.u8 l))), .w (.s (.u64 base)), .w (.s (.u8 turn)), some ka, some kb => some {
      α := Nat
      ok := fun i => i ≤ l.length
      mu := fun i => l.length - i
      keep := [2, 6, 7, 8, 9, 10, 21, 22]
      slots := fun i => [(23, .s (.i64 i))]
      own := fun i => [(ka, some (seqA base l i).C), (kb, some (seqB base l turn.toNat i).C)]
      ext := fun _ => [] }
  | _, _, _, _, _ => none
noncomputable def E5 : Env := mkE Try.prog [(6, gAcc), (11, gBegun)] [(0, JSets)] 2
end Go.Proofs.Ytcfbcgmikfmllaa
