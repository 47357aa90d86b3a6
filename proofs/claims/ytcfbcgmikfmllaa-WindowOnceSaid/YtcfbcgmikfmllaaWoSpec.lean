/- A step towards WindowOnceSaid: no conditions. -/
import Derived.Test.YtcfbcgmikfmllaaWsPlain
namespace Go.Proofs.Ytcfbcgmikfmllaa
open Go Go.Eng
def ctrO (fr : UInt32) (x : UInt16) : UInt64 := fr.toUInt64 + x.toUInt64 % 1200
structure SO where
  w : Win
  s : List UInt64
  m : UInt64
def stepO (o : SO) (c : UInt64) : SO := if chk o.w c = true then ⟨acc o.w c, bif o.s.contains c then o.s else o.s ++ [c], if o.m < c then c else o.m⟩ else ⟨acc o.w c, o.s, o.m⟩
def stO (fr : UInt32) (ls : List UInt16) : Nat → SO
  | 0 => ⟨w0, [], 0⟩
  | i + 1 => stepO (stO fr ls i) (ctrO fr (ls.getD i 0))
noncomputable def JOnce (σ : St) : Option Inv :=
  match getF σ.fr 19, getF σ.fr 1, getF σ.fr 6, names σ.fr 5 with
  | .w (.s (.xs _ _ (.u16 ls))), .w (.s (.u32 fr)), .w (.s (.mref km)), some kw => some {
      α := Nat
      ok := fun i => i ≤ ls.length
      mu := fun i => ls.length - i
      keep := [1, 5, 6, 19, 20]
      slots := fun i => [(21, .s (.i64 i)), (7, .s (.u64 (stO fr ls i).m))]
      own := fun i => [(kw, some (stO fr ls i).w.C), (km, some [.one (.mpc (stO fr ls i).s)])]
      ext := fun _ => [] }
  | _, _, _, _ => none
noncomputable def E4 : Env := mkE Try.prog [(6, gAcc), (11, gBegun)] [(0, JOnce)] 2 true
end Go.Proofs.Ytcfbcgmikfmllaa
