/- A step towards HandshakeAgreesSaid: no conditions. -/
import Derived.Test.YtiogdokekibeiaaJBlaSpec
import Derived.Test.YtiogdokekibeiaaBase


namespace Go.Proofs.Ytiogdokekibeiaa
open Go Go.Eng Go.Cod Go.Cha Go.Bla
noncomputable def BE0 : Env := mkE Try.prog [] [] 2
noncomputable def BEcp : Env := mkE Try.prog [(61, gReadL), (74, gRotl)] [(2, JRounds 59 3 2 [0, 1, 2, 3, 4, 8, 9, 11, 12, 58]), (1053, JLast 53 3 [0, 1, 2, 3, 4, 8, 9, 11, 12])] 18 true
set_option maxRecDepth 100000 in
theorem vcRotl (x : UInt32) (n : Int) : (vcFn BE0 100 74 [.s (.u32 x), .s (.i64 n)] (.s (.u32 (rol x (to64 n &&& 31).toNat)))) =
  (shl32 x (to64 n &&& UInt64.ofNat (nat_lit 31)).toNat ||| shr32 x (UInt64.ofNat (nat_lit 32) - (to64 n &&& UInt64.ofNat (nat_lit 31))).toNat = rol x (to64 n &&& (31 : UInt64)).toNat ∧ True) := by kernel_rfl
end Go.Proofs.Ytiogdokekibeiaa
