/- A step towards SessionExchangesSaid: no conditions. -/
import Derived.Test.YtimjfjlaoekfkaaEngD
import Derived.Test.YtimjfjlaoekfkaaRows
import Derived.Test.YtimjfjlaoekfkaaChecked

namespace Go.Proofs.Ytimjfjlaoekfkaa
open Go Go.Eng Go.RowKit
theorem nm : Try.prog.funcs.all (fun fn => !(fn.name == "runtime.NumGoroutine")) = true := by kernel_rfl
theorem mx : Try.prog.follows .mixedOrders = true := by kernel_rfl
theorem namesOk : NamesOK Try.prog := fun f fn h => by
  have := (Array.all_eq_true_iff_forall_mem.1 nm) fn (Array.mem_of_getElem? h)
  simpa using this
theorem eok {gs : List (Nat × SpecF)} {ls : List (Nat × (St → Option Inv))} {r : Nat} {b : Bool} (h : Cons Try.prog gs) : EnvOk (mkE Try.prog gs ls r b) := mkE_ok namesOk mx h
theorem own : ownKnob Try.prog.godebug = none := by kernel_rfl
theorem laidOut : laidOutB Try.prog = true := by kernel_rfl
theorem io (n : Nat) : Int.ofNat n = (n : Int) := rfl
end Go.Proofs.Ytimjfjlaoekfkaa
