/- A step towards SessionValuesSaid: no conditions. -/
import Derived.Test.YtimjfjlaoekfkaaGreatEngE
import Derived.Test.YtimjfjlaoekfkaaGreatRows
import Derived.Test.YtimjfjlaoekfkaaGreatChecked


namespace Go.Proofs.YtimjfjlaoekfkaaGreat
open Go Go.Eng Go.RowKit
theorem nm : Tryz.prog.funcs.all (fun fn => !(fn.name == "runtime.NumGoroutine")) = true := by kernel_rfl
theorem mx : Tryz.prog.follows .mixedOrders = true := by kernel_rfl
theorem namesOk : NamesOK Tryz.prog := fun f fn h => by
  have := (Array.all_eq_true_iff_forall_mem.1 nm) fn (Array.mem_of_getElem? h)
  simpa using this
theorem eok {gs : List (Nat × SpecF)} {ls : List (Nat × (St → Option Inv))} {r : Nat} {b : Bool} (h : Cons Tryz.prog gs) : EnvOk (mkE Tryz.prog gs ls r b) := mkE_ok namesOk mx h
theorem own : ownKnob Tryz.prog.godebug = none := by kernel_rfl
theorem laidOut : laidOutB Tryz.prog = true := by kernel_rfl
theorem io (n : Nat) : Int.ofNat n = (n : Int) := rfl
end Go.Proofs.YtimjfjlaoekfkaaGreat
