/-
  No cell of these rows narrows 'for every input' (looked for: loops, veiled, ifaces, maps, wideKeys, modest, calm, conditions, laid).
  DERIVED. THE GIVEN ROWS OF THIS SEAT. 4 by the template 'for every input the law returns true; each argument reads behind the call as it read before'; 0 by the template 'total and deterministic' (their statements: YtimjfjlaoekfkaaTotals.lean).
  GIVEN WITH THE SEED: the statements are not yours to turn. If you find one false, say at which input.
  Laid BY PROGRAM, IN A SANDBOX (cutbox-rows.mjs): the forced cells as the released guide's own fill.sh prints them over the translation c9e3308cae5d64ab… (all of the seat's roots in one cut). By AI agents, Wed Nov 11 2026. No macro, syntax, notation, axiom, sorry.
-/
import Derived.Test.YtimjfjlaoekfkaaChecked
import GoSem.Claim
import GoSem.ClaimJoined
import GoSem.ClaimMapViews
import Derived.JoinedTies
import Derived.KernelRfl
namespace Go.Proofs.Ytimjfjlaoekfkaa
/- THE CELL 'sum', in the pinned program and in every row, IS THE sha256 OF THE DUMP (.gsa) THAT YtimjfjlaoekfkaaProg.lean LOADS. Nothing in Lean hashes anything: it is a label: what it is worth is what the hold of that sum in a sandbox is worth. -/
noncomputable def Try.pinned : Pinned := { name := "ytimjfjlaoekfkaa", sum := "c9e3308cae5d64ab090f2dce3154e879a5b45d6b13b7bef63cfb260ebfd6ebe9", checked := Try.checked }
namespace Rows
def none {H : Type} : Left H := { results := [], args := [] }

/-- 'burrowlaw22.SessionSeals': WHATEVER THE INPUT: true; the input reads as it did. -/
def sessionSealsSpec : ChangeSpec := { name := "sessionSeals", fn := fun _ => fun
  | [d1, d2, d3, d4, d5] => { results := [.lit (.bool true)], args := [d1, d2, d3, d4, d5] }
  | _ => none }
def sessionSealsRow : OpenClaim := { program := "ytimjfjlaoekfkaa", sum := "c9e3308cae5d64ab090f2dce3154e879a5b45d6b13b7bef63cfb260ebfd6ebe9", func := "burrow/burrowlaw22.SessionSeals", spec := "sessionSeals", inPlace := ["math/bits.Add64", "math/bits.Sub64"], apart := false }
def SessionSealsSaid : Prop := sessionSealsRow.holds Try.pinned (OpenSpec.ofChange sessionSealsSpec)

/-- ITS FALSE NEIGHBOUR: 'it returns false'. Refute it at one input. -/
def sessionSealsWrong : ChangeSpec := { name := "sessionSeals", fn := fun _ => fun
  | [d1, d2, d3, d4, d5] => { results := [.lit (.bool false)], args := [d1, d2, d3, d4, d5] }
  | _ => none }
def SessionSealsWrongFalsely : Prop := sessionSealsRow.holds Try.pinned (OpenSpec.ofChange sessionSealsWrong)

/-- 'burrowlaw22.SessionStops': WHATEVER THE INPUT: true; the input reads as it did. -/
def sessionStopsSpec : ChangeSpec := { name := "sessionStops", fn := fun _ => fun
  | [d1, d2, d3, d4, d5, d6] => { results := [.lit (.bool true)], args := [d1, d2, d3, d4, d5, d6] }
  | _ => none }
def sessionStopsRow : OpenClaim := { program := "ytimjfjlaoekfkaa", sum := "c9e3308cae5d64ab090f2dce3154e879a5b45d6b13b7bef63cfb260ebfd6ebe9", func := "burrow/burrowlaw22.SessionStops", spec := "sessionStops", inPlace := ["math/bits.Add64", "math/bits.Sub64"], apart := false }
def SessionStopsSaid : Prop := sessionStopsRow.holds Try.pinned (OpenSpec.ofChange sessionStopsSpec)

/-- ITS FALSE NEIGHBOUR: 'it returns false'. Refute it at one input. -/
def sessionStopsWrong : ChangeSpec := { name := "sessionStops", fn := fun _ => fun
  | [d1, d2, d3, d4, d5, d6] => { results := [.lit (.bool false)], args := [d1, d2, d3, d4, d5, d6] }
  | _ => none }
def SessionStopsWrongFalsely : Prop := sessionStopsRow.holds Try.pinned (OpenSpec.ofChange sessionStopsWrong)

/-- 'burrowlaw22.SessionOpens': WHATEVER THE INPUT: true; the input reads as it did. -/
def sessionOpensSpec : ChangeSpec := { name := "sessionOpens", fn := fun _ => fun
  | [d1, d2, d3, d4, d5, d6, d7, d8] => { results := [.lit (.bool true)], args := [d1, d2, d3, d4, d5, d6, d7, d8] }
  | _ => none }
def sessionOpensRow : OpenClaim := { program := "ytimjfjlaoekfkaa", sum := "c9e3308cae5d64ab090f2dce3154e879a5b45d6b13b7bef63cfb260ebfd6ebe9", func := "burrow/burrowlaw22.SessionOpens", spec := "sessionOpens", inPlace := ["math/bits.Add64", "math/bits.Sub64"], apart := false }
def SessionOpensSaid : Prop := sessionOpensRow.holds Try.pinned (OpenSpec.ofChange sessionOpensSpec)

/-- ITS FALSE NEIGHBOUR: 'it returns false'. Refute it at one input. -/
def sessionOpensWrong : ChangeSpec := { name := "sessionOpens", fn := fun _ => fun
  | [d1, d2, d3, d4, d5, d6, d7, d8] => { results := [.lit (.bool false)], args := [d1, d2, d3, d4, d5, d6, d7, d8] }
  | _ => none }
def SessionOpensWrongFalsely : Prop := sessionOpensRow.holds Try.pinned (OpenSpec.ofChange sessionOpensWrong)

/-- 'burrowlaw22.SessionExchanges': WHATEVER THE INPUT: true; the input reads as it did. -/
def sessionExchangesSpec : ChangeSpec := { name := "sessionExchanges", fn := fun _ => fun
  | [d1, d2, d3, d4] => { results := [.lit (.bool true)], args := [d1, d2, d3, d4] }
  | _ => none }
def sessionExchangesRow : OpenClaim := { program := "ytimjfjlaoekfkaa", sum := "c9e3308cae5d64ab090f2dce3154e879a5b45d6b13b7bef63cfb260ebfd6ebe9", func := "burrow/burrowlaw22.SessionExchanges", spec := "sessionExchanges", inPlace := ["math/bits.Add64", "math/bits.Sub64"], apart := false }
def SessionExchangesSaid : Prop := sessionExchangesRow.holds Try.pinned (OpenSpec.ofChange sessionExchangesSpec)

/-- ITS FALSE NEIGHBOUR: 'it returns false'. Refute it at one input. -/
def sessionExchangesWrong : ChangeSpec := { name := "sessionExchanges", fn := fun _ => fun
  | [d1, d2, d3, d4] => { results := [.lit (.bool false)], args := [d1, d2, d3, d4] }
  | _ => none }
def SessionExchangesWrongFalsely : Prop := sessionExchangesRow.holds Try.pinned (OpenSpec.ofChange sessionExchangesWrong)

/- THE SECOND FORM. 'bulk': how many values and letters a reading holds, each counted each time it is reached (what is shared counts as often as it is met; a slice's spare places count too). A statement '..UptoSaid' is the law's where the arguments, and the package variables that the reading takes, are together of bulk at most 1048576: NARROWER than '..Said'. Prove '..Said' where nothing that the law and all that it calls make is longer than what came in: it says more and counts as full. Else prove '..UptoSaid'. A law counts once. -/
mutual
def uptoBulk {H : Type} : DataW H → Nat
  | .lit (.string bytes) => bytes.length + 1
  | .lit _ => 1
  | .nil => 1
  | .ptr d => uptoBulk d + 1
  | .slice elems spare => uptoBulkAll elems + uptoBulkAll spare + 1
  | .agg parts => uptoBulkAll parts + 1
  | .iface _ d => uptoBulk d + 1
  | .map entries => uptoBulkEntries entries + 1
  | .held _ => 1
def uptoBulkAll {H : Type} : List (DataW H) → Nat
  | [] => 0
  | d :: r => uptoBulk d + uptoBulkAll r
def uptoBulkEntries {H : Type} : List (Lit × DataW H) → Nat
  | [] => 0
  | x :: r => uptoBulkEntry x + uptoBulkEntries r
def uptoBulkEntry {H : Type} : Lit × DataW H → Nat
  | (.string bytes, d) => bytes.length + uptoBulk d + 1
  | (_, d) => uptoBulk d + 1
 end
def uptoSmall : (H : Type) → List (DataW H) → Bool := fun _ ds => decide (uptoBulkAll ds ≤ 1048576)
def OpenSpec.upto (s : _root_.Go.ChangeSpec) : _root_.Go.OpenSpec := { _root_.Go.OpenSpec.ofChange s with cond := some uptoSmall }

/-- 'burrowlaw22.SessionSeals', WHERE WHAT IT READS IS OF BULK AT MOST 1048576: true; the input reads as it did. -/
def sessionSealsUptoRow : OpenClaim := { program := "ytimjfjlaoekfkaa", sum := "c9e3308cae5d64ab090f2dce3154e879a5b45d6b13b7bef63cfb260ebfd6ebe9", func := "burrow/burrowlaw22.SessionSeals", spec := "sessionSeals", inPlace := ["math/bits.Add64", "math/bits.Sub64"], apart := false, narrowed := true }
def SessionSealsUptoSaid : Prop := sessionSealsUptoRow.holds Try.pinned (OpenSpec.upto sessionSealsSpec)

/-- 'burrowlaw22.SessionStops', WHERE WHAT IT READS IS OF BULK AT MOST 1048576: true; the input reads as it did. -/
def sessionStopsUptoRow : OpenClaim := { program := "ytimjfjlaoekfkaa", sum := "c9e3308cae5d64ab090f2dce3154e879a5b45d6b13b7bef63cfb260ebfd6ebe9", func := "burrow/burrowlaw22.SessionStops", spec := "sessionStops", inPlace := ["math/bits.Add64", "math/bits.Sub64"], apart := false, narrowed := true }
def SessionStopsUptoSaid : Prop := sessionStopsUptoRow.holds Try.pinned (OpenSpec.upto sessionStopsSpec)

/-- 'burrowlaw22.SessionOpens', WHERE WHAT IT READS IS OF BULK AT MOST 1048576: true; the input reads as it did. -/
def sessionOpensUptoRow : OpenClaim := { program := "ytimjfjlaoekfkaa", sum := "c9e3308cae5d64ab090f2dce3154e879a5b45d6b13b7bef63cfb260ebfd6ebe9", func := "burrow/burrowlaw22.SessionOpens", spec := "sessionOpens", inPlace := ["math/bits.Add64", "math/bits.Sub64"], apart := false, narrowed := true }
def SessionOpensUptoSaid : Prop := sessionOpensUptoRow.holds Try.pinned (OpenSpec.upto sessionOpensSpec)

/-- 'burrowlaw22.SessionExchanges', WHERE WHAT IT READS IS OF BULK AT MOST 1048576: true; the input reads as it did. -/
def sessionExchangesUptoRow : OpenClaim := { program := "ytimjfjlaoekfkaa", sum := "c9e3308cae5d64ab090f2dce3154e879a5b45d6b13b7bef63cfb260ebfd6ebe9", func := "burrow/burrowlaw22.SessionExchanges", spec := "sessionExchanges", inPlace := ["math/bits.Add64", "math/bits.Sub64"], apart := false, narrowed := true }
def SessionExchangesUptoSaid : Prop := sessionExchangesUptoRow.holds Try.pinned (OpenSpec.upto sessionExchangesSpec)

end Rows
end Go.Proofs.Ytimjfjlaoekfkaa
