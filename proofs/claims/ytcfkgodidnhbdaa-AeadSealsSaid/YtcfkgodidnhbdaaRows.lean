/-
  No cell of these rows narrows 'for every input' (looked for: loops, veiled, ifaces, maps, wideKeys, modest, calm, conditions, laid).
  DERIVED. THE GIVEN ROWS OF THIS SEAT. 3 by the template 'for every input the law returns true; each argument reads behind the call as it read before'; 0 by the template 'total and deterministic' (their statements: YtcfkgodidnhbdaaTotals.lean).
  GIVEN WITH THE SEED: the statements are not yours to turn. If you find one false, say at which input.
  Laid BY PROGRAM, IN A SANDBOX (cutbox-rows.mjs): the forced cells as the released guide's own fill.sh prints them over the translation 176b4543702ced7c… (all of the seat's roots in one cut). By AI agents, Wed Nov 11 2026. No macro, syntax, notation, axiom, sorry.
-/
import Derived.Test.YtcfkgodidnhbdaaChecked
import GoSem.Claim
import GoSem.ClaimJoined
import GoSem.ClaimMapViews
import Derived.JoinedTies
import Derived.KernelRfl
namespace Go.Proofs.Ytcfkgodidnhbdaa
/- THE CELL 'sum', in the pinned program and in every row, IS THE sha256 OF THE DUMP (.gsa) THAT YtcfkgodidnhbdaaProg.lean LOADS. Nothing in Lean hashes anything: it is a label: what it is worth is what the hold of that sum in a sandbox is worth. -/
noncomputable def Try.pinned : Pinned := { name := "ytcfkgodidnhbdaa", sum := "176b4543702ced7c1afc75737f9d784a40e59a83187f8f5f3c93ab7294942c24", checked := Try.checked }
namespace Rows
def none {H : Type} : Left H := { results := [], args := [] }

/-- 'burrowlaw04.AeadCounters': WHATEVER THE INPUT: true; the input reads as it did. -/
def aeadCountersSpec : ChangeSpec := { name := "aeadCounters", fn := fun _ => fun
  | [d1, d2] => { results := [.lit (.bool true)], args := [d1, d2] }
  | _ => none }
def aeadCountersRow : OpenClaim := { program := "ytcfkgodidnhbdaa", sum := "176b4543702ced7c1afc75737f9d784a40e59a83187f8f5f3c93ab7294942c24", func := "burrow/burrowlaw04.AeadCounters", spec := "aeadCounters", inPlace := ["math/bits.Add64", "math/bits.Sub64"], apart := false }
def AeadCountersSaid : Prop := aeadCountersRow.holds Try.pinned (OpenSpec.ofChange aeadCountersSpec)

/-- ITS FALSE NEIGHBOUR: 'it returns false'. Refute it at one input. -/
def aeadCountersWrong : ChangeSpec := { name := "aeadCounters", fn := fun _ => fun
  | [d1, d2] => { results := [.lit (.bool false)], args := [d1, d2] }
  | _ => none }
def AeadCountersWrongFalsely : Prop := aeadCountersRow.holds Try.pinned (OpenSpec.ofChange aeadCountersWrong)

/-- 'burrowlaw04.AeadSeals': WHATEVER THE INPUT: true; the input reads as it did. -/
def aeadSealsSpec : ChangeSpec := { name := "aeadSeals", fn := fun _ => fun
  | [d1, d2, d3, d4, d5, d6, d7] => { results := [.lit (.bool true)], args := [d1, d2, d3, d4, d5, d6, d7] }
  | _ => none }
def aeadSealsRow : OpenClaim := { program := "ytcfkgodidnhbdaa", sum := "176b4543702ced7c1afc75737f9d784a40e59a83187f8f5f3c93ab7294942c24", func := "burrow/burrowlaw04.AeadSeals", spec := "aeadSeals", inPlace := ["math/bits.Add64", "math/bits.Sub64"], apart := false }
def AeadSealsSaid : Prop := aeadSealsRow.holds Try.pinned (OpenSpec.ofChange aeadSealsSpec)

/-- ITS FALSE NEIGHBOUR: 'it returns false'. Refute it at one input. -/
def aeadSealsWrong : ChangeSpec := { name := "aeadSeals", fn := fun _ => fun
  | [d1, d2, d3, d4, d5, d6, d7] => { results := [.lit (.bool false)], args := [d1, d2, d3, d4, d5, d6, d7] }
  | _ => none }
def AeadSealsWrongFalsely : Prop := aeadSealsRow.holds Try.pinned (OpenSpec.ofChange aeadSealsWrong)

/-- 'burrowlaw04.AeadReturns': WHATEVER THE INPUT: true; the input reads as it did. -/
def aeadReturnsSpec : ChangeSpec := { name := "aeadReturns", fn := fun _ => fun
  | [d1, d2, d3, d4, d5, d6] => { results := [.lit (.bool true)], args := [d1, d2, d3, d4, d5, d6] }
  | _ => none }
def aeadReturnsRow : OpenClaim := { program := "ytcfkgodidnhbdaa", sum := "176b4543702ced7c1afc75737f9d784a40e59a83187f8f5f3c93ab7294942c24", func := "burrow/burrowlaw04.AeadReturns", spec := "aeadReturns", inPlace := ["math/bits.Add64", "math/bits.Sub64"], apart := false }
def AeadReturnsSaid : Prop := aeadReturnsRow.holds Try.pinned (OpenSpec.ofChange aeadReturnsSpec)

/-- ITS FALSE NEIGHBOUR: 'it returns false'. Refute it at one input. -/
def aeadReturnsWrong : ChangeSpec := { name := "aeadReturns", fn := fun _ => fun
  | [d1, d2, d3, d4, d5, d6] => { results := [.lit (.bool false)], args := [d1, d2, d3, d4, d5, d6] }
  | _ => none }
def AeadReturnsWrongFalsely : Prop := aeadReturnsRow.holds Try.pinned (OpenSpec.ofChange aeadReturnsWrong)

/- THE SECOND FORM. 'bulk': how many values and letters a reading holds, each counted each time it is reached (what is shared counts as often as it is met; a slice's spare places count too). A statement '..UptoSaid' is the law's where the arguments, and the package variables that the reading takes, are together of bulk at most 1048576: NARROWER than '..Said'. Prove '..Said' where nothing that the law and all that it calls make is longer than what came in: it says more and counts as full. Else prove '..UptoSaid'. A law counts once. -/
mutual
def uptoBulk {H : Type} : DataW H → Nat
  | .lit (.string bytes) => bytes.length + 1
  | .lit _ => 1
  | .nil => 1
  | .ptr d => uptoBulk d + 1
  | .slice elems spare => uptoBulkAll elems + uptoBulkAll spare + 1
  | .agg parts => uptoBulkAll parts + 1
  | .iface _ d => uptoBulk d + 1
  | .map entries => uptoBulkEntries entries + 1
  | .held _ => 1
def uptoBulkAll {H : Type} : List (DataW H) → Nat
  | [] => 0
  | d :: r => uptoBulk d + uptoBulkAll r
def uptoBulkEntries {H : Type} : List (Lit × DataW H) → Nat
  | [] => 0
  | x :: r => uptoBulkEntry x + uptoBulkEntries r
def uptoBulkEntry {H : Type} : Lit × DataW H → Nat
  | (.string bytes, d) => bytes.length + uptoBulk d + 1
  | (_, d) => uptoBulk d + 1
 end
def uptoSmall : (H : Type) → List (DataW H) → Bool := fun _ ds => decide (uptoBulkAll ds ≤ 1048576)
def OpenSpec.upto (s : _root_.Go.ChangeSpec) : _root_.Go.OpenSpec := { _root_.Go.OpenSpec.ofChange s with cond := some uptoSmall }

/-- 'burrowlaw04.AeadCounters', WHERE WHAT IT READS IS OF BULK AT MOST 1048576: true; the input reads as it did. -/
def aeadCountersUptoRow : OpenClaim := { program := "ytcfkgodidnhbdaa", sum := "176b4543702ced7c1afc75737f9d784a40e59a83187f8f5f3c93ab7294942c24", func := "burrow/burrowlaw04.AeadCounters", spec := "aeadCounters", inPlace := ["math/bits.Add64", "math/bits.Sub64"], apart := false, narrowed := true }
def AeadCountersUptoSaid : Prop := aeadCountersUptoRow.holds Try.pinned (OpenSpec.upto aeadCountersSpec)

/-- 'burrowlaw04.AeadSeals', WHERE WHAT IT READS IS OF BULK AT MOST 1048576: true; the input reads as it did. -/
def aeadSealsUptoRow : OpenClaim := { program := "ytcfkgodidnhbdaa", sum := "176b4543702ced7c1afc75737f9d784a40e59a83187f8f5f3c93ab7294942c24", func := "burrow/burrowlaw04.AeadSeals", spec := "aeadSeals", inPlace := ["math/bits.Add64", "math/bits.Sub64"], apart := false, narrowed := true }
def AeadSealsUptoSaid : Prop := aeadSealsUptoRow.holds Try.pinned (OpenSpec.upto aeadSealsSpec)

/-- 'burrowlaw04.AeadReturns', WHERE WHAT IT READS IS OF BULK AT MOST 1048576: true; the input reads as it did. -/
def aeadReturnsUptoRow : OpenClaim := { program := "ytcfkgodidnhbdaa", sum := "176b4543702ced7c1afc75737f9d784a40e59a83187f8f5f3c93ab7294942c24", func := "burrow/burrowlaw04.AeadReturns", spec := "aeadReturns", inPlace := ["math/bits.Add64", "math/bits.Sub64"], apart := false, narrowed := true }
def AeadReturnsUptoSaid : Prop := aeadReturnsUptoRow.holds Try.pinned (OpenSpec.upto aeadReturnsSpec)

end Rows
end Go.Proofs.Ytcfkgodidnhbdaa
