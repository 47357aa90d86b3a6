/-
  No cell of these rows narrows 'for every input' (looked for: loops, veiled, ifaces, maps, wideKeys, modest, calm, conditions, laid).
  DERIVED. THE GIVEN ROWS OF THIS SEAT. 3 by the template 'for every input the law returns true; each argument reads behind the call as it read before'; 0 by the template 'total and deterministic' (their statements: YtbgnjipdecekoaaTotals.lean).
  GIVEN WITH THE SEED: the statements are not yours to turn. If you find one false, say at which input.
  Laid BY PROGRAM, IN A SANDBOX (cutbox-rows.mjs): the forced cells as the released guide's own fill.sh prints them over the translation 1515d7cb2e4bea72… (all of the seat's roots in one cut). By AI agents, Wed Nov 11 2026. No macro, syntax, notation, axiom, sorry.
-/
import Derived.Test.YtbgnjipdecekoaaChecked
import GoSem.Claim
import GoSem.ClaimJoined
import GoSem.ClaimMapViews
import Derived.JoinedTies
import Derived.KernelRfl
namespace Go.Proofs.Ytbgnjipdecekoaa
/- THE CELL 'sum', in the pinned program and in every row, IS THE sha256 OF THE DUMP (.gsa) THAT YtbgnjipdecekoaaProg.lean LOADS. Nothing in Lean hashes anything: it is a label: what it is worth is what the hold of that sum in a sandbox is worth. -/
noncomputable def Try.pinned : Pinned := { name := "ytbgnjipdecekoaa", sum := "1515d7cb2e4bea7276737f090857c0410b23e8ceee728204e95723ccca21a4e3", checked := Try.checked }
namespace Rows
def none {H : Type} : Left H := { results := [], args := [] }

/-- 'burrowlaw20.NoiseSteps': WHATEVER THE INPUT: true; the input reads as it did. -/
def noiseStepsSpec : ChangeSpec := { name := "noiseSteps", fn := fun _ => fun
  | [d1, d2, d3, d4, d5] => { results := [.lit (.bool true)], args := [d1, d2, d3, d4, d5] }
  | _ => none }
def noiseStepsRow : OpenClaim := { program := "ytbgnjipdecekoaa", sum := "1515d7cb2e4bea7276737f090857c0410b23e8ceee728204e95723ccca21a4e3", func := "burrow/burrowlaw20.NoiseSteps", spec := "noiseSteps", apart := false }
def NoiseStepsSaid : Prop := noiseStepsRow.holds Try.pinned (OpenSpec.ofChange noiseStepsSpec)

/-- ITS FALSE NEIGHBOUR: 'it returns false'. Refute it at one input. -/
def noiseStepsWrong : ChangeSpec := { name := "noiseSteps", fn := fun _ => fun
  | [d1, d2, d3, d4, d5] => { results := [.lit (.bool false)], args := [d1, d2, d3, d4, d5] }
  | _ => none }
def NoiseStepsWrongFalsely : Prop := noiseStepsRow.holds Try.pinned (OpenSpec.ofChange noiseStepsWrong)

/-- 'burrowlaw20.NoiseSeals': WHATEVER THE INPUT: true; the input reads as it did. -/
def noiseSealsSpec : ChangeSpec := { name := "noiseSeals", fn := fun _ => fun
  | [d1, d2, d3, d4, d5, d6] => { results := [.lit (.bool true)], args := [d1, d2, d3, d4, d5, d6] }
  | _ => none }
def noiseSealsRow : OpenClaim := { program := "ytbgnjipdecekoaa", sum := "1515d7cb2e4bea7276737f090857c0410b23e8ceee728204e95723ccca21a4e3", func := "burrow/burrowlaw20.NoiseSeals", spec := "noiseSeals", inPlace := ["math/bits.Add64", "math/bits.Sub64"], apart := false }
def NoiseSealsSaid : Prop := noiseSealsRow.holds Try.pinned (OpenSpec.ofChange noiseSealsSpec)

/-- ITS FALSE NEIGHBOUR: 'it returns false'. Refute it at one input. -/
def noiseSealsWrong : ChangeSpec := { name := "noiseSeals", fn := fun _ => fun
  | [d1, d2, d3, d4, d5, d6] => { results := [.lit (.bool false)], args := [d1, d2, d3, d4, d5, d6] }
  | _ => none }
def NoiseSealsWrongFalsely : Prop := noiseSealsRow.holds Try.pinned (OpenSpec.ofChange noiseSealsWrong)

/-- 'burrowlaw20.NoiseAgrees': WHATEVER THE INPUT: true; the input reads as it did. -/
def noiseAgreesSpec : ChangeSpec := { name := "noiseAgrees", fn := fun _ => fun
  | [d1, d2] => { results := [.lit (.bool true)], args := [d1, d2] }
  | _ => none }
def noiseAgreesRow : OpenClaim := { program := "ytbgnjipdecekoaa", sum := "1515d7cb2e4bea7276737f090857c0410b23e8ceee728204e95723ccca21a4e3", func := "burrow/burrowlaw20.NoiseAgrees", spec := "noiseAgrees", inPlace := ["math/bits.Add64", "math/bits.Sub64"], apart := false }
def NoiseAgreesSaid : Prop := noiseAgreesRow.holds Try.pinned (OpenSpec.ofChange noiseAgreesSpec)

/-- ITS FALSE NEIGHBOUR: 'it returns false'. Refute it at one input. -/
def noiseAgreesWrong : ChangeSpec := { name := "noiseAgrees", fn := fun _ => fun
  | [d1, d2] => { results := [.lit (.bool false)], args := [d1, d2] }
  | _ => none }
def NoiseAgreesWrongFalsely : Prop := noiseAgreesRow.holds Try.pinned (OpenSpec.ofChange noiseAgreesWrong)

/- THE SECOND FORM. 'bulk': how many values and letters a reading holds, each counted each time it is reached (what is shared counts as often as it is met; a slice's spare places count too). A statement '..UptoSaid' is the law's where the arguments, and the package variables that the reading takes, are together of bulk at most 1048576: NARROWER than '..Said'. Prove '..Said' where nothing that the law and all that it calls make is longer than what came in: it says more and counts as full. Else prove '..UptoSaid'. A law counts once. -/
mutual
def uptoBulk {H : Type} : DataW H → Nat
  | .lit (.string bytes) => bytes.length + 1
  | .lit _ => 1
  | .nil => 1
  | .ptr d => uptoBulk d + 1
  | .slice elems spare => uptoBulkAll elems + uptoBulkAll spare + 1
  | .agg parts => uptoBulkAll parts + 1
  | .iface _ d => uptoBulk d + 1
  | .map entries => uptoBulkEntries entries + 1
  | .held _ => 1
def uptoBulkAll {H : Type} : List (DataW H) → Nat
  | [] => 0
  | d :: r => uptoBulk d + uptoBulkAll r
def uptoBulkEntries {H : Type} : List (Lit × DataW H) → Nat
  | [] => 0
  | x :: r => uptoBulkEntry x + uptoBulkEntries r
def uptoBulkEntry {H : Type} : Lit × DataW H → Nat
  | (.string bytes, d) => bytes.length + uptoBulk d + 1
  | (_, d) => uptoBulk d + 1
 end
def uptoSmall : (H : Type) → List (DataW H) → Bool := fun _ ds => decide (uptoBulkAll ds ≤ 1048576)
def OpenSpec.upto (s : _root_.Go.ChangeSpec) : _root_.Go.OpenSpec := { _root_.Go.OpenSpec.ofChange s with cond := some uptoSmall }

/-- 'burrowlaw20.NoiseSteps', WHERE WHAT IT READS IS OF BULK AT MOST 1048576: true; the input reads as it did. -/
def noiseStepsUptoRow : OpenClaim := { program := "ytbgnjipdecekoaa", sum := "1515d7cb2e4bea7276737f090857c0410b23e8ceee728204e95723ccca21a4e3", func := "burrow/burrowlaw20.NoiseSteps", spec := "noiseSteps", apart := false, narrowed := true }
def NoiseStepsUptoSaid : Prop := noiseStepsUptoRow.holds Try.pinned (OpenSpec.upto noiseStepsSpec)

/-- 'burrowlaw20.NoiseSeals', WHERE WHAT IT READS IS OF BULK AT MOST 1048576: true; the input reads as it did. -/
def noiseSealsUptoRow : OpenClaim := { program := "ytbgnjipdecekoaa", sum := "1515d7cb2e4bea7276737f090857c0410b23e8ceee728204e95723ccca21a4e3", func := "burrow/burrowlaw20.NoiseSeals", spec := "noiseSeals", inPlace := ["math/bits.Add64", "math/bits.Sub64"], apart := false, narrowed := true }
def NoiseSealsUptoSaid : Prop := noiseSealsUptoRow.holds Try.pinned (OpenSpec.upto noiseSealsSpec)

/-- 'burrowlaw20.NoiseAgrees', WHERE WHAT IT READS IS OF BULK AT MOST 1048576: true; the input reads as it did. -/
def noiseAgreesUptoRow : OpenClaim := { program := "ytbgnjipdecekoaa", sum := "1515d7cb2e4bea7276737f090857c0410b23e8ceee728204e95723ccca21a4e3", func := "burrow/burrowlaw20.NoiseAgrees", spec := "noiseAgrees", inPlace := ["math/bits.Add64", "math/bits.Sub64"], apart := false, narrowed := true }
def NoiseAgreesUptoSaid : Prop := noiseAgreesUptoRow.holds Try.pinned (OpenSpec.upto noiseAgreesSpec)

end Rows
end Go.Proofs.Ytbgnjipdecekoaa
