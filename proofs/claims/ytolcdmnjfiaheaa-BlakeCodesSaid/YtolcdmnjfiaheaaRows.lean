/-
  No cell of these rows narrows 'for every input' (looked for: loops, veiled, ifaces, maps, wideKeys, modest, calm, conditions, laid).
  DERIVED. THE GIVEN ROWS OF THIS SEAT. 4 by the template 'for every input the law returns true; each argument reads behind the call as it read before'; 0 by the template 'total and deterministic' (their statements: YtolcdmnjfiaheaaTotals.lean).
  GIVEN WITH THE SEED: the statements are not yours to turn. If you find one false, say at which input.
  Laid BY PROGRAM, IN A SANDBOX (cutbox-rows.mjs): the forced cells as the released guide's own fill.sh prints them over the translation b2c0b4b918e630f0… (all of the seat's roots in one cut). By AI agents, Wed Nov 11 2026. No macro, syntax, notation, axiom, sorry.
-/
import Derived.Test.YtolcdmnjfiaheaaChecked
import GoSem.Claim
import GoSem.ClaimJoined
import GoSem.ClaimMapViews
import Derived.JoinedTies
import Derived.KernelRfl
namespace Go.Proofs.Ytolcdmnjfiaheaa
/- THE CELL 'sum', in the pinned program and in every row, IS THE sha256 OF THE DUMP (.gsa) THAT YtolcdmnjfiaheaaProg.lean LOADS. Nothing in Lean hashes anything: it is a label: what it is worth is what the hold of that sum in a sandbox is worth. -/
noncomputable def Try.pinned : Pinned := { name := "ytolcdmnjfiaheaa", sum := "b2c0b4b918e630f011782f3ebc82c356a1ed4b76d954de942d89cf55b7392fe3", checked := Try.checked }
namespace Rows
def none {H : Type} : Left H := { results := [], args := [] }

/-- 'burrowlaw06.BlakeSums': WHATEVER THE INPUT: true; the input reads as it did. -/
def blakeSumsSpec : ChangeSpec := { name := "blakeSums", fn := fun _ => fun
  | [d1, d2, d3, d4] => { results := [.lit (.bool true)], args := [d1, d2, d3, d4] }
  | _ => none }
def blakeSumsRow : OpenClaim := { program := "ytolcdmnjfiaheaa", sum := "b2c0b4b918e630f011782f3ebc82c356a1ed4b76d954de942d89cf55b7392fe3", func := "burrow/burrowlaw06.BlakeSums", spec := "blakeSums", apart := false }
def BlakeSumsSaid : Prop := blakeSumsRow.holds Try.pinned (OpenSpec.ofChange blakeSumsSpec)

/-- ITS FALSE NEIGHBOUR: 'it returns false'. Refute it at one input. -/
def blakeSumsWrong : ChangeSpec := { name := "blakeSums", fn := fun _ => fun
  | [d1, d2, d3, d4] => { results := [.lit (.bool false)], args := [d1, d2, d3, d4] }
  | _ => none }
def BlakeSumsWrongFalsely : Prop := blakeSumsRow.holds Try.pinned (OpenSpec.ofChange blakeSumsWrong)

/-- 'burrowlaw06.BlakeCodes': WHATEVER THE INPUT: true; the input reads as it did. -/
def blakeCodesSpec : ChangeSpec := { name := "blakeCodes", fn := fun _ => fun
  | [d1, d2, d3] => { results := [.lit (.bool true)], args := [d1, d2, d3] }
  | _ => none }
def blakeCodesRow : OpenClaim := { program := "ytolcdmnjfiaheaa", sum := "b2c0b4b918e630f011782f3ebc82c356a1ed4b76d954de942d89cf55b7392fe3", func := "burrow/burrowlaw06.BlakeCodes", spec := "blakeCodes", apart := false }
def BlakeCodesSaid : Prop := blakeCodesRow.holds Try.pinned (OpenSpec.ofChange blakeCodesSpec)

/-- ITS FALSE NEIGHBOUR: 'it returns false'. Refute it at one input. -/
def blakeCodesWrong : ChangeSpec := { name := "blakeCodes", fn := fun _ => fun
  | [d1, d2, d3] => { results := [.lit (.bool false)], args := [d1, d2, d3] }
  | _ => none }
def BlakeCodesWrongFalsely : Prop := blakeCodesRow.holds Try.pinned (OpenSpec.ofChange blakeCodesWrong)

/-- 'burrowlaw06.BlakeParts': WHATEVER THE INPUT: true; the input reads as it did. -/
def blakePartsSpec : ChangeSpec := { name := "blakeParts", fn := fun _ => fun
  | [d1, d2, d3, d4] => { results := [.lit (.bool true)], args := [d1, d2, d3, d4] }
  | _ => none }
def blakePartsRow : OpenClaim := { program := "ytolcdmnjfiaheaa", sum := "b2c0b4b918e630f011782f3ebc82c356a1ed4b76d954de942d89cf55b7392fe3", func := "burrow/burrowlaw06.BlakeParts", spec := "blakeParts", apart := false }
def BlakePartsSaid : Prop := blakePartsRow.holds Try.pinned (OpenSpec.ofChange blakePartsSpec)

/-- ITS FALSE NEIGHBOUR: 'it returns false'. Refute it at one input. -/
def blakePartsWrong : ChangeSpec := { name := "blakeParts", fn := fun _ => fun
  | [d1, d2, d3, d4] => { results := [.lit (.bool false)], args := [d1, d2, d3, d4] }
  | _ => none }
def BlakePartsWrongFalsely : Prop := blakePartsRow.holds Try.pinned (OpenSpec.ofChange blakePartsWrong)

/-- 'burrowlaw06.BlakeLengths': WHATEVER THE INPUT: true; the input reads as it did. -/
def blakeLengthsSpec : ChangeSpec := { name := "blakeLengths", fn := fun _ => fun
  | [d1, d2, d3] => { results := [.lit (.bool true)], args := [d1, d2, d3] }
  | _ => none }
def blakeLengthsRow : OpenClaim := { program := "ytolcdmnjfiaheaa", sum := "b2c0b4b918e630f011782f3ebc82c356a1ed4b76d954de942d89cf55b7392fe3", func := "burrow/burrowlaw06.BlakeLengths", spec := "blakeLengths", apart := false }
def BlakeLengthsSaid : Prop := blakeLengthsRow.holds Try.pinned (OpenSpec.ofChange blakeLengthsSpec)

/-- ITS FALSE NEIGHBOUR: 'it returns false'. Refute it at one input. -/
def blakeLengthsWrong : ChangeSpec := { name := "blakeLengths", fn := fun _ => fun
  | [d1, d2, d3] => { results := [.lit (.bool false)], args := [d1, d2, d3] }
  | _ => none }
def BlakeLengthsWrongFalsely : Prop := blakeLengthsRow.holds Try.pinned (OpenSpec.ofChange blakeLengthsWrong)

/- THE SECOND FORM. 'bulk': how many values and letters a reading holds, each counted each time it is reached (what is shared counts as often as it is met; a slice's spare places count too). A statement '..UptoSaid' is the law's where the arguments, and the package variables that the reading takes, are together of bulk at most 1048576: NARROWER than '..Said'. Prove '..Said' where nothing that the law and all that it calls make is longer than what came in: it says more and counts as full. Else prove '..UptoSaid'. A law counts once. -/
mutual
def uptoBulk {H : Type} : DataW H → Nat
  | .lit (.string bytes) => bytes.length + 1
  | .lit _ => 1
  | .nil => 1
  | .ptr d => uptoBulk d + 1
  | .slice elems spare => uptoBulkAll elems + uptoBulkAll spare + 1
  | .agg parts => uptoBulkAll parts + 1
  | .iface _ d => uptoBulk d + 1
  | .map entries => uptoBulkEntries entries + 1
  | .held _ => 1
def uptoBulkAll {H : Type} : List (DataW H) → Nat
  | [] => 0
  | d :: r => uptoBulk d + uptoBulkAll r
def uptoBulkEntries {H : Type} : List (Lit × DataW H) → Nat
  | [] => 0
  | x :: r => uptoBulkEntry x + uptoBulkEntries r
def uptoBulkEntry {H : Type} : Lit × DataW H → Nat
  | (.string bytes, d) => bytes.length + uptoBulk d + 1
  | (_, d) => uptoBulk d + 1
 end
def uptoSmall : (H : Type) → List (DataW H) → Bool := fun _ ds => decide (uptoBulkAll ds ≤ 1048576)
def OpenSpec.upto (s : _root_.Go.ChangeSpec) : _root_.Go.OpenSpec := { _root_.Go.OpenSpec.ofChange s with cond := some uptoSmall }

/-- 'burrowlaw06.BlakeSums', WHERE WHAT IT READS IS OF BULK AT MOST 1048576: true; the input reads as it did. -/
def blakeSumsUptoRow : OpenClaim := { program := "ytolcdmnjfiaheaa", sum := "b2c0b4b918e630f011782f3ebc82c356a1ed4b76d954de942d89cf55b7392fe3", func := "burrow/burrowlaw06.BlakeSums", spec := "blakeSums", apart := false, narrowed := true }
def BlakeSumsUptoSaid : Prop := blakeSumsUptoRow.holds Try.pinned (OpenSpec.upto blakeSumsSpec)

/-- 'burrowlaw06.BlakeCodes', WHERE WHAT IT READS IS OF BULK AT MOST 1048576: true; the input reads as it did. -/
def blakeCodesUptoRow : OpenClaim := { program := "ytolcdmnjfiaheaa", sum := "b2c0b4b918e630f011782f3ebc82c356a1ed4b76d954de942d89cf55b7392fe3", func := "burrow/burrowlaw06.BlakeCodes", spec := "blakeCodes", apart := false, narrowed := true }
def BlakeCodesUptoSaid : Prop := blakeCodesUptoRow.holds Try.pinned (OpenSpec.upto blakeCodesSpec)

/-- 'burrowlaw06.BlakeParts', WHERE WHAT IT READS IS OF BULK AT MOST 1048576: true; the input reads as it did. -/
def blakePartsUptoRow : OpenClaim := { program := "ytolcdmnjfiaheaa", sum := "b2c0b4b918e630f011782f3ebc82c356a1ed4b76d954de942d89cf55b7392fe3", func := "burrow/burrowlaw06.BlakeParts", spec := "blakeParts", apart := false, narrowed := true }
def BlakePartsUptoSaid : Prop := blakePartsUptoRow.holds Try.pinned (OpenSpec.upto blakePartsSpec)

/-- 'burrowlaw06.BlakeLengths', WHERE WHAT IT READS IS OF BULK AT MOST 1048576: true; the input reads as it did. -/
def blakeLengthsUptoRow : OpenClaim := { program := "ytolcdmnjfiaheaa", sum := "b2c0b4b918e630f011782f3ebc82c356a1ed4b76d954de942d89cf55b7392fe3", func := "burrow/burrowlaw06.BlakeLengths", spec := "blakeLengths", apart := false, narrowed := true }
def BlakeLengthsUptoSaid : Prop := blakeLengthsUptoRow.holds Try.pinned (OpenSpec.upto blakeLengthsSpec)

end Rows
end Go.Proofs.Ytolcdmnjfiaheaa
