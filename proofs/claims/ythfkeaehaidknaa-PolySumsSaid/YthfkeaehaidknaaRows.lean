/-
  No cell of these rows narrows 'for every input' (looked for: loops, veiled, ifaces, maps, wideKeys, modest, calm, conditions, laid).
  DERIVED. THE GIVEN ROWS OF THIS SEAT. 4 by the template 'for every input the law returns true; each argument reads behind the call as it read before'; 0 by the template 'total and deterministic' (their statements: YthfkeaehaidknaaTotals.lean).
  GIVEN WITH THE SEED: the statements are not yours to turn. If you find one false, say at which input.
  Laid BY PROGRAM, IN A SANDBOX (cutbox-rows.mjs): the forced cells as the released guide's own fill.sh prints them over the translation 7b373429a79dbabb… (all of the seat's roots in one cut). By AI agents, Wed Nov 11 2026. No macro, syntax, notation, axiom, sorry.
-/
import Derived.Test.YthfkeaehaidknaaChecked
import GoSem.Claim
import GoSem.ClaimJoined
import GoSem.ClaimMapViews
import Derived.JoinedTies
import Derived.KernelRfl
namespace Go.Proofs.Ythfkeaehaidknaa
/- THE CELL 'sum', in the pinned program and in every row, IS THE sha256 OF THE DUMP (.gsa) THAT YthfkeaehaidknaaProg.lean LOADS. Nothing in Lean hashes anything: it is a label: what it is worth is what the hold of that sum in a sandbox is worth. -/
noncomputable def Try.pinned : Pinned := { name := "ythfkeaehaidknaa", sum := "7b373429a79dbabb4989b5bb5466844277542e4c0c73407e3a4825cf5fe9812a", checked := Try.checked }
namespace Rows
def none {H : Type} : Left H := { results := [], args := [] }

/-- 'burrowlaw03.PolySums': WHATEVER THE INPUT: true; the input reads as it did. -/
def polySumsSpec : ChangeSpec := { name := "polySums", fn := fun _ => fun
  | [d1, d2, d3] => { results := [.lit (.bool true)], args := [d1, d2, d3] }
  | _ => none }
def polySumsRow : OpenClaim := { program := "ythfkeaehaidknaa", sum := "7b373429a79dbabb4989b5bb5466844277542e4c0c73407e3a4825cf5fe9812a", func := "burrow/burrowlaw03.PolySums", spec := "polySums", inPlace := ["math/bits.Add64", "math/bits.Sub64"], apart := false }
def PolySumsSaid : Prop := polySumsRow.holds Try.pinned (OpenSpec.ofChange polySumsSpec)

/-- ITS FALSE NEIGHBOUR: 'it returns false'. Refute it at one input. -/
def polySumsWrong : ChangeSpec := { name := "polySums", fn := fun _ => fun
  | [d1, d2, d3] => { results := [.lit (.bool false)], args := [d1, d2, d3] }
  | _ => none }
def PolySumsWrongFalsely : Prop := polySumsRow.holds Try.pinned (OpenSpec.ofChange polySumsWrong)

/-- 'burrowlaw03.PolySecond': WHATEVER THE INPUT: true; the input reads as it did. -/
def polySecondSpec : ChangeSpec := { name := "polySecond", fn := fun _ => fun
  | [d1, d2] => { results := [.lit (.bool true)], args := [d1, d2] }
  | _ => none }
def polySecondRow : OpenClaim := { program := "ythfkeaehaidknaa", sum := "7b373429a79dbabb4989b5bb5466844277542e4c0c73407e3a4825cf5fe9812a", func := "burrow/burrowlaw03.PolySecond", spec := "polySecond", inPlace := ["math/bits.Add64", "math/bits.Sub64"], apart := false }
def PolySecondSaid : Prop := polySecondRow.holds Try.pinned (OpenSpec.ofChange polySecondSpec)

/-- ITS FALSE NEIGHBOUR: 'it returns false'. Refute it at one input. -/
def polySecondWrong : ChangeSpec := { name := "polySecond", fn := fun _ => fun
  | [d1, d2] => { results := [.lit (.bool false)], args := [d1, d2] }
  | _ => none }
def PolySecondWrongFalsely : Prop := polySecondRow.holds Try.pinned (OpenSpec.ofChange polySecondWrong)

/-- 'burrowlaw03.PolyClamps': WHATEVER THE INPUT: true; the input reads as it did. -/
def polyClampsSpec : ChangeSpec := { name := "polyClamps", fn := fun _ => fun
  | [d1, d2, d3] => { results := [.lit (.bool true)], args := [d1, d2, d3] }
  | _ => none }
def polyClampsRow : OpenClaim := { program := "ythfkeaehaidknaa", sum := "7b373429a79dbabb4989b5bb5466844277542e4c0c73407e3a4825cf5fe9812a", func := "burrow/burrowlaw03.PolyClamps", spec := "polyClamps", inPlace := ["math/bits.Add64", "math/bits.Sub64"], apart := false }
def PolyClampsSaid : Prop := polyClampsRow.holds Try.pinned (OpenSpec.ofChange polyClampsSpec)

/-- ITS FALSE NEIGHBOUR: 'it returns false'. Refute it at one input. -/
def polyClampsWrong : ChangeSpec := { name := "polyClamps", fn := fun _ => fun
  | [d1, d2, d3] => { results := [.lit (.bool false)], args := [d1, d2, d3] }
  | _ => none }
def PolyClampsWrongFalsely : Prop := polyClampsRow.holds Try.pinned (OpenSpec.ofChange polyClampsWrong)

/-- 'burrowlaw03.PolyAdds': WHATEVER THE INPUT: true; the input reads as it did. -/
def polyAddsSpec : ChangeSpec := { name := "polyAdds", fn := fun _ => fun
  | [d1, d2] => { results := [.lit (.bool true)], args := [d1, d2] }
  | _ => none }
def polyAddsRow : OpenClaim := { program := "ythfkeaehaidknaa", sum := "7b373429a79dbabb4989b5bb5466844277542e4c0c73407e3a4825cf5fe9812a", func := "burrow/burrowlaw03.PolyAdds", spec := "polyAdds", inPlace := ["math/bits.Add64", "math/bits.Sub64"], apart := false }
def PolyAddsSaid : Prop := polyAddsRow.holds Try.pinned (OpenSpec.ofChange polyAddsSpec)

/-- ITS FALSE NEIGHBOUR: 'it returns false'. Refute it at one input. -/
def polyAddsWrong : ChangeSpec := { name := "polyAdds", fn := fun _ => fun
  | [d1, d2] => { results := [.lit (.bool false)], args := [d1, d2] }
  | _ => none }
def PolyAddsWrongFalsely : Prop := polyAddsRow.holds Try.pinned (OpenSpec.ofChange polyAddsWrong)

/- THE SECOND FORM. 'bulk': how many values and letters a reading holds, each counted each time it is reached (what is shared counts as often as it is met; a slice's spare places count too). A statement '..UptoSaid' is the law's where the arguments, and the package variables that the reading takes, are together of bulk at most 1048576: NARROWER than '..Said'. Prove '..Said' where nothing that the law and all that it calls make is longer than what came in: it says more and counts as full. Else prove '..UptoSaid'. A law counts once. -/
mutual
def uptoBulk {H : Type} : DataW H → Nat
  | .lit (.string bytes) => bytes.length + 1
  | .lit _ => 1
  | .nil => 1
  | .ptr d => uptoBulk d + 1
  | .slice elems spare => uptoBulkAll elems + uptoBulkAll spare + 1
  | .agg parts => uptoBulkAll parts + 1
  | .iface _ d => uptoBulk d + 1
  | .map entries => uptoBulkEntries entries + 1
  | .held _ => 1
def uptoBulkAll {H : Type} : List (DataW H) → Nat
  | [] => 0
  | d :: r => uptoBulk d + uptoBulkAll r
def uptoBulkEntries {H : Type} : List (Lit × DataW H) → Nat
  | [] => 0
  | x :: r => uptoBulkEntry x + uptoBulkEntries r
def uptoBulkEntry {H : Type} : Lit × DataW H → Nat
  | (.string bytes, d) => bytes.length + uptoBulk d + 1
  | (_, d) => uptoBulk d + 1
 end
def uptoSmall : (H : Type) → List (DataW H) → Bool := fun _ ds => decide (uptoBulkAll ds ≤ 1048576)
def OpenSpec.upto (s : _root_.Go.ChangeSpec) : _root_.Go.OpenSpec := { _root_.Go.OpenSpec.ofChange s with cond := some uptoSmall }

/-- 'burrowlaw03.PolySums', WHERE WHAT IT READS IS OF BULK AT MOST 1048576: true; the input reads as it did. -/
def polySumsUptoRow : OpenClaim := { program := "ythfkeaehaidknaa", sum := "7b373429a79dbabb4989b5bb5466844277542e4c0c73407e3a4825cf5fe9812a", func := "burrow/burrowlaw03.PolySums", spec := "polySums", inPlace := ["math/bits.Add64", "math/bits.Sub64"], apart := false, narrowed := true }
def PolySumsUptoSaid : Prop := polySumsUptoRow.holds Try.pinned (OpenSpec.upto polySumsSpec)

/-- 'burrowlaw03.PolySecond', WHERE WHAT IT READS IS OF BULK AT MOST 1048576: true; the input reads as it did. -/
def polySecondUptoRow : OpenClaim := { program := "ythfkeaehaidknaa", sum := "7b373429a79dbabb4989b5bb5466844277542e4c0c73407e3a4825cf5fe9812a", func := "burrow/burrowlaw03.PolySecond", spec := "polySecond", inPlace := ["math/bits.Add64", "math/bits.Sub64"], apart := false, narrowed := true }
def PolySecondUptoSaid : Prop := polySecondUptoRow.holds Try.pinned (OpenSpec.upto polySecondSpec)

/-- 'burrowlaw03.PolyClamps', WHERE WHAT IT READS IS OF BULK AT MOST 1048576: true; the input reads as it did. -/
def polyClampsUptoRow : OpenClaim := { program := "ythfkeaehaidknaa", sum := "7b373429a79dbabb4989b5bb5466844277542e4c0c73407e3a4825cf5fe9812a", func := "burrow/burrowlaw03.PolyClamps", spec := "polyClamps", inPlace := ["math/bits.Add64", "math/bits.Sub64"], apart := false, narrowed := true }
def PolyClampsUptoSaid : Prop := polyClampsUptoRow.holds Try.pinned (OpenSpec.upto polyClampsSpec)

/-- 'burrowlaw03.PolyAdds', WHERE WHAT IT READS IS OF BULK AT MOST 1048576: true; the input reads as it did. -/
def polyAddsUptoRow : OpenClaim := { program := "ythfkeaehaidknaa", sum := "7b373429a79dbabb4989b5bb5466844277542e4c0c73407e3a4825cf5fe9812a", func := "burrow/burrowlaw03.PolyAdds", spec := "polyAdds", inPlace := ["math/bits.Add64", "math/bits.Sub64"], apart := false, narrowed := true }
def PolyAddsUptoSaid : Prop := polyAddsUptoRow.holds Try.pinned (OpenSpec.upto polyAddsSpec)

end Rows
end Go.Proofs.Ythfkeaehaidknaa
