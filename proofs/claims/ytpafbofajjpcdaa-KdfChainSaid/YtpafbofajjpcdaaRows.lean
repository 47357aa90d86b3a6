/-
  No cell of these rows narrows 'for every input' (looked for: loops, veiled, ifaces, maps, wideKeys, modest, calm, conditions, laid).
  DERIVED. THE GIVEN ROWS OF THIS SEAT. 3 by the template 'for every input the law returns true; each argument reads behind the call as it read before'; 0 by the template 'total and deterministic' (their statements: YtpafbofajjpcdaaTotals.lean).
  GIVEN WITH THE SEED: the statements are not yours to turn. If you find one false, say at which input.
  Laid BY PROGRAM, IN A SANDBOX (cutbox-rows.mjs): the forced cells as the released guide's own fill.sh prints them over the translation de814505c717e7fa… (all of the seat's roots in one cut). By AI agents, Wed Nov 11 2026. No macro, syntax, notation, axiom, sorry.
-/
import Derived.Test.YtpafbofajjpcdaaChecked
import GoSem.Claim
import GoSem.ClaimJoined
import GoSem.ClaimMapViews
import Derived.JoinedTies
import Derived.KernelRfl
namespace Go.Proofs.Ytpafbofajjpcdaa
/- THE CELL 'sum', in the pinned program and in every row, IS THE sha256 OF THE DUMP (.gsa) THAT YtpafbofajjpcdaaProg.lean LOADS. Nothing in Lean hashes anything: it is a label: what it is worth is what the hold of that sum in a sandbox is worth. -/
noncomputable def Try.pinned : Pinned := { name := "ytpafbofajjpcdaa", sum := "de814505c717e7fa74f827f6ba120f2240a2e43522b5cb3a01168e6c0210240e", checked := Try.checked }
namespace Rows
def none {H : Type} : Left H := { results := [], args := [] }

/-- 'burrowlaw07.KdfDerives': WHATEVER THE INPUT: true; the input reads as it did. -/
def kdfDerivesSpec : ChangeSpec := { name := "kdfDerives", fn := fun _ => fun
  | [d1, d2, d3, d4] => { results := [.lit (.bool true)], args := [d1, d2, d3, d4] }
  | _ => none }
def kdfDerivesRow : OpenClaim := { program := "ytpafbofajjpcdaa", sum := "de814505c717e7fa74f827f6ba120f2240a2e43522b5cb3a01168e6c0210240e", func := "burrow/burrowlaw07.KdfDerives", spec := "kdfDerives", apart := false }
def KdfDerivesSaid : Prop := kdfDerivesRow.holds Try.pinned (OpenSpec.ofChange kdfDerivesSpec)

/-- ITS FALSE NEIGHBOUR: 'it returns false'. Refute it at one input. -/
def kdfDerivesWrong : ChangeSpec := { name := "kdfDerives", fn := fun _ => fun
  | [d1, d2, d3, d4] => { results := [.lit (.bool false)], args := [d1, d2, d3, d4] }
  | _ => none }
def KdfDerivesWrongFalsely : Prop := kdfDerivesRow.holds Try.pinned (OpenSpec.ofChange kdfDerivesWrong)

/-- 'burrowlaw07.KdfParts': WHATEVER THE INPUT: true; the input reads as it did. -/
def kdfPartsSpec : ChangeSpec := { name := "kdfParts", fn := fun _ => fun
  | [d1, d2, d3] => { results := [.lit (.bool true)], args := [d1, d2, d3] }
  | _ => none }
def kdfPartsRow : OpenClaim := { program := "ytpafbofajjpcdaa", sum := "de814505c717e7fa74f827f6ba120f2240a2e43522b5cb3a01168e6c0210240e", func := "burrow/burrowlaw07.KdfParts", spec := "kdfParts", apart := false }
def KdfPartsSaid : Prop := kdfPartsRow.holds Try.pinned (OpenSpec.ofChange kdfPartsSpec)

/-- ITS FALSE NEIGHBOUR: 'it returns false'. Refute it at one input. -/
def kdfPartsWrong : ChangeSpec := { name := "kdfParts", fn := fun _ => fun
  | [d1, d2, d3] => { results := [.lit (.bool false)], args := [d1, d2, d3] }
  | _ => none }
def KdfPartsWrongFalsely : Prop := kdfPartsRow.holds Try.pinned (OpenSpec.ofChange kdfPartsWrong)

/-- 'burrowlaw07.KdfChain': WHATEVER THE INPUT: true; the input reads as it did. -/
def kdfChainSpec : ChangeSpec := { name := "kdfChain", fn := fun _ => fun
  | [d1, d2, d3] => { results := [.lit (.bool true)], args := [d1, d2, d3] }
  | _ => none }
def kdfChainRow : OpenClaim := { program := "ytpafbofajjpcdaa", sum := "de814505c717e7fa74f827f6ba120f2240a2e43522b5cb3a01168e6c0210240e", func := "burrow/burrowlaw07.KdfChain", spec := "kdfChain", apart := false }
def KdfChainSaid : Prop := kdfChainRow.holds Try.pinned (OpenSpec.ofChange kdfChainSpec)

/-- ITS FALSE NEIGHBOUR: 'it returns false'. Refute it at one input. -/
def kdfChainWrong : ChangeSpec := { name := "kdfChain", fn := fun _ => fun
  | [d1, d2, d3] => { results := [.lit (.bool false)], args := [d1, d2, d3] }
  | _ => none }
def KdfChainWrongFalsely : Prop := kdfChainRow.holds Try.pinned (OpenSpec.ofChange kdfChainWrong)

/- THE SECOND FORM. 'bulk': how many values and letters a reading holds, each counted each time it is reached (what is shared counts as often as it is met; a slice's spare places count too). A statement '..UptoSaid' is the law's where the arguments, and the package variables that the reading takes, are together of bulk at most 1048576: NARROWER than '..Said'. Prove '..Said' where nothing that the law and all that it calls make is longer than what came in: it says more and counts as full. Else prove '..UptoSaid'. A law counts once. -/
mutual
def uptoBulk {H : Type} : DataW H → Nat
  | .lit (.string bytes) => bytes.length + 1
  | .lit _ => 1
  | .nil => 1
  | .ptr d => uptoBulk d + 1
  | .slice elems spare => uptoBulkAll elems + uptoBulkAll spare + 1
  | .agg parts => uptoBulkAll parts + 1
  | .iface _ d => uptoBulk d + 1
  | .map entries => uptoBulkEntries entries + 1
  | .held _ => 1
def uptoBulkAll {H : Type} : List (DataW H) → Nat
  | [] => 0
  | d :: r => uptoBulk d + uptoBulkAll r
def uptoBulkEntries {H : Type} : List (Lit × DataW H) → Nat
  | [] => 0
  | x :: r => uptoBulkEntry x + uptoBulkEntries r
def uptoBulkEntry {H : Type} : Lit × DataW H → Nat
  | (.string bytes, d) => bytes.length + uptoBulk d + 1
  | (_, d) => uptoBulk d + 1
 end
def uptoSmall : (H : Type) → List (DataW H) → Bool := fun _ ds => decide (uptoBulkAll ds ≤ 1048576)
def OpenSpec.upto (s : _root_.Go.ChangeSpec) : _root_.Go.OpenSpec := { _root_.Go.OpenSpec.ofChange s with cond := some uptoSmall }

/-- 'burrowlaw07.KdfDerives', WHERE WHAT IT READS IS OF BULK AT MOST 1048576: true; the input reads as it did. -/
def kdfDerivesUptoRow : OpenClaim := { program := "ytpafbofajjpcdaa", sum := "de814505c717e7fa74f827f6ba120f2240a2e43522b5cb3a01168e6c0210240e", func := "burrow/burrowlaw07.KdfDerives", spec := "kdfDerives", apart := false, narrowed := true }
def KdfDerivesUptoSaid : Prop := kdfDerivesUptoRow.holds Try.pinned (OpenSpec.upto kdfDerivesSpec)

/-- 'burrowlaw07.KdfParts', WHERE WHAT IT READS IS OF BULK AT MOST 1048576: true; the input reads as it did. -/
def kdfPartsUptoRow : OpenClaim := { program := "ytpafbofajjpcdaa", sum := "de814505c717e7fa74f827f6ba120f2240a2e43522b5cb3a01168e6c0210240e", func := "burrow/burrowlaw07.KdfParts", spec := "kdfParts", apart := false, narrowed := true }
def KdfPartsUptoSaid : Prop := kdfPartsUptoRow.holds Try.pinned (OpenSpec.upto kdfPartsSpec)

/-- 'burrowlaw07.KdfChain', WHERE WHAT IT READS IS OF BULK AT MOST 1048576: true; the input reads as it did. -/
def kdfChainUptoRow : OpenClaim := { program := "ytpafbofajjpcdaa", sum := "de814505c717e7fa74f827f6ba120f2240a2e43522b5cb3a01168e6c0210240e", func := "burrow/burrowlaw07.KdfChain", spec := "kdfChain", apart := false, narrowed := true }
def KdfChainUptoSaid : Prop := kdfChainUptoRow.holds Try.pinned (OpenSpec.upto kdfChainSpec)

end Rows
end Go.Proofs.Ytpafbofajjpcdaa
