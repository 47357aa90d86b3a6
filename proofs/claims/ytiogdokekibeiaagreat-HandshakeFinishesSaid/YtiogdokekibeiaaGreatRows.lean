/-
  No cell of these rows narrows 'for every input' (looked for: loops, veiled, ifaces, maps, wideKeys, modest, calm, conditions, laid).
  DERIVED. THE GIVEN ROWS OF THIS SEAT. 4 by the template 'for every input the law returns true; each argument reads behind the call as it read before'; 0 by the template 'total and deterministic' (their statements: YtiogdokekibeiaaGreatTotals.lean).
  GIVEN WITH THE SEED: the statements are not yours to turn. If you find one false, say at which input.
  Laid BY PROGRAM, IN A SANDBOX (cutbox-rows.mjs): the forced cells as the released guide's own fill.sh prints them over the translation 10fc90769e3bf51d… (all of the seat's roots in one cut). By AI agents, Wed Nov 11 2026. No macro, syntax, notation, axiom, sorry.
-/
import Derived.Test.YtiogdokekibeiaaGreatChecked
import GoSem.Claim
import GoSem.ClaimJoined
import GoSem.ClaimMapViews
import Derived.JoinedTies
import Derived.KernelRfl
namespace Go.Proofs.YtiogdokekibeiaaGreat
/- THE CELL 'sum', in the pinned program and in every row, IS THE sha256 OF THE DUMP (.gsa) THAT YtiogdokekibeiaaGreatProg.lean LOADS. Nothing in Lean hashes anything: it is a label: what it is worth is what the hold of that sum in a sandbox is worth. -/
noncomputable def Tryz.pinned : Pinned := { name := "ytiogdokekibeiaagreat", sum := "10fc90769e3bf51d9dd8cd208d0d9c87f36cf90e179ea9cf0525b255e802a05b", checked := Tryz.checked }
namespace Rows
def none {H : Type} : Left H := { results := [], args := [] }

/-- 'burrowlaw21.HandshakeInitiates': WHATEVER THE INPUT: true; the input reads as it did. -/
def handshakeInitiatesSpec : ChangeSpec := { name := "handshakeInitiates", fn := fun _ => fun
  | [d1, d2, d3, d4, d5, d6] => { results := [.lit (.bool true)], args := [d1, d2, d3, d4, d5, d6] }
  | _ => none }
def handshakeInitiatesRow : OpenClaim := { program := "ytiogdokekibeiaagreat", sum := "10fc90769e3bf51d9dd8cd208d0d9c87f36cf90e179ea9cf0525b255e802a05b", func := "burrow/burrowlaw21.HandshakeInitiates", spec := "handshakeInitiates", inPlace := ["math/bits.Add64", "math/bits.Sub64"], apart := false }
def HandshakeInitiatesSaid : Prop := handshakeInitiatesRow.holds Tryz.pinned (OpenSpec.ofChange handshakeInitiatesSpec)

/-- ITS FALSE NEIGHBOUR: 'it returns false'. Refute it at one input. -/
def handshakeInitiatesWrong : ChangeSpec := { name := "handshakeInitiates", fn := fun _ => fun
  | [d1, d2, d3, d4, d5, d6] => { results := [.lit (.bool false)], args := [d1, d2, d3, d4, d5, d6] }
  | _ => none }
def HandshakeInitiatesWrongFalsely : Prop := handshakeInitiatesRow.holds Tryz.pinned (OpenSpec.ofChange handshakeInitiatesWrong)

/-- 'burrowlaw21.HandshakeResponds': WHATEVER THE INPUT: true; the input reads as it did. -/
def handshakeRespondsSpec : ChangeSpec := { name := "handshakeResponds", fn := fun _ => fun
  | [d1, d2, d3, d4, d5, d6, d7] => { results := [.lit (.bool true)], args := [d1, d2, d3, d4, d5, d6, d7] }
  | _ => none }
def handshakeRespondsRow : OpenClaim := { program := "ytiogdokekibeiaagreat", sum := "10fc90769e3bf51d9dd8cd208d0d9c87f36cf90e179ea9cf0525b255e802a05b", func := "burrow/burrowlaw21.HandshakeResponds", spec := "handshakeResponds", inPlace := ["math/bits.Add64", "math/bits.Sub64"], apart := false }
def HandshakeRespondsSaid : Prop := handshakeRespondsRow.holds Tryz.pinned (OpenSpec.ofChange handshakeRespondsSpec)

/-- ITS FALSE NEIGHBOUR: 'it returns false'. Refute it at one input. -/
def handshakeRespondsWrong : ChangeSpec := { name := "handshakeResponds", fn := fun _ => fun
  | [d1, d2, d3, d4, d5, d6, d7] => { results := [.lit (.bool false)], args := [d1, d2, d3, d4, d5, d6, d7] }
  | _ => none }
def HandshakeRespondsWrongFalsely : Prop := handshakeRespondsRow.holds Tryz.pinned (OpenSpec.ofChange handshakeRespondsWrong)

/-- 'burrowlaw21.HandshakeConsumes': WHATEVER THE INPUT: true; the input reads as it did. -/
def handshakeConsumesSpec : ChangeSpec := { name := "handshakeConsumes", fn := fun _ => fun
  | [d1, d2, d3, d4, d5, d6] => { results := [.lit (.bool true)], args := [d1, d2, d3, d4, d5, d6] }
  | _ => none }
def handshakeConsumesRow : OpenClaim := { program := "ytiogdokekibeiaagreat", sum := "10fc90769e3bf51d9dd8cd208d0d9c87f36cf90e179ea9cf0525b255e802a05b", func := "burrow/burrowlaw21.HandshakeConsumes", spec := "handshakeConsumes", inPlace := ["math/bits.Add64", "math/bits.Sub64"], apart := false }
def HandshakeConsumesSaid : Prop := handshakeConsumesRow.holds Tryz.pinned (OpenSpec.ofChange handshakeConsumesSpec)

/-- ITS FALSE NEIGHBOUR: 'it returns false'. Refute it at one input. -/
def handshakeConsumesWrong : ChangeSpec := { name := "handshakeConsumes", fn := fun _ => fun
  | [d1, d2, d3, d4, d5, d6] => { results := [.lit (.bool false)], args := [d1, d2, d3, d4, d5, d6] }
  | _ => none }
def HandshakeConsumesWrongFalsely : Prop := handshakeConsumesRow.holds Tryz.pinned (OpenSpec.ofChange handshakeConsumesWrong)

/-- 'burrowlaw21.HandshakeFinishes': WHATEVER THE INPUT: true; the input reads as it did. -/
def handshakeFinishesSpec : ChangeSpec := { name := "handshakeFinishes", fn := fun _ => fun
  | [d1, d2, d3, d4, d5, d6, d7, d8] => { results := [.lit (.bool true)], args := [d1, d2, d3, d4, d5, d6, d7, d8] }
  | _ => none }
def handshakeFinishesRow : OpenClaim := { program := "ytiogdokekibeiaagreat", sum := "10fc90769e3bf51d9dd8cd208d0d9c87f36cf90e179ea9cf0525b255e802a05b", func := "burrow/burrowlaw21.HandshakeFinishes", spec := "handshakeFinishes", inPlace := ["math/bits.Add64", "math/bits.Sub64"], apart := false }
def HandshakeFinishesSaid : Prop := handshakeFinishesRow.holds Tryz.pinned (OpenSpec.ofChange handshakeFinishesSpec)

/-- ITS FALSE NEIGHBOUR: 'it returns false'. Refute it at one input. -/
def handshakeFinishesWrong : ChangeSpec := { name := "handshakeFinishes", fn := fun _ => fun
  | [d1, d2, d3, d4, d5, d6, d7, d8] => { results := [.lit (.bool false)], args := [d1, d2, d3, d4, d5, d6, d7, d8] }
  | _ => none }
def HandshakeFinishesWrongFalsely : Prop := handshakeFinishesRow.holds Tryz.pinned (OpenSpec.ofChange handshakeFinishesWrong)

/- THE SECOND FORM. 'bulk': how many values and letters a reading holds, each counted each time it is reached (what is shared counts as often as it is met; a slice's spare places count too). A statement '..UptoSaid' is the law's where the arguments, and the package variables that the reading takes, are together of bulk at most 1048576: NARROWER than '..Said'. Prove '..Said' where nothing that the law and all that it calls make is longer than what came in: it says more and counts as full. Else prove '..UptoSaid'. A law counts once. -/
mutual
def uptoBulk {H : Type} : DataW H → Nat
  | .lit (.string bytes) => bytes.length + 1
  | .lit _ => 1
  | .nil => 1
  | .ptr d => uptoBulk d + 1
  | .slice elems spare => uptoBulkAll elems + uptoBulkAll spare + 1
  | .agg parts => uptoBulkAll parts + 1
  | .iface _ d => uptoBulk d + 1
  | .map entries => uptoBulkEntries entries + 1
  | .held _ => 1
def uptoBulkAll {H : Type} : List (DataW H) → Nat
  | [] => 0
  | d :: r => uptoBulk d + uptoBulkAll r
def uptoBulkEntries {H : Type} : List (Lit × DataW H) → Nat
  | [] => 0
  | x :: r => uptoBulkEntry x + uptoBulkEntries r
def uptoBulkEntry {H : Type} : Lit × DataW H → Nat
  | (.string bytes, d) => bytes.length + uptoBulk d + 1
  | (_, d) => uptoBulk d + 1
 end
def uptoSmall : (H : Type) → List (DataW H) → Bool := fun _ ds => decide (uptoBulkAll ds ≤ 1048576)
def OpenSpec.upto (s : _root_.Go.ChangeSpec) : _root_.Go.OpenSpec := { _root_.Go.OpenSpec.ofChange s with cond := some uptoSmall }

/-- 'burrowlaw21.HandshakeInitiates', WHERE WHAT IT READS IS OF BULK AT MOST 1048576: true; the input reads as it did. -/
def handshakeInitiatesUptoRow : OpenClaim := { program := "ytiogdokekibeiaagreat", sum := "10fc90769e3bf51d9dd8cd208d0d9c87f36cf90e179ea9cf0525b255e802a05b", func := "burrow/burrowlaw21.HandshakeInitiates", spec := "handshakeInitiates", inPlace := ["math/bits.Add64", "math/bits.Sub64"], apart := false, narrowed := true }
def HandshakeInitiatesUptoSaid : Prop := handshakeInitiatesUptoRow.holds Tryz.pinned (OpenSpec.upto handshakeInitiatesSpec)

/-- 'burrowlaw21.HandshakeResponds', WHERE WHAT IT READS IS OF BULK AT MOST 1048576: true; the input reads as it did. -/
def handshakeRespondsUptoRow : OpenClaim := { program := "ytiogdokekibeiaagreat", sum := "10fc90769e3bf51d9dd8cd208d0d9c87f36cf90e179ea9cf0525b255e802a05b", func := "burrow/burrowlaw21.HandshakeResponds", spec := "handshakeResponds", inPlace := ["math/bits.Add64", "math/bits.Sub64"], apart := false, narrowed := true }
def HandshakeRespondsUptoSaid : Prop := handshakeRespondsUptoRow.holds Tryz.pinned (OpenSpec.upto handshakeRespondsSpec)

/-- 'burrowlaw21.HandshakeConsumes', WHERE WHAT IT READS IS OF BULK AT MOST 1048576: true; the input reads as it did. -/
def handshakeConsumesUptoRow : OpenClaim := { program := "ytiogdokekibeiaagreat", sum := "10fc90769e3bf51d9dd8cd208d0d9c87f36cf90e179ea9cf0525b255e802a05b", func := "burrow/burrowlaw21.HandshakeConsumes", spec := "handshakeConsumes", inPlace := ["math/bits.Add64", "math/bits.Sub64"], apart := false, narrowed := true }
def HandshakeConsumesUptoSaid : Prop := handshakeConsumesUptoRow.holds Tryz.pinned (OpenSpec.upto handshakeConsumesSpec)

/-- 'burrowlaw21.HandshakeFinishes', WHERE WHAT IT READS IS OF BULK AT MOST 1048576: true; the input reads as it did. -/
def handshakeFinishesUptoRow : OpenClaim := { program := "ytiogdokekibeiaagreat", sum := "10fc90769e3bf51d9dd8cd208d0d9c87f36cf90e179ea9cf0525b255e802a05b", func := "burrow/burrowlaw21.HandshakeFinishes", spec := "handshakeFinishes", inPlace := ["math/bits.Add64", "math/bits.Sub64"], apart := false, narrowed := true }
def HandshakeFinishesUptoSaid : Prop := handshakeFinishesUptoRow.holds Tryz.pinned (OpenSpec.upto handshakeFinishesSpec)

end Rows
end Go.Proofs.YtiogdokekibeiaaGreat
