/-
  No cell of these rows narrows 'for every input' (looked for: loops, veiled, ifaces, maps, wideKeys, modest, calm, conditions, laid).
  DERIVED. THE GIVEN ROWS OF THIS SEAT. 5 by the template 'for every input the law returns true; each argument reads behind the call as it read before'; 0 by the template 'total and deterministic' (their statements: YtbannfdoiiojgaaTotals.lean).
  GIVEN WITH THE SEED: the statements are not yours to turn. If you find one false, say at which input.
  Laid BY PROGRAM, IN A SANDBOX (cutbox-rows.mjs): the forced cells as the released guide's own fill.sh prints them over the translation 62dafef3f8e956ca… (all of the seat's roots in one cut). By AI agents, Wed Nov 11 2026. No macro, syntax, notation, axiom, sorry.
-/
import Derived.Test.YtbannfdoiiojgaaChecked
import GoSem.Claim
import GoSem.ClaimJoined
import GoSem.ClaimMapViews
import Derived.JoinedTies
import Derived.KernelRfl
namespace Go.Proofs.Ytbannfdoiiojgaa
/- THE CELL 'sum', in the pinned program and in every row, IS THE sha256 OF THE DUMP (.gsa) THAT YtbannfdoiiojgaaProg.lean LOADS. Nothing in Lean hashes anything: it is a label: what it is worth is what the hold of that sum in a sandbox is worth. -/
noncomputable def Try.pinned : Pinned := { name := "ytbannfdoiiojgaa", sum := "62dafef3f8e956ca5a854b1ce3f91a69d6823d60df43c910fe21c08fcc5f248b", checked := Try.checked }
namespace Rows
def none {H : Type} : Left H := { results := [], args := [] }

/-- 'burrowlaw12.MacsChecks': WHATEVER THE INPUT: true; the input reads as it did. -/
def macsChecksSpec : ChangeSpec := { name := "macsChecks", fn := fun _ => fun
  | [d1, d2, d3, d4, d5, d6, d7, d8, d9] => { results := [.lit (.bool true)], args := [d1, d2, d3, d4, d5, d6, d7, d8, d9] }
  | _ => none }
def macsChecksRow : OpenClaim := { program := "ytbannfdoiiojgaa", sum := "62dafef3f8e956ca5a854b1ce3f91a69d6823d60df43c910fe21c08fcc5f248b", func := "burrow/burrowlaw12.MacsChecks", spec := "macsChecks", unfollowed := true, recurses := true, apart := false }
def MacsChecksSaid : Prop := macsChecksRow.holds Try.pinned (OpenSpec.ofChange macsChecksSpec)

/-- ITS FALSE NEIGHBOUR: 'it returns false'. Refute it at one input. -/
def macsChecksWrong : ChangeSpec := { name := "macsChecks", fn := fun _ => fun
  | [d1, d2, d3, d4, d5, d6, d7, d8, d9] => { results := [.lit (.bool false)], args := [d1, d2, d3, d4, d5, d6, d7, d8, d9] }
  | _ => none }
def MacsChecksWrongFalsely : Prop := macsChecksRow.holds Try.pinned (OpenSpec.ofChange macsChecksWrong)

/-- 'burrowlaw12.MacsCookies': WHATEVER THE INPUT: true; the input reads as it did. -/
def macsCookiesSpec : ChangeSpec := { name := "macsCookies", fn := fun _ => fun
  | [d1, d2] => { results := [.lit (.bool true)], args := [d1, d2] }
  | _ => none }
def macsCookiesRow : OpenClaim := { program := "ytbannfdoiiojgaa", sum := "62dafef3f8e956ca5a854b1ce3f91a69d6823d60df43c910fe21c08fcc5f248b", func := "burrow/burrowlaw12.MacsCookies", spec := "macsCookies", unfollowed := true, recurses := true, apart := false }
def MacsCookiesSaid : Prop := macsCookiesRow.holds Try.pinned (OpenSpec.ofChange macsCookiesSpec)

/-- ITS FALSE NEIGHBOUR: 'it returns false'. Refute it at one input. -/
def macsCookiesWrong : ChangeSpec := { name := "macsCookies", fn := fun _ => fun
  | [d1, d2] => { results := [.lit (.bool false)], args := [d1, d2] }
  | _ => none }
def MacsCookiesWrongFalsely : Prop := macsCookiesRow.holds Try.pinned (OpenSpec.ofChange macsCookiesWrong)

/-- 'burrowlaw12.MacsSeals': WHATEVER THE INPUT: true; the input reads as it did. -/
def macsSealsSpec : ChangeSpec := { name := "macsSeals", fn := fun _ => fun
  | [d1, d2, d3, d4, d5, d6, d7, d8] => { results := [.lit (.bool true)], args := [d1, d2, d3, d4, d5, d6, d7, d8] }
  | _ => none }
def macsSealsRow : OpenClaim := { program := "ytbannfdoiiojgaa", sum := "62dafef3f8e956ca5a854b1ce3f91a69d6823d60df43c910fe21c08fcc5f248b", func := "burrow/burrowlaw12.MacsSeals", spec := "macsSeals", unfollowed := true, recurses := true, apart := false }
def MacsSealsSaid : Prop := macsSealsRow.holds Try.pinned (OpenSpec.ofChange macsSealsSpec)

/-- ITS FALSE NEIGHBOUR: 'it returns false'. Refute it at one input. -/
def macsSealsWrong : ChangeSpec := { name := "macsSeals", fn := fun _ => fun
  | [d1, d2, d3, d4, d5, d6, d7, d8] => { results := [.lit (.bool false)], args := [d1, d2, d3, d4, d5, d6, d7, d8] }
  | _ => none }
def MacsSealsWrongFalsely : Prop := macsSealsRow.holds Try.pinned (OpenSpec.ofChange macsSealsWrong)

/-- 'burrowlaw12.MacsReplies': WHATEVER THE INPUT: true; the input reads as it did. -/
def macsRepliesSpec : ChangeSpec := { name := "macsReplies", fn := fun _ => fun
  | [d1, d2, d3, d4, d5, d6, d7, d8, d9] => { results := [.lit (.bool true)], args := [d1, d2, d3, d4, d5, d6, d7, d8, d9] }
  | _ => none }
def macsRepliesRow : OpenClaim := { program := "ytbannfdoiiojgaa", sum := "62dafef3f8e956ca5a854b1ce3f91a69d6823d60df43c910fe21c08fcc5f248b", func := "burrow/burrowlaw12.MacsReplies", spec := "macsReplies", inPlace := ["math/bits.Add64", "math/bits.Sub64"], unfollowed := true, recurses := true, apart := false }
def MacsRepliesSaid : Prop := macsRepliesRow.holds Try.pinned (OpenSpec.ofChange macsRepliesSpec)

/-- ITS FALSE NEIGHBOUR: 'it returns false'. Refute it at one input. -/
def macsRepliesWrong : ChangeSpec := { name := "macsReplies", fn := fun _ => fun
  | [d1, d2, d3, d4, d5, d6, d7, d8, d9] => { results := [.lit (.bool false)], args := [d1, d2, d3, d4, d5, d6, d7, d8, d9] }
  | _ => none }
def MacsRepliesWrongFalsely : Prop := macsRepliesRow.holds Try.pinned (OpenSpec.ofChange macsRepliesWrong)

/-- 'burrowlaw12.MacsReturns': WHATEVER THE INPUT: true; the input reads as it did. -/
def macsReturnsSpec : ChangeSpec := { name := "macsReturns", fn := fun _ => fun
  | [d1, d2, d3, d4, d5, d6] => { results := [.lit (.bool true)], args := [d1, d2, d3, d4, d5, d6] }
  | _ => none }
def macsReturnsRow : OpenClaim := { program := "ytbannfdoiiojgaa", sum := "62dafef3f8e956ca5a854b1ce3f91a69d6823d60df43c910fe21c08fcc5f248b", func := "burrow/burrowlaw12.MacsReturns", spec := "macsReturns", inPlace := ["math/bits.Add64", "math/bits.Sub64"], unfollowed := true, recurses := true, apart := false }
def MacsReturnsSaid : Prop := macsReturnsRow.holds Try.pinned (OpenSpec.ofChange macsReturnsSpec)

/-- ITS FALSE NEIGHBOUR: 'it returns false'. Refute it at one input. -/
def macsReturnsWrong : ChangeSpec := { name := "macsReturns", fn := fun _ => fun
  | [d1, d2, d3, d4, d5, d6] => { results := [.lit (.bool false)], args := [d1, d2, d3, d4, d5, d6] }
  | _ => none }
def MacsReturnsWrongFalsely : Prop := macsReturnsRow.holds Try.pinned (OpenSpec.ofChange macsReturnsWrong)

/- THE SECOND FORM. 'bulk': how many values and letters a reading holds, each counted each time it is reached (what is shared counts as often as it is met; a slice's spare places count too). A statement '..UptoSaid' is the law's where the arguments, and the package variables that the reading takes, are together of bulk at most 1048576: NARROWER than '..Said'. Prove '..Said' where nothing that the law and all that it calls make is longer than what came in: it says more and counts as full. Else prove '..UptoSaid'. A law counts once. -/
mutual
def uptoBulk {H : Type} : DataW H → Nat
  | .lit (.string bytes) => bytes.length + 1
  | .lit _ => 1
  | .nil => 1
  | .ptr d => uptoBulk d + 1
  | .slice elems spare => uptoBulkAll elems + uptoBulkAll spare + 1
  | .agg parts => uptoBulkAll parts + 1
  | .iface _ d => uptoBulk d + 1
  | .map entries => uptoBulkEntries entries + 1
  | .held _ => 1
def uptoBulkAll {H : Type} : List (DataW H) → Nat
  | [] => 0
  | d :: r => uptoBulk d + uptoBulkAll r
def uptoBulkEntries {H : Type} : List (Lit × DataW H) → Nat
  | [] => 0
  | x :: r => uptoBulkEntry x + uptoBulkEntries r
def uptoBulkEntry {H : Type} : Lit × DataW H → Nat
  | (.string bytes, d) => bytes.length + uptoBulk d + 1
  | (_, d) => uptoBulk d + 1
 end
def uptoSmall : (H : Type) → List (DataW H) → Bool := fun _ ds => decide (uptoBulkAll ds ≤ 1048576)
def OpenSpec.upto (s : _root_.Go.ChangeSpec) : _root_.Go.OpenSpec := { _root_.Go.OpenSpec.ofChange s with cond := some uptoSmall }

/-- 'burrowlaw12.MacsChecks', WHERE WHAT IT READS IS OF BULK AT MOST 1048576: true; the input reads as it did. -/
def macsChecksUptoRow : OpenClaim := { program := "ytbannfdoiiojgaa", sum := "62dafef3f8e956ca5a854b1ce3f91a69d6823d60df43c910fe21c08fcc5f248b", func := "burrow/burrowlaw12.MacsChecks", spec := "macsChecks", unfollowed := true, recurses := true, apart := false, narrowed := true }
def MacsChecksUptoSaid : Prop := macsChecksUptoRow.holds Try.pinned (OpenSpec.upto macsChecksSpec)

/-- 'burrowlaw12.MacsCookies', WHERE WHAT IT READS IS OF BULK AT MOST 1048576: true; the input reads as it did. -/
def macsCookiesUptoRow : OpenClaim := { program := "ytbannfdoiiojgaa", sum := "62dafef3f8e956ca5a854b1ce3f91a69d6823d60df43c910fe21c08fcc5f248b", func := "burrow/burrowlaw12.MacsCookies", spec := "macsCookies", unfollowed := true, recurses := true, apart := false, narrowed := true }
def MacsCookiesUptoSaid : Prop := macsCookiesUptoRow.holds Try.pinned (OpenSpec.upto macsCookiesSpec)

/-- 'burrowlaw12.MacsSeals', WHERE WHAT IT READS IS OF BULK AT MOST 1048576: true; the input reads as it did. -/
def macsSealsUptoRow : OpenClaim := { program := "ytbannfdoiiojgaa", sum := "62dafef3f8e956ca5a854b1ce3f91a69d6823d60df43c910fe21c08fcc5f248b", func := "burrow/burrowlaw12.MacsSeals", spec := "macsSeals", unfollowed := true, recurses := true, apart := false, narrowed := true }
def MacsSealsUptoSaid : Prop := macsSealsUptoRow.holds Try.pinned (OpenSpec.upto macsSealsSpec)

/-- 'burrowlaw12.MacsReplies', WHERE WHAT IT READS IS OF BULK AT MOST 1048576: true; the input reads as it did. -/
def macsRepliesUptoRow : OpenClaim := { program := "ytbannfdoiiojgaa", sum := "62dafef3f8e956ca5a854b1ce3f91a69d6823d60df43c910fe21c08fcc5f248b", func := "burrow/burrowlaw12.MacsReplies", spec := "macsReplies", inPlace := ["math/bits.Add64", "math/bits.Sub64"], unfollowed := true, recurses := true, apart := false, narrowed := true }
def MacsRepliesUptoSaid : Prop := macsRepliesUptoRow.holds Try.pinned (OpenSpec.upto macsRepliesSpec)

/-- 'burrowlaw12.MacsReturns', WHERE WHAT IT READS IS OF BULK AT MOST 1048576: true; the input reads as it did. -/
def macsReturnsUptoRow : OpenClaim := { program := "ytbannfdoiiojgaa", sum := "62dafef3f8e956ca5a854b1ce3f91a69d6823d60df43c910fe21c08fcc5f248b", func := "burrow/burrowlaw12.MacsReturns", spec := "macsReturns", inPlace := ["math/bits.Add64", "math/bits.Sub64"], unfollowed := true, recurses := true, apart := false, narrowed := true }
def MacsReturnsUptoSaid : Prop := macsReturnsUptoRow.holds Try.pinned (OpenSpec.upto macsReturnsSpec)

end Rows
end Go.Proofs.Ytbannfdoiiojgaa
