/-
  No cell of these rows narrows 'for every input' (looked for: loops, veiled, ifaces, maps, wideKeys, modest, calm, conditions, laid).
  DERIVED. THE GIVEN ROWS OF THIS SEAT. 7 by the template 'for every input the law returns true; each argument reads behind the call as it read before'; 0 by the template 'total and deterministic' (their statements: YteoioboiniealaaTotals.lean).
  GIVEN WITH THE SEED: the statements are not yours to turn. If you find one false, say at which input.
  Laid BY PROGRAM, IN A SANDBOX (cutbox-rows.mjs): the forced cells as the released guide's own fill.sh prints them over the translation 3f2a83c26409b668… (all of the seat's roots in one cut). By AI agents, Wed Nov 11 2026. No macro, syntax, notation, axiom, sorry.
-/
import Derived.Test.YteoioboiniealaaChecked
import GoSem.Claim
import GoSem.ClaimJoined
import GoSem.ClaimMapViews
import Derived.JoinedTies
import Derived.KernelRfl
namespace Go.Proofs.Yteoioboiniealaa
/- THE CELL 'sum', in the pinned program and in every row, IS THE sha256 OF THE DUMP (.gsa) THAT YteoioboiniealaaProg.lean LOADS. Nothing in Lean hashes anything: it is a label: what it is worth is what the hold of that sum in a sandbox is worth. -/
noncomputable def Try.pinned : Pinned := { name := "yteoioboiniealaa", sum := "3f2a83c26409b66853f1b711582e9eb637a9829a182d0c3f3724df12678e61df", checked := Try.checked }
namespace Rows
def none {H : Type} : Left H := { results := [], args := [] }

/-- 'galliardlaw12.FlatBad': WHATEVER THE INPUT: true; the input reads as it did. -/
def flatBadSpec : ChangeSpec := { name := "flatBad", fn := fun _ => fun
  | [d1, d2] => { results := [.lit (.bool true)], args := [d1, d2] }
  | _ => none }
def flatBadRow : OpenClaim := { program := "yteoioboiniealaa", sum := "3f2a83c26409b66853f1b711582e9eb637a9829a182d0c3f3724df12678e61df", func := "galliard/galliardlaw12.FlatBad", spec := "flatBad", unfollowed := true, recurses := true, apart := false }
def FlatBadSaid : Prop := flatBadRow.holds Try.pinned (OpenSpec.ofChange flatBadSpec)

/-- ITS FALSE NEIGHBOUR: 'it returns false'. Refute it at one input. -/
def flatBadWrong : ChangeSpec := { name := "flatBad", fn := fun _ => fun
  | [d1, d2] => { results := [.lit (.bool false)], args := [d1, d2] }
  | _ => none }
def FlatBadWrongFalsely : Prop := flatBadRow.holds Try.pinned (OpenSpec.ofChange flatBadWrong)

/-- 'galliardlaw13.GraphCheck': WHATEVER THE INPUT: true; the input reads as it did. -/
def graphCheckSpec : ChangeSpec := { name := "graphCheck", fn := fun _ => fun
  | [d1, d2, d3] => { results := [.lit (.bool true)], args := [d1, d2, d3] }
  | _ => none }
def graphCheckRow : OpenClaim := { program := "yteoioboiniealaa", sum := "3f2a83c26409b66853f1b711582e9eb637a9829a182d0c3f3724df12678e61df", func := "galliard/galliardlaw13.GraphCheck", spec := "graphCheck", unfollowed := true, recurses := true, apart := false }
def GraphCheckSaid : Prop := graphCheckRow.holds Try.pinned (OpenSpec.ofChange graphCheckSpec)

/-- ITS FALSE NEIGHBOUR: 'it returns false'. Refute it at one input. -/
def graphCheckWrong : ChangeSpec := { name := "graphCheck", fn := fun _ => fun
  | [d1, d2, d3] => { results := [.lit (.bool false)], args := [d1, d2, d3] }
  | _ => none }
def GraphCheckWrongFalsely : Prop := graphCheckRow.holds Try.pinned (OpenSpec.ofChange graphCheckWrong)

/-- 'galliardlaw11.InlineCalls': WHATEVER THE INPUT: true; the input reads as it did. -/
def inlineCallsSpec : ChangeSpec := { name := "inlineCalls", fn := fun _ => fun
  | [d1, d2] => { results := [.lit (.bool true)], args := [d1, d2] }
  | _ => none }
def inlineCallsRow : OpenClaim := { program := "yteoioboiniealaa", sum := "3f2a83c26409b66853f1b711582e9eb637a9829a182d0c3f3724df12678e61df", func := "galliard/galliardlaw11.InlineCalls", spec := "inlineCalls", unfollowed := true, recurses := true, apart := false }
def InlineCallsSaid : Prop := inlineCallsRow.holds Try.pinned (OpenSpec.ofChange inlineCallsSpec)

/-- ITS FALSE NEIGHBOUR: 'it returns false'. Refute it at one input. -/
def inlineCallsWrong : ChangeSpec := { name := "inlineCalls", fn := fun _ => fun
  | [d1, d2] => { results := [.lit (.bool false)], args := [d1, d2] }
  | _ => none }
def InlineCallsWrongFalsely : Prop := inlineCallsRow.holds Try.pinned (OpenSpec.ofChange inlineCallsWrong)

/-- 'galliardlaw11.InlineChains': WHATEVER THE INPUT: true; the input reads as it did. -/
def inlineChainsSpec : ChangeSpec := { name := "inlineChains", fn := fun _ => fun
  | [d1, d2] => { results := [.lit (.bool true)], args := [d1, d2] }
  | _ => none }
def inlineChainsRow : OpenClaim := { program := "yteoioboiniealaa", sum := "3f2a83c26409b66853f1b711582e9eb637a9829a182d0c3f3724df12678e61df", func := "galliard/galliardlaw11.InlineChains", spec := "inlineChains", unfollowed := true, recurses := true, apart := false }
def InlineChainsSaid : Prop := inlineChainsRow.holds Try.pinned (OpenSpec.ofChange inlineChainsSpec)

/-- ITS FALSE NEIGHBOUR: 'it returns false'. Refute it at one input. -/
def inlineChainsWrong : ChangeSpec := { name := "inlineChains", fn := fun _ => fun
  | [d1, d2] => { results := [.lit (.bool false)], args := [d1, d2] }
  | _ => none }
def InlineChainsWrongFalsely : Prop := inlineChainsRow.holds Try.pinned (OpenSpec.ofChange inlineChainsWrong)

/-- 'galliardlaw11.InlineBad': WHATEVER THE INPUT: true; the input reads as it did. -/
def inlineBadSpec : ChangeSpec := { name := "inlineBad", fn := fun _ => fun
  | [d1, d2] => { results := [.lit (.bool true)], args := [d1, d2] }
  | _ => none }
def inlineBadRow : OpenClaim := { program := "yteoioboiniealaa", sum := "3f2a83c26409b66853f1b711582e9eb637a9829a182d0c3f3724df12678e61df", func := "galliard/galliardlaw11.InlineBad", spec := "inlineBad", unfollowed := true, recurses := true, apart := false }
def InlineBadSaid : Prop := inlineBadRow.holds Try.pinned (OpenSpec.ofChange inlineBadSpec)

/-- ITS FALSE NEIGHBOUR: 'it returns false'. Refute it at one input. -/
def inlineBadWrong : ChangeSpec := { name := "inlineBad", fn := fun _ => fun
  | [d1, d2] => { results := [.lit (.bool false)], args := [d1, d2] }
  | _ => none }
def InlineBadWrongFalsely : Prop := inlineBadRow.holds Try.pinned (OpenSpec.ofChange inlineBadWrong)

/-- 'galliardlaw13.GraphParts': WHATEVER THE INPUT: true; the input reads as it did. -/
def graphPartsSpec : ChangeSpec := { name := "graphParts", fn := fun _ => fun
  | [d1, d2, d3] => { results := [.lit (.bool true)], args := [d1, d2, d3] }
  | _ => none }
def graphPartsRow : OpenClaim := { program := "yteoioboiniealaa", sum := "3f2a83c26409b66853f1b711582e9eb637a9829a182d0c3f3724df12678e61df", func := "galliard/galliardlaw13.GraphParts", spec := "graphParts", unfollowed := true, recurses := true, apart := false }
def GraphPartsSaid : Prop := graphPartsRow.holds Try.pinned (OpenSpec.ofChange graphPartsSpec)

/-- ITS FALSE NEIGHBOUR: 'it returns false'. Refute it at one input. -/
def graphPartsWrong : ChangeSpec := { name := "graphParts", fn := fun _ => fun
  | [d1, d2, d3] => { results := [.lit (.bool false)], args := [d1, d2, d3] }
  | _ => none }
def GraphPartsWrongFalsely : Prop := graphPartsRow.holds Try.pinned (OpenSpec.ofChange graphPartsWrong)

/-- 'galliardlaw12.FlatNodes': WHATEVER THE INPUT: true; the input reads as it did. -/
def flatNodesSpec : ChangeSpec := { name := "flatNodes", fn := fun _ => fun
  | [d1, d2] => { results := [.lit (.bool true)], args := [d1, d2] }
  | _ => none }
def flatNodesRow : OpenClaim := { program := "yteoioboiniealaa", sum := "3f2a83c26409b66853f1b711582e9eb637a9829a182d0c3f3724df12678e61df", func := "galliard/galliardlaw12.FlatNodes", spec := "flatNodes", unfollowed := true, recurses := true, apart := false }
def FlatNodesSaid : Prop := flatNodesRow.holds Try.pinned (OpenSpec.ofChange flatNodesSpec)

/-- ITS FALSE NEIGHBOUR: 'it returns false'. Refute it at one input. -/
def flatNodesWrong : ChangeSpec := { name := "flatNodes", fn := fun _ => fun
  | [d1, d2] => { results := [.lit (.bool false)], args := [d1, d2] }
  | _ => none }
def FlatNodesWrongFalsely : Prop := flatNodesRow.holds Try.pinned (OpenSpec.ofChange flatNodesWrong)

/- THE SECOND FORM. 'bulk': how many values and letters a reading holds, each counted each time it is reached (what is shared counts as often as it is met; a slice's spare places count too). A statement '..UptoSaid' is the law's where the arguments, and the package variables that the reading takes, are together of bulk at most 1048576: NARROWER than '..Said'. Prove '..Said' where nothing that the law and all that it calls make is longer than what came in: it says more and counts as full. Else prove '..UptoSaid'. A law counts once. -/
mutual
def uptoBulk {H : Type} : DataW H → Nat
  | .lit (.string bytes) => bytes.length + 1
  | .lit _ => 1
  | .nil => 1
  | .ptr d => uptoBulk d + 1
  | .slice elems spare => uptoBulkAll elems + uptoBulkAll spare + 1
  | .agg parts => uptoBulkAll parts + 1
  | .iface _ d => uptoBulk d + 1
  | .map entries => uptoBulkEntries entries + 1
  | .held _ => 1
def uptoBulkAll {H : Type} : List (DataW H) → Nat
  | [] => 0
  | d :: r => uptoBulk d + uptoBulkAll r
def uptoBulkEntries {H : Type} : List (Lit × DataW H) → Nat
  | [] => 0
  | x :: r => uptoBulkEntry x + uptoBulkEntries r
def uptoBulkEntry {H : Type} : Lit × DataW H → Nat
  | (.string bytes, d) => bytes.length + uptoBulk d + 1
  | (_, d) => uptoBulk d + 1
 end
def uptoSmall : (H : Type) → List (DataW H) → Bool := fun _ ds => decide (uptoBulkAll ds ≤ 1048576)
def OpenSpec.upto (s : _root_.Go.ChangeSpec) : _root_.Go.OpenSpec := { _root_.Go.OpenSpec.ofChange s with cond := some uptoSmall }

/-- 'galliardlaw12.FlatBad', WHERE WHAT IT READS IS OF BULK AT MOST 1048576: true; the input reads as it did. -/
def flatBadUptoRow : OpenClaim := { program := "yteoioboiniealaa", sum := "3f2a83c26409b66853f1b711582e9eb637a9829a182d0c3f3724df12678e61df", func := "galliard/galliardlaw12.FlatBad", spec := "flatBad", unfollowed := true, recurses := true, apart := false, narrowed := true }
def FlatBadUptoSaid : Prop := flatBadUptoRow.holds Try.pinned (OpenSpec.upto flatBadSpec)

/-- 'galliardlaw13.GraphCheck', WHERE WHAT IT READS IS OF BULK AT MOST 1048576: true; the input reads as it did. -/
def graphCheckUptoRow : OpenClaim := { program := "yteoioboiniealaa", sum := "3f2a83c26409b66853f1b711582e9eb637a9829a182d0c3f3724df12678e61df", func := "galliard/galliardlaw13.GraphCheck", spec := "graphCheck", unfollowed := true, recurses := true, apart := false, narrowed := true }
def GraphCheckUptoSaid : Prop := graphCheckUptoRow.holds Try.pinned (OpenSpec.upto graphCheckSpec)

/-- 'galliardlaw11.InlineCalls', WHERE WHAT IT READS IS OF BULK AT MOST 1048576: true; the input reads as it did. -/
def inlineCallsUptoRow : OpenClaim := { program := "yteoioboiniealaa", sum := "3f2a83c26409b66853f1b711582e9eb637a9829a182d0c3f3724df12678e61df", func := "galliard/galliardlaw11.InlineCalls", spec := "inlineCalls", unfollowed := true, recurses := true, apart := false, narrowed := true }
def InlineCallsUptoSaid : Prop := inlineCallsUptoRow.holds Try.pinned (OpenSpec.upto inlineCallsSpec)

/-- 'galliardlaw11.InlineChains', WHERE WHAT IT READS IS OF BULK AT MOST 1048576: true; the input reads as it did. -/
def inlineChainsUptoRow : OpenClaim := { program := "yteoioboiniealaa", sum := "3f2a83c26409b66853f1b711582e9eb637a9829a182d0c3f3724df12678e61df", func := "galliard/galliardlaw11.InlineChains", spec := "inlineChains", unfollowed := true, recurses := true, apart := false, narrowed := true }
def InlineChainsUptoSaid : Prop := inlineChainsUptoRow.holds Try.pinned (OpenSpec.upto inlineChainsSpec)

/-- 'galliardlaw11.InlineBad', WHERE WHAT IT READS IS OF BULK AT MOST 1048576: true; the input reads as it did. -/
def inlineBadUptoRow : OpenClaim := { program := "yteoioboiniealaa", sum := "3f2a83c26409b66853f1b711582e9eb637a9829a182d0c3f3724df12678e61df", func := "galliard/galliardlaw11.InlineBad", spec := "inlineBad", unfollowed := true, recurses := true, apart := false, narrowed := true }
def InlineBadUptoSaid : Prop := inlineBadUptoRow.holds Try.pinned (OpenSpec.upto inlineBadSpec)

/-- 'galliardlaw13.GraphParts', WHERE WHAT IT READS IS OF BULK AT MOST 1048576: true; the input reads as it did. -/
def graphPartsUptoRow : OpenClaim := { program := "yteoioboiniealaa", sum := "3f2a83c26409b66853f1b711582e9eb637a9829a182d0c3f3724df12678e61df", func := "galliard/galliardlaw13.GraphParts", spec := "graphParts", unfollowed := true, recurses := true, apart := false, narrowed := true }
def GraphPartsUptoSaid : Prop := graphPartsUptoRow.holds Try.pinned (OpenSpec.upto graphPartsSpec)

/-- 'galliardlaw12.FlatNodes', WHERE WHAT IT READS IS OF BULK AT MOST 1048576: true; the input reads as it did. -/
def flatNodesUptoRow : OpenClaim := { program := "yteoioboiniealaa", sum := "3f2a83c26409b66853f1b711582e9eb637a9829a182d0c3f3724df12678e61df", func := "galliard/galliardlaw12.FlatNodes", spec := "flatNodes", unfollowed := true, recurses := true, apart := false, narrowed := true }
def FlatNodesUptoSaid : Prop := flatNodesUptoRow.holds Try.pinned (OpenSpec.upto flatNodesSpec)

end Rows
end Go.Proofs.Yteoioboiniealaa
