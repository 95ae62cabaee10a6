/-
  No cell of these rows narrows 'for every input' (looked for: loops, veiled, ifaces, maps, wideKeys, modest, calm, conditions, laid).
  DERIVED. THE GIVEN ROWS OF THIS SEAT. 7 by the template 'for every input the law returns true; each argument reads behind the call as it read before'; 0 by the template 'total and deterministic' (their statements: YtljmghaplnkohaaTotals.lean).
  GIVEN WITH THE SEED: the statements are not yours to turn. If you find one false, say at which input.
  Laid BY PROGRAM, IN A SANDBOX (cutbox-rows.mjs): the forced cells as the released guide's own fill.sh prints them over the translation aa6e2bc7a9adfa35… (all of the seat's roots in one cut). By AI agents, Wed Nov 11 2026. No macro, syntax, notation, axiom, sorry.
-/
import Derived.Test.YtljmghaplnkohaaChecked
import GoSem.Claim
import GoSem.ClaimJoined
import GoSem.ClaimMapViews
import Derived.JoinedTies
import Derived.KernelRfl
namespace Go.Proofs.Ytljmghaplnkohaa
/- THE CELL 'sum', in the pinned program and in every row, IS THE sha256 OF THE DUMP (.gsa) THAT YtljmghaplnkohaaProg.lean LOADS. Nothing in Lean hashes anything: it is a label: what it is worth is what the hold of that sum in a sandbox is worth. -/
noncomputable def Try.pinned : Pinned := { name := "ytljmghaplnkohaa", sum := "aa6e2bc7a9adfa3588065ac405ff8459d3b6c067cad41bf72587b915ec94c078", checked := Try.checked }
namespace Rows
def none {H : Type} : Left H := { results := [], args := [] }

/-- 'galliardlaw10.RulesReached': WHATEVER THE INPUT: true; the input reads as it did. -/
def rulesReachedSpec : ChangeSpec := { name := "rulesReached", fn := fun _ => fun
  | [d1, d2] => { results := [.lit (.bool true)], args := [d1, d2] }
  | _ => none }
def rulesReachedRow : OpenClaim := { program := "ytljmghaplnkohaa", sum := "aa6e2bc7a9adfa3588065ac405ff8459d3b6c067cad41bf72587b915ec94c078", func := "galliard/galliardlaw10.RulesReached", spec := "rulesReached", unfollowed := true, recurses := true, apart := false }
def RulesReachedSaid : Prop := rulesReachedRow.holds Try.pinned (OpenSpec.ofChange rulesReachedSpec)

/-- ITS FALSE NEIGHBOUR: 'it returns false'. Refute it at one input. -/
def rulesReachedWrong : ChangeSpec := { name := "rulesReached", fn := fun _ => fun
  | [d1, d2] => { results := [.lit (.bool false)], args := [d1, d2] }
  | _ => none }
def RulesReachedWrongFalsely : Prop := rulesReachedRow.holds Try.pinned (OpenSpec.ofChange rulesReachedWrong)

/-- 'galliardlaw09.IdsFind': WHATEVER THE INPUT: true; the input reads as it did. -/
def idsFindSpec : ChangeSpec := { name := "idsFind", fn := fun _ => fun
  | [d1, d2, d3] => { results := [.lit (.bool true)], args := [d1, d2, d3] }
  | _ => none }
def idsFindRow : OpenClaim := { program := "ytljmghaplnkohaa", sum := "aa6e2bc7a9adfa3588065ac405ff8459d3b6c067cad41bf72587b915ec94c078", func := "galliard/galliardlaw09.IdsFind", spec := "idsFind", unfollowed := true, recurses := true, apart := false }
def IdsFindSaid : Prop := idsFindRow.holds Try.pinned (OpenSpec.ofChange idsFindSpec)

/-- ITS FALSE NEIGHBOUR: 'it returns false'. Refute it at one input. -/
def idsFindWrong : ChangeSpec := { name := "idsFind", fn := fun _ => fun
  | [d1, d2, d3] => { results := [.lit (.bool false)], args := [d1, d2, d3] }
  | _ => none }
def IdsFindWrongFalsely : Prop := idsFindRow.holds Try.pinned (OpenSpec.ofChange idsFindWrong)

/-- 'galliardlaw09.IdsBad': WHATEVER THE INPUT: true; the input reads as it did. -/
def idsBadSpec : ChangeSpec := { name := "idsBad", fn := fun _ => fun
  | [d1, d2, d3] => { results := [.lit (.bool true)], args := [d1, d2, d3] }
  | _ => none }
def idsBadRow : OpenClaim := { program := "ytljmghaplnkohaa", sum := "aa6e2bc7a9adfa3588065ac405ff8459d3b6c067cad41bf72587b915ec94c078", func := "galliard/galliardlaw09.IdsBad", spec := "idsBad", unfollowed := true, recurses := true, apart := false }
def IdsBadSaid : Prop := idsBadRow.holds Try.pinned (OpenSpec.ofChange idsBadSpec)

/-- ITS FALSE NEIGHBOUR: 'it returns false'. Refute it at one input. -/
def idsBadWrong : ChangeSpec := { name := "idsBad", fn := fun _ => fun
  | [d1, d2, d3] => { results := [.lit (.bool false)], args := [d1, d2, d3] }
  | _ => none }
def IdsBadWrongFalsely : Prop := idsBadRow.holds Try.pinned (OpenSpec.ofChange idsBadWrong)

/-- 'galliardlaw09.IdsRefs': WHATEVER THE INPUT: true; the input reads as it did. -/
def idsRefsSpec : ChangeSpec := { name := "idsRefs", fn := fun _ => fun
  | [d1, d2, d3] => { results := [.lit (.bool true)], args := [d1, d2, d3] }
  | _ => none }
def idsRefsRow : OpenClaim := { program := "ytljmghaplnkohaa", sum := "aa6e2bc7a9adfa3588065ac405ff8459d3b6c067cad41bf72587b915ec94c078", func := "galliard/galliardlaw09.IdsRefs", spec := "idsRefs", unfollowed := true, recurses := true, apart := false }
def IdsRefsSaid : Prop := idsRefsRow.holds Try.pinned (OpenSpec.ofChange idsRefsSpec)

/-- ITS FALSE NEIGHBOUR: 'it returns false'. Refute it at one input. -/
def idsRefsWrong : ChangeSpec := { name := "idsRefs", fn := fun _ => fun
  | [d1, d2, d3] => { results := [.lit (.bool false)], args := [d1, d2, d3] }
  | _ => none }
def IdsRefsWrongFalsely : Prop := idsRefsRow.holds Try.pinned (OpenSpec.ofChange idsRefsWrong)

/-- 'galliardlaw10.RulesMade': WHATEVER THE INPUT: true; the input reads as it did. -/
def rulesMadeSpec : ChangeSpec := { name := "rulesMade", fn := fun _ => fun
  | [d1, d2] => { results := [.lit (.bool true)], args := [d1, d2] }
  | _ => none }
def rulesMadeRow : OpenClaim := { program := "ytljmghaplnkohaa", sum := "aa6e2bc7a9adfa3588065ac405ff8459d3b6c067cad41bf72587b915ec94c078", func := "galliard/galliardlaw10.RulesMade", spec := "rulesMade", unfollowed := true, recurses := true, apart := false }
def RulesMadeSaid : Prop := rulesMadeRow.holds Try.pinned (OpenSpec.ofChange rulesMadeSpec)

/-- ITS FALSE NEIGHBOUR: 'it returns false'. Refute it at one input. -/
def rulesMadeWrong : ChangeSpec := { name := "rulesMade", fn := fun _ => fun
  | [d1, d2] => { results := [.lit (.bool false)], args := [d1, d2] }
  | _ => none }
def RulesMadeWrongFalsely : Prop := rulesMadeRow.holds Try.pinned (OpenSpec.ofChange rulesMadeWrong)

/-- 'galliardlaw10.RulesBad': WHATEVER THE INPUT: true; the input reads as it did. -/
def rulesBadSpec : ChangeSpec := { name := "rulesBad", fn := fun _ => fun
  | [d1, d2, d3] => { results := [.lit (.bool true)], args := [d1, d2, d3] }
  | _ => none }
def rulesBadRow : OpenClaim := { program := "ytljmghaplnkohaa", sum := "aa6e2bc7a9adfa3588065ac405ff8459d3b6c067cad41bf72587b915ec94c078", func := "galliard/galliardlaw10.RulesBad", spec := "rulesBad", unfollowed := true, recurses := true, apart := false }
def RulesBadSaid : Prop := rulesBadRow.holds Try.pinned (OpenSpec.ofChange rulesBadSpec)

/-- ITS FALSE NEIGHBOUR: 'it returns false'. Refute it at one input. -/
def rulesBadWrong : ChangeSpec := { name := "rulesBad", fn := fun _ => fun
  | [d1, d2, d3] => { results := [.lit (.bool false)], args := [d1, d2, d3] }
  | _ => none }
def RulesBadWrongFalsely : Prop := rulesBadRow.holds Try.pinned (OpenSpec.ofChange rulesBadWrong)

/-- 'galliardlaw10.RulesCalls': WHATEVER THE INPUT: true; the input reads as it did. -/
def rulesCallsSpec : ChangeSpec := { name := "rulesCalls", fn := fun _ => fun
  | [d1, d2, d3] => { results := [.lit (.bool true)], args := [d1, d2, d3] }
  | _ => none }
def rulesCallsRow : OpenClaim := { program := "ytljmghaplnkohaa", sum := "aa6e2bc7a9adfa3588065ac405ff8459d3b6c067cad41bf72587b915ec94c078", func := "galliard/galliardlaw10.RulesCalls", spec := "rulesCalls", unfollowed := true, recurses := true, apart := false }
def RulesCallsSaid : Prop := rulesCallsRow.holds Try.pinned (OpenSpec.ofChange rulesCallsSpec)

/-- ITS FALSE NEIGHBOUR: 'it returns false'. Refute it at one input. -/
def rulesCallsWrong : ChangeSpec := { name := "rulesCalls", fn := fun _ => fun
  | [d1, d2, d3] => { results := [.lit (.bool false)], args := [d1, d2, d3] }
  | _ => none }
def RulesCallsWrongFalsely : Prop := rulesCallsRow.holds Try.pinned (OpenSpec.ofChange rulesCallsWrong)

/- THE SECOND FORM. 'bulk': how many values and letters a reading holds, each counted each time it is reached (what is shared counts as often as it is met; a slice's spare places count too). A statement '..UptoSaid' is the law's where the arguments, and the package variables that the reading takes, are together of bulk at most 1048576: NARROWER than '..Said'. Prove '..Said' where nothing that the law and all that it calls make is longer than what came in: it says more and counts as full. Else prove '..UptoSaid'. A law counts once. -/
mutual
def uptoBulk {H : Type} : DataW H → Nat
  | .lit (.string bytes) => bytes.length + 1
  | .lit _ => 1
  | .nil => 1
  | .ptr d => uptoBulk d + 1
  | .slice elems spare => uptoBulkAll elems + uptoBulkAll spare + 1
  | .agg parts => uptoBulkAll parts + 1
  | .iface _ d => uptoBulk d + 1
  | .map entries => uptoBulkEntries entries + 1
  | .held _ => 1
def uptoBulkAll {H : Type} : List (DataW H) → Nat
  | [] => 0
  | d :: r => uptoBulk d + uptoBulkAll r
def uptoBulkEntries {H : Type} : List (Lit × DataW H) → Nat
  | [] => 0
  | x :: r => uptoBulkEntry x + uptoBulkEntries r
def uptoBulkEntry {H : Type} : Lit × DataW H → Nat
  | (.string bytes, d) => bytes.length + uptoBulk d + 1
  | (_, d) => uptoBulk d + 1
 end
def uptoSmall : (H : Type) → List (DataW H) → Bool := fun _ ds => decide (uptoBulkAll ds ≤ 1048576)
def OpenSpec.upto (s : _root_.Go.ChangeSpec) : _root_.Go.OpenSpec := { _root_.Go.OpenSpec.ofChange s with cond := some uptoSmall }

/-- 'galliardlaw10.RulesReached', WHERE WHAT IT READS IS OF BULK AT MOST 1048576: true; the input reads as it did. -/
def rulesReachedUptoRow : OpenClaim := { program := "ytljmghaplnkohaa", sum := "aa6e2bc7a9adfa3588065ac405ff8459d3b6c067cad41bf72587b915ec94c078", func := "galliard/galliardlaw10.RulesReached", spec := "rulesReached", unfollowed := true, recurses := true, apart := false, narrowed := true }
def RulesReachedUptoSaid : Prop := rulesReachedUptoRow.holds Try.pinned (OpenSpec.upto rulesReachedSpec)

/-- 'galliardlaw09.IdsFind', WHERE WHAT IT READS IS OF BULK AT MOST 1048576: true; the input reads as it did. -/
def idsFindUptoRow : OpenClaim := { program := "ytljmghaplnkohaa", sum := "aa6e2bc7a9adfa3588065ac405ff8459d3b6c067cad41bf72587b915ec94c078", func := "galliard/galliardlaw09.IdsFind", spec := "idsFind", unfollowed := true, recurses := true, apart := false, narrowed := true }
def IdsFindUptoSaid : Prop := idsFindUptoRow.holds Try.pinned (OpenSpec.upto idsFindSpec)

/-- 'galliardlaw09.IdsBad', WHERE WHAT IT READS IS OF BULK AT MOST 1048576: true; the input reads as it did. -/
def idsBadUptoRow : OpenClaim := { program := "ytljmghaplnkohaa", sum := "aa6e2bc7a9adfa3588065ac405ff8459d3b6c067cad41bf72587b915ec94c078", func := "galliard/galliardlaw09.IdsBad", spec := "idsBad", unfollowed := true, recurses := true, apart := false, narrowed := true }
def IdsBadUptoSaid : Prop := idsBadUptoRow.holds Try.pinned (OpenSpec.upto idsBadSpec)

/-- 'galliardlaw09.IdsRefs', WHERE WHAT IT READS IS OF BULK AT MOST 1048576: true; the input reads as it did. -/
def idsRefsUptoRow : OpenClaim := { program := "ytljmghaplnkohaa", sum := "aa6e2bc7a9adfa3588065ac405ff8459d3b6c067cad41bf72587b915ec94c078", func := "galliard/galliardlaw09.IdsRefs", spec := "idsRefs", unfollowed := true, recurses := true, apart := false, narrowed := true }
def IdsRefsUptoSaid : Prop := idsRefsUptoRow.holds Try.pinned (OpenSpec.upto idsRefsSpec)

/-- 'galliardlaw10.RulesMade', WHERE WHAT IT READS IS OF BULK AT MOST 1048576: true; the input reads as it did. -/
def rulesMadeUptoRow : OpenClaim := { program := "ytljmghaplnkohaa", sum := "aa6e2bc7a9adfa3588065ac405ff8459d3b6c067cad41bf72587b915ec94c078", func := "galliard/galliardlaw10.RulesMade", spec := "rulesMade", unfollowed := true, recurses := true, apart := false, narrowed := true }
def RulesMadeUptoSaid : Prop := rulesMadeUptoRow.holds Try.pinned (OpenSpec.upto rulesMadeSpec)

/-- 'galliardlaw10.RulesBad', WHERE WHAT IT READS IS OF BULK AT MOST 1048576: true; the input reads as it did. -/
def rulesBadUptoRow : OpenClaim := { program := "ytljmghaplnkohaa", sum := "aa6e2bc7a9adfa3588065ac405ff8459d3b6c067cad41bf72587b915ec94c078", func := "galliard/galliardlaw10.RulesBad", spec := "rulesBad", unfollowed := true, recurses := true, apart := false, narrowed := true }
def RulesBadUptoSaid : Prop := rulesBadUptoRow.holds Try.pinned (OpenSpec.upto rulesBadSpec)

/-- 'galliardlaw10.RulesCalls', WHERE WHAT IT READS IS OF BULK AT MOST 1048576: true; the input reads as it did. -/
def rulesCallsUptoRow : OpenClaim := { program := "ytljmghaplnkohaa", sum := "aa6e2bc7a9adfa3588065ac405ff8459d3b6c067cad41bf72587b915ec94c078", func := "galliard/galliardlaw10.RulesCalls", spec := "rulesCalls", unfollowed := true, recurses := true, apart := false, narrowed := true }
def RulesCallsUptoSaid : Prop := rulesCallsUptoRow.holds Try.pinned (OpenSpec.upto rulesCallsSpec)

end Rows
end Go.Proofs.Ytljmghaplnkohaa
