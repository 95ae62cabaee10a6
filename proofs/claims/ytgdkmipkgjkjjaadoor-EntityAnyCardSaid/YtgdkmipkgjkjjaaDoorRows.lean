/-
  NARROWER THAN 'FOR EVERY INPUT', by the rows' own cells (each row's printed sentence says how): EntityBack: laid · EntityNumbers: laid · EntityAny: laid.
  DERIVED. THE GIVEN ROWS OF THIS SEAT. 3 by the template 'for every input the law returns true; each argument reads behind the call as it read before'; 0 by the template 'total and deterministic' (their statements: YtgdkmipkgjkjjaaDoorTotals.lean).
  GIVEN WITH THE SEED: the statements are not yours to turn. If you find one false, say at which input.
  Laid BY PROGRAM, IN A SANDBOX (cutbox-rows.mjs): the forced cells as the released guide's own fill.sh prints them over the translation 119c09e8cef4d778… (all of the seat's roots in one cut). By AI agents, Wed Nov 11 2026. No macro, syntax, notation, axiom, sorry.
-/
import Derived.Test.YtgdkmipkgjkjjaaDoorChecked
import GoSem.Claim
import GoSem.ClaimJoined
import GoSem.ClaimMapViews
import Derived.JoinedTies
import Derived.KernelRfl
namespace Go.Proofs.YtgdkmipkgjkjjaaDoor
/- THE CELL 'sum', in the pinned program and in every row, IS THE sha256 OF THE DUMP (.gsa) THAT YtgdkmipkgjkjjaaDoorProg.lean LOADS. Nothing in Lean hashes anything: it is a label: what it is worth is what the hold of that sum in a sandbox is worth. -/
noncomputable def Tryd.pinned : Pinned := { name := "ytgdkmipkgjkjjaadoor", sum := "119c09e8cef4d77826b9768952e6ce947f64472dba0f8fa62a37a285fc7904d7", checked := Tryd.checked }
namespace Rows
def none {H : Type} : Left H := { results := [], args := [] }

/- WHAT THE LISTED PACKAGE-LEVEL VARIABLES READ AS WHEN THE CALL BEGINS. Each datum BY PROGRAM (the guide's laid-datum.mjs) off the statement by which the dump's own 'gosem.cut.vars' lays the variable. In a bare row this is a premise. The card (YtgdkmipkgjkjjaaDoorCards.lean) ties it to the program's text. -/
def laid_galliard_entity_names {H : Type} : DataW H := .agg [.agg [.lit (.string [97, 109, 112]), .lit (.int .i64 38)], .agg [.lit (.string [108, 116]), .lit (.int .i64 60)], .agg [.lit (.string [103, 116]), .lit (.int .i64 62)], .agg [.lit (.string [113, 117, 111, 116]), .lit (.int .i64 34)], .agg [.lit (.string [97, 112, 111, 115]), .lit (.int .i64 39)]]

/-- 'galliardlaw03.EntityBack': WHATEVER THE INPUT: true; the input reads as it did. -/
def entityBackSpec : ChangeSpec := { name := "entityBack", fn := fun _ => fun
  | [d] => { results := [.lit (.bool true)], args := [d] }
  | _ => none }
def entityBackRow : OpenClaim := { program := "ytgdkmipkgjkjjaadoor", sum := "119c09e8cef4d77826b9768952e6ce947f64472dba0f8fa62a37a285fc7904d7", func := "galliard/galliardlaw03.EntityBack", spec := "entityBack", inPlace := ["internal/abi.NoEscape", "internal/bytealg.IndexByteString"], named := ["galliard/entity.names"], apart := false, laid := [("galliard/entity.names", laid_galliard_entity_names)] }
def EntityBackSaid : Prop := entityBackRow.holds Tryd.pinned (OpenSpec.ofChange entityBackSpec)

/-- ITS FALSE NEIGHBOUR: 'it returns false'. Refute it at one input. -/
def entityBackWrong : ChangeSpec := { name := "entityBack", fn := fun _ => fun
  | [d] => { results := [.lit (.bool false)], args := [d] }
  | _ => none }
def EntityBackWrongFalsely : Prop := entityBackRow.holds Tryd.pinned (OpenSpec.ofChange entityBackWrong)

/-- 'galliardlaw03.EntityNumbers': WHATEVER THE INPUT: true; the input reads as it did. -/
def entityNumbersSpec : ChangeSpec := { name := "entityNumbers", fn := fun _ => fun
  | [d] => { results := [.lit (.bool true)], args := [d] }
  | _ => none }
def entityNumbersRow : OpenClaim := { program := "ytgdkmipkgjkjjaadoor", sum := "119c09e8cef4d77826b9768952e6ce947f64472dba0f8fa62a37a285fc7904d7", func := "galliard/galliardlaw03.EntityNumbers", spec := "entityNumbers", inPlace := ["internal/abi.NoEscape", "internal/bytealg.IndexByteString"], recurses := true, named := ["galliard/entity.names"], apart := false, laid := [("galliard/entity.names", laid_galliard_entity_names)] }
def EntityNumbersSaid : Prop := entityNumbersRow.holds Tryd.pinned (OpenSpec.ofChange entityNumbersSpec)

/-- ITS FALSE NEIGHBOUR: 'it returns false'. Refute it at one input. -/
def entityNumbersWrong : ChangeSpec := { name := "entityNumbers", fn := fun _ => fun
  | [d] => { results := [.lit (.bool false)], args := [d] }
  | _ => none }
def EntityNumbersWrongFalsely : Prop := entityNumbersRow.holds Tryd.pinned (OpenSpec.ofChange entityNumbersWrong)

/-- 'galliardlaw03.EntityAny': WHATEVER THE INPUT: true; the input reads as it did. -/
def entityAnySpec : ChangeSpec := { name := "entityAny", fn := fun _ => fun
  | [d] => { results := [.lit (.bool true)], args := [d] }
  | _ => none }
def entityAnyRow : OpenClaim := { program := "ytgdkmipkgjkjjaadoor", sum := "119c09e8cef4d77826b9768952e6ce947f64472dba0f8fa62a37a285fc7904d7", func := "galliard/galliardlaw03.EntityAny", spec := "entityAny", inPlace := ["internal/abi.NoEscape", "internal/bytealg.IndexByteString"], named := ["galliard/entity.names"], apart := false, laid := [("galliard/entity.names", laid_galliard_entity_names)] }
def EntityAnySaid : Prop := entityAnyRow.holds Tryd.pinned (OpenSpec.ofChange entityAnySpec)

/-- ITS FALSE NEIGHBOUR: 'it returns false'. Refute it at one input. -/
def entityAnyWrong : ChangeSpec := { name := "entityAny", fn := fun _ => fun
  | [d] => { results := [.lit (.bool false)], args := [d] }
  | _ => none }
def EntityAnyWrongFalsely : Prop := entityAnyRow.holds Tryd.pinned (OpenSpec.ofChange entityAnyWrong)

/- THE SECOND FORM. 'bulk': how many values and letters a reading holds, each counted each time it is reached (what is shared counts as often as it is met; a slice's spare places count too). A statement '..UptoSaid' is the law's where the arguments, and the package variables that the reading takes, are together of bulk at most 1048576: NARROWER than '..Said'. Prove '..Said' where nothing that the law and all that it calls make is longer than what came in: it says more and counts as full. Else prove '..UptoSaid'. A law counts once. -/
mutual
def uptoBulk {H : Type} : DataW H → Nat
  | .lit (.string bytes) => bytes.length + 1
  | .lit _ => 1
  | .nil => 1
  | .ptr d => uptoBulk d + 1
  | .slice elems spare => uptoBulkAll elems + uptoBulkAll spare + 1
  | .agg parts => uptoBulkAll parts + 1
  | .iface _ d => uptoBulk d + 1
  | .map entries => uptoBulkEntries entries + 1
  | .held _ => 1
def uptoBulkAll {H : Type} : List (DataW H) → Nat
  | [] => 0
  | d :: r => uptoBulk d + uptoBulkAll r
def uptoBulkEntries {H : Type} : List (Lit × DataW H) → Nat
  | [] => 0
  | x :: r => uptoBulkEntry x + uptoBulkEntries r
def uptoBulkEntry {H : Type} : Lit × DataW H → Nat
  | (.string bytes, d) => bytes.length + uptoBulk d + 1
  | (_, d) => uptoBulk d + 1
 end
def uptoSmall : (H : Type) → List (DataW H) → Bool := fun _ ds => decide (uptoBulkAll ds ≤ 1048576)
def OpenSpec.upto (s : _root_.Go.ChangeSpec) : _root_.Go.OpenSpec := { _root_.Go.OpenSpec.ofChange s with cond := some uptoSmall }

/-- 'galliardlaw03.EntityBack', WHERE WHAT IT READS IS OF BULK AT MOST 1048576: true; the input reads as it did. -/
def entityBackUptoRow : OpenClaim := { program := "ytgdkmipkgjkjjaadoor", sum := "119c09e8cef4d77826b9768952e6ce947f64472dba0f8fa62a37a285fc7904d7", func := "galliard/galliardlaw03.EntityBack", spec := "entityBack", inPlace := ["internal/abi.NoEscape", "internal/bytealg.IndexByteString"], named := ["galliard/entity.names"], apart := false, laid := [("galliard/entity.names", laid_galliard_entity_names)], narrowed := true }
def EntityBackUptoSaid : Prop := entityBackUptoRow.holds Tryd.pinned (OpenSpec.upto entityBackSpec)

/-- 'galliardlaw03.EntityNumbers', WHERE WHAT IT READS IS OF BULK AT MOST 1048576: true; the input reads as it did. -/
def entityNumbersUptoRow : OpenClaim := { program := "ytgdkmipkgjkjjaadoor", sum := "119c09e8cef4d77826b9768952e6ce947f64472dba0f8fa62a37a285fc7904d7", func := "galliard/galliardlaw03.EntityNumbers", spec := "entityNumbers", inPlace := ["internal/abi.NoEscape", "internal/bytealg.IndexByteString"], recurses := true, named := ["galliard/entity.names"], apart := false, laid := [("galliard/entity.names", laid_galliard_entity_names)], narrowed := true }
def EntityNumbersUptoSaid : Prop := entityNumbersUptoRow.holds Tryd.pinned (OpenSpec.upto entityNumbersSpec)

/-- 'galliardlaw03.EntityAny', WHERE WHAT IT READS IS OF BULK AT MOST 1048576: true; the input reads as it did. -/
def entityAnyUptoRow : OpenClaim := { program := "ytgdkmipkgjkjjaadoor", sum := "119c09e8cef4d77826b9768952e6ce947f64472dba0f8fa62a37a285fc7904d7", func := "galliard/galliardlaw03.EntityAny", spec := "entityAny", inPlace := ["internal/abi.NoEscape", "internal/bytealg.IndexByteString"], named := ["galliard/entity.names"], apart := false, laid := [("galliard/entity.names", laid_galliard_entity_names)], narrowed := true }
def EntityAnyUptoSaid : Prop := entityAnyUptoRow.holds Tryd.pinned (OpenSpec.upto entityAnySpec)

end Rows
end Go.Proofs.YtgdkmipkgjkjjaaDoor
