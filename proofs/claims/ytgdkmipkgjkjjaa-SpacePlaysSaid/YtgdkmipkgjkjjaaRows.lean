/-
  No cell of these rows narrows 'for every input' (looked for: loops, veiled, ifaces, maps, wideKeys, modest, calm, conditions, laid).
  DERIVED. THE GIVEN ROWS OF THIS SEAT. 9 by the template 'for every input the law returns true; each argument reads behind the call as it read before'; 0 by the template 'total and deterministic' (their statements: YtgdkmipkgjkjjaaTotals.lean).
  GIVEN WITH THE SEED: the statements are not yours to turn. If you find one false, say at which input.
  Laid BY PROGRAM, IN A SANDBOX (cutbox-rows.mjs): the forced cells as the released guide's own fill.sh prints them over the translation 2a7f79f970ad0396… (all of the seat's roots in one cut). By AI agents, Wed Nov 11 2026. No macro, syntax, notation, axiom, sorry.
-/
import Derived.Test.YtgdkmipkgjkjjaaChecked
import GoSem.Claim
import GoSem.ClaimJoined
import GoSem.ClaimMapViews
import Derived.JoinedTies
import Derived.KernelRfl
namespace Go.Proofs.Ytgdkmipkgjkjjaa
/- THE CELL 'sum', in the pinned program and in every row, IS THE sha256 OF THE DUMP (.gsa) THAT YtgdkmipkgjkjjaaProg.lean LOADS. Nothing in Lean hashes anything: it is a label: what it is worth is what the hold of that sum in a sandbox is worth. -/
noncomputable def Try.pinned : Pinned := { name := "ytgdkmipkgjkjjaa", sum := "2a7f79f970ad03962fc3ac5df2e35a5b6a04392b5e94ec453069c140ae474e7e", checked := Try.checked }
namespace Rows
def none {H : Type} : Left H := { results := [], args := [] }

/-- 'galliardlaw01.UtfBack': WHATEVER THE INPUT: true; the input reads as it did. -/
def utfBackSpec : ChangeSpec := { name := "utfBack", fn := fun _ => fun
  | [d1, d2] => { results := [.lit (.bool true)], args := [d1, d2] }
  | _ => none }
def utfBackRow : OpenClaim := { program := "ytgdkmipkgjkjjaa", sum := "2a7f79f970ad03962fc3ac5df2e35a5b6a04392b5e94ec453069c140ae474e7e", func := "galliard/galliardlaw01.UtfBack", spec := "utfBack", apart := false }
def UtfBackSaid : Prop := utfBackRow.holds Try.pinned (OpenSpec.ofChange utfBackSpec)

/-- ITS FALSE NEIGHBOUR: 'it returns false'. Refute it at one input. -/
def utfBackWrong : ChangeSpec := { name := "utfBack", fn := fun _ => fun
  | [d1, d2] => { results := [.lit (.bool false)], args := [d1, d2] }
  | _ => none }
def UtfBackWrongFalsely : Prop := utfBackRow.holds Try.pinned (OpenSpec.ofChange utfBackWrong)

/-- 'galliardlaw01.UtfGet': WHATEVER THE INPUT: true; the input reads as it did. -/
def utfGetSpec : ChangeSpec := { name := "utfGet", fn := fun _ => fun
  | [d1, d2] => { results := [.lit (.bool true)], args := [d1, d2] }
  | _ => none }
def utfGetRow : OpenClaim := { program := "ytgdkmipkgjkjjaa", sum := "2a7f79f970ad03962fc3ac5df2e35a5b6a04392b5e94ec453069c140ae474e7e", func := "galliard/galliardlaw01.UtfGet", spec := "utfGet", apart := false }
def UtfGetSaid : Prop := utfGetRow.holds Try.pinned (OpenSpec.ofChange utfGetSpec)

/-- ITS FALSE NEIGHBOUR: 'it returns false'. Refute it at one input. -/
def utfGetWrong : ChangeSpec := { name := "utfGet", fn := fun _ => fun
  | [d1, d2] => { results := [.lit (.bool false)], args := [d1, d2] }
  | _ => none }
def UtfGetWrongFalsely : Prop := utfGetRow.holds Try.pinned (OpenSpec.ofChange utfGetWrong)

/-- 'galliardlaw01.UtfBad': WHATEVER THE INPUT: true; the input reads as it did. -/
def utfBadSpec : ChangeSpec := { name := "utfBad", fn := fun _ => fun
  | [d] => { results := [.lit (.bool true)], args := [d] }
  | _ => none }
def utfBadRow : OpenClaim := { program := "ytgdkmipkgjkjjaa", sum := "2a7f79f970ad03962fc3ac5df2e35a5b6a04392b5e94ec453069c140ae474e7e", func := "galliard/galliardlaw01.UtfBad", spec := "utfBad", apart := false }
def UtfBadSaid : Prop := utfBadRow.holds Try.pinned (OpenSpec.ofChange utfBadSpec)

/-- ITS FALSE NEIGHBOUR: 'it returns false'. Refute it at one input. -/
def utfBadWrong : ChangeSpec := { name := "utfBad", fn := fun _ => fun
  | [d] => { results := [.lit (.bool false)], args := [d] }
  | _ => none }
def UtfBadWrongFalsely : Prop := utfBadRow.holds Try.pinned (OpenSpec.ofChange utfBadWrong)

/-- 'galliardlaw02.CharsNames': WHATEVER THE INPUT: true; the input reads as it did. -/
def charsNamesSpec : ChangeSpec := { name := "charsNames", fn := fun _ => fun
  | [d1, d2] => { results := [.lit (.bool true)], args := [d1, d2] }
  | _ => none }
def charsNamesRow : OpenClaim := { program := "ytgdkmipkgjkjjaa", sum := "2a7f79f970ad03962fc3ac5df2e35a5b6a04392b5e94ec453069c140ae474e7e", func := "galliard/galliardlaw02.CharsNames", spec := "charsNames", apart := false }
def CharsNamesSaid : Prop := charsNamesRow.holds Try.pinned (OpenSpec.ofChange charsNamesSpec)

/-- ITS FALSE NEIGHBOUR: 'it returns false'. Refute it at one input. -/
def charsNamesWrong : ChangeSpec := { name := "charsNames", fn := fun _ => fun
  | [d1, d2] => { results := [.lit (.bool false)], args := [d1, d2] }
  | _ => none }
def CharsNamesWrongFalsely : Prop := charsNamesRow.holds Try.pinned (OpenSpec.ofChange charsNamesWrong)

/-- 'galliardlaw02.CharsBlanks': WHATEVER THE INPUT: true; the input reads as it did. -/
def charsBlanksSpec : ChangeSpec := { name := "charsBlanks", fn := fun _ => fun
  | [d1, d2] => { results := [.lit (.bool true)], args := [d1, d2] }
  | _ => none }
def charsBlanksRow : OpenClaim := { program := "ytgdkmipkgjkjjaa", sum := "2a7f79f970ad03962fc3ac5df2e35a5b6a04392b5e94ec453069c140ae474e7e", func := "galliard/galliardlaw02.CharsBlanks", spec := "charsBlanks", apart := false }
def CharsBlanksSaid : Prop := charsBlanksRow.holds Try.pinned (OpenSpec.ofChange charsBlanksSpec)

/-- ITS FALSE NEIGHBOUR: 'it returns false'. Refute it at one input. -/
def charsBlanksWrong : ChangeSpec := { name := "charsBlanks", fn := fun _ => fun
  | [d1, d2] => { results := [.lit (.bool false)], args := [d1, d2] }
  | _ => none }
def CharsBlanksWrongFalsely : Prop := charsBlanksRow.holds Try.pinned (OpenSpec.ofChange charsBlanksWrong)

/-- 'galliardlaw02.CharsLetters': WHATEVER THE INPUT: true; the input reads as it did. -/
def charsLettersSpec : ChangeSpec := { name := "charsLetters", fn := fun _ => fun
  | [d1, d2] => { results := [.lit (.bool true)], args := [d1, d2] }
  | _ => none }
def charsLettersRow : OpenClaim := { program := "ytgdkmipkgjkjjaa", sum := "2a7f79f970ad03962fc3ac5df2e35a5b6a04392b5e94ec453069c140ae474e7e", func := "galliard/galliardlaw02.CharsLetters", spec := "charsLetters", apart := false }
def CharsLettersSaid : Prop := charsLettersRow.holds Try.pinned (OpenSpec.ofChange charsLettersSpec)

/-- ITS FALSE NEIGHBOUR: 'it returns false'. Refute it at one input. -/
def charsLettersWrong : ChangeSpec := { name := "charsLetters", fn := fun _ => fun
  | [d1, d2] => { results := [.lit (.bool false)], args := [d1, d2] }
  | _ => none }
def CharsLettersWrongFalsely : Prop := charsLettersRow.holds Try.pinned (OpenSpec.ofChange charsLettersWrong)

/-- 'galliardlaw05.SpaceMost': WHATEVER THE INPUT: true; the input reads as it did. -/
def spaceMostSpec : ChangeSpec := { name := "spaceMost", fn := fun _ => fun
  | [d] => { results := [.lit (.bool true)], args := [d] }
  | _ => none }
def spaceMostRow : OpenClaim := { program := "ytgdkmipkgjkjjaa", sum := "2a7f79f970ad03962fc3ac5df2e35a5b6a04392b5e94ec453069c140ae474e7e", func := "galliard/galliardlaw05.SpaceMost", spec := "spaceMost", apart := false }
def SpaceMostSaid : Prop := spaceMostRow.holds Try.pinned (OpenSpec.ofChange spaceMostSpec)

/-- ITS FALSE NEIGHBOUR: 'it returns false'. Refute it at one input. -/
def spaceMostWrong : ChangeSpec := { name := "spaceMost", fn := fun _ => fun
  | [d] => { results := [.lit (.bool false)], args := [d] }
  | _ => none }
def SpaceMostWrongFalsely : Prop := spaceMostRow.holds Try.pinned (OpenSpec.ofChange spaceMostWrong)

/-- 'galliardlaw05.SpacePlays': WHATEVER THE INPUT: true; the input reads as it did. -/
def spacePlaysSpec : ChangeSpec := { name := "spacePlays", fn := fun _ => fun
  | [d] => { results := [.lit (.bool true)], args := [d] }
  | _ => none }
def spacePlaysRow : OpenClaim := { program := "ytgdkmipkgjkjjaa", sum := "2a7f79f970ad03962fc3ac5df2e35a5b6a04392b5e94ec453069c140ae474e7e", func := "galliard/galliardlaw05.SpacePlays", spec := "spacePlays", apart := false }
def SpacePlaysSaid : Prop := spacePlaysRow.holds Try.pinned (OpenSpec.ofChange spacePlaysSpec)

/-- ITS FALSE NEIGHBOUR: 'it returns false'. Refute it at one input. -/
def spacePlaysWrong : ChangeSpec := { name := "spacePlays", fn := fun _ => fun
  | [d] => { results := [.lit (.bool false)], args := [d] }
  | _ => none }
def SpacePlaysWrongFalsely : Prop := spacePlaysRow.holds Try.pinned (OpenSpec.ofChange spacePlaysWrong)

/-- 'galliardlaw05.SpaceNames': WHATEVER THE INPUT: true; the input reads as it did. -/
def spaceNamesSpec : ChangeSpec := { name := "spaceNames", fn := fun _ => fun
  | [d1, d2] => { results := [.lit (.bool true)], args := [d1, d2] }
  | _ => none }
def spaceNamesRow : OpenClaim := { program := "ytgdkmipkgjkjjaa", sum := "2a7f79f970ad03962fc3ac5df2e35a5b6a04392b5e94ec453069c140ae474e7e", func := "galliard/galliardlaw05.SpaceNames", spec := "spaceNames", apart := false }
def SpaceNamesSaid : Prop := spaceNamesRow.holds Try.pinned (OpenSpec.ofChange spaceNamesSpec)

/-- ITS FALSE NEIGHBOUR: 'it returns false'. Refute it at one input. -/
def spaceNamesWrong : ChangeSpec := { name := "spaceNames", fn := fun _ => fun
  | [d1, d2] => { results := [.lit (.bool false)], args := [d1, d2] }
  | _ => none }
def SpaceNamesWrongFalsely : Prop := spaceNamesRow.holds Try.pinned (OpenSpec.ofChange spaceNamesWrong)

/- THE SECOND FORM. 'bulk': how many values and letters a reading holds, each counted each time it is reached (what is shared counts as often as it is met; a slice's spare places count too). A statement '..UptoSaid' is the law's where the arguments, and the package variables that the reading takes, are together of bulk at most 1048576: NARROWER than '..Said'. Prove '..Said' where nothing that the law and all that it calls make is longer than what came in: it says more and counts as full. Else prove '..UptoSaid'. A law counts once. -/
mutual
def uptoBulk {H : Type} : DataW H → Nat
  | .lit (.string bytes) => bytes.length + 1
  | .lit _ => 1
  | .nil => 1
  | .ptr d => uptoBulk d + 1
  | .slice elems spare => uptoBulkAll elems + uptoBulkAll spare + 1
  | .agg parts => uptoBulkAll parts + 1
  | .iface _ d => uptoBulk d + 1
  | .map entries => uptoBulkEntries entries + 1
  | .held _ => 1
def uptoBulkAll {H : Type} : List (DataW H) → Nat
  | [] => 0
  | d :: r => uptoBulk d + uptoBulkAll r
def uptoBulkEntries {H : Type} : List (Lit × DataW H) → Nat
  | [] => 0
  | x :: r => uptoBulkEntry x + uptoBulkEntries r
def uptoBulkEntry {H : Type} : Lit × DataW H → Nat
  | (.string bytes, d) => bytes.length + uptoBulk d + 1
  | (_, d) => uptoBulk d + 1
 end
def uptoSmall : (H : Type) → List (DataW H) → Bool := fun _ ds => decide (uptoBulkAll ds ≤ 1048576)
def OpenSpec.upto (s : _root_.Go.ChangeSpec) : _root_.Go.OpenSpec := { _root_.Go.OpenSpec.ofChange s with cond := some uptoSmall }

/-- 'galliardlaw01.UtfBack', WHERE WHAT IT READS IS OF BULK AT MOST 1048576: true; the input reads as it did. -/
def utfBackUptoRow : OpenClaim := { program := "ytgdkmipkgjkjjaa", sum := "2a7f79f970ad03962fc3ac5df2e35a5b6a04392b5e94ec453069c140ae474e7e", func := "galliard/galliardlaw01.UtfBack", spec := "utfBack", apart := false, narrowed := true }
def UtfBackUptoSaid : Prop := utfBackUptoRow.holds Try.pinned (OpenSpec.upto utfBackSpec)

/-- 'galliardlaw01.UtfGet', WHERE WHAT IT READS IS OF BULK AT MOST 1048576: true; the input reads as it did. -/
def utfGetUptoRow : OpenClaim := { program := "ytgdkmipkgjkjjaa", sum := "2a7f79f970ad03962fc3ac5df2e35a5b6a04392b5e94ec453069c140ae474e7e", func := "galliard/galliardlaw01.UtfGet", spec := "utfGet", apart := false, narrowed := true }
def UtfGetUptoSaid : Prop := utfGetUptoRow.holds Try.pinned (OpenSpec.upto utfGetSpec)

/-- 'galliardlaw01.UtfBad', WHERE WHAT IT READS IS OF BULK AT MOST 1048576: true; the input reads as it did. -/
def utfBadUptoRow : OpenClaim := { program := "ytgdkmipkgjkjjaa", sum := "2a7f79f970ad03962fc3ac5df2e35a5b6a04392b5e94ec453069c140ae474e7e", func := "galliard/galliardlaw01.UtfBad", spec := "utfBad", apart := false, narrowed := true }
def UtfBadUptoSaid : Prop := utfBadUptoRow.holds Try.pinned (OpenSpec.upto utfBadSpec)

/-- 'galliardlaw02.CharsNames', WHERE WHAT IT READS IS OF BULK AT MOST 1048576: true; the input reads as it did. -/
def charsNamesUptoRow : OpenClaim := { program := "ytgdkmipkgjkjjaa", sum := "2a7f79f970ad03962fc3ac5df2e35a5b6a04392b5e94ec453069c140ae474e7e", func := "galliard/galliardlaw02.CharsNames", spec := "charsNames", apart := false, narrowed := true }
def CharsNamesUptoSaid : Prop := charsNamesUptoRow.holds Try.pinned (OpenSpec.upto charsNamesSpec)

/-- 'galliardlaw02.CharsBlanks', WHERE WHAT IT READS IS OF BULK AT MOST 1048576: true; the input reads as it did. -/
def charsBlanksUptoRow : OpenClaim := { program := "ytgdkmipkgjkjjaa", sum := "2a7f79f970ad03962fc3ac5df2e35a5b6a04392b5e94ec453069c140ae474e7e", func := "galliard/galliardlaw02.CharsBlanks", spec := "charsBlanks", apart := false, narrowed := true }
def CharsBlanksUptoSaid : Prop := charsBlanksUptoRow.holds Try.pinned (OpenSpec.upto charsBlanksSpec)

/-- 'galliardlaw02.CharsLetters', WHERE WHAT IT READS IS OF BULK AT MOST 1048576: true; the input reads as it did. -/
def charsLettersUptoRow : OpenClaim := { program := "ytgdkmipkgjkjjaa", sum := "2a7f79f970ad03962fc3ac5df2e35a5b6a04392b5e94ec453069c140ae474e7e", func := "galliard/galliardlaw02.CharsLetters", spec := "charsLetters", apart := false, narrowed := true }
def CharsLettersUptoSaid : Prop := charsLettersUptoRow.holds Try.pinned (OpenSpec.upto charsLettersSpec)

/-- 'galliardlaw05.SpaceMost', WHERE WHAT IT READS IS OF BULK AT MOST 1048576: true; the input reads as it did. -/
def spaceMostUptoRow : OpenClaim := { program := "ytgdkmipkgjkjjaa", sum := "2a7f79f970ad03962fc3ac5df2e35a5b6a04392b5e94ec453069c140ae474e7e", func := "galliard/galliardlaw05.SpaceMost", spec := "spaceMost", apart := false, narrowed := true }
def SpaceMostUptoSaid : Prop := spaceMostUptoRow.holds Try.pinned (OpenSpec.upto spaceMostSpec)

/-- 'galliardlaw05.SpacePlays', WHERE WHAT IT READS IS OF BULK AT MOST 1048576: true; the input reads as it did. -/
def spacePlaysUptoRow : OpenClaim := { program := "ytgdkmipkgjkjjaa", sum := "2a7f79f970ad03962fc3ac5df2e35a5b6a04392b5e94ec453069c140ae474e7e", func := "galliard/galliardlaw05.SpacePlays", spec := "spacePlays", apart := false, narrowed := true }
def SpacePlaysUptoSaid : Prop := spacePlaysUptoRow.holds Try.pinned (OpenSpec.upto spacePlaysSpec)

/-- 'galliardlaw05.SpaceNames', WHERE WHAT IT READS IS OF BULK AT MOST 1048576: true; the input reads as it did. -/
def spaceNamesUptoRow : OpenClaim := { program := "ytgdkmipkgjkjjaa", sum := "2a7f79f970ad03962fc3ac5df2e35a5b6a04392b5e94ec453069c140ae474e7e", func := "galliard/galliardlaw05.SpaceNames", spec := "spaceNames", apart := false, narrowed := true }
def SpaceNamesUptoSaid : Prop := spaceNamesUptoRow.holds Try.pinned (OpenSpec.upto spaceNamesSpec)

end Rows
end Go.Proofs.Ytgdkmipkgjkjjaa
