/-
  DERIVED. GIVEN WITH THE SEED: THE CARDS: each row of YtgdkmipkgjkjjaaDoorRows.lean that lists a variable, with what it lists TIED to the program's text (the seventh form; the later family's looks); each row that meets fmt, with fmt's text TOLD by the authors' own Lean function (tested against real Go, not proved from fmt's source: count such statements apart). THE CARD IS WHAT COUNTS. Prove the row's statement (the work); the ties are given (YtgdkmipkgjkjjaaDoorTie.lean); close each card by the builder's one call (the guide's Derived/Test/ToyasCard.lean, 'card_holds'). Laid BY PROGRAM, IN A SANDBOX (cutbox-door.mjs). By AI agents, Wed Nov 11 2026. No macro, syntax, notation, axiom, sorry.
-/
import Derived.Test.YtgdkmipkgjkjjaaDoorRows
import GoSem.ClaimSeven
namespace Go.Proofs.YtgdkmipkgjkjjaaDoor
namespace Rows

/-- THE TIED CARD OF 'galliardlaw03.EntityBack'. -/
def entityBackCard : Claim7 := { stood := { row := entityBackRow, standIns := [], harness := (true, "2f172b91aa03ff9aa18c333b5e33253e0c870bc840d0700bcee0a94b756797b4"), looks := false }, kinds := [], alts := [], laidByText := true, laidKinds := [.data], laidTests := true, laidLooks := .later }
def EntityBackCardSaid : Prop := Claim7.holds Tryd.pinned (.plain (OpenSpec.ofChange entityBackSpec)) entityBackCard

/-- THE TIED CARD OF 'galliardlaw03.EntityNumbers'. -/
def entityNumbersCard : Claim7 := { stood := { row := entityNumbersRow, standIns := [], harness := (true, "2f172b91aa03ff9aa18c333b5e33253e0c870bc840d0700bcee0a94b756797b4"), looks := false }, kinds := [], alts := [], laidByText := true, laidKinds := [.data], laidTests := true, laidLooks := .later }
def EntityNumbersCardSaid : Prop := Claim7.holds Tryd.pinned (.plain (OpenSpec.ofChange entityNumbersSpec)) entityNumbersCard

/-- THE TIED CARD OF 'galliardlaw03.EntityAny'. -/
def entityAnyCard : Claim7 := { stood := { row := entityAnyRow, standIns := [], harness := (true, "2f172b91aa03ff9aa18c333b5e33253e0c870bc840d0700bcee0a94b756797b4"), looks := false }, kinds := [], alts := [], laidByText := true, laidKinds := [.data], laidTests := true, laidLooks := .later }
def EntityAnyCardSaid : Prop := Claim7.holds Tryd.pinned (.plain (OpenSpec.ofChange entityAnySpec)) entityAnyCard

/-- THE SECOND FORM's CARD OF 'galliardlaw03.EntityBack'. -/
def entityBackUptoCard : Claim7 := { stood := { row := entityBackUptoRow, standIns := [], harness := (true, "2f172b91aa03ff9aa18c333b5e33253e0c870bc840d0700bcee0a94b756797b4"), looks := false }, kinds := [], alts := [], laidByText := true, laidKinds := [.data], laidTests := true, laidLooks := .later }
def EntityBackUptoCardSaid : Prop := Claim7.holds Tryd.pinned (.plain (OpenSpec.upto entityBackSpec)) entityBackUptoCard

/-- THE SECOND FORM's CARD OF 'galliardlaw03.EntityNumbers'. -/
def entityNumbersUptoCard : Claim7 := { stood := { row := entityNumbersUptoRow, standIns := [], harness := (true, "2f172b91aa03ff9aa18c333b5e33253e0c870bc840d0700bcee0a94b756797b4"), looks := false }, kinds := [], alts := [], laidByText := true, laidKinds := [.data], laidTests := true, laidLooks := .later }
def EntityNumbersUptoCardSaid : Prop := Claim7.holds Tryd.pinned (.plain (OpenSpec.upto entityNumbersSpec)) entityNumbersUptoCard

/-- THE SECOND FORM's CARD OF 'galliardlaw03.EntityAny'. -/
def entityAnyUptoCard : Claim7 := { stood := { row := entityAnyUptoRow, standIns := [], harness := (true, "2f172b91aa03ff9aa18c333b5e33253e0c870bc840d0700bcee0a94b756797b4"), looks := false }, kinds := [], alts := [], laidByText := true, laidKinds := [.data], laidTests := true, laidLooks := .later }
def EntityAnyUptoCardSaid : Prop := Claim7.holds Tryd.pinned (.plain (OpenSpec.upto entityAnySpec)) entityAnyUptoCard
end Rows
end Go.Proofs.YtgdkmipkgjkjjaaDoor
