/- The place of the first thing that has a property. -/
import Derived.Test.YteoioboiniealaaKit
namespace Go.Proofs.Yteoioboiniealaa
/-- The place of the first one, from a number on, that has a property; -1: there is none. -/
def findFrom {α : Type} (p : α → Bool) : List α → Nat → Int
  | [], _ => -1
  | x :: l, k => if p x = true then (k : Int) else findFrom p l (k + 1)
end Go.Proofs.Yteoioboiniealaa
