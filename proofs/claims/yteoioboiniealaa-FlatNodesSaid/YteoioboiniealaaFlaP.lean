/- Plain law of flat: choreographies without any within: whether a graph comes of them. -/
import Derived.Test.YteoioboiniealaaFlaD
namespace Go.Proofs.Yteoioboiniealaa
open Go.RowKit

section
variable (ps : List ByteArray) (fl : List FlowD)
/-- What holds of an item that is none within: something is made of it; what is wrong stays so. -/
structure OneR (i : ItemD) (s : FS) (r : Int × Int) (s' : FS) : Prop where
  e : s.e = 6 → s'.e = 6
  nodes : s'.nodes.length = s.nodes.length + 1
  edges : s'.edges = s.edges
  msgs : s'.msgs.length ≤ s.msgs.length + i.flows.length
  in_ : r.1 = (s.nodes.length : Int)
  out : r.2 = (s.nodes.length : Int)
end
end Go.Proofs.Yteoioboiniealaa
