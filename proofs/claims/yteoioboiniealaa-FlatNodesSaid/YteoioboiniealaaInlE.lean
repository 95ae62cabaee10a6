/- What inline computes, as plain functions. -/
import Derived.Test.YteoioboiniealaaInlD
import Derived.Test.YteoioboiniealaaFindB
namespace Go.Proofs.Yteoioboiniealaa
open Go.RowKit

/-- What is written on the way: message flows, how many items there were, what is wrong first. -/
structure MkS where
  flows : List FlowD
  n : Int
  e : Int
def wrongS (s : MkS) (x : Int) : MkS := ⟨s.flows, s.n, wrongF s.e x⟩
def dotS : ByteArray := ⟨#[46]⟩
def flowF (p : ByteArray) (ms : List MapD) (f : FlowD) : FlowD := ⟨p ++ f.id, whoF ms f.src, whoF ms f.dst, f.msg⟩
/-- An item that is no call, within it what has been made of it. -/
def itemF (p : ByteArray) (ms : List MapD) (x : ItemD) (within : List ItemD) : ItemD :=
  ⟨x.kind, p ++ x.id, if x.kind = 3 then whoF ms x.first else ⟨#[]⟩, x.parts.map (whoF ms), x.flows.map (p ++ ·), x.loop, ⟨#[]⟩, [], within, x.seqs.map (seqF p)⟩
def callE (p : ByteArray) (x : ItemD) : ItemD := ⟨7, p ++ x.id, ⟨#[]⟩, [], [], false, ⟨#[]⟩, [], [], []⟩
/-- One item more. -/
def stepS (s : MkS) : MkS := ⟨s.flows, s.n + 1, if 400 < s.n + 1 then wrongF s.e 5 else s.e⟩
/-- The items of a level, by what makes an item, from a state on. -/
def itemsG (one : MkS → ItemD → Option (ItemD × MkS)) : List ItemD → MkS → List ItemD → Option (List ItemD × MkS)
  | [], s, out => some (out, s)
  | x :: l, s, out =>
    if (stepS s).e ≠ 0 then some ([], stepS s) else
    match one (stepS s) x with
    | none => none
    | some (y, s2) => itemsG one l s2 (out ++ [y])
/-- A call, by what makes the items within. -/
def callG (d : DocD) (rec : ByteArray → List MapD → List ByteArray → List ItemD → MkS → Option (List ItemD × MkS)) (p : ByteArray) (ms : List MapD) (op : List ByteArray) (s : MkS) (x : ItemD) : Option (ItemD × MkS) :=
  if findFrom (fun c : ChorD => eqS c.id x.called) d.chors 0 < 0 then some (callE p x, wrongS s 6)
  else if op.any (eqS · x.called) = true then some (callE p x, wrongS s 10)
  else match d.chors[(findFrom (fun c : ChorD => eqS c.id x.called) d.chors 0).toNat]? with
    | none => none
    | some c =>
      match rec (p ++ x.id ++ dotS) (x.maps.map (chainF ms)) (op ++ [x.called]) c.items ⟨s.flows ++ c.flows.map (flowF (p ++ x.id ++ dotS) (x.maps.map (chainF ms))), s.n, if (c.items.filter (fun y => y.kind == 2)).length ≠ 1 then wrongF s.e 9 else s.e⟩ with
      | none => none
      | some r => some (⟨7, p ++ x.id, ⟨#[]⟩, [], [], false, ⟨#[]⟩, [], r.1, c.seqs.map (seqF (p ++ x.id ++ dotS))⟩, r.2)
/-- An item, by what makes the items within. -/
def oneG (d : DocD) (rec : ByteArray → List MapD → List ByteArray → List ItemD → MkS → Option (List ItemD × MkS)) (p : ByteArray) (ms : List MapD) (op : List ByteArray) (s : MkS) (x : ItemD) : Option (ItemD × MkS) :=
  if x.kind = 8 then callG d rec p ms op s x
  else match rec p ms op x.items s with
    | none => none
    | some r => some (itemF p ms x r.1, r.2)
/-- Items with a path ahead, participants as maps tell; with so much fuel. -/
def itemsF (d : DocD) : Nat → ByteArray → List MapD → List ByteArray → List ItemD → MkS → Option (List ItemD × MkS)
  | 0, _, _, _, _, _ => none
  | f + 1, p, ms, op, l, s => itemsG (oneG d (itemsF d f) p ms op) l s []
/-- A choreography of a document without calls, by its id; and what is wrong. -/
def chorF (d : DocD) (f : Nat) (id : ByteArray) : Option (ChorD × Int) :=
  let k := findFrom (fun c : ChorD => eqS c.id id) d.chors 0
  if k < 0 then some (⟨⟨#[]⟩, [], [], [], []⟩, 6) else
  match d.chors[k.toNat]? with
  | none => none
  | some c =>
    match itemsF d f ⟨#[]⟩ [] [id] c.items ⟨c.flows, 0, 0⟩ with
    | none => none
    | some (its, s) => if s.e ≠ 0 then some (⟨⟨#[]⟩, [], [], [], []⟩, s.e) else some (⟨c.id, c.parts, s.flows, its, c.seqs⟩, 0)
end Go.Proofs.Yteoioboiniealaa
