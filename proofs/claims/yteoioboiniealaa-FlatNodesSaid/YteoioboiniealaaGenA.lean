/- The generator of documents (galliardref08), as plain functions. -/
import Derived.Test.YteoioboiniealaaItem
namespace Go.Proofs.Yteoioboiniealaa
open Go.RowKit

/-- A number of some; behind the last one what comes of its place. -/
def pickF (p : List Int) (i : Nat) : Nat := match p[i]? with
  | some x => (x % 16777216).toNat
  | none => i * 7919 % 65536
/-- An id by a number. -/
def idF (s : ByteArray) (n : Nat) : ByteArray := s ++ ⟨#[UInt8.ofNat (97 + n / 26 % 26), UInt8.ofNat (97 + n % 26)]⟩
/-- A choreography that is made, by picks. -/
structure MkD where
  p : List Int
  at_ : Nat
  n : Nat
  parts : List PartD
  flows : List FlowD
  items : List ItemD
  seqs : List SeqD
  pre : ByteArray
def gnameF (m : MkD) (s : ByteArray) : ByteArray := m.pre ++ idF s (m.n + 1)
def gnamedF (m : MkD) : MkD := ⟨m.p, m.at_, m.n + 1, m.parts, m.flows, m.items, m.seqs, m.pre⟩
def gnextF (m : MkD) : MkD := ⟨m.p, m.at_ + 1, m.n, m.parts, m.flows, m.items, m.seqs, m.pre⟩
def chS : ByteArray := ⟨#[115]⟩
def chT : ByteArray := ⟨#[116]⟩
def chF : ByteArray := ⟨#[102]⟩
def chG : ByteArray := ⟨#[103]⟩
def chB_ : ByteArray := ⟨#[98]⟩
def chE : ByteArray := ⟨#[101]⟩
/-- Something follows something. -/
def gseqF (m : MkD) (a b : ByteArray) : MkD := ⟨m.p, m.at_, m.n + 1, m.parts, m.flows, m.items, m.seqs ++ [⟨gnameF m chS, a, b⟩], m.pre⟩
/-- With an item more. -/
def gitemF (m : MkD) (i : ItemD) : MkD := ⟨m.p, m.at_, m.n, m.parts, m.flows, m.items ++ [i], m.seqs, m.pre⟩
def gA (m : MkD) (x : Nat) : Nat := x % 16 % m.parts.length
def gB (m : MkD) (x : Nat) : Nat := (gA m x + 1 + x / 16 % 16 % (m.parts.length - 1)) % m.parts.length
def gpart (m : MkD) (i : Nat) : ByteArray := (m.parts.getD i ⟨⟨#[]⟩, ⟨#[]⟩⟩).id
def gmsg (x : Nat) : ByteArray := ⟨#[109, UInt8.ofNat (97 + x / 256 % 16 % 3)]⟩
def gback (x : Nat) : Bool := x / 4096 % 4 == 0
def gloop (x : Nat) : Bool := x / 16384 % 8 == 0
def gtaskI (m : MkD) (x : Nat) : ItemD :=
  ⟨3, gnameF m chT, gpart m (gA m x), [gpart m (gA m x), gpart m (gB m x)], gnameF (gnamedF m) chF :: (if gback x then [gnameF (gnamedF (gnamedF m)) chF] else []), gloop x, ⟨#[]⟩, [], [], []⟩
def gtaskL (m : MkD) (x : Nat) : List FlowD :=
  ⟨gnameF (gnamedF m) chF, gpart m (gA m x), gpart m (gB m x), gmsg x⟩ :: (if gback x then [⟨gnameF (gnamedF (gnamedF m)) chF, gpart m (gB m x), gpart m (gA m x), ⟨#[109, 100]⟩⟩] else [])
/-- With a task more. -/
def gtaskF (m : MkD) (x : Nat) : MkD := ⟨m.p, m.at_, m.n + (if gback x then 3 else 2), m.parts, m.flows ++ gtaskL m x, m.items ++ [gtaskI m x], m.seqs, m.pre⟩
def gitem0 (k : Int) (id : ByteArray) : ItemD := ⟨k, id, ⟨#[]⟩, [], [], false, ⟨#[]⟩, [], [], []⟩
/-- A task behind an item. -/
def gleafF (m : MkD) (src : ByteArray) (x : Nat) : ByteArray × MkD := (gnameF m chT, gseqF (gtaskF m x) src (gnameF m chT))
def gkind (k : Nat) : Int := if k = 7 then 5 else 4
/-- The opening of a choice, or of both. -/
def gopenF (m : MkD) (src : ByteArray) (k : Nat) : MkD := gseqF (gitemF (gnamedF m) (gitem0 (gkind k) (gnameF m chG))) src (gnameF m chG)
/-- Its closing. -/
def gcloseF (m : MkD) (a s t : ByteArray) (k x : Nat) : MkD :=
  let b := gnameF m chG
  let m2 := gseqF (gseqF (gitemF (gnamedF m) (gitem0 (gkind k) b)) s b) t b
  if k ≠ 7 ∧ x / 1048576 % 4 = 0 then gseqF m2 b a else m2
/-- With a part more, behind an item, so deep at most. -/
def gpartF : Nat → MkD → ByteArray → ByteArray × MkD
  | 0, m, src => gleafF (gnextF m) src (pickF m.p m.at_ / 8)
  | d + 1, m, src =>
    let x := pickF m.p m.at_
    let k := x % 8
    let m := gnextF m
    if k < 3 ∨ 9 < m.items.length then gleafF m src (x / 8)
    else if k < 5 then
      let r := gpartF d m src
      gpartF d r.2 r.1
    else
      let a := gnameF m chG
      let r := gpartF d (gopenF m src k) a
      let q := gpartF d r.2 a
      (gnameF q.2 chG, gcloseF q.2 a r.1 q.1 k x)
/-- A start, a part, an end. -/
def glevelF (m : MkD) (deep : Nat) : MkD :=
  let a := gnameF m chB_
  let r := gpartF deep (gitemF (gnamedF m) (gitem0 1 a)) a
  let e := gnameF r.2 chE
  gseqF (gitemF (gnamedF r.2) (gitem0 2 e)) r.1 e
def gpn (i : Nat) : ByteArray := ⟨#[112, UInt8.ofNat (97 + i)]⟩
def gbeginF (p : List Int) (parts : Nat) (pre : ByteArray) : MkD := ⟨p, 0, 0, (List.range parts).map (fun i => ⟨pre ++ gpn i, ⟨#[]⟩⟩), [], [], [], pre⟩
def gmakeF (p : List Int) (pre : ByteArray) : MkD := glevelF (gbeginF p (2 + pickF p 0 % 16 % 3) pre) 3
/-- A choreography, by picks. -/
def gchorF (p : List Int) (name pre : ByteArray) : ChorD := ⟨name, (gmakeF p pre).parts, (gmakeF p pre).flows, (gmakeF p pre).items, (gmakeF p pre).seqs⟩
def gmsgsF : List PartD := [⟨⟨#[109, 97]⟩, ⟨#[111, 110, 101]⟩⟩, ⟨⟨#[109, 98]⟩, ⟨#[]⟩⟩, ⟨⟨#[109, 99]⟩, ⟨#[97, 32, 38, 32, 98]⟩⟩, ⟨⟨#[109, 100]⟩, ⟨#[]⟩⟩]
/-- A document with a choreography c. -/
def gdocF (p : List Int) : DocD := ⟨gmsgsF, [gchorF p ⟨#[99]⟩ ⟨#[]⟩]⟩
/-- The participants of c, so many that those of d have each one of their own. -/
def gmoreF (n : Nat) (l : List PartD) : List PartD := l ++ (List.range (n - l.length)).map (fun i => ⟨gpn (l.length + i), ⟨#[]⟩⟩)
def gcallF (x : ChorD) (parts : List PartD) (q : List Int) : ItemD :=
  ⟨8, ⟨#[99, 97, 108, 108]⟩, ⟨#[]⟩, [], [], false, ⟨#[100]⟩, (List.range x.parts.length).map (fun i => ⟨(x.parts.getD i ⟨⟨#[]⟩, ⟨#[]⟩⟩).id, (parts.getD ((i + pickF q 1) % parts.length) ⟨⟨#[]⟩, ⟨#[]⟩⟩).id⟩), [], []⟩
def ginF (q : List Int) (parts : List PartD) : MkD := glevelF ⟨q, 5, 0, parts, [], [], [], ⟨#[121]⟩⟩ 1
def gsubF (m : MkD) : ItemD := ⟨7, ⟨#[115, 117, 98]⟩, ⟨#[]⟩, [], [], false, ⟨#[]⟩, [], m.items, m.seqs⟩
def glastTo (l : List SeqD) : ByteArray := (l.getLastD ⟨⟨#[]⟩, ⟨#[]⟩, ⟨#[]⟩⟩).dst
def gcallS : ByteArray := ⟨#[99, 97, 108, 108]⟩
def gsubS : ByteArray := ⟨#[115, 117, 98]⟩
def gseqsF (l : List SeqD) : List SeqD :=
  l.dropLast ++ [⟨(l.getLastD ⟨⟨#[]⟩, ⟨#[]⟩, ⟨#[]⟩⟩).id, (l.getLastD ⟨⟨#[]⟩, ⟨#[]⟩, ⟨#[]⟩⟩).src, gcallS⟩, ⟨⟨#[115, 113, 49]⟩, gcallS, gsubS⟩, ⟨⟨#[115, 113, 50]⟩, gsubS, glastTo l⟩]
/-- A document with a choreography c, that calls d, and has one within it. -/
def gnestedF (p q : List Int) : DocD :=
  let x := gchorF q ⟨#[100]⟩ ⟨#[120]⟩
  let c := gchorF p ⟨#[99]⟩ ⟨#[]⟩
  let parts := gmoreF x.parts.length c.parts
  let m := ginF q parts
  ⟨gmsgsF, [⟨c.id, parts, c.flows ++ m.flows, c.items ++ [gcallF x parts q, gsubF m], gseqsF c.seqs⟩, x]⟩
end Go.Proofs.Yteoioboiniealaa
