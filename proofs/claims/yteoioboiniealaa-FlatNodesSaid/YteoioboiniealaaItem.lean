/- Documents as data: parts, flows, items, choreographies; how they lie in memory. -/
import Derived.Test.YteoioboiniealaaDat
namespace Go.Proofs.Yteoioboiniealaa
open Go.RowKit

/-- Are two texts the same? (as the walk says it) -/
def eqS (a b : ByteArray) : Bool := a.toList == b.toList
/-- A participant, or a message. -/
structure PartD where
  id : ByteArray
  name : ByteArray
structure FlowD where
  id : ByteArray
  src : ByteArray
  dst : ByteArray
  msg : ByteArray
structure SeqD where
  id : ByteArray
  src : ByteArray
  dst : ByteArray
structure MapD where
  inner : ByteArray
  outer : ByteArray
structure ItemD where
  kind : Int
  id : ByteArray
  first : ByteArray
  parts : List ByteArray
  flows : List ByteArray
  loop : Bool
  called : ByteArray
  maps : List MapD
  items : List ItemD
  seqs : List SeqD
structure ChorD where
  id : ByteArray
  parts : List PartD
  flows : List FlowD
  items : List ItemD
  seqs : List SeqD
structure DocD where
  msgs : List PartD
  chors : List ChorD

def strC (s : ByteArray) : List Dat := [.str s]
def partC (x : PartD) : List Dat := [.str x.id, .str x.name]
def flowC (x : FlowD) : List Dat := [.str x.id, .str x.src, .str x.dst, .str x.msg]
def seqC (x : SeqD) : List Dat := [.str x.id, .str x.src, .str x.dst]
def mapC (x : MapD) : List Dat := [.str x.inner, .str x.outer]
def strsD (l : List ByteArray) : Dat := datS 9 1 strC l
def partsD (l : List PartD) : Dat := datS 38 2 partC l
def msgsD (l : List PartD) : Dat := datS 143 2 partC l
def flowsD (l : List FlowD) : Dat := datS 40 4 flowC l
def seqsD (l : List SeqD) : Dat := datS 36 3 seqC l
def mapsD (l : List MapD) : Dat := datS 73 2 mapC l
mutual
def itemC : ItemD → List Dat
  | ⟨kind, id, first, parts, flows, loop, called, maps, items, seqs⟩ => [.int kind, .str id, .str first, strsD parts, strsD flows, .bool loop, .str called, mapsD maps, .sl 33 10 items.length (itemsC items), seqsD seqs]
def itemsC : List ItemD → List Dat
  | [] => []
  | x :: l => itemC x ++ itemsC l
end
theorem itemsC_flat : ∀ l : List ItemD, itemsC l = l.flatMap itemC
  | [] => by rw [itemsC]; rfl
  | x :: l => by rw [itemsC, itemsC_flat l]; rfl
def itemsD (l : List ItemD) : Dat := datS 33 10 itemC l
theorem itemC_eq (x : ItemD) : itemC x = [.int x.kind, .str x.id, .str x.first, strsD x.parts, strsD x.flows, .bool x.loop, .str x.called, mapsD x.maps, itemsD x.items, seqsD x.seqs] := by
  obtain ⟨kind, id, first, parts, flows, loop, called, maps, items, seqs⟩ := x
  rw [itemC, itemsC_flat]
  rfl
def chorC (x : ChorD) : List Dat := [.str x.id, partsD x.parts, flowsD x.flows, itemsD x.items, seqsD x.seqs]
def chorsD (l : List ChorD) : Dat := datS 28 5 chorC l
def docC (x : DocD) : List Dat := [msgsD x.msgs, chorsD x.chors]

theorem strC_len (x : ByteArray) : (strC x).length = 1 := rfl
theorem partC_len (x : PartD) : (partC x).length = 2 := rfl
theorem flowC_len (x : FlowD) : (flowC x).length = 4 := rfl
theorem seqC_len (x : SeqD) : (seqC x).length = 3 := rfl
theorem mapC_len (x : MapD) : (mapC x).length = 2 := rfl
theorem itemC_len (x : ItemD) : (itemC x).length = 10 := by rw [itemC_eq]; rfl
theorem chorC_len (x : ChorD) : (chorC x).length = 5 := rfl

section
variable {w : World}
/-- What the cells of a thing are. -/
theorem rd_strC {x : ByteArray} {vs : List Value} (h : RdL w (strC x) vs) : vs = [.string x] := by
  obtain ⟨_, _, rfl, h0, h⟩ := rdl_cons.1 h
  obtain rfl := rdl_nil.1 h
  rw [rd_str.1 h0]
theorem rd_partC {x : PartD} {vs : List Value} (h : RdL w (partC x) vs) : vs = [.string x.id, .string x.name] := by
  obtain ⟨_, _, rfl, h0, h⟩ := rdl_cons.1 h
  obtain ⟨_, _, rfl, h1, h⟩ := rdl_cons.1 h
  obtain rfl := rdl_nil.1 h
  rw [rd_str.1 h0, rd_str.1 h1]
theorem rd_mapC {x : MapD} {vs : List Value} (h : RdL w (mapC x) vs) : vs = [.string x.inner, .string x.outer] := by
  obtain ⟨_, _, rfl, h0, h⟩ := rdl_cons.1 h
  obtain ⟨_, _, rfl, h1, h⟩ := rdl_cons.1 h
  obtain rfl := rdl_nil.1 h
  rw [rd_str.1 h0, rd_str.1 h1]
theorem rd_seqC {x : SeqD} {vs : List Value} (h : RdL w (seqC x) vs) : vs = [.string x.id, .string x.src, .string x.dst] := by
  obtain ⟨_, _, rfl, h0, h⟩ := rdl_cons.1 h
  obtain ⟨_, _, rfl, h1, h⟩ := rdl_cons.1 h
  obtain ⟨_, _, rfl, h2, h⟩ := rdl_cons.1 h
  obtain rfl := rdl_nil.1 h
  rw [rd_str.1 h0, rd_str.1 h1, rd_str.1 h2]
theorem rd_flowC {x : FlowD} {vs : List Value} (h : RdL w (flowC x) vs) : vs = [.string x.id, .string x.src, .string x.dst, .string x.msg] := by
  obtain ⟨_, _, rfl, h0, h⟩ := rdl_cons.1 h
  obtain ⟨_, _, rfl, h1, h⟩ := rdl_cons.1 h
  obtain ⟨_, _, rfl, h2, h⟩ := rdl_cons.1 h
  obtain ⟨_, _, rfl, h3, h⟩ := rdl_cons.1 h
  obtain rfl := rdl_nil.1 h
  rw [rd_str.1 h0, rd_str.1 h1, rd_str.1 h2, rd_str.1 h3]
/-- An item's cells: five of them are slices. -/
def ItemV (w : World) (x : ItemD) (vP vF vM vI vS : Value) : Prop := Rd w (strsD x.parts) vP ∧ Rd w (strsD x.flows) vF ∧ Rd w (mapsD x.maps) vM ∧ Rd w (itemsD x.items) vI ∧ Rd w (seqsD x.seqs) vS
theorem rd_itemC {x : ItemD} {vs : List Value} : RdL w (itemC x) vs ↔ ∃ vP vF vM vI vS, vs = [.int .i64 x.kind, .string x.id, .string x.first, vP, vF, .bool x.loop, .string x.called, vM, vI, vS] ∧ ItemV w x vP vF vM vI vS := by
  rw [itemC_eq]
  constructor
  · intro h
    obtain ⟨_, _, rfl, h0, h⟩ := rdl_cons.1 h
    obtain ⟨_, _, rfl, h1, h⟩ := rdl_cons.1 h
    obtain ⟨_, _, rfl, h2, h⟩ := rdl_cons.1 h
    obtain ⟨_, _, rfl, h3, h⟩ := rdl_cons.1 h
    obtain ⟨_, _, rfl, h4, h⟩ := rdl_cons.1 h
    obtain ⟨_, _, rfl, h5, h⟩ := rdl_cons.1 h
    obtain ⟨_, _, rfl, h6, h⟩ := rdl_cons.1 h
    obtain ⟨_, _, rfl, h7, h⟩ := rdl_cons.1 h
    obtain ⟨_, _, rfl, h8, h⟩ := rdl_cons.1 h
    obtain ⟨_, _, rfl, h9, h⟩ := rdl_cons.1 h
    obtain rfl := rdl_nil.1 h
    rw [rd_int.1 h0, rd_str.1 h1, rd_str.1 h2, rd_bool.1 h5, rd_str.1 h6]
    exact ⟨_, _, _, _, _, rfl, h3, h4, h7, h8, h9⟩
  · rintro ⟨vP, vF, vM, vI, vS, rfl, h3, h4, h7, h8, h9⟩
    exact rdl_cons.2 ⟨_, _, rfl, rd_int.2 rfl, rdl_cons.2 ⟨_, _, rfl, rd_str.2 rfl, rdl_cons.2 ⟨_, _, rfl, rd_str.2 rfl, rdl_cons.2 ⟨_, _, rfl, h3, rdl_cons.2 ⟨_, _, rfl, h4, rdl_cons.2 ⟨_, _, rfl, rd_bool.2 rfl, rdl_cons.2 ⟨_, _, rfl, rd_str.2 rfl, rdl_cons.2 ⟨_, _, rfl, h7, rdl_cons.2 ⟨_, _, rfl, h8, rdl_cons.2 ⟨_, _, rfl, h9, rdl_nil.2 rfl⟩⟩⟩⟩⟩⟩⟩⟩⟩⟩
def ChorV (w : World) (x : ChorD) (vP vF vI vS : Value) : Prop := Rd w (partsD x.parts) vP ∧ Rd w (flowsD x.flows) vF ∧ Rd w (itemsD x.items) vI ∧ Rd w (seqsD x.seqs) vS
theorem rd_chorC {x : ChorD} {vs : List Value} : RdL w (chorC x) vs ↔ ∃ vP vF vI vS, vs = [.string x.id, vP, vF, vI, vS] ∧ ChorV w x vP vF vI vS := by
  constructor
  · intro h
    obtain ⟨_, _, rfl, h0, h⟩ := rdl_cons.1 h
    obtain ⟨_, _, rfl, h1, h⟩ := rdl_cons.1 h
    obtain ⟨_, _, rfl, h2, h⟩ := rdl_cons.1 h
    obtain ⟨_, _, rfl, h3, h⟩ := rdl_cons.1 h
    obtain ⟨_, _, rfl, h4, h⟩ := rdl_cons.1 h
    obtain rfl := rdl_nil.1 h
    rw [rd_str.1 h0]
    exact ⟨_, _, _, _, rfl, h1, h2, h3, h4⟩
  · rintro ⟨vP, vF, vI, vS, rfl, h1, h2, h3, h4⟩
    exact rdl_cons.2 ⟨_, _, rfl, rd_str.2 rfl, rdl_cons.2 ⟨_, _, rfl, h1, rdl_cons.2 ⟨_, _, rfl, h2, rdl_cons.2 ⟨_, _, rfl, h3, rdl_cons.2 ⟨_, _, rfl, h4, rdl_nil.2 rfl⟩⟩⟩⟩⟩
theorem ItemV.below {w1 : World} {x : ItemD} {vP vF vM vI vS : Value} (h : ItemV w x vP vF vM vI vS) (hb : Below w.heap.size w w1) : ItemV w1 x vP vF vM vI vS :=
  ⟨Rd.below hb _ _ h.1, Rd.below hb _ _ h.2.1, Rd.below hb _ _ h.2.2.1, Rd.below hb _ _ h.2.2.2.1, Rd.below hb _ _ h.2.2.2.2⟩
theorem ChorV.below {w1 : World} {x : ChorD} {vP vF vI vS : Value} (h : ChorV w x vP vF vI vS) (hb : Below w.heap.size w w1) : ChorV w1 x vP vF vI vS :=
  ⟨Rd.below hb _ _ h.1, Rd.below hb _ _ h.2.1, Rd.below hb _ _ h.2.2.1, Rd.below hb _ _ h.2.2.2⟩
end
end Go.Proofs.Yteoioboiniealaa
