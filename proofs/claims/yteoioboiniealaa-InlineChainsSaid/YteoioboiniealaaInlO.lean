/- The law InlineChains: its documents as data, and what they come to. -/
import Derived.Test.YteoioboiniealaaInlM
namespace Go.Proofs.Yteoioboiniealaa
open Go.RowKit

def ltS (i : Nat) : ByteArray := ⟨#[UInt8.ofNat (97 + i)]⟩
/-- Which is called. -/
def toS (k i : Nat) : ByteArray := if i = k then sA else ltS (i + 1)
def chCall (k i : Nat) : ItemD := ⟨8, ltS i ++ ⟨#[120]⟩, ⟨#[]⟩, [], [], false, toS k i, [⟨toS k i ++ ⟨#[112]⟩, ltS i ++ ⟨#[113]⟩⟩, ⟨toS k i ++ ⟨#[113]⟩, ltS i ++ ⟨#[112]⟩⟩], [], []⟩
def chItems (k : Nat) (r : Bool) (i : Nat) : List ItemD := [itemK 1 (ltS i ++ ⟨#[115]⟩) ⟨#[]⟩, itemK 2 (ltS i ++ ⟨#[101]⟩) ⟨#[]⟩] ++ (if i < k ∨ r = true then [chCall k i] else [])
def chN (k : Nat) (r : Bool) (i : Nat) : ChorD := ⟨ltS i, [⟨ltS i ++ ⟨#[112]⟩, ⟨#[]⟩⟩, ⟨ltS i ++ ⟨#[113]⟩, ⟨#[]⟩⟩], [⟨ltS i ++ ⟨#[102]⟩, ltS i ++ ⟨#[112]⟩, ltS i ++ ⟨#[113]⟩, ⟨#[109]⟩⟩], chItems k r i, []⟩
def chD (k : Nat) (r : Bool) : DocD := ⟨[], (List.range (k + 1)).map (chN k r)⟩
def pathS (k : Nat) : ByteArray := (List.range k).foldl (fun p i => p ++ ltS i ++ ⟨#[120, 46]⟩) ⟨#[]⟩
def lastF (k : Nat) : FlowD := ⟨pathS k ++ ltS k ++ ⟨#[102]⟩, if k % 2 = 1 then ⟨#[97, 113]⟩ else ⟨#[97, 112]⟩, if k % 2 = 1 then ⟨#[97, 112]⟩ else ⟨#[97, 113]⟩, ⟨#[109]⟩⟩
def sameF (x y : FlowD) : Bool := x.id.toList == y.id.toList && x.src.toList == y.src.toList && x.dst.toList == y.dst.toList && x.msg.toList == y.msg.toList
def chainOk (k : Nat) : Option (ChorD × Int) → Bool
  | some (c, e) => decide (e = 0) && decide (c.flows.length = k + 1) && (match c.flows[k]? with | some f => sameF f (lastF k) | none => false)
  | none => false
theorem chain_ok (k : Nat) (h0 : 1 ≤ k) (h1 : k ≤ 4) : chainOk k (chorF (chD k false) 20 sA) = true ∧ (chD k false).chors.all smallCB = true ∧ countB (chD k false) 20 sA = true := by
  have h : k = 1 ∨ k = 2 ∨ k = 3 ∨ k = 4 := by omega
  rcases h with rfl | rfl | rfl | rfl <;> exact ⟨by decide +kernel, by decide +kernel, by decide +kernel⟩
theorem round_ok (k : Nat) (h0 : 1 ≤ k) (h1 : k ≤ 4) : errB (chorF (chD k true) 20 sA) = 10 ∧ (chD k true).chors.all smallCB = true ∧ countB (chD k true) 20 sA = true := by
  have h : k = 1 ∨ k = 2 ∨ k = 3 ∨ k = 4 := by omega
  rcases h with rfl | rfl | rfl | rfl <;> exact ⟨by decide +kernel, by decide +kernel, by decide +kernel⟩

/-- What the loop that makes the document knows of memory. -/
structure ChS (w : World) (v : Value) (n : Nat) (l : List ChorD) (cells : List Value) (W : World) : Prop where
  bel : Below w.heap.size w W
  bD : Blk W w.heap.size 61 #[.slice none 0 0, v]
  own : W.ownsRow w.heap.size 28 5 v n cells
  rd : RdPL (fun b => b ≠ w.heap.size ∧ v.ownBlock ≠ some b) W (l.flatMap chorC) cells
section
variable {w W W2 : World} {v : Value} {n : Nat} {l : List ChorD} {cells : List Value}
theorem ChS.below (h : ChS w v n l cells W) (hb : Below W.heap.size W W2) : ChS w v n l cells W2 :=
  ⟨h.bel.trans (hb.mono h.bel.size), h.bD.below hb h.bD.lt, own_below h.own hb, h.rd.below hb⟩
theorem ChS.chors (h : ChS w v n l cells W) (hn : l.length = n) : Rd W (chorsD l) v := by
  subst hn
  obtain ⟨A, c, rfl, _, _⟩ := own_slice h.own
  exact rd_sl.2 ⟨A, c, cells, rfl, own_mono h.own (Nat.zero_le _), h.rd.rd⟩
/-- A choreography more. -/
theorem ChS.push {o : Obj} {news : List Value} {c : ChorD} {gA capA : Nat} (h : ChS w v n l cells W) (hc : RdPL (fun b => b ≠ w.heap.size ∧ v.ownBlock ≠ some b) W (chorC c) news)
    (hown : W2.ownsRow w.heap.size 28 5 (.slice (some ⟨gA, 0, none⟩) (n + 1) capA) (n + 1) (cells ++ news)) (hgrow : (W.alloc o).grownBy W2 v.ownBlock) (hat : v.ownBlock = some gA ∨ gA = W.heap.size + 1) :
    ChS w (.slice (some ⟨gA, 0, none⟩) (n + 1) capA) (n + 1) (l ++ [c]) (cells ++ news) (W2.setCell ⟨w.heap.size, 1, none⟩ (.slice (some ⟨gA, 0, none⟩) (n + 1) capA)) := by
  have hb : Below w.heap.size w W2 := (h.bel.alloc h.bel.size o).grown hgrow (by have := h.bel.size; simp; omega) (fun k hk => (h.own.lt k hk).1)
  have hD := (h.bD.alloc o).grown hgrow (Ne.symm (blk_own_ne h.own h.bD (by decide)))
  have hgD := blk_own_ne hown hD (by decide)
  refine ⟨hb.setCell (Nat.le_refl _) _, hD.set_ 1 _, ownsRow_setCell_other hown hgD _, ?_⟩
  rw [List.flatMap_append, List.flatMap_cons, List.flatMap_nil, List.append_nil]
  refine RdPL.keep (S := fun b => b ≠ w.heap.size ∧ v.ownBlock ≠ some b) (w := W) (fun b hS hl => ?_) _ _ (h.rd.append hc)
  obtain ⟨h1, h2⟩ := hS
  refine ⟨?_, h1, fun e => ?_⟩
  · have e1 : (W2.setCell ⟨w.heap.size, 1, none⟩ (.slice (some ⟨gA, 0, none⟩) (n + 1) capA)).heap[b]? = W2.heap[b]? := Below.heap_setCell W2 ⟨w.heap.size, 1, none⟩ _ b h1
    rw [e1, hgrow.block b (by simp; omega) (Ne.symm h2)]
    exact heap_alloc_old W o hl
  · have e1 : gA = b := by simpa [Value.ownBlock] using e
    rcases hat with h3 | h3
    · exact h2 (by rw [h3, e1])
    · omega
end
end Go.Proofs.Yteoioboiniealaa
