/- What the walk of InlineCalls knows of memory: the choreography that is wanted, while it is made. -/
import Derived.Test.YteoioboiniealaaInlT
import Derived.Test.YteoioboiniealaaInlR
import Derived.Test.YteoioboiniealaaSamB
namespace Go.Proofs.Yteoioboiniealaa
open Go.RowKit

mutual
/-- What reads has all its blocks in memory. -/
theorem Rd.rdpAll {w : World} : ∀ (d : Dat) (v : Value), Rd w d v → RdP (fun b => b < w.heap.size) w d v
  | .int _, _, h => by unfold Rd at h; unfold RdP; exact h
  | .str _, _, h => by unfold Rd at h; unfold RdP; exact h
  | .bool _, _, h => by unfold Rd at h; unfold RdP; exact h
  | .sl _ _ _ ds, v, h => by
    unfold Rd at h
    unfold RdP
    obtain ⟨A, c, xs, hv, ho, hl⟩ := h
    subst hv
    exact ⟨A, c, xs, rfl, ho, fun b hb => (ho.lt b hb).2, RdL.rdpAll ds xs hl⟩
theorem RdL.rdpAll {w : World} : ∀ (ds : List Dat) (xs : List Value), RdL w ds xs → RdPL (fun b => b < w.heap.size) w ds xs
  | [], _, h => by unfold RdL at h; unfold RdPL; exact h
  | d :: ds, xs, h => by
    unfold RdL at h
    unfold RdPL
    obtain ⟨v, r, hx, hd, hl⟩ := h
    exact ⟨v, r, hx, Rd.rdpAll d v hd, RdL.rdpAll ds r hl⟩
end
/-- The choreography that is wanted lies in block g, made behind the world W0; gy: an item's block that nothing of it reads. -/
structure LW (W0 : World) (g gy : Nat) (vP vS : Value) (fl : List FlowD) (its : List ItemD) (cells : List Value) (vF vI : Value) (W : World) : Prop where
  bel : Below W0.heap.size W0 W
  hg : W0.heap.size ≤ g
  b : Blk W g 28 #[.string ⟨#[99]⟩, vP, vF, vI, vS]
  oF : W.ownsRow W0.heap.size 40 4 vF fl.length (fl.flatMap flowV)
  oI : W.ownsRow W0.heap.size 33 10 vI its.length cells
  rd : RdPL (fun b => vI.ownBlock ≠ some b ∧ vF.ownBlock ≠ some b ∧ b ≠ g ∧ b ≠ gy) W (its.flatMap itemC) cells
  ny : vI.ownBlock ≠ some gy
section
variable {W0 W U : World} {g gy : Nat} {vP vS : Value} {fl : List FlowD} {its : List ItemD} {cells : List Value} {vF vI : Value}
theorem LW.below (h : LW W0 g gy vP vS fl its cells vF vI W) (k : Below W.heap.size W U) : LW W0 g gy vP vS fl its cells vF vI U :=
  ⟨h.bel.trans (k.mono h.bel.size), h.hg, h.b.below k h.b.lt, own_below h.oF k, own_below h.oI k, h.rd.below k, h.ny⟩
/-- A block for an item. -/
theorem LW.open_ (h : LW W0 g gy vP vS fl its cells vF vI W) (o : Obj) : LW W0 g W.heap.size vP vS fl its cells vF vI (W.alloc o) := by
  have k : Below W.heap.size W (W.alloc o) := (Below.refl _ _).alloc (Nat.le_refl _) o
  exact ⟨h.bel.trans (k.mono h.bel.size), h.hg, h.b.below k h.b.lt, own_below h.oF k, own_below h.oI k,
    RdPL.keep (fun b hs hl => ⟨k.block b hl, hs.1, hs.2.1, hs.2.2.1, by omega⟩) _ _ h.rd, fun e => by have := (h.oI.lt _ e).2; omega⟩
/-- The item's block is written. -/
theorem LW.put (h : LW W0 g gy vP vS fl its cells vF vI W) {cs : Array Value} (hb : Blk W gy 33 cs) (hy : W0.heap.size ≤ gy) (vs : List Value) : LW W0 g gy vP vS fl its cells vF vI (putAll W gy 0 vs) := by
  have hne : g ≠ gy := blk_ne h.b hb (by decide)
  exact ⟨putAll_below hy vs 0 W h.bel, h.hg, (putAll_heap vs 0 W g hne).trans h.b, own_putAll h.oF (blk_own_ne h.oF hb (by decide)) vs 0, own_putAll h.oI h.ny vs 0,
    RdPL.keep (fun b hs _ => ⟨putAll_heap vs 0 W b hs.2.2.2, hs⟩) _ _ h.rd, h.ny⟩
/-- A message flow more. -/
theorem LW.flow {o : Obj} {f : FlowD} {gA capA : Nat} (h : LW W0 g gy vP vS fl its cells vF vI W)
    (hown : U.ownsRow W0.heap.size 40 4 (.slice (some ⟨gA, 0, none⟩) (fl.length + 1) capA) (fl.length + 1) (fl.flatMap flowV ++ flowV f)) (hgrow : (W.alloc o).grownBy U vF.ownBlock) (hat : vF.ownBlock = some gA ∨ gA = W.heap.size + 1)
    {cs : Array Value} (hby : Blk W gy 33 cs) :
    LW W0 g gy vP vS (fl ++ [f]) its cells (.slice (some ⟨gA, 0, none⟩) (fl.length + 1) capA) vI (U.setCell ⟨g, 2, none⟩ (.slice (some ⟨gA, 0, none⟩) (fl.length + 1) capA)) ∧ Blk (U.setCell ⟨g, 2, none⟩ (.slice (some ⟨gA, 0, none⟩) (fl.length + 1) capA)) gy 33 cs := by
  have ha : Below W.heap.size W (W.alloc o) := (Below.refl _ _).alloc (Nat.le_refl _) o
  have hsz := h.bel.size
  have hb : Below W0.heap.size W U := (ha.mono hsz).grown hgrow (by simp; omega) (fun k hk => (h.oF.lt k hk).1)
  have h14 : Blk U g 28 _ := (h.b.alloc o).grown hgrow (Ne.symm (blk_own_ne h.oF h.b (by decide)))
  have hy4 : Blk U gy 33 cs := (hby.alloc o).grown hgrow (Ne.symm (blk_own_ne h.oF hby (by decide)))
  have hgA : gA ≠ g := fun e => (blk_own_ne hown h14 (by decide)) (by simp [Value.ownBlock, e])
  have hI : U.ownsRow W0.heap.size 33 10 vI its.length cells := (h.oI.alloc o).kept hgrow (by
    rcases hv : vI.ownBlock with _ | q
    · exact .inl rfl
    · exact .inr (fun e => own_ne h.oI h.oF (by decide) q hv e.symm))
  have hgy : gy ≠ g := Ne.symm (blk_ne h.b hby (by decide))
  refine ⟨⟨(h.bel.trans hb).setCell (p := ⟨g, 2, none⟩) h.hg _, h.hg, h14.set_ 2 _, ?_, ownsRow_setCell_other hI (blk_own_ne hI h14 (by decide)) _, ?_, h.ny⟩, hy4.far (by exact hgy) _⟩
  · have e : (fl ++ [f]).length = fl.length + 1 := by simp
    have e2 : (fl ++ [f]).flatMap flowV = fl.flatMap flowV ++ flowV f := by simp
    rw [e, e2]
    exact ownsRow_setCell_other hown (by simpa [Value.ownBlock] using hgA) _
  · refine RdPL.keep (fun b hs hl => ⟨?_, hs.1, ?_, hs.2.2⟩) _ _ h.rd
    · exact (Below.heap_setCell U ⟨g, 2, none⟩ _ b hs.2.2.1).trans ((hgrow.block b (by simp; omega) (fun e => hs.2.1 e.symm)).trans (Below.heap_alloc W o b hl))
    · show some gA ≠ some b
      intro e
      injection e with e
      rcases hat with h1 | h1
      · exact hs.2.1 (by rw [h1, e])
      · omega
/-- An item more. -/
theorem LW.item {o : Obj} {y : ItemD} {vs : List Value} {gA capA : Nat} (h : LW W0 g gy vP vS fl its cells vF vI W) (hy : RdPL (fun b => vI.ownBlock ≠ some b ∧ vF.ownBlock ≠ some b ∧ b ≠ g ∧ b ≠ gy) W (itemC y) vs)
    (hown : U.ownsRow W0.heap.size 33 10 (.slice (some ⟨gA, 0, none⟩) (its.length + 1) capA) (its.length + 1) (cells ++ vs)) (hgrow : (W.alloc o).grownBy U vI.ownBlock) (hat : vI.ownBlock = some gA ∨ gA = W.heap.size + 1) :
    LW W0 g g vP vS fl (its ++ [y]) (cells ++ vs) vF (.slice (some ⟨gA, 0, none⟩) (its.length + 1) capA) (U.setCell ⟨g, 3, none⟩ (.slice (some ⟨gA, 0, none⟩) (its.length + 1) capA)) := by
  have ha : Below W.heap.size W (W.alloc o) := (Below.refl _ _).alloc (Nat.le_refl _) o
  have hsz := h.bel.size
  have hb : Below W0.heap.size W U := (ha.mono hsz).grown hgrow (by simp; omega) (fun k hk => (h.oI.lt k hk).1)
  have h14 : Blk U g 28 _ := (h.b.alloc o).grown hgrow (Ne.symm (blk_own_ne h.oI h.b (by decide)))
  have hgA : gA ≠ g := fun e => (blk_own_ne hown h14 (by decide)) (by simp [Value.ownBlock, e])
  have hF : U.ownsRow W0.heap.size 40 4 vF fl.length (fl.flatMap flowV) := (h.oF.alloc o).kept hgrow (by
    rcases hv : vF.ownBlock with _ | q
    · exact .inl rfl
    · exact .inr (fun e => own_ne h.oF h.oI (by decide) q hv e.symm))
  refine ⟨(h.bel.trans hb).setCell (p := ⟨g, 3, none⟩) h.hg _, h.hg, h14.set_ 3 _, ownsRow_setCell_other hF (blk_own_ne hF h14 (by decide)) _, ?_, ?_, by simpa [Value.ownBlock] using hgA⟩
  · have e : (its ++ [y]).length = its.length + 1 := by simp
    rw [e]
    exact ownsRow_setCell_other hown (by simpa [Value.ownBlock] using hgA) _
  · have hall : RdPL (fun b => vI.ownBlock ≠ some b ∧ vF.ownBlock ≠ some b ∧ b ≠ g ∧ b ≠ gy) W ((its ++ [y]).flatMap itemC) (cells ++ vs) := by
      have e : (its ++ [y]).flatMap itemC = its.flatMap itemC ++ itemC y := by simp
      rw [e]
      exact h.rd.append hy
    refine RdPL.keep (fun b hs hl => ⟨?_, ?_, hs.2.1, hs.2.2.1, hs.2.2.1⟩) _ _ hall
    · exact (Below.heap_setCell U ⟨g, 3, none⟩ _ b hs.2.2.1).trans ((hgrow.block b (by simp; omega) (fun e => hs.1 e.symm)).trans (Below.heap_alloc W o b hl))
    · show some gA ≠ some b
      intro e
      injection e with e
      rcases hat with h1 | h1
      · exact hs.1 (by rw [h1, e])
      · omega
end
/-- An item in a block of its own, its data apart from what is made. -/
def YV (g gy : Nat) (vF vI : Value) (y : ItemD) (W : World) : Prop :=
  ∃ A3 c3 A4 c4 A7 c7 A8 c8 A9 c9, Blk W gy 33 #[.int .i64 y.kind, .string y.id, .string y.first, .slice A3 y.parts.length c3, .slice A4 y.flows.length c4, .bool y.loop, .string y.called, .slice A7 y.maps.length c7, .slice A8 y.items.length c8, .slice A9 y.seqs.length c9] ∧
    RdPL (fun b => vI.ownBlock ≠ some b ∧ vF.ownBlock ≠ some b ∧ b ≠ g ∧ b ≠ gy) W (itemC y) [.int .i64 y.kind, .string y.id, .string y.first, .slice A3 y.parts.length c3, .slice A4 y.flows.length c4, .bool y.loop, .string y.called, .slice A7 y.maps.length c7, .slice A8 y.items.length c8, .slice A9 y.seqs.length c9]
end Go.Proofs.Yteoioboiniealaa
