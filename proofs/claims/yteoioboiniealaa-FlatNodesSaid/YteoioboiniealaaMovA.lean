/- The law's own word moved. -/
import Derived.Test.YteoioboiniealaaInlI
import Derived.Test.YteoioboiniealaaReg
import Derived.Deep.DeepCutAuto
namespace Go.Proofs.Yteoioboiniealaa
open Go.RowKit
attribute [local go_sem ↓] Go.wp_at_zero Go.wp_at_succ

/-- An item with a path ahead, participants as maps tell: what lies within is left out. -/
def movedF (p : ByteArray) (ms : List MapD) (x : ItemD) : ItemD :=
  ⟨x.kind, p ++ x.id, if x.kind = 3 then whoF ms x.first else ⟨#[]⟩, x.parts.map (whoF ms), x.flows.map (p ++ ·), x.loop, ⟨#[]⟩, [], [], []⟩
/-- What moved knows of memory at each round's head. -/
structure MvW (w : World) (outl : List ItemD) (cells : List Value) (ov : Value) (W : World) : Prop where
  bel : Below w.heap.size w W
  own : W.ownsRow w.heap.size 33 10 ov outl.length cells
  rd : RdPL (fun b => w.heap.size ≤ b ∧ ov.ownBlock ≠ some b) W (outl.flatMap itemC) cells
section
variable {w W W1 : World} {ov : Value} {outl : List ItemD} {cells : List Value}
theorem MvW.below (h : MvW w outl cells ov W) (k : Below W.heap.size W W1) : MvW w outl cells ov W1 :=
  ⟨h.bel.trans (k.mono h.bel.size), own_below h.own k, h.rd.below k⟩
/-- An item more. -/
theorem MvW.push {o : Obj} {y : ItemD} {vs : List Value} {gO capO : Nat} (h : MvW w outl cells ov W) (hy : RdPL (fun b => w.heap.size ≤ b ∧ ov.ownBlock ≠ some b) W (itemC y) vs)
    (hown : W1.ownsRow w.heap.size 33 10 (.slice (some ⟨gO, 0, none⟩) (outl.length + 1) capO) (outl.length + 1) (cells ++ vs)) (hgrow : (W.alloc o).grownBy W1 ov.ownBlock)
    (hat : ov.ownBlock = some gO ∨ gO = W.heap.size + 1) : MvW w (outl ++ [y]) (cells ++ vs) (.slice (some ⟨gO, 0, none⟩) (outl.length + 1) capO) W1 := by
  have hsz := h.bel.size
  have ha : Below W.heap.size W (W.alloc o) := (Below.refl _ _).alloc (Nat.le_refl _) o
  have hb : Below w.heap.size W W1 := (ha.mono hsz).grown hgrow (by simp; omega) (fun k hk => (h.own.lt k hk).1)
  refine ⟨h.bel.trans hb, ?_, ?_⟩
  · have e : (outl ++ [y]).length = outl.length + 1 := by simp
    rw [e]
    exact hown
  · have hall : RdPL (fun b => w.heap.size ≤ b ∧ ov.ownBlock ≠ some b) W ((outl ++ [y]).flatMap itemC) (cells ++ vs) := by
      have e : (outl ++ [y]).flatMap itemC = outl.flatMap itemC ++ itemC y := by simp
      rw [e]
      exact h.rd.append hy
    refine RdPL.keep (fun b hs hl => ⟨?_, hs.1, ?_⟩) _ _ hall
    · exact (hgrow.block b (by simp; omega) (fun e => hs.2 e.symm)).trans (Below.heap_alloc W o b hl)
    · show some gO ≠ some b
      intro e
      injection e with e
      rcases hat with h1 | h1
      · exact hs.2 (by rw [h1, e])
      · omega
end
/-- An item that is being made, in block g, behind the world wr. -/
structure BxV (wr : World) (g : Nat) (kind : Int) (q first : ByteArray) (loop : Bool) (pl fl : List ByteArray) (vP vF : Value) (W : World) : Prop where
  bel : Below wr.heap.size wr W
  hg : wr.heap.size ≤ g
  b : Blk W g 33 #[.int .i64 kind, .string q, .string first, vP, vF, .bool loop, .string ⟨#[]⟩, .slice none 0 0, .slice none 0 0, .slice none 0 0]
  oP : W.ownsRow wr.heap.size 9 1 vP pl.length (pl.map .string)
  oF : W.ownsRow wr.heap.size 9 1 vF fl.length (fl.map .string)
  ne : ∀ g, vF.ownBlock = some g → vP.ownBlock ≠ some g
section
variable {wr W W4 : World} {g : Nat} {kind : Int} {q first : ByteArray} {loop : Bool} {pl fl : List ByteArray} {vP vF : Value}
theorem BxV.below (h : BxV wr g kind q first loop pl fl vP vF W) (k : Below W.heap.size W W4) : BxV wr g kind q first loop pl fl vP vF W4 :=
  ⟨h.bel.trans (k.mono h.bel.size), h.hg, h.b.below k h.b.lt, own_below h.oP k, own_below h.oF k, h.ne⟩
theorem BxV.setFirst (s : ByteArray) (h : BxV wr g kind q first loop pl fl vP vF W) : BxV wr g kind q s loop pl fl vP vF (W.setCell ⟨g, 2, none⟩ (.string s)) :=
  ⟨h.bel.setCell (p := ⟨g, 2, none⟩) h.hg _, h.hg, h.b.set_ 2 _, ownsRow_setCell_other h.oP (blk_own_ne h.oP h.b (by decide)) _, ownsRow_setCell_other h.oF (blk_own_ne h.oF h.b (by decide)) _, h.ne⟩
theorem BxV.part {o : Obj} {s : ByteArray} {gA capA : Nat} (h : BxV wr g kind q first loop pl fl vP vF W)
    (hown : W4.ownsRow wr.heap.size 9 1 (Value.slice (some ⟨gA, 0, none⟩) (pl.length + 1) capA) (pl.length + 1) (pl.map .string ++ [.string s])) (hgrow : (W.alloc o).grownBy W4 vP.ownBlock) (hat : vP.ownBlock = some gA ∨ gA = W.heap.size + 1) :
    BxV wr g kind q first loop (pl ++ [s]) fl (Value.slice (some ⟨gA, 0, none⟩) (pl.length + 1) capA) vF (W4.setCell ⟨g, 3, none⟩ (Value.slice (some ⟨gA, 0, none⟩) (pl.length + 1) capA)) := by
  have ha : Below W.heap.size W (W.alloc o) := (Below.refl _ _).alloc (Nat.le_refl _) o
  have hsz := h.bel.size
  have hb : Below wr.heap.size W W4 := (ha.mono hsz).grown hgrow (by simp; omega) (fun k hk => (h.oP.lt k hk).1)
  have h14 : Blk W4 g 33 _ := (h.b.alloc o).grown hgrow (Ne.symm (blk_own_ne h.oP h.b (by decide)))
  have hgA : gA ≠ g := fun e => (blk_own_ne hown h14 (by decide)) (by simp [Value.ownBlock, e])
  have hoth : W4.ownsRow wr.heap.size 9 1 vF fl.length (fl.map .string) := (h.oF.alloc o).kept hgrow (by
    rcases hv : vF.ownBlock with _ | g
    · exact .inl rfl
    · refine .inr (fun e => ?_)
      exact h.ne g hv e.symm)
  refine ⟨(h.bel.trans hb).setCell (p := ⟨g, 3, none⟩) h.hg _, h.hg, h14.set_ 3 _, ?_, ownsRow_setCell_other hoth (blk_own_ne hoth h14 (by decide)) _, ?_⟩
  · have e : (pl ++ [s]).length = pl.length + 1 := by simp
    rw [e, List.map_append]
    exact ownsRow_setCell_other hown (by simpa [Value.ownBlock] using hgA) _
  · intro g hg e
    have e1 : gA = g := by simpa [Value.ownBlock] using e
    rcases hat with h1 | h1
    · exact h.ne g hg (by rw [h1, e1])
    · have := (h.oF.lt g hg).2
      omega
theorem BxV.flow {o : Obj} {s : ByteArray} {gA capA : Nat} (h : BxV wr g kind q first loop pl fl vP vF W)
    (hown : W4.ownsRow wr.heap.size 9 1 (Value.slice (some ⟨gA, 0, none⟩) (fl.length + 1) capA) (fl.length + 1) (fl.map .string ++ [.string s])) (hgrow : (W.alloc o).grownBy W4 vF.ownBlock) (hat : vF.ownBlock = some gA ∨ gA = W.heap.size + 1) :
    BxV wr g kind q first loop pl (fl ++ [s]) vP (Value.slice (some ⟨gA, 0, none⟩) (fl.length + 1) capA) (W4.setCell ⟨g, 4, none⟩ (Value.slice (some ⟨gA, 0, none⟩) (fl.length + 1) capA)) := by
  have ha : Below W.heap.size W (W.alloc o) := (Below.refl _ _).alloc (Nat.le_refl _) o
  have hsz := h.bel.size
  have hb : Below wr.heap.size W W4 := (ha.mono hsz).grown hgrow (by simp; omega) (fun k hk => (h.oF.lt k hk).1)
  have h14 : Blk W4 g 33 _ := (h.b.alloc o).grown hgrow (Ne.symm (blk_own_ne h.oF h.b (by decide)))
  have hgA : gA ≠ g := fun e => (blk_own_ne hown h14 (by decide)) (by simp [Value.ownBlock, e])
  have hoth : W4.ownsRow wr.heap.size 9 1 vP pl.length (pl.map .string) := (h.oP.alloc o).kept hgrow (by
    rcases hv : vP.ownBlock with _ | g
    · exact .inl rfl
    · refine .inr (fun e => ?_)
      exact h.ne g e.symm hv)
  refine ⟨(h.bel.trans hb).setCell (p := ⟨g, 4, none⟩) h.hg _, h.hg, h14.set_ 4 _, ownsRow_setCell_other hoth (blk_own_ne hoth h14 (by decide)) _, ?_, ?_⟩
  · have e : (fl ++ [s]).length = fl.length + 1 := by simp
    rw [e, List.map_append]
    exact ownsRow_setCell_other hown (by simpa [Value.ownBlock] using hgA) _
  · intro g hg e
    have e1 : gA = g := by simpa [Value.ownBlock] using hg
    rcases hat with h1 | h1
    · exact h.ne gA h1 (by rw [e1]; exact e)
    · have := (h.oP.lt g e).2
      omega
end
end Go.Proofs.Yteoioboiniealaa
