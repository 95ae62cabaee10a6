/- Blocks that are known whole; data kept where one block of another type is written. (Beside the Graph texts: not with them.) -/
import Derived.Test.YteoioboiniealaaItem
import Derived.Laws.Rows
namespace Go.Proofs.Yteoioboiniealaa
open Go.RowKit

/-- A block that is known whole. -/
def Blk (w : World) (g : Nat) (t : TypeId) (cs : Array Value) : Prop := w.heap[g]? = some (.cells cs t (0, 0))
section
variable {w w' : World} {g : Nat} {t : TypeId} {cs : Array Value}
theorem Blk.lt (h : Blk w g t cs) : g < w.heap.size := by
  rcases Nat.lt_or_ge g w.heap.size with hlt | hge
  · exact hlt
  · unfold Blk at h; rw [Array.getElem?_eq_none hge] at h; cases h
theorem Blk.cell (h : Blk w g t cs) (i : Nat) : w.cell? ⟨g, i, none⟩ = cs[i]? := cell_of_row w g i cs t (0, 0) h
theorem Blk.frozen (h : Blk w g t cs) (i : Nat) : w.frozen? ⟨g, i, none⟩ = false := by
  unfold Blk at h
  simp [World.frozen?, h]
theorem Blk.new (w : World) (t : TypeId) (cs : Array Value) : Blk (w.alloc (.cells cs t)) w.heap.size t cs := heap_alloc_new w _
theorem Blk.alloc (h : Blk w g t cs) (o : Obj) : Blk (w.alloc o) g t cs := (Below.heap_alloc w o g h.lt).trans h
theorem Blk.set_ (h : Blk w g t cs) (i : Nat) (u : Value) : Blk (w.setCell ⟨g, i, none⟩ u) g t (cs.setIfInBounds i u) := by
  unfold Blk at h ⊢
  simp [World.setCell, Array.getElem?_modify, h]
theorem Blk.far (h : Blk w g t cs) {p : Addr} (hp : g ≠ p.block) (u : Value) : Blk (w.setCell p u) g t cs := (Below.heap_setCell w p u g hp).trans h
theorem Blk.below {B : Nat} (h : Blk w g t cs) (hb : Below B w w') (hg : g < B) : Blk w' g t cs := (hb.block g hg).trans h
theorem Blk.grown {row : Option Nat} (h : Blk w g t cs) (hb : w.grownBy w' row) (hg : some g ≠ row) : Blk w' g t cs := (hb.block g h.lt hg).trans h
end

theorem blk_own_ne {w : World} {base e size n g : Nat} {v : Value} {xs : List Value} {t : TypeId} {cs : Array Value} (h : w.ownsRow base e size v n xs) (hb : Blk w g t cs) (hne : e ≠ t) : v.ownBlock ≠ some g := by
  intro he
  rcases h.2 with ⟨rfl, _⟩ | ⟨g', cap, cur, rfl, _, hh, _⟩
  · simp [Value.ownBlock] at he
  · have : g' = g := by simpa [Value.ownBlock] using he
    subst this
    unfold Blk at hb
    rw [hh] at hb
    injection hb with hb
    injection hb with _ ht
    exact hne ht

mutual
/-- No slice of a type within. -/
def Dat.free (T : TypeId) : Dat → Prop
  | .sl e _ _ cs => e ≠ T ∧ freeL T cs
  | .int _ => True
  | .str _ => True
  | .bool _ => True
def freeL (T : TypeId) : List Dat → Prop
  | [] => True
  | d :: ds => Dat.free T d ∧ freeL T ds
end
mutual
theorem Rd.grown {w w1 : World} {m : Nat} {T : TypeId} {cs : Array Value} (hg : w.grownBy w1 (some m)) (hm : Blk w m T cs) : ∀ (d : Dat) (v : Value), Dat.free T d → Rd w d v → Rd w1 d v
  | .int _, _, _, h => by unfold Rd at *; exact h
  | .str _, _, _, h => by unfold Rd at *; exact h
  | .bool _, _, _, h => by unfold Rd at *; exact h
  | .sl e sz n ds, v, hf, h => by
    unfold Dat.free at hf
    unfold Rd at *
    obtain ⟨A, c, xs, hv, ho, hl⟩ := h
    exact ⟨A, c, xs, hv, ho.kept hg (.inr (blk_own_ne ho hm hf.1)), RdL.grown hg hm ds xs hf.2 hl⟩
theorem RdL.grown {w w1 : World} {m : Nat} {T : TypeId} {cs : Array Value} (hg : w.grownBy w1 (some m)) (hm : Blk w m T cs) : ∀ (ds : List Dat) (xs : List Value), freeL T ds → RdL w ds xs → RdL w1 ds xs
  | [], _, _, h => by unfold RdL at *; exact h
  | d :: ds, xs, hf, h => by
    unfold freeL at hf
    unfold RdL at *
    obtain ⟨v, r, hx, hd, hl⟩ := h
    exact ⟨v, r, hx, Rd.grown hg hm d v hf.1 hd, RdL.grown hg hm ds r hf.2 hl⟩
end
end Go.Proofs.Yteoioboiniealaa
