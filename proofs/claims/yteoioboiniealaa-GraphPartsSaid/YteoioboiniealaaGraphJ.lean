/- graph.Order and Round on the graph of awake. -/
import Derived.Test.YteoioboiniealaaGraphI
import Derived.Laws.Rows
namespace Go.Proofs.Yteoioboiniealaa
open Go.RowKit

/-- A block that is known whole. -/
def Blk (w : World) (g : Nat) (t : TypeId) (cs : Array Value) : Prop := w.heap[g]? = some (.cells cs t (0, 0))
section
variable {w w' : World} {g : Nat} {t : TypeId} {cs : Array Value}
theorem Blk.lt (h : Blk w g t cs) : g < w.heap.size := by
  rcases Nat.lt_or_ge g w.heap.size with hlt | hge
  · exact hlt
  · unfold Blk at h; rw [Array.getElem?_eq_none hge] at h; cases h
theorem Blk.cell (h : Blk w g t cs) (i : Nat) : w.cell? ⟨g, i, none⟩ = cs[i]? := cell_of_row w g i cs t (0, 0) h
theorem Blk.frozen (h : Blk w g t cs) (i : Nat) : w.frozen? ⟨g, i, none⟩ = false := by
  unfold Blk at h
  simp [World.frozen?, h]
theorem Blk.new (w : World) (t : TypeId) (cs : Array Value) : Blk (w.alloc (.cells cs t)) w.heap.size t cs := heap_alloc_new w _
theorem Blk.alloc (h : Blk w g t cs) (o : Obj) : Blk (w.alloc o) g t cs := (Below.heap_alloc w o g h.lt).trans h
theorem Blk.set_ (h : Blk w g t cs) (i : Nat) (u : Value) : Blk (w.setCell ⟨g, i, none⟩ u) g t (cs.setIfInBounds i u) := by
  unfold Blk at h ⊢
  simp [World.setCell, Array.getElem?_modify, h]
theorem Blk.far (h : Blk w g t cs) {p : Addr} (hp : g ≠ p.block) (u : Value) : Blk (w.setCell p u) g t cs := (Below.heap_setCell w p u g hp).trans h
theorem Blk.below {B : Nat} (h : Blk w g t cs) (hb : Below B w w') (hg : g < B) : Blk w' g t cs := (hb.block g hg).trans h
theorem Blk.grown {row : Option Nat} (h : Blk w g t cs) (hb : w.grownBy w' row) (hg : some g ≠ row) : Blk w' g t cs := (hb.block g h.lt hg).trans h
end

def gnA : GN := ⟨1, ByteArray.empty, 0, 0, 0, 0, false⟩
def gnB : GN := ⟨2, ByteArray.empty, 0, 0, 0, 0, false⟩

/-- How memory stands in Order. -/
structure OF (w : World) (g l d b : Nat) (AN : Option Addr) (cN cE : Nat) (L0 L1 : Int) (D0 D1 : Bool) (n : Nat) (v : Value) (xs : List Value) (W : World) : Prop where
  bel : Below w.heap.size w W
  gb : Blk W g 44 #[.slice none 0 0, .slice none 0 0, .slice AN 2 cN, .slice (some ⟨b, 0, none⟩) 1 cE]
  lb : Blk W l 3 #[.int .i64 L0, .int .i64 L1]
  db : Blk W d 4 #[.bool D0, .bool D1]
  eb : W.cell? ⟨b, 1, none⟩ = some (.int .i64 1)
  own : W.ownsRow (d + 1) 3 1 v n xs
  gl : g = w.heap.size ∧ g < l ∧ l < d ∧ b < g

section
variable {w W W' : World} {g l d b : Nat} {AN : Option Addr} {cN cE : Nat} {L0 L1 : Int} {D0 D1 : Bool} {n : Nat} {v : Value} {xs : List Value}
theorem OF.alloc (h : OF w g l d b AN cN cE L0 L1 D0 D1 n v xs W) (o : Obj) : OF w g l d b AN cN cE L0 L1 D0 D1 n v xs (W.alloc o) :=
  ⟨h.bel.alloc h.bel.size _, h.gb.alloc _, h.lb.alloc _, h.db.alloc _, (World.cell?_alloc_lt W _ _ (by have := h.gl; have := h.gb.lt; simp; omega)).trans h.eb, h.own.alloc _, h.gl⟩
theorem OF.below (h : OF w g l d b AN cN cE L0 L1 D0 D1 n v xs W) (hb : Below W.heap.size W W') : OF w g l d b AN cN cE L0 L1 D0 D1 n v xs W' :=
  ⟨h.bel.trans (hb.mono h.bel.size), h.gb.below hb h.gb.lt, h.lb.below hb h.lb.lt, h.db.below hb h.db.lt, (hb.cell (p := ⟨b, 1, none⟩) (by have := h.gl; have := h.gb.lt; simp; omega)).trans h.eb, own_below h.own hb, h.gl⟩
theorem own_blk_lt {base e size n : Nat} {g : Nat} {v : Value} {xs : List Value} (h : W.ownsRow base e size v n xs) (hg : g < base) : v.ownBlock ≠ some g := by
  intro he
  have := (h.lt g he).1
  omega
theorem OF.append {n' : Nat} {v' : Value} {xs' : List Value} (h : OF w g l d b AN cN cE L0 L1 D0 D1 n v xs W) (hg : W.grownBy W' v.ownBlock) (ho : W'.ownsRow (d + 1) 3 1 v' n' xs') : OF w g l d b AN cN cE L0 L1 D0 D1 n' v' xs' W' := by
  have hne : ∀ q, q ≤ d → some q ≠ v.ownBlock := fun q hq => Ne.symm (own_blk_lt h.own (by omega))
  have hgl := h.gl
  exact ⟨h.bel.grown hg h.bel.size (fun k hk => by have := (h.own.lt k hk).1; omega), h.gb.grown hg (hne _ (by omega)), h.lb.grown hg (hne _ (by omega)), h.db.grown hg (hne _ (by omega)), (World.cell?_of_block (hg.block b (by have := h.gb.lt; omega) (hne _ (by omega)))).trans h.eb, ho, h.gl⟩
theorem OF.setD0 (h : OF w g l d b AN cN cE L0 L1 D0 D1 n v xs W) (x : Bool) : OF w g l d b AN cN cE L0 L1 x D1 n v xs (W.setCell ⟨d, 0, none⟩ (.bool x)) := by
  have hgl := h.gl
  exact ⟨h.bel.setCell (by simp; omega) _, h.gb.far (by simp; omega) _, h.lb.far (by simp; omega) _, h.db.set_ 0 _, (World.cell?_setCell_other W _ _ _ (by intro e; injection e with e; omega)).trans h.eb, ownsRow_setCell_below h.own (by simp) _, h.gl⟩
theorem OF.setD1 (h : OF w g l d b AN cN cE L0 L1 D0 D1 n v xs W) (x : Bool) : OF w g l d b AN cN cE L0 L1 D0 x n v xs (W.setCell ⟨d, 1, none⟩ (.bool x)) := by
  have hgl := h.gl
  exact ⟨h.bel.setCell (by simp; omega) _, h.gb.far (by simp; omega) _, h.lb.far (by simp; omega) _, h.db.set_ 1 _, (World.cell?_setCell_other W _ _ _ (by intro e; injection e with e; omega)).trans h.eb, ownsRow_setCell_below h.own (by simp) _, h.gl⟩
theorem OF.setL1 (h : OF w g l d b AN cN cE L0 L1 D0 D1 n v xs W) (x : Int) : OF w g l d b AN cN cE L0 x D0 D1 n v xs (W.setCell ⟨l, 1, none⟩ (.int .i64 x)) := by
  have hgl := h.gl
  exact ⟨h.bel.setCell (by simp; omega) _, h.gb.far (by simp; omega) _, h.lb.set_ 1 _, h.db.far (by simp; omega) _, (World.cell?_setCell_other W _ _ _ (by intro e; injection e with e; omega)).trans h.eb, ownsRow_setCell_below h.own (by simp; omega) _, h.gl⟩
theorem OF.facts (h : OF w g l d b AN cN cE L0 L1 D0 D1 n v xs W) :
    (W.cell? ⟨g, 0, none⟩ = some (.slice none 0 0) ∧ W.cell? ⟨g, 1, none⟩ = some (.slice none 0 0) ∧ W.cell? ⟨g, 2, none⟩ = some (.slice AN 2 cN) ∧ W.cell? ⟨g, 3, none⟩ = some (.slice (some ⟨b, 0, none⟩) 1 cE)) ∧
    (W.cell? ⟨l, 0, none⟩ = some (.int .i64 L0) ∧ W.cell? ⟨l, 1, none⟩ = some (.int .i64 L1) ∧ W.frozen? ⟨l, 1, none⟩ = false) ∧
    (W.cell? ⟨d, 0, none⟩ = some (.bool D0) ∧ W.cell? ⟨d, 1, none⟩ = some (.bool D1) ∧ W.frozen? ⟨d, 0, none⟩ = false ∧ W.frozen? ⟨d, 1, none⟩ = false) ∧
    W.cell? ⟨b, 1, none⟩ = some (.int .i64 1) ∧ d < W.heap.size :=
  ⟨⟨h.gb.cell 0, h.gb.cell 1, h.gb.cell 2, h.gb.cell 3⟩, ⟨h.lb.cell 0, h.lb.cell 1, h.lb.frozen 1⟩, ⟨h.db.cell 0, h.db.cell 1, h.db.frozen 0, h.db.frozen 1⟩, h.eb, h.db.lt⟩
end

set_option maxHeartbeats 4000000 in
set_option maxRecDepth 100000 in
theorem order_awake {w : World} {AN AE : Option Addr} {cN cE : Nat} (h : Gr w none none AN AE 0 0 cN cE 0 0 [gnA, gnB] [(0, 1)]) :
    Calls Try.prog 66 #[.agg #[.slice none 0 0, .slice none 0 0, .slice AN 2 cN, .slice AE 1 cE]] w fun e w' => ∃ A c, e = .returned (.slice A 2 c) ∧ Below w.heap.size w w' := by
  obtain ⟨i0, hi0, hz0, hz1, hz2⟩ := info_parts Try.infoInt
  obtain ⟨b, rfl, hbl, _, hcell⟩ := own_at h.edges (by simp)
  have x0 : w.cell? ⟨b, 0, none⟩ = some (.int .i64 0) := hcell 0 (by simp)
  have x1 : w.cell? ⟨b, 1, none⟩ = some (.int .i64 1) := hcell 1 (by simp)
  have H := Lib.hid h
  clear h hcell
  have hmk : ∀ w : World, (Instr.makeSlice 22 (.int .i64 2) (.int .i64 2)).run Try.prog w = .ok (.slice (some ⟨w.heap.size, 0, none⟩) 2 2) (w.alloc (.cells #[.int .i64 0, .int .i64 0] 3)) := fun _ => by kernel_rfl
  have hmb : ∀ w : World, (Instr.makeSlice 142 (.int .i64 2) (.int .i64 2)).run Try.prog w = .ok (.slice (some ⟨w.heap.size, 0, none⟩) 2 2) (w.alloc (.cells #[.bool false, .bool false] 4)) := fun _ => by kernel_rfl
  go_enter Try.func66, Try.ntmps66
  go_wp2_with fail
  refine wp_loop_rounds 2 ?_
  rw [rounds_succ]
  go_wp2_with fail
  rw [rounds_succ]
  go_wp2_with fail
  have HX0 := Lib.hid x0
  have hOF : OF w w.heap.size (w.heap.size + 1) (w.heap.size + 1 + 1 + 1) b AN cN cE 0 1 false false 0 (.slice none 0 0) [] ((((w.alloc (.cells #[.slice none 0 0, .slice none 0 0, .slice AN 2 cN, .slice (some ⟨b, 0, none⟩) 1 cE] 44)).alloc (.cells #[.int .i64 0, .int .i64 1] 3)).alloc (.cells #[.int .i64 0, .int .i64 1] 53)).alloc (.cells #[.bool false, .bool false] 4)) :=
    ⟨(((((Below.refl w.heap.size w).alloc (Nat.le_refl _) _).alloc (by simp) _).alloc (by simp; omega) _).alloc (by simp; omega) _), (((Blk.new _ _ _).alloc _).alloc _).alloc _, (by have := (((Blk.new (w.alloc (.cells #[.slice none 0 0, .slice none 0 0, .slice AN 2 cN, .slice (some ⟨b, 0, none⟩) 1 cE] 44)) 3 #[.int .i64 0, .int .i64 1]).alloc (.cells #[.int .i64 0, .int .i64 1] 53)).alloc (.cells #[.bool false, .bool false] 4)); simpa using this), (by have := Blk.new (((w.alloc (.cells #[.slice none 0 0, .slice none 0 0, .slice AN 2 cN, .slice (some ⟨b, 0, none⟩) 1 cE] 44)).alloc (.cells #[.int .i64 0, .int .i64 1] 3)).alloc (.cells #[.int .i64 0, .int .i64 1] 53)) 4 #[.bool false, .bool false]; simpa using this), by
      have hb : Below w.heap.size w ((((w.alloc (.cells #[.slice none 0 0, .slice none 0 0, .slice AN 2 cN, .slice (some ⟨b, 0, none⟩) 1 cE] 44)).alloc (.cells #[.int .i64 0, .int .i64 1] 3)).alloc (.cells #[.int .i64 0, .int .i64 1] 53)).alloc (.cells #[.bool false, .bool false] 4)) := (((((Below.refl w.heap.size w).alloc (Nat.le_refl _) _).alloc (by simp) _).alloc (by simp; omega) _).alloc (by simp; omega) _)
      exact (hb.cell (p := ⟨b, 1, none⟩) hbl).trans x1, World.ownsRow_nil _ _ _ _, ⟨rfl, by omega, by omega, hbl⟩⟩
  generalize ((((w.alloc (.cells #[.slice none 0 0, .slice none 0 0, .slice AN 2 cN, .slice (some ⟨b, 0, none⟩) 1 cE] 44)).alloc (.cells #[.int .i64 0, .int .i64 1] 3)).alloc (.cells #[.int .i64 0, .int .i64 1] 53)).alloc (.cells #[.bool false, .bool false] 4)) = W at hOF ⊢
  generalize w.heap.size + 1 + 1 + 1 = d at hOF ⊢
  generalize w.heap.size + 1 = l at hOF ⊢
  clear x0 x1
  obtain ⟨⟨g0, g1, g2, g3⟩, ⟨l0, l1, fl1⟩, ⟨d0, d1, fd0, fd1⟩, e1, hdl⟩ := hOF.facts
  have HOF := Lib.hid hOF
  clear hOF
  refine wp_loop_rounds 3 ?_
  rw [rounds_succ]
  go_wp2_with fail
  refine wp_loop_rounds 1 ?_
  rw [rounds_succ]
  go_wp2_with (at_builtin; refine wpList_append_lies _ rfl (.tmp 70) (.tmp 72) _ rfl (d + 1) 3 i0 _ 1 8 Try.underlying22 hi0 hz0 hz1 hz2 rfl (by omega) _ _ _ rfl ((HOF.out.setD0 true).alloc _).own ⟨W.heap.size, 0, none⟩ 1 1 [.int .i64 0] rfl rfl (World.news_of_block (cs := #[.int .i64 0]) (t := 3) (fr := (0, 0)) (by have := heap_alloc_new (W.setCell ⟨d, 0, none⟩ (.bool true)) (.cells #[.int .i64 0] 3); simpa using this)) (by simp [Value.oneCell']) (by omega) (by unfold maxLen; omega) (by omega) (by simp; omega) (W.heap.size + 1) (by simp) ?_)
  intro gO capO w2 hown2 hgrow hat hlt3
  have hOF2 := ((HOF.out.setD0 true).alloc _).append hgrow hown2
  clear hown2 hgrow hat HOF g0 g1 g2 g3 l0 l1 fl1 d0 d1 fd0 fd1 e1 hdl
  obtain ⟨⟨g0, g1, g2, g3⟩, ⟨l0, l1, fl1⟩, ⟨d0, d1, fd0, fd1⟩, e1, hdl⟩ := hOF2.facts
  have HOF := Lib.hid hOF2
  clear hOF2
  go_wp2_with fail
  refine (out_any (own_below H.out.edges HOF.out.bel) (by simp) 0).mono ?_
  rintro e w3 ⟨A3, c3, rfl, hO3, hb3⟩
  have hp : placesFrom (fun x : Int × Int => x.1 == 0) [(0, 1)] 0 = [0] := by decide
  rw [hp] at hO3 ⊢
  clear hp
  obtain ⟨b3, rfl, hbl3, _, hcell3⟩ := own_at hO3 (by simp)
  have q0 : w3.cell? ⟨b3, 0, none⟩ = some (.int .i64 0) := hcell3 0 (by simp)
  have hOF3 := HOF.out.below hb3
  clear HOF hcell3 hO3 hb3 g0 g1 g2 g3 l0 l1 fl1 d0 d1 fd0 fd1 e1 hdl
  obtain ⟨⟨g0, g1, g2, g3⟩, ⟨l0, l1, fl1⟩, ⟨d0, d1, fd0, fd1⟩, e1, hdl⟩ := hOF3.facts
  have HOF := Lib.hid hOF3
  clear hOF3
  go_wp2_with fail
  refine wp_loop_rounds 2 ?_
  rw [rounds_succ]
  go_wp2_with fail
  have hOF4 := HOF.out.setL1 0
  clear HOF g0 g1 g2 g3 l0 l1 fl1 d0 d1 fd0 fd1 e1 hdl q0
  obtain ⟨⟨g0, g1, g2, g3⟩, ⟨l0, l1, fl1⟩, ⟨d0, d1, fd0, fd1⟩, e1, hdl⟩ := hOF4.facts
  have HOF := Lib.hid hOF4
  clear hOF4
  generalize w3.setCell ⟨l, 1, none⟩ (.int .i64 0) = w4 at *
  rw [rounds_succ]
  go_wp2_with fail
  rw [rounds_succ]
  go_wp2_with fail
  refine wp_loop_rounds 2 ?_
  rw [rounds_succ]
  go_wp2_with fail
  rw [rounds_succ]
  go_wp2_with (at_builtin; refine wpList_append_lies _ rfl (.tmp 70) (.tmp 72) _ rfl (d + 1) 3 i0 _ 1 8 Try.underlying22 hi0 hz0 hz1 hz2 rfl (by omega) _ _ _ rfl ((HOF.out.setD1 true).alloc _).own ⟨w4.heap.size, 0, none⟩ 1 1 [.int .i64 1] rfl rfl (World.news_of_block (cs := #[.int .i64 1]) (t := 3) (fr := (0, 0)) (by have := heap_alloc_new (w4.setCell ⟨d, 1, none⟩ (.bool true)) (.cells #[.int .i64 1] 3); simpa using this)) (by simp [Value.oneCell']) (by omega) (by unfold maxLen; omega) (by omega) (by simp; omega) (w4.heap.size + 1) (by simp) ?_)
  intro gP capP w5 hown5 hgrow5 hat5 hlt5
  have hOF5 := ((HOF.out.setD1 true).alloc _).append hgrow5 hown5
  clear hown5 hgrow5 hat5 HOF g0 g1 g2 g3 l0 l1 fl1 d0 d1 fd0 fd1 e1 hdl
  obtain ⟨⟨g0, g1, g2, g3⟩, ⟨l0, l1, fl1⟩, ⟨d0, d1, fd0, fd1⟩, e1, hdl⟩ := hOF5.facts
  have HOF := Lib.hid hOF5
  clear hOF5
  go_wp2_with fail
  refine (out_any (own_below H.out.edges HOF.out.bel) (by simp) 1).mono ?_
  rintro e w6 ⟨A6, c6, rfl, hO6, hb6⟩
  have hp : placesFrom (fun x : Int × Int => x.1 == 1) [(0, 1)] 0 = [] := by decide
  rw [hp]
  clear hp hO6
  have hOF6 := HOF.out.below hb6
  clear HOF hb6 g0 g1 g2 g3 l0 l1 fl1 d0 d1 fd0 fd1 e1 hdl
  obtain ⟨⟨g0, g1, g2, g3⟩, ⟨l0, l1, fl1⟩, ⟨d0, d1, fd0, fd1⟩, e1, hdl⟩ := hOF6.facts
  have HOF := Lib.hid hOF6
  clear hOF6
  go_wp2_with fail
  refine wp_loop_rounds 1 ?_
  rw [rounds_succ]
  go_wp2_with fail
  rw [rounds_succ]
  go_wp2_with fail
  refine wp_loop_rounds 3 ?_
  rw [rounds_succ]
  go_wp2_with fail
  rw [rounds_succ]
  go_wp2_with fail
  rw [rounds_succ]
  go_wp2_with fail
  go_ret
  exact ⟨_, _, rfl, HOF.out.bel⟩
end Go.Proofs.Yteoioboiniealaa
