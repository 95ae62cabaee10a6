/- What the generator's part does to a maker, in plain words; memory for its walk. -/
import Derived.Test.YteoioboiniealaaGenT
namespace Go.Proofs.Yteoioboiniealaa
open Go.RowKit

/-- A maker that has grown by so much at most. -/
structure GrowM (k : Nat) (m m' : MkD) : Prop where
  p : m'.p = m.p
  parts : m'.parts = m.parts
  pre : m'.pre = m.pre
  at_ : m'.at_ ≤ m.at_ + k
  n : m'.n ≤ m.n + k
  flows : m'.flows.length ≤ m.flows.length + k
  items : m'.items.length ≤ m.items.length + k
  seqs : m'.seqs.length ≤ m.seqs.length + k
theorem GrowM.refl (m : MkD) : GrowM 0 m m := ⟨rfl, rfl, rfl, Nat.le_refl _, Nat.le_refl _, Nat.le_refl _, Nat.le_refl _, Nat.le_refl _⟩
theorem GrowM.trans {k l : Nat} {m m1 m2 : MkD} (h : GrowM k m m1) (g : GrowM l m1 m2) : GrowM (k + l) m m2 :=
  ⟨g.p.trans h.p, g.parts.trans h.parts, g.pre.trans h.pre, by have := h.at_; have := g.at_; omega, by have := h.n; have := g.n; omega, by have := h.flows; have := g.flows; omega, by have := h.items; have := g.items; omega, by have := h.seqs; have := g.seqs; omega⟩
theorem GrowM.mono {k l : Nat} {m m1 : MkD} (h : GrowM k m m1) (hl : k ≤ l) : GrowM l m m1 :=
  ⟨h.p, h.parts, h.pre, by have := h.at_; omega, by have := h.n; omega, by have := h.flows; omega, by have := h.items; omega, by have := h.seqs; omega⟩
theorem GrowM.small {k K : Nat} {m m1 : MkD} (h : GrowM k m m1) (hs : SmallM K m) : SmallM (K + k) m1 :=
  ⟨by rw [h.pre]; exact hs.pre, by rw [h.p]; exact hs.pl, by have := h.at_; have := hs.at_; omega, by have := h.n; have := hs.n; omega, by have := h.flows; have := hs.flows; omega, by have := h.items; have := hs.items; omega, by have := h.seqs; have := hs.seqs; omega⟩
theorem grow_next (m : MkD) : GrowM 1 m (gnextF m) := ⟨rfl, rfl, rfl, Nat.le_refl _, Nat.le_succ _, Nat.le_succ _, Nat.le_succ _, Nat.le_succ _⟩
theorem grow_named (m : MkD) : GrowM 1 m (gnamedF m) := ⟨rfl, rfl, rfl, Nat.le_succ _, Nat.le_refl _, Nat.le_succ _, Nat.le_succ _, Nat.le_succ _⟩
theorem grow_item (m : MkD) (i : ItemD) : GrowM 1 m (gitemF m i) := ⟨rfl, rfl, rfl, Nat.le_succ _, Nat.le_succ _, Nat.le_succ _, by simp [gitemF], Nat.le_succ _⟩
theorem grow_seq (m : MkD) (a b : ByteArray) : GrowM 1 m (gseqF m a b) := ⟨rfl, rfl, rfl, Nat.le_succ _, Nat.le_refl _, Nat.le_succ _, Nat.le_succ _, by simp [gseqF]⟩
theorem grow_task (m : MkD) (x : Nat) : GrowM 3 m (gtaskF m x) := by
  refine ⟨rfl, rfl, rfl, Nat.le_add_right _ _, ?_, ?_, by simp [gtaskF], Nat.le_add_right _ _⟩
  · unfold gtaskF; cases gback x <;> simp
  · unfold gtaskF gtaskL; cases gback x <;> simp <;> omega
/-- How much a part adds at most. -/
def gG : Nat → Nat
  | 0 => 5
  | d + 1 => 2 * gG d + 9
theorem gG_pos : ∀ d, 5 ≤ gG d
  | 0 => Nat.le_refl _
  | d + 1 => by have := gG_pos d; show _ ≤ 2 * gG d + 9; omega
theorem gG_ge : ∀ d, d ≤ gG d
  | 0 => Nat.zero_le _
  | d + 1 => by have := gG_ge d; show _ ≤ 2 * gG d + 9; omega
theorem grow_leaf (m : MkD) (src : ByteArray) (x : Nat) : GrowM 4 m (gleafF m src x).2 := (grow_task m x).trans (grow_seq _ _ _)
theorem grow_open (m : MkD) (src : ByteArray) (k : Nat) : GrowM 3 m (gopenF m src k) := ((grow_named m).trans (grow_item _ _)).trans (grow_seq _ _ _)
theorem grow_close (m : MkD) (a s t : ByteArray) (k x : Nat) : GrowM 5 m (gcloseF m a s t k x) := by
  have h := (((grow_named m).trans (grow_item _ (gitem0 (gkind k) (gnameF m chG)))).trans (grow_seq _ s (gnameF m chG))).trans (grow_seq _ t (gnameF m chG))
  unfold gcloseF
  dsimp only
  split
  · exact h.trans (grow_seq _ _ _)
  · exact h.mono (by omega)
theorem gpartF_leaf {d : Nat} {m : MkD} {src : ByteArray} (h : d = 0 ∨ pickF m.p m.at_ % 8 < 3 ∨ 9 < m.items.length) : gpartF d m src = gleafF (gnextF m) src (pickF m.p m.at_ / 8) := by
  cases d with
  | zero => rfl
  | succ d =>
    unfold gpartF
    dsimp only
    rw [if_pos]
    rcases h with h | h
    · omega
    · exact h
theorem gpartF_seq {e : Nat} {m : MkD} {src : ByteArray} (h : ¬ (pickF m.p m.at_ % 8 < 3 ∨ 9 < m.items.length)) (h5 : pickF m.p m.at_ % 8 < 5) : gpartF (e + 1) m src = gpartF e (gpartF e (gnextF m) src).2 (gpartF e (gnextF m) src).1 := by
  conv => lhs; unfold gpartF
  dsimp only
  have h' : ¬ (pickF m.p m.at_ % 8 < 3 ∨ 9 < (gnextF m).items.length) := h
  rw [if_neg h', if_pos h5]
theorem gpartF_both {e : Nat} {m : MkD} {src : ByteArray} (h : ¬ (pickF m.p m.at_ % 8 < 3 ∨ 9 < m.items.length)) (h5 : ¬ pickF m.p m.at_ % 8 < 5) : gpartF (e + 1) m src =
    let a := gnameF (gnextF m) chG
    let r := gpartF e (gopenF (gnextF m) src (pickF m.p m.at_ % 8)) a
    let q := gpartF e r.2 a
    (gnameF q.2 chG, gcloseF q.2 a r.1 q.1 (pickF m.p m.at_ % 8) (pickF m.p m.at_)) := by
  conv => lhs; unfold gpartF
  dsimp only
  have h' : ¬ (pickF m.p m.at_ % 8 < 3 ∨ 9 < (gnextF m).items.length) := h
  rw [if_neg h', if_neg h5]
theorem grow_part : ∀ (d : Nat) (m : MkD) (src : ByteArray), GrowM (gG d) m (gpartF d m src).2
  | 0, m, src => by
    rw [gpartF_leaf (.inl rfl)]
    exact ((grow_next m).trans (grow_leaf _ _ _)).mono (by decide)
  | d + 1, m, src => by
    have hp := gG_pos d
    by_cases h : pickF m.p m.at_ % 8 < 3 ∨ 9 < m.items.length
    · rw [gpartF_leaf (.inr h)]
      exact ((grow_next m).trans (grow_leaf _ _ _)).mono (by show _ ≤ 2 * gG d + 9; omega)
    · by_cases h5 : pickF m.p m.at_ % 8 < 5
      · rw [gpartF_seq h h5]
        exact (((grow_next m).trans (grow_part d _ _)).trans (grow_part d _ _)).mono (by show _ ≤ 2 * gG d + 9; omega)
      · rw [gpartF_both h h5]
        exact ((((grow_next m).trans (grow_open _ _ _)).trans (grow_part d _ _)).trans ((grow_part d _ _).trans (grow_close _ _ _ _ _ _))).mono (by show _ ≤ 2 * gG d + 9; omega)
theorem pickF_le (p : List Int) (i : Nat) : pickF p i ≤ 16777215 := by
  unfold pickF
  split <;> omega
theorem item0R (W : World) (k : Int) (id : ByteArray) : ItemR W (gitem0 k id) #[.int .i64 k, .string id, .string ⟨#[]⟩, .slice none 0 0, .slice none 0 0, .bool false, .string ⟨#[]⟩, .slice none 0 0, .slice none 0 0, .slice none 0 0] :=
  ⟨none, 0, none, 0, none, 0, none, 0, none, 0, rfl, rd_itemC.2 ⟨_, _, _, _, _, rfl, rd_nilG, rd_nilG, rd_nilG, rd_nilG, rd_nilG⟩⟩
/-- A maker in a block of its own, the result's block beside it. -/
def NW (w : World) (A : Option Addr) (cap : Nat) (m : MkD) (g : Nat) (W : World) : Prop :=
  ∃ AP cP AF cF AI cI AS cS, Blk W g 89 #[.slice A m.p.length cap, .int .i64 m.at_, .int .i64 m.n, .slice AP m.parts.length cP, .slice AF m.flows.length cF, .slice AI m.items.length cI, .slice AS m.seqs.length cS, .string m.pre] ∧
    Blk W (w.heap.size + 1) 89 #[.slice none 0 0, .int .i64 0, .int .i64 0, .slice none 0 0, .slice none 0 0, .slice none 0 0, .slice none 0 0, .string ⟨#[]⟩] ∧ Comp W m.parts m.flows m.items m.seqs AP cP AF cF AI cI AS cS ∧ Below w.heap.size w W
theorem NW.make {w W w1 : World} {A : Option Addr} {cap : Nat} {m m' : MkD} {AP : Option Addr} {cP : Nat} {AF : Option Addr} {cF : Nat} {AI : Option Addr} {cI : Nat} {AS : Option Addr} {cS : Nat} (h : PW w A cap m W) (hb : Below W.heap.size W w1) (hC : Comp w1 m'.parts m'.flows m'.items m'.seqs AP cP AF cF AI cI AS cS) :
    NW w A cap m' w1.heap.size (putAll (w1.alloc (.cells #[.slice none 0 0, .int .i64 0, .int .i64 0, .slice none 0 0, .slice none 0 0, .slice none 0 0, .slice none 0 0, .string ⟨#[]⟩] 89)) w1.heap.size 0 [.slice A m'.p.length cap, .int .i64 m'.at_, .int .i64 m'.n, .slice AP m'.parts.length cP, .slice AF m'.flows.length cF, .slice AI m'.items.length cI, .slice AS m'.seqs.length cS, .string m'.pre]) := by
  obtain ⟨_, _, _, _, _, _, _, _, _, h2, _, h4⟩ := h
  have h2' := h2.below hb h2.lt
  have hlt := h2'.lt
  have hN := Blk.new w1 89 #[.slice none 0 0, .int .i64 0, .int .i64 0, .slice none 0 0, .slice none 0 0, .slice none 0 0, .slice none 0 0, .string ⟨#[]⟩]
  have hsz : w.heap.size ≤ w1.heap.size := by have := h4.size; have := hb.size; omega
  exact ⟨AP, cP, AF, cF, AI, cI, AS, cS, putAll_blk _ 0 _ _ hN rfl, (putAll_heap _ 0 _ _ (by omega)).trans (h2'.alloc _), (hC.below ((Below.refl _ _).alloc (Nat.le_refl _) _)).grown (putAll_grown _ _) hN, putAll_below hsz _ 0 _ ((h4.trans (hb.mono h4.size)).alloc hsz _)⟩
theorem NW.laid {w W w1 : World} {A : Option Addr} {cap : Nat} {m m' : MkD} {AP : Option Addr} {cP : Nat} {AF : Option Addr} {cF : Nat} {AI : Option Addr} {cI : Nat} {AS : Option Addr} {cS : Nat} (h : PW w A cap m W) (hb : Below W.heap.size W w1) (hC : Comp w1 m'.parts m'.flows m'.items m'.seqs AP cP AF cF AI cI AS cS) :
    NW w A cap m' w1.heap.size (w1.alloc (.cells #[.slice A m'.p.length cap, .int .i64 m'.at_, .int .i64 m'.n, .slice AP m'.parts.length cP, .slice AF m'.flows.length cF, .slice AI m'.items.length cI, .slice AS m'.seqs.length cS, .string m'.pre] 89)) := by
  obtain ⟨_, _, _, _, _, _, _, _, _, h2, _, h4⟩ := h
  have h2' := h2.below hb h2.lt
  have hsz : w.heap.size ≤ w1.heap.size := by have := h4.size; have := hb.size; omega
  exact ⟨AP, cP, AF, cF, AI, cI, AS, cS, Blk.new w1 _ _, h2'.alloc _, hC.below ((Below.refl _ _).alloc (Nat.le_refl _) _), (h4.trans (hb.mono h4.size)).alloc hsz _⟩
/-- The end: the result's block is written. -/
theorem MkR.fin {w V w1 : World} {A : Option Addr} {cap : Nat} {M : MkD} {AP : Option Addr} {cP : Nat} {AF : Option Addr} {cF : Nat} {AI : Option Addr} {cI : Nat} {AS : Option Addr} {cS : Nat} (hR : Blk V (w.heap.size + 1) 89 #[.slice none 0 0, .int .i64 0, .int .i64 0, .slice none 0 0, .slice none 0 0, .slice none 0 0, .slice none 0 0, .string ⟨#[]⟩]) (hW : Below w.heap.size w V) (hb : Below V.heap.size V w1) (hC : Comp w1 M.parts M.flows M.items M.seqs AP cP AF cF AI cI AS cS) (x : Value) :
    MkEnd w A cap x M (.returned (.tuple #[x, .agg #[.slice A M.p.length cap, .int .i64 M.at_, .int .i64 M.n, .slice AP M.parts.length cP, .slice AF M.flows.length cF, .slice AI M.items.length cI, .slice AS M.seqs.length cS, .string M.pre]])) (putAll w1 (w.heap.size + 1) 0 [.slice A M.p.length cap, .int .i64 M.at_, .int .i64 M.n, .slice AP M.parts.length cP, .slice AF M.flows.length cF, .slice AI M.items.length cI, .slice AS M.seqs.length cS, .string M.pre]) :=
  ⟨_, rfl, ⟨AP, cP, AF, cF, AI, cI, AS, cS, rfl, hC.grown (putAll_grown _ w1) (hR.below hb hR.lt)⟩, putAll_below (B := w.heap.size) (g := w.heap.size + 1) (by omega) _ 0 _ (hW.trans (hb.mono hW.size))⟩
theorem ret_part {W : World} {g : Nat} {v0 v1 v2 v3 v4 v5 v6 v7 x : Value} {tmps : Array Value} (h : Blk W g 89 #[v0, v1, v2, v3, v4, v5, v6, v7]) (ht : tmps.getD 7 undef = .pointer (some ⟨g, 0, none⟩)) (hx : tmps.getD 6 undef = x) :
    (results Try.f61 tmps).run Try.prog W = .ok (.tuple #[x, .agg #[v0, v1, v2, v3, v4, v5, v6, v7]]) W := by
  have x0 : W.cell? ⟨g, 0, none⟩ = some v0 := h.cell 0
  have x1 : W.cell? ⟨g, 1, none⟩ = some v1 := h.cell 1
  have x2 : W.cell? ⟨g, 2, none⟩ = some v2 := h.cell 2
  have x3 : W.cell? ⟨g, 3, none⟩ = some v3 := h.cell 3
  have x4 : W.cell? ⟨g, 4, none⟩ = some v4 := h.cell 4
  have x5 : W.cell? ⟨g, 5, none⟩ = some v5 := h.cell 5
  have x6 : W.cell? ⟨g, 6, none⟩ = some v6 := h.cell 6
  have x7 : W.cell? ⟨g, 7, none⟩ = some v7 := h.cell 7
  simp [results, Try.results61, go_sem, ht, hx, x0, x1, x2, x3, x4, x5, x6, x7, -Array.getD_eq_getD_getElem?]
end Go.Proofs.Yteoioboiniealaa
