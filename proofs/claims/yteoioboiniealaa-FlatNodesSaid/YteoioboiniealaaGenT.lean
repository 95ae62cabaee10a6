/- Lemmas for the walk of the generator's task. -/
import Derived.Test.YteoioboiniealaaGenF
namespace Go.Proofs.Yteoioboiniealaa
open Go.RowKit

section
variable {P : Program} (w : World)
/-- append onto a slice of the call's own that has no room left: a new block; nothing that was there is touched. -/
theorem run_append_full (t ty : TypeId) (base : Nat) (e : TypeId) (i : TypeInfo) (z : Value) (size bytes : Nat) (ht : P.underlying t = some (.slice e)) (hi : P.info? e = some i) (hz : i.zero = some z)
    (hsize : i.size = size) (hby : i.bytes = bytes) (hzs : z.cells.size = size) (hsz : 0 < size)
    (g n : Nat) (xs : List Value) (hown : w.ownsRow base e size (.slice (some ⟨g, 0, none⟩) n n) n xs)
    (ad : Addr) (m c : Nat) (news : List Value) (hl : news.length = m * size) (hnews : ∀ j u, news[j]? = some u → w.cell? (ad.add j) = some u)
    (hm : 0 < m) (h63 : n + m ≤ maxLen) (hbytes : (n + m) * bytes ≤ 140737488355328) (hbase : base ≤ w.heap.size) :
    ∃ cap w', (Builtin.append_ #[t, t] ty #[.slice (some ⟨g, 0, none⟩) n n, .slice (some ad) m c]).run P w = .ok (.slice (some ⟨w.heap.size, 0, none⟩) (n + m) cap) w' ∧
      w'.ownsRow base e size (.slice (some ⟨w.heap.size, 0, none⟩) (n + m) cap) (n + m) (xs ++ news) ∧ w.grownBy w' none := by
  subst hsize
  subst hby
  have hlen : (xs ++ news).length = (n + m) * i.size := by rw [List.length_append, hown.1, hl, Nat.add_mul]
  have hge := grownCap_ge w (n + m) n e
  have hcm : grownCap w (n + m) n e ≤ maxLen := grownCap_le_maxLen w (n + m) n e h63
  have hr := run_append_grow (P := P) w t ty e i z ht hi hz ⟨g, 0, none⟩ n n xs hown.1 (hown.cells (g := g) rfl) ad m c news hl hnews (by omega) (by simp only [maxLen] at h63; omega) (growslice_fits (by omega) hbytes)
  refine ⟨_, _, hr, ⟨hlen, .inr ⟨w.heap.size, _, _, rfl, hbase, heap_alloc_new w.drew _, hge, hcm, ?_, ?_⟩⟩, ⟨rfl, rfl, rfl, by simp, fun k hk _ => Below.heap_alloc w.drew _ k hk⟩⟩
  · simp only [Array.size_append, List.size_toArray, size_zeroCells, hzs, hown.1, hl, ← Nat.add_mul]
    congr 1
    omega
  · simp only [Array.toList_append, List.append_assoc]
    rw [← List.append_assoc, ← hlen]
    exact List.take_left
theorem wpList_append_full {ops : Array Oper} {rest : List Oper} {o : Oper} {a : Act} {Q : Exit → Act → World → Prop} (hgd : o.guard = none) (s x : Operand) (t : TypeId)
    (ho : o.op = .call { callee := .builtin .append, args := #[s, x], argTypes := #[t, t] })
    (base : Nat) (e : TypeId) (i : TypeInfo) (z : Value) (size bytes : Nat) (ht : P.underlying t = some (.slice e)) (hi : P.info? e = some i) (hz : i.zero = some z)
    (hsize : i.size = size) (hby : i.bytes = bytes) (hzs : z.cells.size = size) (hsz : 0 < size)
    (g n : Nat) (xs : List Value) (hs : a.eval s = .slice (some ⟨g, 0, none⟩) n n) (hown : w.ownsRow base e size (.slice (some ⟨g, 0, none⟩) n n) n xs)
    (ad : Addr) (m c : Nat) (news : List Value) (hx : a.eval x = .slice (some ad) m c) (hl : news.length = m * size) (hnews : ∀ j u, news[j]? = some u → w.cell? (ad.add j) = some u)
    (hm : 0 < m) (h63 : n + m ≤ maxLen) (hbytes : (n + m) * bytes ≤ 140737488355328) (hbase : base ≤ w.heap.size) (H : Nat) (hH : w.heap.size = H)
    (h : ∀ cap w', w'.ownsRow base e size (.slice (some ⟨H, 0, none⟩) (n + m) cap) (n + m) (xs ++ news) → w.grownBy w' none → wpList P ops Q rest (a.put o.dst (.slice (some ⟨H, 0, none⟩) (n + m) cap)) w') : wpList P ops Q (o :: rest) a w := by
  subst hH
  refine wpList_plain hgd fun K hK => ?_
  obtain ⟨cap, w', hr, h2, h3⟩ := run_append_full (P := P) w t o.type base e i z size bytes ht hi hz hsize hby hzs hsz g n xs hown ad m c news hl hnews hm h63 hbytes hbase
  unfold Oper.wp execOp
  simp only [ho, resolve, invoke, builtin, Sem.run_bind, Sem.run_pure, Result.andThen_ok, List.map_toArray, List.map_cons, List.map_nil, hs, hx, hr]
  exact hK _ _ (h cap w' h2 h3)
end
theorem grown_below {V W W1 : World} {r : Option Nat} (h : V.grownBy W r) (hb : Below W.heap.size W W1) : V.grownBy W1 r :=
  ⟨hb.os.trans h.os, hb.tape.trans h.tape, hb.output.trans h.output, Nat.le_trans h.size hb.size, fun k hk hne => (hb.block k (Nat.lt_of_lt_of_le hk h.size)).trans (h.block k hk hne)⟩
theorem grown_grow {V W W1 : World} {r q : Option Nat} (h : V.grownBy W r) (hg : W.grownBy W1 q) (hq : ∀ k, q = some k → V.heap.size ≤ k ∨ r = some k) : V.grownBy W1 r :=
  ⟨hg.os.trans h.os, hg.tape.trans h.tape, hg.output.trans h.output, Nat.le_trans h.size hg.size, fun k hk hne => (hg.block k (Nat.lt_of_lt_of_le hk h.size) (fun e => by
    rcases hq k e.symm with h1 | h1
    · omega
    · exact hne h1.symm)).trans (h.block k hk hne)⟩
theorem below_grown {V : World} (r : Option Nat) : V.grownBy V r := ⟨rfl, rfl, rfl, Nat.le_refl _, fun _ _ _ => rfl⟩
/-- The maker while a task is made: its blocks; all that was there at V but the maker's block is as it was. -/
structure TW (w V : World) (A : Option Addr) (cap : Nat) (m : MkD) (AP : Option Addr) (cP : Nat) (AF : Option Addr) (cF : Nat) (AI : Option Addr) (cI : Nat) (AS : Option Addr) (cS : Nat) (W : World) : Prop where
  main : Blk W w.heap.size 89 #[.slice A m.p.length cap, .int .i64 m.at_, .int .i64 m.n, .slice AP m.parts.length cP, .slice AF m.flows.length cF, .slice AI m.items.length cI, .slice AS m.seqs.length cS, .string m.pre]
  res : Blk W (w.heap.size + 1) 89 #[.slice none 0 0, .int .i64 0, .int .i64 0, .slice none 0 0, .slice none 0 0, .slice none 0 0, .slice none 0 0, .string ⟨#[]⟩]
  kept : V.grownBy W (some w.heap.size)
section
variable {w V W W1 : World} {A : Option Addr} {cap : Nat} {m m' : MkD} {AP : Option Addr} {cP : Nat} {AF : Option Addr} {cF : Nat} {AI : Option Addr} {cI : Nat} {AS : Option Addr} {cS : Nat}
theorem TW.below (h : TW w V A cap m AP cP AF cF AI cI AS cS W) (hb : Below W.heap.size W W1) : TW w V A cap m AP cP AF cF AI cI AS cS W1 :=
  ⟨h.main.below hb h.main.lt, h.res.below hb h.res.lt, grown_below h.kept hb⟩
theorem TW.put (h : TW w V A cap m AP cP AF cF AI cI AS cS W) (hb : Below W.heap.size W W1) (m' : MkD) :
    TW w V A cap m' AP cP AF cF AI cI AS cS (putAll W1 w.heap.size 0 [.slice A m'.p.length cap, .int .i64 m'.at_, .int .i64 m'.n, .slice AP m'.parts.length cP, .slice AF m'.flows.length cF, .slice AI m'.items.length cI, .slice AS m'.seqs.length cS, .string m'.pre]) := by
  have h' := h.below hb
  exact ⟨putAll_blk _ 0 W1 _ h'.main rfl, (putAll_heap _ 0 W1 _ (by omega)).trans h'.res, grown_grow h'.kept (putAll_grown _ W1) (fun k hk => .inr hk)⟩
/-- A block is written that was made behind V. -/
theorem TW.grow {q : Nat} {T : TypeId} {cs : Array Value} (h : TW w V A cap m AP cP AF cF AI cI AS cS W) (hg : W.grownBy W1 (some q)) (hT : Blk W q T cs) (hne : 89 ≠ T) (hq : V.heap.size ≤ q) : TW w V A cap m AP cP AF cF AI cI AS cS W1 := by
  have ne : ∀ {b : Nat} {cs : Array Value}, Blk W b 89 cs → some b ≠ some q := fun hb e => by
    injection e with e
    subst e
    have := hb.symm.trans hT
    injection this with this
    injection this with _ h1
    exact hne h1
  exact ⟨h.main.grown hg (ne h.main), h.res.grown hg (ne h.res), grown_grow h.kept hg (fun k hk => .inl (by injection hk with hk; omega))⟩
theorem TW.pw {cs : Array Value} (h : TW w V A cap m AP cP AF cF AI cI AS cS W) (hC : Comp V m.parts m.flows m.items m.seqs AP cP AF cF AI cI AS cS) (hm : Blk V w.heap.size 89 cs) (hW : Below w.heap.size w V) : PW w A cap m W :=
  ⟨AP, cP, AF, cF, AI, cI, AS, cS, h.main, h.res, hC.grown h.kept hm, ⟨h.kept.os.trans hW.os, h.kept.tape.trans hW.tape, h.kept.output.trans hW.output, Nat.le_trans hW.size h.kept.size, fun k hk => (h.kept.block k (Nat.lt_of_lt_of_le hk hW.size) (fun e => by injection e with e; omega)).trans (hW.block k hk)⟩⟩
end
theorem PW.below {w W W1 : World} {A : Option Addr} {cap : Nat} {m : MkD} (h : PW w A cap m W) (hb : Below W.heap.size W W1) : PW w A cap m W1 := by
  obtain ⟨AP, cP, AF, cF, AI, cI, AS, cS, h1, h2, h3, h4⟩ := h
  exact ⟨AP, cP, AF, cF, AI, cI, AS, cS, h1.below hb h1.lt, h2.below hb h2.lt, h3.below hb, h4.trans (hb.mono h4.size)⟩
/-- Rows of two types lie in two blocks. -/
theorem own_own_ne {w : World} {b1 b2 e1 e2 s1 s2 n1 n2 : Nat} {v1 v2 : Value} {x1 x2 : List Value} (h1 : w.ownsRow b1 e1 s1 v1 n1 x1) (h2 : w.ownsRow b2 e2 s2 v2 n2 x2) (hne : e1 ≠ e2) : v1.ownBlock = none ∨ v1.ownBlock ≠ v2.ownBlock := by
  rcases h1.2 with ⟨rfl, _⟩ | ⟨g, c, cur, rfl, _, hh, _⟩
  · exact .inl rfl
  · right
    have hb : Blk w g e1 cur := hh
    intro e
    exact blk_own_ne h2 hb (Ne.symm hne) (by rw [← e]; rfl)
theorem FL.of {w W : World} {l : List FlowD} {x : FlowD} {B g cap : Nat} {xs : List Value} (ho : W.ownsRow B 40 4 (.slice (some ⟨g, 0, none⟩) (l.length + 1) cap) (l.length + 1) (xs ++ [.string x.id, .string x.src, .string x.dst, .string x.msg])) (hB : w.heap.size + 2 ≤ B) (hl : RdL W (l.flatMap flowC) xs) : FL w (l ++ [x]) (some ⟨g, 0, none⟩) cap W := by
  have hlen : (l ++ [x]).length = l.length + 1 := by simp
  refine ⟨_, by rw [hlen]; exact own_mono ho hB, ?_⟩
  rw [List.flatMap_append, List.flatMap_cons, List.flatMap_nil, List.append_nil]
  exact hl.append (rdl_cons.2 ⟨_, _, rfl, rd_str.2 rfl, rdl_cons.2 ⟨_, _, rfl, rd_str.2 rfl, rdl_cons.2 ⟨_, _, rfl, rd_str.2 rfl, rdl_cons.2 ⟨_, _, rfl, rd_str.2 rfl, rdl_nil.2 rfl⟩⟩⟩⟩)
/-- Another block is written, of another type. -/
theorem FL.grow {w W W2 : World} {l : List FlowD} {A : Option Addr} {c g : Nat} {T : TypeId} {cs : Array Value} (h : FL w l A c W) (hg : W.grownBy W2 (some g)) (hm : Blk W g T cs) (hne : 40 ≠ T) : FL w l A c W2 := by
  obtain ⟨cells, h1, h2⟩ := h.row
  exact ⟨cells, h1.kept hg (.inr (blk_own_ne h1 hm hne)), RdL.flat (flow_flat l) h2⟩
/-- The item's flows are another row now. -/
theorem TI.flows {w W : World} {t pa pb : ByteArray} {lp : Bool} {fl fl2 : List ByteArray} {vF v2 : Value} {gI gP : Nat} (h : TI w t pa pb lp fl vF gI gP W) (ho : W.ownsRow (w.heap.size + 2) 9 1 v2 fl2.length (fl2.map .string)) (hv : v2.ownBlock ≠ some gI) : TI w t pa pb lp fl2 v2 gI gP (W.setCell ⟨gI, 4, none⟩ v2) := by
  have hne : gP ≠ gI := fun e => by
    have h1 := h.bP
    rw [e] at h1
    have := h1.symm.trans h.bI
    injection this with this
    injection this with _ h1
    exact absurd h1 (by decide)
  exact ⟨h.hI, h.hP, h.bI.set_ 4 v2, h.bP.far hne _, ownsRow_setCell_other (a := ⟨gI, 4, none⟩) ho hv v2⟩
/-- A row of flows is written. -/
theorem TI.row {w W W2 : World} {t pa pb : ByteArray} {lp : Bool} {fl : List ByteArray} {vF v : Value} {gI gP base n : Nat} {xs : List Value} (h : TI w t pa pb lp fl vF gI gP W) (hg : W.grownBy W2 v.ownBlock) (ho : W.ownsRow base 40 4 v n xs) : TI w t pa pb lp fl vF gI gP W2 :=
  ⟨h.hI, h.hP, h.bI.grown hg (Ne.symm (blk_own_ne ho h.bI (by decide))), h.bP.grown hg (Ne.symm (blk_own_ne ho h.bP (by decide))), h.oF.kept hg (own_own_ne h.oF ho (by decide))⟩
end Go.Proofs.Yteoioboiniealaa
