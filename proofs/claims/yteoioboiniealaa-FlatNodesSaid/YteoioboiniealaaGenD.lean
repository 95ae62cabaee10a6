/- The contracts of the generator's item and seq. -/
import Derived.Test.YteoioboiniealaaGenC
namespace Go.Proofs.Yteoioboiniealaa
open Go.RowKit
attribute [local go_sem ↓] Go.wp_at_zero Go.wp_at_succ

theorem rd_one {w : World} : ∀ (d : Dat) (v : Value), Rd w d v → v.oneCell' = true
  | .int _, _, h => by rw [rd_int.1 h]; rfl
  | .str _, _, h => by rw [rd_str.1 h]; rfl
  | .bool _, _, h => by rw [rd_bool.1 h]; rfl
  | .sl _ _ _ _, _, h => by obtain ⟨A, c, _, rfl, _⟩ := rd_sl.1 h; rfl
theorem rdl_one {w : World} : ∀ (ds : List Dat) (xs : List Value), RdL w ds xs → ∀ u ∈ xs, u.oneCell' = true
  | [], xs, h, u, hu => by rw [rdl_nil.1 h] at hu; cases hu
  | d :: ds, xs, h, u, hu => by
    obtain ⟨v, r, rfl, hd, hl⟩ := rdl_cons.1 h
    rcases List.mem_cons.1 hu with rfl | hu
    · exact rd_one d _ hd
    · exact rdl_one ds r hl u hu
/-- Where a slice that is known lies, and what its cells are. -/
theorem rd_reads {w : World} {e sz n : Nat} {ds : List Dat} {A : Option Addr} {c : Nat} (h : Rd w (.sl e sz n ds) (.slice A n c)) : ∃ xs, Reads w w.heap.size sz A n xs ∧ RdL w ds xs ∧ (∀ u ∈ xs, u.oneCell' = true) := by
  obtain ⟨A', c', xs, hv, ho, hl⟩ := rd_sl.1 h
  injection hv with e1 _ e3
  subst e1
  subst e3
  exact ⟨xs, Reads.of_own ho, hl, rdl_one _ _ hl⟩
/-- One element more behind a copy: what it reads as. -/
theorem rd_snoc {α : Type} {w w3 w6 : World} {B e sz g cap : Nat} {f : α → List Dat} {l : List α} {x : α} {xs vs : List Value} (ho : w6.ownsRow B e sz (.slice (some ⟨g, 0, none⟩) (l.length + 1) cap) (l.length + 1) (xs ++ vs)) (hl : RdL w (l.flatMap f) xs) (hx : RdL w3 (f x) vs) (hb : Below w.heap.size w w6) (hb3 : Below w3.heap.size w3 w6) :
    Rd w6 (datS e sz f (l ++ [x])) (.slice (some ⟨g, 0, none⟩) (l ++ [x]).length cap) := by
  have hlen : (l ++ [x]).length = l.length + 1 := by simp
  unfold datS
  rw [hlen]
  refine rd_sl.2 ⟨_, _, _, rfl, own_mono ho (Nat.zero_le _), ?_⟩
  rw [List.flatMap_append, List.flatMap_cons, List.flatMap_nil, List.append_nil]
  exact (RdL.below hb _ _ hl).append (RdL.below hb3 _ _ hx)
theorem own_putAll {w : World} {base e size n g : Nat} {v : Value} {xs : List Value} (h : w.ownsRow base e size v n xs) (hne : v.ownBlock ≠ some g) : ∀ (vs : List Value) (i : Nat), (putAll w g i vs).ownsRow base e size v n xs := by
  intro vs i
  refine own_same h (fun b hb => putAll_heap vs i w b (fun e => hne (by rw [hb, e])))
/-- An item's cells, the slices written out. -/
def ItemR (w : World) (x : ItemD) (c : Array Value) : Prop :=
  ∃ XP xP XF xF XM xM XI xI XS xS, c = #[.int .i64 x.kind, .string x.id, .string x.first, .slice XP x.parts.length xP, .slice XF x.flows.length xF, .bool x.loop, .string x.called, .slice XM x.maps.length xM, .slice XI x.items.length xI, .slice XS x.seqs.length xS] ∧ RdL w (itemC x) [.int .i64 x.kind, .string x.id, .string x.first, .slice XP x.parts.length xP, .slice XF x.flows.length xF, .bool x.loop, .string x.called, .slice XM x.maps.length xM, .slice XI x.items.length xI, .slice XS x.seqs.length xS]
theorem ItemR.below {w w1 : World} {x : ItemD} {c : Array Value} (h : ItemR w x c) (hb : Below w.heap.size w w1) : ItemR w1 x c := by
  obtain ⟨XP, xP, XF, xF, XM, xM, XI, xI, XS, xS, hc, h⟩ := h
  exact ⟨XP, xP, XF, xF, XM, xM, XI, xI, XS, xS, hc, RdL.below hb _ _ h⟩
theorem Try.infoItemG : (Try.prog.info? 33).map (fun i => (i.zero, i.size, i.bytes)) = some (some (.agg #[.int .i64 0, .string ⟨#[]⟩, .string ⟨#[]⟩, .slice none 0 0, .slice none 0 0, .bool false, .string ⟨#[]⟩, .slice none 0 0, .slice none 0 0, .slice none 0 0]), 10, 184) := by kernel_rfl
theorem Try.infoSeqG : (Try.prog.info? 36).map (fun i => (i.zero, i.size, i.bytes)) = some (some (.agg #[.string ⟨#[]⟩, .string ⟨#[]⟩, .string ⟨#[]⟩]), 3, 48) := by kernel_rfl
def MkEnd1 (w : World) (A : Option Addr) (cap : Nat) (m : MkD) (e : Ending) (w' : World) : Prop := ∃ c, e = .returned (.agg c) ∧ MkR w' A cap m c ∧ Below w.heap.size w w'
theorem ret_item {W : World} {g : Nat} {v0 v1 v2 v3 v4 v5 v6 v7 : Value} {tmps : Array Value} (h : Blk W g 89 #[v0, v1, v2, v3, v4, v5, v6, v7]) (ht : tmps.getD 4 undef = .pointer (some ⟨g, 0, none⟩)) :
    (results Try.f60 tmps).run Try.prog W = .ok (.agg #[v0, v1, v2, v3, v4, v5, v6, v7]) W := by
  have x0 : W.cell? ⟨g, 0, none⟩ = some v0 := h.cell 0
  have x1 : W.cell? ⟨g, 1, none⟩ = some v1 := h.cell 1
  have x2 : W.cell? ⟨g, 2, none⟩ = some v2 := h.cell 2
  have x3 : W.cell? ⟨g, 3, none⟩ = some v3 := h.cell 3
  have x4 : W.cell? ⟨g, 4, none⟩ = some v4 := h.cell 4
  have x5 : W.cell? ⟨g, 5, none⟩ = some v5 := h.cell 5
  have x6 : W.cell? ⟨g, 6, none⟩ = some v6 := h.cell 6
  have x7 : W.cell? ⟨g, 7, none⟩ = some v7 := h.cell 7
  simp [results, Try.results60, go_sem, ht, x0, x1, x2, x3, x4, x5, x6, x7, -Array.getD_eq_getD_getElem?]
theorem ret_seq {W : World} {g : Nat} {v0 v1 v2 v3 v4 v5 v6 v7 : Value} {tmps : Array Value} (h : Blk W g 89 #[v0, v1, v2, v3, v4, v5, v6, v7]) (ht : tmps.getD 6 undef = .pointer (some ⟨g, 0, none⟩)) :
    (results Try.f62 tmps).run Try.prog W = .ok (.agg #[v0, v1, v2, v3, v4, v5, v6, v7]) W := by
  have x0 : W.cell? ⟨g, 0, none⟩ = some v0 := h.cell 0
  have x1 : W.cell? ⟨g, 1, none⟩ = some v1 := h.cell 1
  have x2 : W.cell? ⟨g, 2, none⟩ = some v2 := h.cell 2
  have x3 : W.cell? ⟨g, 3, none⟩ = some v3 := h.cell 3
  have x4 : W.cell? ⟨g, 4, none⟩ = some v4 := h.cell 4
  have x5 : W.cell? ⟨g, 5, none⟩ = some v5 := h.cell 5
  have x6 : W.cell? ⟨g, 6, none⟩ = some v6 := h.cell 6
  have x7 : W.cell? ⟨g, 7, none⟩ = some v7 := h.cell 7
  simp [results, Try.results62, go_sem, ht, x0, x1, x2, x3, x4, x5, x6, x7, -Array.getD_eq_getD_getElem?]

set_option maxRecDepth 100000 in
set_option maxHeartbeats 8000000 in
theorem item_any {w : World} {A : Option Addr} {cap : Nat} {m : MkD} {x : ItemD} {c ic : Array Value} (hM : MkR w A cap m c) (hX : ItemR w x ic) (hs : SmallM 10000 m) :
    Calls Try.prog 60 #[.agg c, .agg ic] w (MkEnd1 w A cap (gitemF m x)) := by
  obtain ⟨AP, cP, AF, cF, AI, cI, AS, cS, rfl, hC⟩ := hM
  obtain ⟨XP, xP, XF, xF, XM, xM, XI, xI, XS, xS, rfl, hI⟩ := hX
  obtain ⟨xs, hr, hl, h1⟩ := rd_reads hC.items
  obtain ⟨i0, hi0, hz0, hz1, hz2⟩ := info_parts Try.infoItemG
  have hil := hs.items
  have HR := Lib.hid hr
  have HL := Lib.hid hl
  have H1 := Lib.hid h1
  have HC := Lib.hid hC
  have HI := Lib.hid hI
  obtain ⟨W, hW⟩ : ∃ W, W = ((w.alloc (.cells #[.slice A m.p.length cap, .int .i64 m.at_, .int .i64 m.n, .slice AP m.parts.length cP, .slice AF m.flows.length cF, .slice AI m.items.length cI, .slice AS m.seqs.length cS, .string m.pre] 89)).alloc (.cells #[.int .i64 x.kind, .string x.id, .string x.first, .slice XP x.parts.length xP, .slice XF x.flows.length xF, .bool x.loop, .string x.called, .slice XM x.maps.length xM, .slice XI x.items.length xI, .slice XS x.seqs.length xS] 33)).alloc (.cells #[.slice none 0 0, .int .i64 0, .int .i64 0, .slice none 0 0, .slice none 0 0, .slice none 0 0, .slice none 0 0, .string ⟨#[]⟩] 89) := ⟨_, rfl⟩
  have hM1 : Blk W w.heap.size 89 #[.slice A m.p.length cap, .int .i64 m.at_, .int .i64 m.n, .slice AP m.parts.length cP, .slice AF m.flows.length cF, .slice AI m.items.length cI, .slice AS m.seqs.length cS, .string m.pre] := by rw [hW]; exact ((Blk.new w _ _).alloc _).alloc _
  have hI1 : Blk W (w.heap.size + 1) 33 #[.int .i64 x.kind, .string x.id, .string x.first, .slice XP x.parts.length xP, .slice XF x.flows.length xF, .bool x.loop, .string x.called, .slice XM x.maps.length xM, .slice XI x.items.length xI, .slice XS x.seqs.length xS] := by
    rw [hW]
    have := (Blk.new (w.alloc (.cells #[.slice A m.p.length cap, .int .i64 m.at_, .int .i64 m.n, .slice AP m.parts.length cP, .slice AF m.flows.length cF, .slice AI m.items.length cI, .slice AS m.seqs.length cS, .string m.pre] 89)) 33 #[.int .i64 x.kind, .string x.id, .string x.first, .slice XP x.parts.length xP, .slice XF x.flows.length xF, .bool x.loop, .string x.called, .slice XM x.maps.length xM, .slice XI x.items.length xI, .slice XS x.seqs.length xS]).alloc (.cells #[.slice none 0 0, .int .i64 0, .int .i64 0, .slice none 0 0, .slice none 0 0, .slice none 0 0, .slice none 0 0, .string ⟨#[]⟩] 89)
    simpa using this
  have hR1 : Blk W (w.heap.size + 1 + 1) 89 #[.slice none 0 0, .int .i64 0, .int .i64 0, .slice none 0 0, .slice none 0 0, .slice none 0 0, .slice none 0 0, .string ⟨#[]⟩] := by
    rw [hW]
    have := Blk.new ((w.alloc (.cells #[.slice A m.p.length cap, .int .i64 m.at_, .int .i64 m.n, .slice AP m.parts.length cP, .slice AF m.flows.length cF, .slice AI m.items.length cI, .slice AS m.seqs.length cS, .string m.pre] 89)).alloc (.cells #[.int .i64 x.kind, .string x.id, .string x.first, .slice XP x.parts.length xP, .slice XF x.flows.length xF, .bool x.loop, .string x.called, .slice XM x.maps.length xM, .slice XI x.items.length xI, .slice XS x.seqs.length xS] 33)) 89 #[.slice none 0 0, .int .i64 0, .int .i64 0, .slice none 0 0, .slice none 0 0, .slice none 0 0, .slice none 0 0, .string ⟨#[]⟩]
    simpa using this
  have hbW : Below w.heap.size w W := by rw [hW]; exact (((Below.refl _ _).alloc (Nat.le_refl _) _).alloc (by simp) _).alloc (by simp; omega) _
  have hz : W.heap.size = w.heap.size + 3 := by rw [hW]; simp
  have HM1 := Lib.hid hM1
  have HI1 := Lib.hid hI1
  have HR1 := Lib.hid hR1
  have HBW := Lib.hid hbW
  have HZ := Lib.hid hz
  have HW := Lib.hid hW.symm
  have hzz := hbW.size
  clear hC hI hs hM1 hI1 hR1 hbW hW hr hl h1 hz
  go_enter Try.func60, Try.ntmps60
  go_wp2_with fail
  rw [HW.out]
  have HY_t := Lib.hid (fun (V : World) (hSw : (fun V => Blk V w.heap.size 89 #[.slice A m.p.length cap, .int .i64 m.at_, .int .i64 m.n, .slice AP m.parts.length cP, .slice AF m.flows.length cF, .slice AI m.items.length cI, .slice AS m.seqs.length cS, .string m.pre] ∧ Blk V (w.heap.size + 1) 33 #[.int .i64 x.kind, .string x.id, .string x.first, .slice XP x.parts.length xP, .slice XF x.flows.length xF, .bool x.loop, .string x.called, .slice XM x.maps.length xM, .slice XI x.items.length xI, .slice XS x.seqs.length xS] ∧ Blk V (w.heap.size + 1 + 1) 89 #[.slice none 0 0, .int .i64 0, .int .i64 0, .slice none 0 0, .slice none 0 0, .slice none 0 0, .slice none 0 0, .string ⟨#[]⟩]) V) => And.intro (show V.cell? ⟨w.heap.size, 5, none⟩ = some (.slice AI m.items.length cI) from hSw.1.cell 5) (And.intro (show V.cell? ⟨w.heap.size + 1, 0, none⟩ = some (.int .i64 x.kind) from hSw.2.1.cell 0) (And.intro (show V.cell? ⟨w.heap.size + 1, 1, none⟩ = some (.string x.id) from hSw.2.1.cell 1) (And.intro (show V.cell? ⟨w.heap.size + 1, 2, none⟩ = some (.string x.first) from hSw.2.1.cell 2) (And.intro (show V.cell? ⟨w.heap.size + 1, 3, none⟩ = some (.slice XP x.parts.length xP) from hSw.2.1.cell 3) (And.intro (show V.cell? ⟨w.heap.size + 1, 4, none⟩ = some (.slice XF x.flows.length xF) from hSw.2.1.cell 4) (And.intro (show V.cell? ⟨w.heap.size + 1, 5, none⟩ = some (.bool x.loop) from hSw.2.1.cell 5) (And.intro (show V.cell? ⟨w.heap.size + 1, 6, none⟩ = some (.string x.called) from hSw.2.1.cell 6) (And.intro (show V.cell? ⟨w.heap.size + 1, 7, none⟩ = some (.slice XM x.maps.length xM) from hSw.2.1.cell 7) (And.intro (show V.cell? ⟨w.heap.size + 1, 8, none⟩ = some (.slice XI x.items.length xI) from hSw.2.1.cell 8) ((show V.cell? ⟨w.heap.size + 1, 9, none⟩ = some (.slice XS x.seqs.length xS) from hSw.2.1.cell 9))))))))))))
  refine wp_region_HT 7 (fun V => Blk V w.heap.size 89 #[.slice A m.p.length cap, .int .i64 m.at_, .int .i64 m.n, .slice AP m.parts.length cP, .slice AF m.flows.length cF, .slice AI m.items.length cI, .slice AS m.seqs.length cS, .string m.pre] ∧ Blk V (w.heap.size + 1) 33 #[.int .i64 x.kind, .string x.id, .string x.first, .slice XP x.parts.length xP, .slice XF x.flows.length xF, .bool x.loop, .string x.called, .slice XM x.maps.length xM, .slice XI x.items.length xI, .slice XS x.seqs.length xS] ∧ Blk V (w.heap.size + 1 + 1) 89 #[.slice none 0 0, .int .i64 0, .int .i64 0, .slice none 0 0, .slice none 0 0, .slice none 0 0, .slice none 0 0, .string ⟨#[]⟩]) (by kernel_rfl) (by decide) (⟨HM1.out, HI1.out, HR1.out⟩) (fun hHeld => ?_)
  refine ht_take 1 (v := ?vt_1) rfl (by kernel_rfl) (fun _ _ _ h => h) (Or.inl ⟨by rfl, ?ht_1⟩) hHeld ?rt_1
  case ht_1 => ((intro V hSw; obtain ⟨y0, i0, i1, i2, i3, i4, i5, i6, i7, i8, i9⟩ := HY_t.out V hSw; go_simp); (try (with_reducible rfl)))
  try simp only [Act.put, List.setIfInBounds_toArray, List.set_cons_zero, List.set_cons_succ]
  refine ht_take 2 (v := ?vt_2) rfl (by kernel_rfl) (fun _ _ _ h => h) (Or.inl ⟨by rfl, ?ht_2⟩) hHeld ?rt_2
  case ht_2 => ((intro V hSw; obtain ⟨y0, i0, i1, i2, i3, i4, i5, i6, i7, i8, i9⟩ := HY_t.out V hSw; go_simp); (try (with_reducible rfl)))
  try simp only [Act.put, List.setIfInBounds_toArray, List.set_cons_zero, List.set_cons_succ]
  refine ht_take 4 (v := ?vt_3) rfl (by kernel_rfl) (fun _ _ _ h => h) (Or.inl ⟨by rfl, ?ht_3⟩) hHeld ?rt_3
  case ht_3 => ((intro V hSw; obtain ⟨y0, i0, i1, i2, i3, i4, i5, i6, i7, i8, i9⟩ := HY_t.out V hSw; go_simp); (try (with_reducible rfl)))
  try simp only [Act.put, List.setIfInBounds_toArray, List.set_cons_zero, List.set_cons_succ]
  refine wpHT_all [0, 5] (by kernel_rfl) ?_
  refine ht_cons (i := 0) rfl (fun K hK => ?_) (ht_cons (i := 5) rfl (fun K hK => ?_) (allHT.nil))
  · go_simp
    refine hK.out _ _ (⟨hHeld.1.alloc _, hHeld.2.1.alloc _, hHeld.2.2.alloc _⟩) (fun hHeld => ?_)
    clear hK K
    try simp only [Act.put, List.setIfInBounds_toArray, List.set_cons_zero, List.set_cons_succ]
    refine wpHT_all [3, 5] (by kernel_rfl) ?_
    refine ht_cons (i := 3) rfl (fun K hK => ?_) (ht_cons (i := 5) rfl (fun K hK => ?_) (allHT.nil))
    · refine step_append_any _ (by rfl) (.tmp 5) (.tmp 7) _ (by rfl) W.heap.size 33 i0 _ 10 184 Try.underlying25 hi0 hz0 hz1 hz2 rfl (by omega) (.slice (some ⟨W.heap.size, 0, none⟩) 0 0) 0 [] (by rfl) (World.ownsRow_lit (base := W.heap.size) W.drew #[] 0 (by simp) (by decide) rfl) _ AI m.items.length cI xs (by rfl) ((HR.out.below (HBW.out.drew)).alloc hzz _) H1.out (by unfold maxLen; omega) (by omega) (by simp <;> omega) ?_
      intro v3 w3 hown3 hgrow3 hat3
      simp only [Nat.zero_add, List.nil_append] at hown3
      obtain ⟨A3, c3, rfl, hc31, hc32⟩ := own_slice hown3
      have hb3 : Below w.heap.size w w3 := (HBW.out.drew.alloc hzz _).grown hgrow3 (by simp <;> omega) (fun k hk => by simp [Value.ownBlock] at hk; omega)
      refine hK.out _ _ (⟨hHeld.1.grown hgrow3 (by simp [Value.ownBlock]; have := HZ.out; omega), hHeld.2.1.grown hgrow3 (by simp [Value.ownBlock]; have := HZ.out; omega), hHeld.2.2.grown hgrow3 (by simp [Value.ownBlock]; have := HZ.out; omega)⟩) (fun hHeld => ?_)
      clear hK K
      try simp only [Act.put, List.setIfInBounds_toArray, List.set_cons_zero, List.set_cons_succ]
      refine ht_one 5 rfl (by kernel_rfl) (fun K hK => ?_)
      go_simp
      refine hK.out _ _ (⟨hHeld.1.alloc _, hHeld.2.1.alloc _, hHeld.2.2.alloc _⟩) (fun hHeld => ?_)
      clear hK K
      try simp only [Act.put, List.setIfInBounds_toArray, List.set_cons_zero, List.set_cons_succ]
      refine ht_one 6 rfl (by kernel_rfl) (fun K hK => ?_)
      refine step_append_lies _ (by rfl) (.tmp 8) (.tmp 10) _ (by rfl) W.heap.size 33 i0 _ 10 184 Try.underlying25 hi0 hz0 hz1 hz2 rfl (by omega) (.slice A3 m.items.length c3) m.items.length xs (by rfl) (hown3.alloc _) ⟨w3.heap.size, 0, none⟩ 1 1 [.int .i64 x.kind, .string x.id, .string x.first, .slice XP x.parts.length xP, .slice XF x.flows.length xF, .bool x.loop, .string x.called, .slice XM x.maps.length xM, .slice XI x.items.length xI, .slice XS x.seqs.length xS] (by rfl) (by rfl) (World.news_of_block (cs := #[.int .i64 x.kind, .string x.id, .string x.first, .slice XP x.parts.length xP, .slice XF x.flows.length xF, .bool x.loop, .string x.called, .slice XM x.maps.length xM, .slice XI x.items.length xI, .slice XS x.seqs.length xS]) (t := 33) (fr := (0, 0)) (heap_alloc_new w3 _)) (by simp [Value.oneCell']) (by omega) (by unfold maxLen; omega) (by omega) (by have := hgrow3.size; simp at this ⊢; omega) (w3.heap.size + 1) (by simp) ?_
      intro g6 cap6 w6 hown6 hgrow6 hat6 hlt6
      have hb6 : Below w.heap.size w w6 := (hb3.alloc hb3.size _).grown hgrow6 (by have := hb3.size; simp <;> omega) (fun k hk => by have := (hown3.lt k hk).1; omega)
      refine hK.out _ _ (⟨hHeld.1.grown hgrow6 (Ne.symm (blk_own_ne (hown3.alloc _) hHeld.1 (by decide))), hHeld.2.1.grown hgrow6 (fun e => by have := (hown3.lt _ e.symm).1; have := HZ.out; omega), hHeld.2.2.grown hgrow6 (Ne.symm (blk_own_ne (hown3.alloc _) hHeld.2.2 (by decide)))⟩) (fun hHeld => ?_)
      clear hK K
      try simp only [Act.put, List.setIfInBounds_toArray, List.set_cons_zero, List.set_cons_succ]
      refine ht_done (by kernel_rfl) rfl ?_
      have hM6 := hHeld.1
      have hR6 := hHeld.2.2
      have z0 : w6.cell? ⟨w.heap.size + 1 + 1, 0, none⟩ = some (.slice none 0 0) := hR6.cell 0
      have z1 : w6.cell? ⟨w.heap.size + 1 + 1, 1, none⟩ = some (.int .i64 0) := hR6.cell 1
      have z2 : w6.cell? ⟨w.heap.size + 1 + 1, 2, none⟩ = some (.int .i64 0) := hR6.cell 2
      have z3 : w6.cell? ⟨w.heap.size + 1 + 1, 3, none⟩ = some (.slice none 0 0) := hR6.cell 3
      have z4 : w6.cell? ⟨w.heap.size + 1 + 1, 4, none⟩ = some (.slice none 0 0) := hR6.cell 4
      have z5 : w6.cell? ⟨w.heap.size + 1 + 1, 5, none⟩ = some (.slice none 0 0) := hR6.cell 5
      have z6 : w6.cell? ⟨w.heap.size + 1 + 1, 6, none⟩ = some (.slice none 0 0) := hR6.cell 6
      have z7 : w6.cell? ⟨w.heap.size + 1 + 1, 7, none⟩ = some (.string ⟨#[]⟩) := hR6.cell 7
      have q0 := hR6.frozen 0
      have q1 := hR6.frozen 1
      have q2 := hR6.frozen 2
      have q3 := hR6.frozen 3
      have q4 := hR6.frozen 4
      have q5 := hR6.frozen 5
      have q6 := hR6.frozen 6
      have q7 := hR6.frozen 7
      have y0 : w6.cell? ⟨w.heap.size, 0, none⟩ = some (.slice A m.p.length cap) := hM6.cell 0
      have y1 : w6.cell? ⟨w.heap.size, 1, none⟩ = some (.int .i64 m.at_) := hM6.cell 1
      have y2 : w6.cell? ⟨w.heap.size, 2, none⟩ = some (.int .i64 m.n) := hM6.cell 2
      have y3 : w6.cell? ⟨w.heap.size, 3, none⟩ = some (.slice AP m.parts.length cP) := hM6.cell 3
      have y4 : w6.cell? ⟨w.heap.size, 4, none⟩ = some (.slice AF m.flows.length cF) := hM6.cell 4
      have y5 : w6.cell? ⟨w.heap.size, 5, none⟩ = some (.slice AI m.items.length cI) := hM6.cell 5
      have y6 : w6.cell? ⟨w.heap.size, 6, none⟩ = some (.slice AS m.seqs.length cS) := hM6.cell 6
      have y7 : w6.cell? ⟨w.heap.size, 7, none⟩ = some (.string m.pre) := hM6.cell 7
      have p0 := hM6.frozen 0
      have p1 := hM6.frozen 1
      have p2 := hM6.frozen 2
      have p3 := hM6.frozen 3
      have p4 := hM6.frozen 4
      have p5 := hM6.frozen 5
      have p6 := hM6.frozen 6
      have p7 := hM6.frozen 7
      have hl6 := hM6.lt
      have hl7 := hR6.lt
      go_wp2_with fail
      have hblk := putAll_blk [.slice A m.p.length cap, .int .i64 m.at_, .int .i64 m.n, .slice AP m.parts.length cP, .slice AF m.flows.length cF, .slice (some ⟨g6, 0, none⟩) (m.items.length + 1) cap6, .slice AS m.seqs.length cS, .string m.pre] 0 (w6.setCell ⟨w.heap.size, 5, none⟩ (.slice (some ⟨g6, 0, none⟩) (m.items.length + 1) cap6)) _ (hR6.far (by show w.heap.size + 1 + 1 ≠ w.heap.size; omega) _) rfl
      have hg6 : W.heap.size ≤ g6 := (hown6.lt g6 rfl).1
      have hend : MkEnd1 w A cap (gitemF m x) (.returned (.agg #[.slice A m.p.length cap, .int .i64 m.at_, .int .i64 m.n, .slice AP m.parts.length cP, .slice AF m.flows.length cF, .slice (some ⟨g6, 0, none⟩) (m.items.length + 1) cap6, .slice AS m.seqs.length cS, .string m.pre])) (putAll (w6.setCell ⟨w.heap.size, 5, none⟩ (.slice (some ⟨g6, 0, none⟩) (m.items.length + 1) cap6)) (w.heap.size + 1 + 1) 0 [.slice A m.p.length cap, .int .i64 m.at_, .int .i64 m.n, .slice AP m.parts.length cP, .slice AF m.flows.length cF, .slice (some ⟨g6, 0, none⟩) (m.items.length + 1) cap6, .slice AS m.seqs.length cS, .string m.pre]) := by
        have hbF := putAll_below (B := w.heap.size) (g := w.heap.size + 1 + 1) (by omega) [.slice A m.p.length cap, .int .i64 m.at_, .int .i64 m.n, .slice AP m.parts.length cP, .slice AF m.flows.length cF, .slice (some ⟨g6, 0, none⟩) (m.items.length + 1) cap6, .slice AS m.seqs.length cS, .string m.pre] 0 _ (hb6.setCell (p := ⟨w.heap.size, 5, none⟩) (Nat.le_refl _) (.slice (some ⟨g6, 0, none⟩) (m.items.length + 1) cap6))
        have hC' := HC.out.below hbF
        have hown := own_putAll (g := w.heap.size + 1 + 1) (ownsRow_setCell_other (a := ⟨w.heap.size, 5, none⟩) hown6 (by simp [Value.ownBlock]; have := HZ.out; omega) (.slice (some ⟨g6, 0, none⟩) (m.items.length + 1) cap6)) (by simp [Value.ownBlock]; have := HZ.out; omega) [.slice A m.p.length cap, .int .i64 m.at_, .int .i64 m.n, .slice AP m.parts.length cP, .slice AF m.flows.length cF, .slice (some ⟨g6, 0, none⟩) (m.items.length + 1) cap6, .slice AS m.seqs.length cS, .string m.pre] 0
        have hit := rd_snoc (f := itemC) hown HL.out HI.out hbF hbF
        exact ⟨_, rfl, ⟨AP, cP, AF, cF, some ⟨g6, 0, none⟩, cap6, AS, cS, by show _ = _; rw [show (gitemF m x).items.length = m.items.length + 1 by simp [gitemF]]; rfl, ⟨hC'.parts, hC'.flows, hit, hC'.seqs⟩⟩, hbF⟩
      exact bodyPost_ret (ret_item hblk rfl) rfl hend
    · go_simp
      refine hK.out _ _ (⟨hHeld.1.alloc _, hHeld.2.1.alloc _, hHeld.2.2.alloc _⟩) (fun hHeld => ?_)
      clear hK K
      try simp only [Act.put, List.setIfInBounds_toArray, List.set_cons_zero, List.set_cons_succ]
      refine ht_one 3 rfl (by kernel_rfl) (fun K hK => ?_)
      refine step_append_any _ (by rfl) (.tmp 5) (.tmp 7) _ (by rfl) W.heap.size 33 i0 _ 10 184 Try.underlying25 hi0 hz0 hz1 hz2 rfl (by omega) (.slice (some ⟨W.heap.size, 0, none⟩) 0 0) 0 [] (by rfl) ((World.ownsRow_lit (base := W.heap.size) W.drew #[] 0 (by simp) (by decide) rfl).alloc _) _ AI m.items.length cI xs (by rfl) (((HR.out.below (HBW.out.drew)).alloc hzz _).alloc (by simp; omega) _) H1.out (by unfold maxLen; omega) (by omega) (by simp <;> omega) ?_
      intro v3 w3 hown3 hgrow3 hat3
      simp only [Nat.zero_add, List.nil_append] at hown3
      obtain ⟨A3, c3, rfl, hc31, hc32⟩ := own_slice hown3
      have hb3 : Below w.heap.size w w3 := ((HBW.out.drew.alloc hzz _).alloc (by simp; omega) _).grown hgrow3 (by simp <;> omega) (fun k hk => by simp [Value.ownBlock] at hk; omega)
      refine hK.out _ _ (⟨hHeld.1.grown hgrow3 (by simp [Value.ownBlock]; have := HZ.out; omega), hHeld.2.1.grown hgrow3 (by simp [Value.ownBlock]; have := HZ.out; omega), hHeld.2.2.grown hgrow3 (by simp [Value.ownBlock]; have := HZ.out; omega)⟩) (fun hHeld => ?_)
      clear hK K
      try simp only [Act.put, List.setIfInBounds_toArray, List.set_cons_zero, List.set_cons_succ]
      refine ht_one 6 rfl (by kernel_rfl) (fun K hK => ?_)
      refine step_append_lies _ (by rfl) (.tmp 8) (.tmp 10) _ (by rfl) W.heap.size 33 i0 _ 10 184 Try.underlying25 hi0 hz0 hz1 hz2 rfl (by omega) (.slice A3 m.items.length c3) m.items.length xs (by rfl) hown3 ⟨(W.heap.size + 1), 0, none⟩ 1 1 [.int .i64 x.kind, .string x.id, .string x.first, .slice XP x.parts.length xP, .slice XF x.flows.length xF, .bool x.loop, .string x.called, .slice XM x.maps.length xM, .slice XI x.items.length xI, .slice XS x.seqs.length xS] (by rfl) (by rfl) (World.news_of_block (cs := #[.int .i64 x.kind, .string x.id, .string x.first, .slice XP x.parts.length xP, .slice XF x.flows.length xF, .bool x.loop, .string x.called, .slice XM x.maps.length xM, .slice XI x.items.length xI, .slice XS x.seqs.length xS]) (t := 33) (fr := (0, 0)) ((hgrow3.block _ (by simp) (by simp [Value.ownBlock])).trans (by have := heap_alloc_new (W.drew.alloc (.cells #[] 33)) (.cells #[.int .i64 x.kind, .string x.id, .string x.first, .slice XP x.parts.length xP, .slice XF x.flows.length xF, .bool x.loop, .string x.called, .slice XM x.maps.length xM, .slice XI x.items.length xI, .slice XS x.seqs.length xS] 33); rw [show (W.drew.alloc (.cells #[] 33)).heap.size = W.heap.size + 1 by simp] at this; exact this))) (by simp [Value.oneCell']) (by omega) (by unfold maxLen; omega) (by omega) (by have := hgrow3.size; simp at this ⊢; omega) w3.heap.size rfl ?_
      intro g6 cap6 w6 hown6 hgrow6 hat6 hlt6
      have hb6 : Below w.heap.size w w6 := hb3.grown hgrow6 (by have := hb3.size; simp <;> omega) (fun k hk => by have := (hown3.lt k hk).1; omega)
      refine hK.out _ _ (⟨hHeld.1.grown hgrow6 (Ne.symm (blk_own_ne hown3 hHeld.1 (by decide))), hHeld.2.1.grown hgrow6 (fun e => by have := (hown3.lt _ e.symm).1; have := HZ.out; omega), hHeld.2.2.grown hgrow6 (Ne.symm (blk_own_ne hown3 hHeld.2.2 (by decide)))⟩) (fun hHeld => ?_)
      clear hK K
      try simp only [Act.put, List.setIfInBounds_toArray, List.set_cons_zero, List.set_cons_succ]
      refine ht_done (by kernel_rfl) rfl ?_
      have hM6 := hHeld.1
      have hR6 := hHeld.2.2
      have z0 : w6.cell? ⟨w.heap.size + 1 + 1, 0, none⟩ = some (.slice none 0 0) := hR6.cell 0
      have z1 : w6.cell? ⟨w.heap.size + 1 + 1, 1, none⟩ = some (.int .i64 0) := hR6.cell 1
      have z2 : w6.cell? ⟨w.heap.size + 1 + 1, 2, none⟩ = some (.int .i64 0) := hR6.cell 2
      have z3 : w6.cell? ⟨w.heap.size + 1 + 1, 3, none⟩ = some (.slice none 0 0) := hR6.cell 3
      have z4 : w6.cell? ⟨w.heap.size + 1 + 1, 4, none⟩ = some (.slice none 0 0) := hR6.cell 4
      have z5 : w6.cell? ⟨w.heap.size + 1 + 1, 5, none⟩ = some (.slice none 0 0) := hR6.cell 5
      have z6 : w6.cell? ⟨w.heap.size + 1 + 1, 6, none⟩ = some (.slice none 0 0) := hR6.cell 6
      have z7 : w6.cell? ⟨w.heap.size + 1 + 1, 7, none⟩ = some (.string ⟨#[]⟩) := hR6.cell 7
      have q0 := hR6.frozen 0
      have q1 := hR6.frozen 1
      have q2 := hR6.frozen 2
      have q3 := hR6.frozen 3
      have q4 := hR6.frozen 4
      have q5 := hR6.frozen 5
      have q6 := hR6.frozen 6
      have q7 := hR6.frozen 7
      have y0 : w6.cell? ⟨w.heap.size, 0, none⟩ = some (.slice A m.p.length cap) := hM6.cell 0
      have y1 : w6.cell? ⟨w.heap.size, 1, none⟩ = some (.int .i64 m.at_) := hM6.cell 1
      have y2 : w6.cell? ⟨w.heap.size, 2, none⟩ = some (.int .i64 m.n) := hM6.cell 2
      have y3 : w6.cell? ⟨w.heap.size, 3, none⟩ = some (.slice AP m.parts.length cP) := hM6.cell 3
      have y4 : w6.cell? ⟨w.heap.size, 4, none⟩ = some (.slice AF m.flows.length cF) := hM6.cell 4
      have y5 : w6.cell? ⟨w.heap.size, 5, none⟩ = some (.slice AI m.items.length cI) := hM6.cell 5
      have y6 : w6.cell? ⟨w.heap.size, 6, none⟩ = some (.slice AS m.seqs.length cS) := hM6.cell 6
      have y7 : w6.cell? ⟨w.heap.size, 7, none⟩ = some (.string m.pre) := hM6.cell 7
      have p0 := hM6.frozen 0
      have p1 := hM6.frozen 1
      have p2 := hM6.frozen 2
      have p3 := hM6.frozen 3
      have p4 := hM6.frozen 4
      have p5 := hM6.frozen 5
      have p6 := hM6.frozen 6
      have p7 := hM6.frozen 7
      have hl6 := hM6.lt
      have hl7 := hR6.lt
      go_wp2_with fail
      have hblk := putAll_blk [.slice A m.p.length cap, .int .i64 m.at_, .int .i64 m.n, .slice AP m.parts.length cP, .slice AF m.flows.length cF, .slice (some ⟨g6, 0, none⟩) (m.items.length + 1) cap6, .slice AS m.seqs.length cS, .string m.pre] 0 (w6.setCell ⟨w.heap.size, 5, none⟩ (.slice (some ⟨g6, 0, none⟩) (m.items.length + 1) cap6)) _ (hR6.far (by show w.heap.size + 1 + 1 ≠ w.heap.size; omega) _) rfl
      have hg6 : W.heap.size ≤ g6 := (hown6.lt g6 rfl).1
      have hend : MkEnd1 w A cap (gitemF m x) (.returned (.agg #[.slice A m.p.length cap, .int .i64 m.at_, .int .i64 m.n, .slice AP m.parts.length cP, .slice AF m.flows.length cF, .slice (some ⟨g6, 0, none⟩) (m.items.length + 1) cap6, .slice AS m.seqs.length cS, .string m.pre])) (putAll (w6.setCell ⟨w.heap.size, 5, none⟩ (.slice (some ⟨g6, 0, none⟩) (m.items.length + 1) cap6)) (w.heap.size + 1 + 1) 0 [.slice A m.p.length cap, .int .i64 m.at_, .int .i64 m.n, .slice AP m.parts.length cP, .slice AF m.flows.length cF, .slice (some ⟨g6, 0, none⟩) (m.items.length + 1) cap6, .slice AS m.seqs.length cS, .string m.pre]) := by
        have hbF := putAll_below (B := w.heap.size) (g := w.heap.size + 1 + 1) (by omega) [.slice A m.p.length cap, .int .i64 m.at_, .int .i64 m.n, .slice AP m.parts.length cP, .slice AF m.flows.length cF, .slice (some ⟨g6, 0, none⟩) (m.items.length + 1) cap6, .slice AS m.seqs.length cS, .string m.pre] 0 _ (hb6.setCell (p := ⟨w.heap.size, 5, none⟩) (Nat.le_refl _) (.slice (some ⟨g6, 0, none⟩) (m.items.length + 1) cap6))
        have hC' := HC.out.below hbF
        have hown := own_putAll (g := w.heap.size + 1 + 1) (ownsRow_setCell_other (a := ⟨w.heap.size, 5, none⟩) hown6 (by simp [Value.ownBlock]; have := HZ.out; omega) (.slice (some ⟨g6, 0, none⟩) (m.items.length + 1) cap6)) (by simp [Value.ownBlock]; have := HZ.out; omega) [.slice A m.p.length cap, .int .i64 m.at_, .int .i64 m.n, .slice AP m.parts.length cP, .slice AF m.flows.length cF, .slice (some ⟨g6, 0, none⟩) (m.items.length + 1) cap6, .slice AS m.seqs.length cS, .string m.pre] 0
        have hit := rd_snoc (f := itemC) hown HL.out HI.out hbF hbF
        exact ⟨_, rfl, ⟨AP, cP, AF, cF, some ⟨g6, 0, none⟩, cap6, AS, cS, by show _ = _; rw [show (gitemF m x).items.length = m.items.length + 1 by simp [gitemF]]; rfl, ⟨hC'.parts, hC'.flows, hit, hC'.seqs⟩⟩, hbF⟩
      exact bodyPost_ret (ret_item hblk rfl) rfl hend
  · go_simp
    refine hK.out _ _ (⟨hHeld.1.alloc _, hHeld.2.1.alloc _, hHeld.2.2.alloc _⟩) (fun hHeld => ?_)
    clear hK K
    try simp only [Act.put, List.setIfInBounds_toArray, List.set_cons_zero, List.set_cons_succ]
    refine ht_one 0 rfl (by kernel_rfl) (fun K hK => ?_)
    go_simp
    refine hK.out _ _ (⟨hHeld.1.alloc _, hHeld.2.1.alloc _, hHeld.2.2.alloc _⟩) (fun hHeld => ?_)
    clear hK K
    try simp only [Act.put, List.setIfInBounds_toArray, List.set_cons_zero, List.set_cons_succ]
    refine ht_one 3 rfl (by kernel_rfl) (fun K hK => ?_)
    refine step_append_any _ (by rfl) (.tmp 5) (.tmp 7) _ (by rfl) W.heap.size 33 i0 _ 10 184 Try.underlying25 hi0 hz0 hz1 hz2 rfl (by omega) (.slice (some ⟨W.heap.size + 1, 0, none⟩) 0 0) 0 [] (by rfl) (by have := World.ownsRow_lit (base := W.heap.size) (e := 33) (size := 10) (W.drew.alloc (.cells #[.int .i64 x.kind, .string x.id, .string x.first, .slice XP x.parts.length xP, .slice XF x.flows.length xF, .bool x.loop, .string x.called, .slice XM x.maps.length xM, .slice XI x.items.length xI, .slice XS x.seqs.length xS] 33)) #[] 0 (by simp) (by decide) rfl; rw [show (W.drew.alloc (.cells #[.int .i64 x.kind, .string x.id, .string x.first, .slice XP x.parts.length xP, .slice XF x.flows.length xF, .bool x.loop, .string x.called, .slice XM x.maps.length xM, .slice XI x.items.length xI, .slice XS x.seqs.length xS] 33)).heap.size = W.heap.size + 1 by simp] at this; exact this) _ AI m.items.length cI xs (by rfl) (((HR.out.below (HBW.out.drew)).alloc hzz _).alloc (by simp; omega) _) H1.out (by unfold maxLen; omega) (by omega) (by simp <;> omega) ?_
    intro v3 w3 hown3 hgrow3 hat3
    simp only [Nat.zero_add, List.nil_append] at hown3
    obtain ⟨A3, c3, rfl, hc31, hc32⟩ := own_slice hown3
    have hb3 : Below w.heap.size w w3 := ((HBW.out.drew.alloc hzz _).alloc (by simp; omega) _).grown hgrow3 (by simp <;> omega) (fun k hk => by simp [Value.ownBlock] at hk; omega)
    refine hK.out _ _ (⟨hHeld.1.grown hgrow3 (by simp [Value.ownBlock]; have := HZ.out; omega), hHeld.2.1.grown hgrow3 (by simp [Value.ownBlock]; have := HZ.out; omega), hHeld.2.2.grown hgrow3 (by simp [Value.ownBlock]; have := HZ.out; omega)⟩) (fun hHeld => ?_)
    clear hK K
    try simp only [Act.put, List.setIfInBounds_toArray, List.set_cons_zero, List.set_cons_succ]
    refine ht_one 6 rfl (by kernel_rfl) (fun K hK => ?_)
    refine step_append_lies _ (by rfl) (.tmp 8) (.tmp 10) _ (by rfl) W.heap.size 33 i0 _ 10 184 Try.underlying25 hi0 hz0 hz1 hz2 rfl (by omega) (.slice A3 m.items.length c3) m.items.length xs (by rfl) hown3 ⟨W.heap.size, 0, none⟩ 1 1 [.int .i64 x.kind, .string x.id, .string x.first, .slice XP x.parts.length xP, .slice XF x.flows.length xF, .bool x.loop, .string x.called, .slice XM x.maps.length xM, .slice XI x.items.length xI, .slice XS x.seqs.length xS] (by rfl) (by rfl) (World.news_of_block (cs := #[.int .i64 x.kind, .string x.id, .string x.first, .slice XP x.parts.length xP, .slice XF x.flows.length xF, .bool x.loop, .string x.called, .slice XM x.maps.length xM, .slice XI x.items.length xI, .slice XS x.seqs.length xS]) (t := 33) (fr := (0, 0)) ((hgrow3.block _ (by simp; omega) (by simp [Value.ownBlock])).trans ((Blk.new W.drew 33 #[.int .i64 x.kind, .string x.id, .string x.first, .slice XP x.parts.length xP, .slice XF x.flows.length xF, .bool x.loop, .string x.called, .slice XM x.maps.length xM, .slice XI x.items.length xI, .slice XS x.seqs.length xS]).alloc (.cells #[] 33)))) (by simp [Value.oneCell']) (by omega) (by unfold maxLen; omega) (by omega) (by have := hgrow3.size; simp at this ⊢; omega) w3.heap.size rfl ?_
    intro g6 cap6 w6 hown6 hgrow6 hat6 hlt6
    have hb6 : Below w.heap.size w w6 := hb3.grown hgrow6 (by have := hb3.size; simp <;> omega) (fun k hk => by have := (hown3.lt k hk).1; omega)
    refine hK.out _ _ (⟨hHeld.1.grown hgrow6 (Ne.symm (blk_own_ne hown3 hHeld.1 (by decide))), hHeld.2.1.grown hgrow6 (fun e => by have := (hown3.lt _ e.symm).1; have := HZ.out; omega), hHeld.2.2.grown hgrow6 (Ne.symm (blk_own_ne hown3 hHeld.2.2 (by decide)))⟩) (fun hHeld => ?_)
    clear hK K
    try simp only [Act.put, List.setIfInBounds_toArray, List.set_cons_zero, List.set_cons_succ]
    refine ht_done (by kernel_rfl) rfl ?_
    have hM6 := hHeld.1
    have hR6 := hHeld.2.2
    have z0 : w6.cell? ⟨w.heap.size + 1 + 1, 0, none⟩ = some (.slice none 0 0) := hR6.cell 0
    have z1 : w6.cell? ⟨w.heap.size + 1 + 1, 1, none⟩ = some (.int .i64 0) := hR6.cell 1
    have z2 : w6.cell? ⟨w.heap.size + 1 + 1, 2, none⟩ = some (.int .i64 0) := hR6.cell 2
    have z3 : w6.cell? ⟨w.heap.size + 1 + 1, 3, none⟩ = some (.slice none 0 0) := hR6.cell 3
    have z4 : w6.cell? ⟨w.heap.size + 1 + 1, 4, none⟩ = some (.slice none 0 0) := hR6.cell 4
    have z5 : w6.cell? ⟨w.heap.size + 1 + 1, 5, none⟩ = some (.slice none 0 0) := hR6.cell 5
    have z6 : w6.cell? ⟨w.heap.size + 1 + 1, 6, none⟩ = some (.slice none 0 0) := hR6.cell 6
    have z7 : w6.cell? ⟨w.heap.size + 1 + 1, 7, none⟩ = some (.string ⟨#[]⟩) := hR6.cell 7
    have q0 := hR6.frozen 0
    have q1 := hR6.frozen 1
    have q2 := hR6.frozen 2
    have q3 := hR6.frozen 3
    have q4 := hR6.frozen 4
    have q5 := hR6.frozen 5
    have q6 := hR6.frozen 6
    have q7 := hR6.frozen 7
    have y0 : w6.cell? ⟨w.heap.size, 0, none⟩ = some (.slice A m.p.length cap) := hM6.cell 0
    have y1 : w6.cell? ⟨w.heap.size, 1, none⟩ = some (.int .i64 m.at_) := hM6.cell 1
    have y2 : w6.cell? ⟨w.heap.size, 2, none⟩ = some (.int .i64 m.n) := hM6.cell 2
    have y3 : w6.cell? ⟨w.heap.size, 3, none⟩ = some (.slice AP m.parts.length cP) := hM6.cell 3
    have y4 : w6.cell? ⟨w.heap.size, 4, none⟩ = some (.slice AF m.flows.length cF) := hM6.cell 4
    have y5 : w6.cell? ⟨w.heap.size, 5, none⟩ = some (.slice AI m.items.length cI) := hM6.cell 5
    have y6 : w6.cell? ⟨w.heap.size, 6, none⟩ = some (.slice AS m.seqs.length cS) := hM6.cell 6
    have y7 : w6.cell? ⟨w.heap.size, 7, none⟩ = some (.string m.pre) := hM6.cell 7
    have p0 := hM6.frozen 0
    have p1 := hM6.frozen 1
    have p2 := hM6.frozen 2
    have p3 := hM6.frozen 3
    have p4 := hM6.frozen 4
    have p5 := hM6.frozen 5
    have p6 := hM6.frozen 6
    have p7 := hM6.frozen 7
    have hl6 := hM6.lt
    have hl7 := hR6.lt
    go_wp2_with fail
    have hblk := putAll_blk [.slice A m.p.length cap, .int .i64 m.at_, .int .i64 m.n, .slice AP m.parts.length cP, .slice AF m.flows.length cF, .slice (some ⟨g6, 0, none⟩) (m.items.length + 1) cap6, .slice AS m.seqs.length cS, .string m.pre] 0 (w6.setCell ⟨w.heap.size, 5, none⟩ (.slice (some ⟨g6, 0, none⟩) (m.items.length + 1) cap6)) _ (hR6.far (by show w.heap.size + 1 + 1 ≠ w.heap.size; omega) _) rfl
    have hg6 : W.heap.size ≤ g6 := (hown6.lt g6 rfl).1
    have hend : MkEnd1 w A cap (gitemF m x) (.returned (.agg #[.slice A m.p.length cap, .int .i64 m.at_, .int .i64 m.n, .slice AP m.parts.length cP, .slice AF m.flows.length cF, .slice (some ⟨g6, 0, none⟩) (m.items.length + 1) cap6, .slice AS m.seqs.length cS, .string m.pre])) (putAll (w6.setCell ⟨w.heap.size, 5, none⟩ (.slice (some ⟨g6, 0, none⟩) (m.items.length + 1) cap6)) (w.heap.size + 1 + 1) 0 [.slice A m.p.length cap, .int .i64 m.at_, .int .i64 m.n, .slice AP m.parts.length cP, .slice AF m.flows.length cF, .slice (some ⟨g6, 0, none⟩) (m.items.length + 1) cap6, .slice AS m.seqs.length cS, .string m.pre]) := by
      have hbF := putAll_below (B := w.heap.size) (g := w.heap.size + 1 + 1) (by omega) [.slice A m.p.length cap, .int .i64 m.at_, .int .i64 m.n, .slice AP m.parts.length cP, .slice AF m.flows.length cF, .slice (some ⟨g6, 0, none⟩) (m.items.length + 1) cap6, .slice AS m.seqs.length cS, .string m.pre] 0 _ (hb6.setCell (p := ⟨w.heap.size, 5, none⟩) (Nat.le_refl _) (.slice (some ⟨g6, 0, none⟩) (m.items.length + 1) cap6))
      have hC' := HC.out.below hbF
      have hown := own_putAll (g := w.heap.size + 1 + 1) (ownsRow_setCell_other (a := ⟨w.heap.size, 5, none⟩) hown6 (by simp [Value.ownBlock]; have := HZ.out; omega) (.slice (some ⟨g6, 0, none⟩) (m.items.length + 1) cap6)) (by simp [Value.ownBlock]; have := HZ.out; omega) [.slice A m.p.length cap, .int .i64 m.at_, .int .i64 m.n, .slice AP m.parts.length cP, .slice AF m.flows.length cF, .slice (some ⟨g6, 0, none⟩) (m.items.length + 1) cap6, .slice AS m.seqs.length cS, .string m.pre] 0
      have hit := rd_snoc (f := itemC) hown HL.out HI.out hbF hbF
      exact ⟨_, rfl, ⟨AP, cP, AF, cF, some ⟨g6, 0, none⟩, cap6, AS, cS, by show _ = _; rw [show (gitemF m x).items.length = m.items.length + 1 by simp [gitemF]]; rfl, ⟨hC'.parts, hC'.flows, hit, hC'.seqs⟩⟩, hbF⟩
    exact bodyPost_ret (ret_item hblk rfl) rfl hend
end Go.Proofs.Yteoioboiniealaa
