/- The contract of the maker's item, by what a level does. -/
import Derived.Test.YteoioboiniealaaFlaC
namespace Go.Proofs.Yteoioboiniealaa
open Go.RowKit

/-- Small enough to be reckoned with. -/
structure SmallF (s : FS) : Prop where
  msgs : s.msgs.length ≤ 1000000
  nodes : s.nodes.length ≤ 1000000
  edges : s.edges.length ≤ 1000000
theorem SmallF.le {s s' : FS} (h : SmallF s') (k : FS.Le s s') : SmallF s := ⟨Nat.le_trans k.msgs h.msgs, Nat.le_trans k.nodes h.nodes, Nat.le_trans k.edges h.edges⟩
/-- Another block that is neither the maker's nor of a type of its rows is turned. -/
theorem FW.turned {C : FC} {wB W W1 : World} {m g : Nat} {s : FS} {t : TypeId} {cs : Array Value} (h : FW C wB m s W) (hg : W.grownBy W1 (some g)) (hb : Blk W g t cs) (hw : wB.heap.size ≤ g) (h1 : t ≠ 95) (h2 : 9 ≠ t) (h3 : 55 ≠ t) (h4 : 53 ≠ t) : FW C wB m s W1 := by
  obtain ⟨gM, gN, gE, h⟩ := h
  exact ⟨gM, gN, gE, h.turned hg hb hw h1 (blk_own_ne h.oM hb h2) (blk_own_ne h.oN hb h3) (blk_own_ne h.oE hb h4)⟩
theorem FW.end_ {C : FC} {wB W : World} {m g : Nat} {s : FS} {cs : Array Value} (h : FW C wB m s W) (hb : Blk W g 97 cs) (hw : wB.heap.size ≤ g) (i : Nat) (u : Value) : FW C wB m s (W.setCell ⟨g, i, none⟩ u) :=
  h.turned (grown_set W g i u) hb hw (by decide) (by decide) (by decide) (by decide)
mutual
/-- Not too many items within. -/
def lenI : ItemD → Prop
  | ⟨_, _, _, _, _, _, _, _, items, _⟩ => items.length ≤ 1000000 ∧ lenL items
def lenL : List ItemD → Prop
  | [] => True
  | x :: l => lenI x ∧ lenL l
end
theorem lenI_eq (x : ItemD) : lenI x ↔ x.items.length ≤ 1000000 ∧ lenL x.items := by
  obtain ⟨kind, id, first, parts, flows, loop, called, maps, items, seqs⟩ := x
  unfold lenI
  exact Iff.rfl
theorem lenL_all : ∀ {l : List ItemD}, lenL l ↔ ∀ x ∈ l, lenI x
  | [] => by unfold lenL; simp
  | x :: l => by
    unfold lenL
    rw [lenL_all]
    simp
/-- What a level does. -/
def LevelOk (C : FC) (wB : World) (m f : Nat) : Prop := ∀ (within : Bool) (l : List ItemD) (sq : List SeqD) (s : FS) (r : Int × Int) (s' : FS) (W : World) (vI vS : Value),
  flevF C.ps C.c.flows f within l sq s = some (r, s') → SmallF s' → FW C wB m s W → l.length ≤ 1000000 → lenL l → Rd wB (itemsD l) vI → Rd wB (seqsD sq) vS →
  Calls Try.prog 40 #[.pointer (some ⟨m, 0, none⟩), vI, vS, .bool within] W fun e w' => e = .returned (.agg #[.int .i64 r.1, .int .i64 r.2]) ∧ FW C wB m s' w' ∧ ChT [9, 55, 53, 95] W w'
theorem ret_fitem {W : World} {g : Nat} {v0 v1 : Value} {tmps : Array Value} (h : Blk W g 97 #[v0, v1]) (ht : tmps.getD 6 undef = .pointer (some ⟨g, 0, none⟩)) :
    (results Try.f63 tmps).run Try.prog W = .ok (.agg #[v0, v1]) W := by
  have x0 : W.cell? ⟨g, 0, none⟩ = some v0 := h.cell 0
  have x1 : W.cell? ⟨g, 1, none⟩ = some v1 := h.cell 1
  simp [results, Try.results63, go_sem, ht, x0, x1, -Array.getD_eq_getD_getElem?]
set_option maxRecDepth 100000 in
set_option maxHeartbeats 4000000 in
theorem fitem_any {C : FC} {wB W : World} {m f : Nat} (hm : m < wB.heap.size) (hd : FD C wB m) (ih : LevelOk C wB m f) (x : ItemD) (hxl : lenI x) (within : Bool) {A3 A4 A7 A8 A9 : Option Addr} {c3 c4 c7 c8 c9 : Nat}
    (hx : ItemV wB x (.slice A3 x.parts.length c3) (.slice A4 x.flows.length c4) (.slice A7 x.maps.length c7) (.slice A8 x.items.length c8) (.slice A9 x.seqs.length c9))
    {s s' : FS} {r : Int × Int} (h : fitemG (flevF C.ps C.c.flows f true) C.ps C.c.flows within s x = some (r, s')) (hs : SmallF s') (hF : FW C wB m s W) :
    Calls Try.prog 63 #[.pointer (some ⟨m, 0, none⟩), .agg #[.int .i64 x.kind, .string x.id, .string x.first, .slice A3 x.parts.length c3, .slice A4 x.flows.length c4, .bool x.loop, .string x.called, .slice A7 x.maps.length c7, .slice A8 x.items.length c8, .slice A9 x.seqs.length c9], .bool within] W fun e w' => e = .returned (.agg #[.int .i64 r.1, .int .i64 r.2]) ∧ FW C wB m s' w' ∧ ChT [9, 55, 53, 95] W w' := by
  obtain ⟨gI, hgI⟩ : ∃ g, g = W.heap.size := ⟨_, rfl⟩
  obtain ⟨T, hT⟩ : ∃ T, T = (W.alloc (.cells #[.int .i64 x.kind, .string x.id, .string x.first, .slice A3 x.parts.length c3, .slice A4 x.flows.length c4, .bool x.loop, .string x.called, .slice A7 x.maps.length c7, .slice A8 x.items.length c8, .slice A9 x.seqs.length c9] 33)).alloc (.cells #[.int .i64 0, .int .i64 0] 97) := ⟨_, rfl⟩
  have bI : Blk T gI 33 #[.int .i64 x.kind, .string x.id, .string x.first, .slice A3 x.parts.length c3, .slice A4 x.flows.length c4, .bool x.loop, .string x.called, .slice A7 x.maps.length c7, .slice A8 x.items.length c8, .slice A9 x.seqs.length c9] := by rw [hT, hgI]; exact (Blk.new W _ _).alloc _
  have br : Blk T (gI + 1) 97 #[.int .i64 0, .int .i64 0] := by
    have := Blk.new (W.alloc (.cells #[.int .i64 x.kind, .string x.id, .string x.first, .slice A3 x.parts.length c3, .slice A4 x.flows.length c4, .bool x.loop, .string x.called, .slice A7 x.maps.length c7, .slice A8 x.items.length c8, .slice A9 x.seqs.length c9] 33)) 97 #[.int .i64 0, .int .i64 0]
    rw [hT, hgI]
    simpa using this
  have hbT : Below W.heap.size W T := by rw [hT]; exact (((Below.refl _ _).alloc (Nat.le_refl _) _).alloc (by simp) _)
  have hFT := hF.below hbT
  have hcT : ChT [9, 55, 53, 95] W T := .of_below hbT
  have hwI : wB.heap.size ≤ gI := by
    obtain ⟨_, _, _, hX⟩ := hF
    rw [hgI]; exact hX.kept.size
  have i0 : T.cell? ⟨gI, 0, none⟩ = some (.int .i64 x.kind) := bI.cell 0
  have i1 : T.cell? ⟨gI, 1, none⟩ = some (.string x.id) := bI.cell 1
  have i2 : T.cell? ⟨gI, 2, none⟩ = some (.string x.first) := bI.cell 2
  have i3 : T.cell? ⟨gI, 3, none⟩ = some (.slice A3 x.parts.length c3) := bI.cell 3
  have i4 : T.cell? ⟨gI, 4, none⟩ = some (.slice A4 x.flows.length c4) := bI.cell 4
  have i5 : T.cell? ⟨gI, 5, none⟩ = some (.bool x.loop) := bI.cell 5
  have i6 : T.cell? ⟨gI, 6, none⟩ = some (.string x.called) := bI.cell 6
  have i7 : T.cell? ⟨gI, 7, none⟩ = some (.slice A7 x.maps.length c7) := bI.cell 7
  have i8 : T.cell? ⟨gI, 8, none⟩ = some (.slice A8 x.items.length c8) := bI.cell 8
  have i9 : T.cell? ⟨gI, 9, none⟩ = some (.slice A9 x.seqs.length c9) := bI.cell 9
  have HFT := Lib.hid hFT
  have HCT := Lib.hid hcT
  have HBR := Lib.hid br
  have HD := Lib.hid hd
  have HX := Lib.hid hx
  have HT := Lib.hid hT.symm
  have HGI := Lib.hid hgI.symm
  have HIH := Lib.hid ih
  have hgT := br.lt
  clear hF hFT hcT br hd hx hT ih hbT bI
  go_enter Try.func63, Try.ntmps63
  go_upto_region 1 with fail
  rw [HT.out, HGI.out]
  clear hgI HT
  unfold fitemG at h
  by_cases k3 : x.kind = 3
  · rw [if_pos k3] at h
    injection h with h
    injection h with h1 h2
    have hb3 : (x.kind == 3) = true := by simp [k3]
    have hs' : SmallF (taskF C.ps C.c.flows x s).2 := by rw [h2]; exact hs
    have hcall := ftask_any (W := T) (n3 := x.parts.length) (n7 := x.maps.length) (n8 := x.items.length) (n9 := x.seqs.length) (A3 := A3) (A7 := A7) (A8 := A8) (A9 := A9) (c3 := c3) (c7 := c7) (c8 := c8) (c9 := c9) x hm HD.out HX.out.2.1 hs'.msgs hs'.nodes HFT.out
    obtain ⟨q, hq⟩ : ∃ q, q = taskF C.ps C.c.flows x s := ⟨_, rfl⟩
    rw [← hq] at hcall h1 h2
    clear hs' hq k3
    subst h1
    subst h2
    have HCALL := Lib.hid hcall
    clear hcall
    go_wp2_with fail
    refine (HCALL.out).mono ?_
    rintro e w3 ⟨rfl, hF3, hc3⟩
    have hB3 := HBR.out.ch hc3 (by decide)
    have hC3 := HCT.out.trans (hc3.mono (by decide))
    clear HFT HCT HBR i0 i1 i2 i3 i4 i5 i6 i7 i8 i9
    have f0 : w3.frozen? ⟨gI + 1, 0, none⟩ = false := hB3.frozen 0
    have f1 : w3.frozen? ⟨gI + 1, 1, none⟩ = false := hB3.frozen 1
    have z0 : w3.cell? ⟨gI + 1, 0, none⟩ = some (.int .i64 0) := hB3.cell 0
    have z1 : w3.cell? ⟨gI + 1, 1, none⟩ = some (.int .i64 0) := hB3.cell 1
    have hl3 := hB3.lt
    have hg1 : W.heap.size ≤ gI + 1 := by have := HGI.out; omega
    have hF4 := (hF3.end_ hB3 (by omega) 0 (.int .i64 q.1)).end_ (hB3.set_ 0 (.int .i64 q.1)) (by omega) 1 (.int .i64 q.1)
    have hB4 : Blk _ _ 97 #[.int .i64 q.1, .int .i64 q.1] := (hB3.set_ 0 (.int .i64 q.1)).set_ 1 (.int .i64 q.1)
    have hC4 := ch_new (i := 1) (.int .i64 q.1) (ch_new (i := 0) (.int .i64 q.1) hC3 hg1) hg1
    have HF4 := Lib.hid hF4
    have HB4 := Lib.hid hB4
    have HC4 := Lib.hid hC4
    clear hF3 hB3 hC3 hF4 hB4 hC4 hc3 hg1
    go_wp2_with fail
    exact bodyPost_ret (ret_fitem HB4.out rfl) rfl ⟨rfl, HF4.out, HC4.out⟩
  · rw [if_neg k3] at h
    have hb3 : (x.kind == 3) = false := by simp [k3]
    by_cases k7 : x.kind = 7
    · rw [if_pos k7] at h
      have hb7 : (x.kind == 7) = true := by simp [k7]
      have hcall := HIH.out true x.items x.seqs s r s' T _ _ h hs HFT.out ((lenI_eq x).1 hxl).1 ((lenI_eq x).1 hxl).2 HX.out.2.2.2.1 HX.out.2.2.2.2
      have HCALL := Lib.hid hcall
      clear hcall h k7
      go_wp2_with fail
      refine (HCALL.out).mono ?_
      rintro e w3 ⟨rfl, hF3, hc3⟩
      have hB3 := HBR.out.ch hc3 (by decide)
      have hC3 := HCT.out.trans (hc3.mono (by decide))
      clear HFT HCT HBR i0 i1 i2 i3 i4 i5 i6 i7 i8 i9
      have f0 : w3.frozen? ⟨gI + 1, 0, none⟩ = false := hB3.frozen 0
      have f1 : w3.frozen? ⟨gI + 1, 1, none⟩ = false := hB3.frozen 1
      have z0 : w3.cell? ⟨gI + 1, 0, none⟩ = some (.int .i64 0) := hB3.cell 0
      have z1 : w3.cell? ⟨gI + 1, 1, none⟩ = some (.int .i64 0) := hB3.cell 1
      have hl3 := hB3.lt
      have hg1 : W.heap.size ≤ gI + 1 := by have := HGI.out; omega
      have hF4 := (hF3.end_ hB3 (by omega) 0 (.int .i64 r.1)).end_ (hB3.set_ 0 (.int .i64 r.1)) (by omega) 1 (.int .i64 r.2)
      have hB4 : Blk _ _ 97 #[.int .i64 r.1, .int .i64 r.2] := (hB3.set_ 0 (.int .i64 r.1)).set_ 1 (.int .i64 r.2)
      have hC4 := ch_new (i := 1) (.int .i64 r.2) (ch_new (i := 0) (.int .i64 r.1) hC3 hg1) hg1
      have HF4 := Lib.hid hF4
      have HB4 := Lib.hid hB4
      have HC4 := Lib.hid hC4
      clear hF3 hB3 hC3 hF4 hB4 hC4 hc3 hg1
      go_wp2_with fail
      exact bodyPost_ret (ret_fitem HB4.out rfl) rfl ⟨rfl, HF4.out, HC4.out⟩
    · rw [if_neg k7] at h
      have hb7 : (x.kind == 7) = false := by simp [k7]
      by_cases kw : within = true ∧ (x.kind = 1 ∨ x.kind = 2)
      · rw [if_pos kw] at h
        injection h with h
        injection h with h1 h2
        obtain ⟨hw1, kk⟩ := kw
        subst hw1
        subst h1
        subst h2
        have hcall := fnode_any (plainN (4) x) hm hs.nodes HFT.out
        have HCALL := Lib.hid (show Calls Try.prog 79 #[.pointer (some ⟨m, 0, none⟩), .agg #[.int .i64 (4), .string x.id, .int .i64 (-1), .int .i64 (-1), .int .i64 (-1), .int .i64 (-1), .bool false]] T _ from hcall)
        clear hcall
        rcases kk with k1 | k1
        · have hb1 : (x.kind == 1) = true := by simp [k1]
          go_wp2_with fail
          refine (HCALL.out).mono ?_
          rintro e w3 ⟨rfl, hF3, hc3⟩
          have hB3 := HBR.out.ch hc3 (by decide)
          have hC3 := HCT.out.trans (hc3.mono (by decide))
          clear HFT HCT HBR i0 i1 i2 i3 i4 i5 i6 i7 i8 i9
          have f0 : w3.frozen? ⟨gI + 1, 0, none⟩ = false := hB3.frozen 0
          have f1 : w3.frozen? ⟨gI + 1, 1, none⟩ = false := hB3.frozen 1
          have z0 : w3.cell? ⟨gI + 1, 0, none⟩ = some (.int .i64 0) := hB3.cell 0
          have z1 : w3.cell? ⟨gI + 1, 1, none⟩ = some (.int .i64 0) := hB3.cell 1
          have hl3 := hB3.lt
          have hg1 : W.heap.size ≤ gI + 1 := by have := HGI.out; omega
          have hF4 := (hF3.end_ hB3 (by omega) 0 (.int .i64 (addNode s (plainN 4 x)).1)).end_ (hB3.set_ 0 (.int .i64 (addNode s (plainN 4 x)).1)) (by omega) 1 (.int .i64 (addNode s (plainN 4 x)).1)
          have hB4 : Blk _ _ 97 #[.int .i64 (addNode s (plainN 4 x)).1, .int .i64 (addNode s (plainN 4 x)).1] := (hB3.set_ 0 (.int .i64 (addNode s (plainN 4 x)).1)).set_ 1 (.int .i64 (addNode s (plainN 4 x)).1)
          have hC4 := ch_new (i := 1) (.int .i64 (addNode s (plainN 4 x)).1) (ch_new (i := 0) (.int .i64 (addNode s (plainN 4 x)).1) hC3 hg1) hg1
          have HF4 := Lib.hid hF4
          have HB4 := Lib.hid hB4
          have HC4 := Lib.hid hC4
          clear hF3 hB3 hC3 hF4 hB4 hC4 hc3 hg1
          go_wp2_with fail
          exact bodyPost_ret (ret_fitem HB4.out rfl) rfl ⟨rfl, HF4.out, HC4.out⟩
        · have hb1 : (x.kind == 1) = false := by simp [k1]
          have hb2 : (x.kind == 2) = true := by simp [k1]
          go_wp2_with fail
          refine (HCALL.out).mono ?_
          rintro e w3 ⟨rfl, hF3, hc3⟩
          have hB3 := HBR.out.ch hc3 (by decide)
          have hC3 := HCT.out.trans (hc3.mono (by decide))
          clear HFT HCT HBR i0 i1 i2 i3 i4 i5 i6 i7 i8 i9
          have f0 : w3.frozen? ⟨gI + 1, 0, none⟩ = false := hB3.frozen 0
          have f1 : w3.frozen? ⟨gI + 1, 1, none⟩ = false := hB3.frozen 1
          have z0 : w3.cell? ⟨gI + 1, 0, none⟩ = some (.int .i64 0) := hB3.cell 0
          have z1 : w3.cell? ⟨gI + 1, 1, none⟩ = some (.int .i64 0) := hB3.cell 1
          have hl3 := hB3.lt
          have hg1 : W.heap.size ≤ gI + 1 := by have := HGI.out; omega
          have hF4 := (hF3.end_ hB3 (by omega) 0 (.int .i64 (addNode s (plainN 4 x)).1)).end_ (hB3.set_ 0 (.int .i64 (addNode s (plainN 4 x)).1)) (by omega) 1 (.int .i64 (addNode s (plainN 4 x)).1)
          have hB4 : Blk _ _ 97 #[.int .i64 (addNode s (plainN 4 x)).1, .int .i64 (addNode s (plainN 4 x)).1] := (hB3.set_ 0 (.int .i64 (addNode s (plainN 4 x)).1)).set_ 1 (.int .i64 (addNode s (plainN 4 x)).1)
          have hC4 := ch_new (i := 1) (.int .i64 (addNode s (plainN 4 x)).1) (ch_new (i := 0) (.int .i64 (addNode s (plainN 4 x)).1) hC3 hg1) hg1
          have HF4 := Lib.hid hF4
          have HB4 := Lib.hid hB4
          have HC4 := Lib.hid hC4
          clear hF3 hB3 hC3 hF4 hB4 hC4 hc3 hg1
          go_wp2_with fail
          exact bodyPost_ret (ret_fitem HB4.out rfl) rfl ⟨rfl, HF4.out, HC4.out⟩
      · rw [if_neg kw] at h
        injection h with h
        injection h with h1 h2
        subst h1
        subst h2
        have hcall := fnode_any (plainN (x.kind) x) hm hs.nodes HFT.out
        have HCALL := Lib.hid (show Calls Try.prog 79 #[.pointer (some ⟨m, 0, none⟩), .agg #[.int .i64 (x.kind), .string x.id, .int .i64 (-1), .int .i64 (-1), .int .i64 (-1), .int .i64 (-1), .bool false]] T _ from hcall)
        clear hcall
        cases within
        · go_wp2_with fail
          refine (HCALL.out).mono ?_
          rintro e w3 ⟨rfl, hF3, hc3⟩
          have hB3 := HBR.out.ch hc3 (by decide)
          have hC3 := HCT.out.trans (hc3.mono (by decide))
          clear HFT HCT HBR i0 i1 i2 i3 i4 i5 i6 i7 i8 i9
          have f0 : w3.frozen? ⟨gI + 1, 0, none⟩ = false := hB3.frozen 0
          have f1 : w3.frozen? ⟨gI + 1, 1, none⟩ = false := hB3.frozen 1
          have z0 : w3.cell? ⟨gI + 1, 0, none⟩ = some (.int .i64 0) := hB3.cell 0
          have z1 : w3.cell? ⟨gI + 1, 1, none⟩ = some (.int .i64 0) := hB3.cell 1
          have hl3 := hB3.lt
          have hg1 : W.heap.size ≤ gI + 1 := by have := HGI.out; omega
          have hF4 := (hF3.end_ hB3 (by omega) 0 (.int .i64 (addNode s (plainN x.kind x)).1)).end_ (hB3.set_ 0 (.int .i64 (addNode s (plainN x.kind x)).1)) (by omega) 1 (.int .i64 (addNode s (plainN x.kind x)).1)
          have hB4 : Blk _ _ 97 #[.int .i64 (addNode s (plainN x.kind x)).1, .int .i64 (addNode s (plainN x.kind x)).1] := (hB3.set_ 0 (.int .i64 (addNode s (plainN x.kind x)).1)).set_ 1 (.int .i64 (addNode s (plainN x.kind x)).1)
          have hC4 := ch_new (i := 1) (.int .i64 (addNode s (plainN x.kind x)).1) (ch_new (i := 0) (.int .i64 (addNode s (plainN x.kind x)).1) hC3 hg1) hg1
          have HF4 := Lib.hid hF4
          have HB4 := Lib.hid hB4
          have HC4 := Lib.hid hC4
          clear hF3 hB3 hC3 hF4 hB4 hC4 hc3 hg1
          go_wp2_with fail
          exact bodyPost_ret (ret_fitem HB4.out rfl) rfl ⟨rfl, HF4.out, HC4.out⟩
        · have k12 : ¬ (x.kind = 1 ∨ x.kind = 2) := fun h => kw ⟨rfl, h⟩
          have hb1 : (x.kind == 1) = false := by have : x.kind ≠ 1 := fun h => k12 (.inl h); simp [this]
          have hb2 : (x.kind == 2) = false := by have : x.kind ≠ 2 := fun h => k12 (.inr h); simp [this]
          go_wp2_with fail
          refine (HCALL.out).mono ?_
          rintro e w3 ⟨rfl, hF3, hc3⟩
          have hB3 := HBR.out.ch hc3 (by decide)
          have hC3 := HCT.out.trans (hc3.mono (by decide))
          clear HFT HCT HBR i0 i1 i2 i3 i4 i5 i6 i7 i8 i9
          have f0 : w3.frozen? ⟨gI + 1, 0, none⟩ = false := hB3.frozen 0
          have f1 : w3.frozen? ⟨gI + 1, 1, none⟩ = false := hB3.frozen 1
          have z0 : w3.cell? ⟨gI + 1, 0, none⟩ = some (.int .i64 0) := hB3.cell 0
          have z1 : w3.cell? ⟨gI + 1, 1, none⟩ = some (.int .i64 0) := hB3.cell 1
          have hl3 := hB3.lt
          have hg1 : W.heap.size ≤ gI + 1 := by have := HGI.out; omega
          have hF4 := (hF3.end_ hB3 (by omega) 0 (.int .i64 (addNode s (plainN x.kind x)).1)).end_ (hB3.set_ 0 (.int .i64 (addNode s (plainN x.kind x)).1)) (by omega) 1 (.int .i64 (addNode s (plainN x.kind x)).1)
          have hB4 : Blk _ _ 97 #[.int .i64 (addNode s (plainN x.kind x)).1, .int .i64 (addNode s (plainN x.kind x)).1] := (hB3.set_ 0 (.int .i64 (addNode s (plainN x.kind x)).1)).set_ 1 (.int .i64 (addNode s (plainN x.kind x)).1)
          have hC4 := ch_new (i := 1) (.int .i64 (addNode s (plainN x.kind x)).1) (ch_new (i := 0) (.int .i64 (addNode s (plainN x.kind x)).1) hC3 hg1) hg1
          have HF4 := Lib.hid hF4
          have HB4 := Lib.hid hB4
          have HC4 := Lib.hid hC4
          clear hF3 hB3 hC3 hF4 hB4 hC4 hc3 hg1
          go_wp2_with fail
          exact bodyPost_ret (ret_fitem HB4.out rfl) rfl ⟨rfl, HF4.out, HC4.out⟩
end Go.Proofs.Yteoioboiniealaa
