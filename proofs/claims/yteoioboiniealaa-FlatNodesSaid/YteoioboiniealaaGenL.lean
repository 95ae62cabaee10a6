/- The contracts of the generator's Chor, Msgs, Doc. -/
import Derived.Test.YteoioboiniealaaGenK
namespace Go.Proofs.Yteoioboiniealaa
open Go.RowKit
attribute [local go_sem ↓] Go.wp_at_zero Go.wp_at_succ

/-- What a choreography's slices read as is kept where a block of another type is written. -/
theorem Comp.grownT {w w1 : World} {ps : List PartD} {fs : List FlowD} {is : List ItemD} {ss : List SeqD} {AP : Option Addr} {cP : Nat} {AF : Option Addr} {cF : Nat} {AI : Option Addr} {cI : Nat} {AS : Option Addr} {cS : Nat} (h : Comp w ps fs is ss AP cP AF cF AI cI AS cS) {g : Nat} {cs : Array Value} (T : TypeId) (hT : T = 28 ∨ T = 61)
    (hg : w.grownBy w1 (some g)) (hm : Blk w g T cs) : Comp w1 ps fs is ss AP cP AF cF AI cI AS cS := by
  have h1 : 9 ≠ T := by rcases hT with rfl | rfl <;> decide
  have h2 : 73 ≠ T := by rcases hT with rfl | rfl <;> decide
  have h3 : 33 ≠ T := by rcases hT with rfl | rfl <;> decide
  have h4 : 36 ≠ T := by rcases hT with rfl | rfl <;> decide
  have h5 : 38 ≠ T := by rcases hT with rfl | rfl <;> decide
  have h6 : 40 ≠ T := by rcases hT with rfl | rfl <;> decide
  have hi : Dat.free T (itemsD is) := by
    unfold itemsD datS Dat.free
    rw [← itemsC_flat]
    exact ⟨h3, free_itemL _ h1 h2 h3 h4 is⟩
  exact ⟨Rd.grown hg hm _ _ (free_parts _ h5 ps) h.parts, Rd.grown hg hm _ _ (free_flows _ h6 fs) h.flows, Rd.grown hg hm _ _ hi h.items, Rd.grown hg hm _ _ (free_seqs _ h4 ss) h.seqs⟩
/-- A choreography comes back. -/
def ChorEnd (w : World) (x : ChorD) (e : Ending) (w' : World) : Prop :=
  ∃ AP cP AF cF AI cI AS cS, e = .returned (.agg #[.string x.id, .slice AP x.parts.length cP, .slice AF x.flows.length cF, .slice AI x.items.length cI, .slice AS x.seqs.length cS]) ∧ Comp w' x.parts x.flows x.items x.seqs AP cP AF cF AI cI AS cS ∧ Below w.heap.size w w'
theorem ret_chorG {W : World} {g : Nat} {v0 v1 v2 v3 v4 : Value} {tmps : Array Value} (h : Blk W g 28 #[v0, v1, v2, v3, v4]) (ht : tmps.getD 6 undef = .pointer (some ⟨g, 0, none⟩)) :
    (results Try.f10 tmps).run Try.prog W = .ok (.agg #[v0, v1, v2, v3, v4]) W := by
  have x0 : W.cell? ⟨g, 0, none⟩ = some v0 := h.cell 0
  have x1 : W.cell? ⟨g, 1, none⟩ = some v1 := h.cell 1
  have x2 : W.cell? ⟨g, 2, none⟩ = some v2 := h.cell 2
  have x3 : W.cell? ⟨g, 3, none⟩ = some v3 := h.cell 3
  have x4 : W.cell? ⟨g, 4, none⟩ = some v4 := h.cell 4
  simp [results, Try.results10, go_sem, ht, x0, x1, x2, x3, x4, -Array.getD_eq_getD_getElem?]

set_option maxRecDepth 100000 in
set_option maxHeartbeats 4000000 in
theorem chor_gen {w : World} {A : Option Addr} {cap : Nat} {p : List Int} (hp : IntsAt w A p) (hl : p.length ≤ maxLen) (name pre : ByteArray) (hpre : pre.size ≤ 10) :
    Calls Try.prog 10 #[.slice A p.length cap, .string name, .string pre] w (ChorEnd w (gchorF p name pre)) := by
  obtain ⟨x, hx⟩ : ∃ x, x = pickF p 0 := ⟨_, rfl⟩
  obtain ⟨q, hq⟩ : ∃ q, q = x % 16 := ⟨_, rfl⟩
  obtain ⟨r, hr⟩ : ∃ r, r = q % 3 := ⟨_, rfl⟩
  obtain ⟨n, hn⟩ : ∃ n, n = 2 + r := ⟨_, rfl⟩
  obtain ⟨m0, hm0⟩ : ∃ M, M = gbeginF p n pre := ⟨_, rfl⟩
  obtain ⟨m9, hm9⟩ : ∃ M, M = glevelF m0 3 := ⟨_, rfl⟩
  have f1 : bits BinOp.and IntKind.i64 (x : Int) 15 = (q : Int) := (and_low (x : Int) 4 (by omega)).trans (by rw [hq]; omega)
  have f2 : (q : Int).tmod 3 = (r : Int) := by rw [Int.tmod_eq_emod_of_nonneg (by omega), hr]; omega
  have f3 : (2 : Int) + (r : Int) = (n : Int) := by omega
  have hq16 : q < 16 := by omega
  have hr3 : r < 3 := by omega
  have hn4 : n ≤ 4 := by omega
  have hn2 : 2 ≤ n := by omega
  have hchor : gchorF p name pre = ⟨name, m9.parts, m9.flows, m9.items, m9.seqs⟩ := by
    unfold gchorF gmakeF
    rw [← hx, ← hq, ← hr, ← hn, ← hm0, ← hm9]
  have hsm : SmallM 0 m0 := by rw [hm0]; exact ⟨hpre, hl, Nat.le_refl _, Nat.le_refl _, Nat.le_refl _, Nat.le_refl _, Nat.le_refl _⟩
  have hmp : m0.p = p := by rw [hm0]; rfl
  have hml : m0.parts.length = n := by rw [hm0]; simp [gbeginF]
  have HX := Lib.hid hx
  have HM0 := Lib.hid hm0
  have HM9 := Lib.hid hm9
  have HCH := Lib.hid hchor
  have HSM := Lib.hid hsm
  have HMP := Lib.hid hmp
  have HML := Lib.hid hml
  have HP := Lib.hid hp
  have HLP := Lib.hid hl
  clear hx hq hr hn hm0 hm9 hchor hsm hmp hml hp hl
  have b0 : Below w.heap.size w (w.alloc (.cells #[.string ⟨#[]⟩, .slice none 0 0, .slice none 0 0, .slice none 0 0, .slice none 0 0] 28)) := (Below.refl _ _).alloc (Nat.le_refl _) _
  have k0 := Blk.new w 28 #[.string ⟨#[]⟩, .slice none 0 0, .slice none 0 0, .slice none 0 0, .slice none 0 0]
  obtain ⟨W0, hW0⟩ : ∃ W, W = w.alloc (.cells #[.string ⟨#[]⟩, .slice none 0 0, .slice none 0 0, .slice none 0 0, .slice none 0 0] 28) := ⟨_, rfl⟩
  rw [← hW0] at b0 k0
  have HW0 := Lib.hid hW0.symm
  have HB0 := Lib.hid b0
  have HK0 := Lib.hid k0
  clear hW0 b0 k0
  go_enter Try.func10, Try.ntmps10
  go_upto_region 1 with fail
  rw [HW0.out]
  go_wp2_with fail
  refine (pick_any (HP.out.below HB0.out) HLP.out 0 (by omega)).mono ?_
  rintro e w1 ⟨rfl, rfl⟩
  rw [← HX.out]
  go_wp2_with fail
  refine (begin_any pre hpre n hn4).mono ?_
  rintro e w2 ⟨c2, rfl, hM2, hb2⟩
  have HBL2 := Lib.hid (HB0.out.trans (hb2.mono HB0.out.size))
  have HK2 := Lib.hid (HK0.out.below hb2 HK0.out.lt)
  rw [← HM0.out] at hM2
  have HM2 := Lib.hid hM2
  clear hM2 hb2
  go_wp2_with fail
  refine (level_any (by rw [HMP.out]; exact HP.out.below HBL2.out) HM2.out HSM.out 3 (by decide) (by rw [HML.out]; exact hn2) (by rw [HML.out]; exact hn4)).mono ?_
  rintro e w3 ⟨c3, rfl, hM3, hb3⟩
  have HBL3 := Lib.hid (HBL2.out.trans (hb3.mono HBL2.out.size))
  have HK3 := Lib.hid (HK2.out.below hb3 HK2.out.lt)
  rw [← HM9.out] at hM3
  obtain ⟨AP, cP, AF, cF, AI, cI, AS, cS, rfl, hC3⟩ := hM3
  have HC3 := Lib.hid hC3
  clear hC3 hb3
  go_upto_region 2 with fail
  obtain ⟨gm, hgm⟩ : ∃ g, g = w3.heap.size := ⟨_, rfl⟩
  obtain ⟨W4, hW4⟩ : ∃ W, W = w3.alloc (.cells #[.slice A m9.p.length cap, .int .i64 m9.at_, .int .i64 m9.n, .slice AP m9.parts.length cP, .slice AF m9.flows.length cF, .slice AI m9.items.length cI, .slice AS m9.seqs.length cS, .string m9.pre] 89) := ⟨_, rfl⟩
  have kM : Blk W4 gm 89 #[.slice A m9.p.length cap, .int .i64 m9.at_, .int .i64 m9.n, .slice AP m9.parts.length cP, .slice AF m9.flows.length cF, .slice AI m9.items.length cI, .slice AS m9.seqs.length cS, .string m9.pre] := by rw [hW4, hgm]; exact Blk.new _ _ _
  have b34 : Below w3.heap.size w3 W4 := by rw [hW4]; exact (Below.refl _ _).alloc (Nat.le_refl _) _
  have hk4 := HK3.out.below b34 HK3.out.lt
  have hC4 := HC3.out.below b34
  have hb4 := HBL3.out.trans (b34.mono HBL3.out.size)
  rw [← hW4, ← hgm]
  have y0 : W4.cell? ⟨w.heap.size, 0, none⟩ = some (.string ⟨#[]⟩) := hk4.cell 0
  have y1 : W4.cell? ⟨w.heap.size, 1, none⟩ = some (.slice none 0 0) := hk4.cell 1
  have y2 : W4.cell? ⟨w.heap.size, 2, none⟩ = some (.slice none 0 0) := hk4.cell 2
  have y3 : W4.cell? ⟨w.heap.size, 3, none⟩ = some (.slice none 0 0) := hk4.cell 3
  have y4 : W4.cell? ⟨w.heap.size, 4, none⟩ = some (.slice none 0 0) := hk4.cell 4
  have z0 : W4.cell? ⟨gm, 0, none⟩ = some (.slice A m9.p.length cap) := kM.cell 0
  have z1 : W4.cell? ⟨gm, 1, none⟩ = some (.int .i64 m9.at_) := kM.cell 1
  have z2 : W4.cell? ⟨gm, 2, none⟩ = some (.int .i64 m9.n) := kM.cell 2
  have z3 : W4.cell? ⟨gm, 3, none⟩ = some (.slice AP m9.parts.length cP) := kM.cell 3
  have z4 : W4.cell? ⟨gm, 4, none⟩ = some (.slice AF m9.flows.length cF) := kM.cell 4
  have z5 : W4.cell? ⟨gm, 5, none⟩ = some (.slice AI m9.items.length cI) := kM.cell 5
  have z6 : W4.cell? ⟨gm, 6, none⟩ = some (.slice AS m9.seqs.length cS) := kM.cell 6
  have z7 : W4.cell? ⟨gm, 7, none⟩ = some (.string m9.pre) := kM.cell 7
  have q0 := hk4.frozen 0
  have q1 := hk4.frozen 1
  have q2 := hk4.frozen 2
  have q3 := hk4.frozen 3
  have q4 := hk4.frozen 4
  have hl0 := hk4.lt
  have hlm := kM.lt
  have hblk := putAll_blk [.string name, .slice AP m9.parts.length cP, .slice AF m9.flows.length cF, .slice AI m9.items.length cI, .slice AS m9.seqs.length cS] 0 W4 _ hk4 rfl
  have HBK := Lib.hid hblk
  have hend : ChorEnd w (gchorF p name pre) (.returned (.agg #[.string name, .slice AP m9.parts.length cP, .slice AF m9.flows.length cF, .slice AI m9.items.length cI, .slice AS m9.seqs.length cS])) (putAll W4 w.heap.size 0 [.string name, .slice AP m9.parts.length cP, .slice AF m9.flows.length cF, .slice AI m9.items.length cI, .slice AS m9.seqs.length cS]) := by
    rw [HCH.out]
    exact ⟨AP, cP, AF, cF, AI, cI, AS, cS, rfl, hC4.grownT 28 (.inl rfl) (putAll_grown _ W4) hk4, putAll_below (Nat.le_refl _) _ 0 _ hb4⟩
  have HEND := Lib.hid hend
  clear hW4 hgm kM b34 hk4 hC4 hb4 hblk hend
  go_wp2_with fail
  exact bodyPost_ret (ret_chorG HBK.out rfl) rfl HEND.out

def msgCs : List Value := [.string ⟨#[109, 97]⟩, .string ⟨#[111, 110, 101]⟩, .string ⟨#[109, 98]⟩, .string ⟨#[]⟩, .string ⟨#[109, 99]⟩, .string ⟨#[97, 32, 38, 32, 98]⟩, .string ⟨#[109, 100]⟩, .string ⟨#[]⟩]
theorem msgs_gen (w : World) : Calls Try.prog 67 #[] w fun e w' => ∃ A c, e = .returned (.slice A 4 c) ∧ Rd w' (msgsD gmsgsF) (.slice A 4 c) ∧ Below w.heap.size w w' := by
  go_enter Try.func67, Try.ntmps67
  go_wp2_with fail
  go_ret
  refine ⟨_, _, rfl, rd_sl.2 ⟨_, _, msgCs, rfl, ?_, ?_⟩, (Below.refl _ _).alloc (Nat.le_refl _) _⟩
  · exact World.ownsRow_lit (base := 0) (size := 2) w _ 4 (by omega) (by unfold maxLen; omega) rfl
  · exact rdl_cons.2 ⟨_, _, rfl, rd_str.2 rfl, rdl_cons.2 ⟨_, _, rfl, rd_str.2 rfl, rdl_cons.2 ⟨_, _, rfl, rd_str.2 rfl, rdl_cons.2 ⟨_, _, rfl, rd_str.2 rfl, rdl_cons.2 ⟨_, _, rfl, rd_str.2 rfl, rdl_cons.2 ⟨_, _, rfl, rd_str.2 rfl, rdl_cons.2 ⟨_, _, rfl, rd_str.2 rfl, rdl_cons.2 ⟨_, _, rfl, rd_str.2 rfl, rdl_nil.2 rfl⟩⟩⟩⟩⟩⟩⟩⟩

/-- A document comes back. -/
def DocEnd (w : World) (d : DocD) (e : Ending) (w' : World) : Prop :=
  ∃ A c B k, e = .returned (.agg #[.slice A d.msgs.length c, .slice B d.chors.length k]) ∧ Rd w' (msgsD d.msgs) (.slice A d.msgs.length c) ∧ Rd w' (chorsD d.chors) (.slice B d.chors.length k) ∧ Below w.heap.size w w'
/-- A document comes back, its choreographies in a row of the call's own. -/
def DocEndN (w : World) (d : DocD) (e : Ending) (w' : World) : Prop :=
  ∃ A c b, e = .returned (.agg #[.slice A d.msgs.length c, .slice (some ⟨b, 0, none⟩) d.chors.length d.chors.length]) ∧ Rd w' (msgsD d.msgs) (.slice A d.msgs.length c) ∧ Rd w' (chorsD d.chors) (.slice (some ⟨b, 0, none⟩) d.chors.length d.chors.length) ∧ w.heap.size ≤ b ∧ Below w.heap.size w w'
theorem DocEndN.old {w : World} {d : DocD} {e : Ending} {w' : World} (h : DocEndN w d e w') : DocEnd w d e w' := by
  obtain ⟨A, c, b, h1, h2, h3, _, h5⟩ := h
  exact ⟨A, c, _, _, h1, h2, h3, h5⟩
theorem free_chor (T : TypeId) (h1 : 9 ≠ T) (h2 : 73 ≠ T) (h3 : 33 ≠ T) (h4 : 36 ≠ T) (h5 : 38 ≠ T) (h6 : 40 ≠ T) (x : ChorD) : freeL T (chorC x) := by
  have hi : Dat.free T (itemsD x.items) := by
    unfold itemsD datS Dat.free
    rw [← itemsC_flat]
    exact ⟨h3, free_itemL _ h1 h2 h3 h4 _⟩
  unfold chorC
  simp only [freeL, Dat.free, and_true, true_and]
  exact ⟨free_parts _ h5 _, free_flows _ h6 _, hi, free_seqs _ h4 _⟩
theorem free_chors (T : TypeId) (h1 : 9 ≠ T) (h2 : 73 ≠ T) (h3 : 33 ≠ T) (h4 : 36 ≠ T) (h5 : 38 ≠ T) (h6 : 40 ≠ T) (h7 : 28 ≠ T) (l : List ChorD) : Dat.free T (chorsD l) := by
  unfold chorsD datS Dat.free
  refine ⟨h7, ?_⟩
  induction l with
  | nil => trivial
  | cons x l ih => rw [List.flatMap_cons]; exact freeL_append (free_chor T h1 h2 h3 h4 h5 h6 x) ih
theorem free_msgs (T : TypeId) (h : 143 ≠ T) (l : List PartD) : Dat.free T (msgsD l) := by
  unfold msgsD datS Dat.free
  refine ⟨h, ?_⟩
  induction l with
  | nil => trivial
  | cons x l ih =>
    rw [List.flatMap_cons]
    exact freeL_append (by unfold partC; simp only [freeL, Dat.free, and_true]) ih
/-- A slice of one choreography, laid anew. -/
theorem rd_chor1 {w : World} {x : ChorD} {AP : Option Addr} {cP : Nat} {AF : Option Addr} {cF : Nat} {AI : Option Addr} {cI : Nat} {AS : Option Addr} {cS : Nat} (h : Comp w x.parts x.flows x.items x.seqs AP cP AF cF AI cI AS cS) :
    Rd (w.alloc (.cells #[.string x.id, .slice AP x.parts.length cP, .slice AF x.flows.length cF, .slice AI x.items.length cI, .slice AS x.seqs.length cS] 28)) (chorsD [x]) (.slice (some ⟨w.heap.size, 0, none⟩) 1 1) := by
  have h' := h.below ((Below.refl w.heap.size w).alloc (Nat.le_refl _) (.cells #[.string x.id, .slice AP x.parts.length cP, .slice AF x.flows.length cF, .slice AI x.items.length cI, .slice AS x.seqs.length cS] 28))
  refine rd_sl.2 ⟨_, _, [.string x.id, .slice AP x.parts.length cP, .slice AF x.flows.length cF, .slice AI x.items.length cI, .slice AS x.seqs.length cS], rfl, ?_, ?_⟩
  · exact World.ownsRow_lit (base := 0) (size := 5) w #[.string x.id, .slice AP x.parts.length cP, .slice AF x.flows.length cF, .slice AI x.items.length cI, .slice AS x.seqs.length cS] 1 (by omega) (by unfold maxLen; omega) rfl
  · rw [List.flatMap_cons, List.flatMap_nil, List.append_nil]
    exact rd_chorC.2 ⟨_, _, _, _, rfl, h'.parts, h'.flows, h'.items, h'.seqs⟩
theorem ret_docG {W : World} {g : Nat} {v0 v1 : Value} {tmps : Array Value} (h : Blk W g 61 #[v0, v1]) (ht : tmps.getD 2 undef = .pointer (some ⟨g, 0, none⟩)) :
    (results Try.f43 tmps).run Try.prog W = .ok (.agg #[v0, v1]) W := by
  have x0 : W.cell? ⟨g, 0, none⟩ = some v0 := h.cell 0
  have x1 : W.cell? ⟨g, 1, none⟩ = some v1 := h.cell 1
  simp [results, Try.results43, go_sem, ht, x0, x1, -Array.getD_eq_getD_getElem?]

set_option maxRecDepth 100000 in
set_option maxHeartbeats 4000000 in
theorem doc_genN {w : World} {A : Option Addr} {cap : Nat} {p : List Int} (hp : IntsAt w A p) (hl : p.length ≤ maxLen) :
    Calls Try.prog 43 #[.slice A p.length cap] w (DocEndN w (gdocF p)) := by
  obtain ⟨x, hx⟩ : ∃ x, x = gchorF p ⟨#[99]⟩ ⟨#[]⟩ := ⟨_, rfl⟩
  have hxi : x.id = ⟨#[99]⟩ := by rw [hx]; rfl
  have hd : gdocF p = ⟨gmsgsF, [x]⟩ := by rw [hx]; rfl
  have HX := Lib.hid hx
  have HXI := Lib.hid hxi
  have HD := Lib.hid hd
  have HP := Lib.hid hp
  have HLP := Lib.hid hl
  clear hx hxi hd hp hl
  obtain ⟨W0, hW0⟩ : ∃ W, W = w.alloc (.cells #[.slice none 0 0, .slice none 0 0] 61) := ⟨_, rfl⟩
  have b0 : Below w.heap.size w W0 := by rw [hW0]; exact (Below.refl _ _).alloc (Nat.le_refl _) _
  have k0 : Blk W0 w.heap.size 61 #[.slice none 0 0, .slice none 0 0] := by rw [hW0]; exact Blk.new _ _ _
  have HW0 := Lib.hid hW0.symm
  have HB0 := Lib.hid b0
  have HK0 := Lib.hid k0
  clear hW0 b0 k0
  go_enter Try.func43, Try.ntmps43
  go_upto_region 1 with fail
  rw [HW0.out]
  go_wp2_with fail
  refine (msgs_gen _).mono ?_
  rintro e w1 ⟨A1, c1, rfl, hR1, hb1⟩
  have HBL1 := Lib.hid (HB0.out.trans (hb1.mono HB0.out.size))
  have HK1 := Lib.hid (HK0.out.below hb1 HK0.out.lt)
  have HR1 := Lib.hid hR1
  clear hR1 hb1
  go_wp2_with fail
  refine (chor_gen (HP.out.below HBL1.out) HLP.out ⟨#[99]⟩ ⟨#[]⟩ (by decide)).mono ?_
  rintro e w2 hE
  rw [← HX.out] at hE
  obtain ⟨AP, cP, AF, cF, AI, cI, AS, cS, rfl, hC2, hb2⟩ := hE
  rw [HXI.out]
  have HBL2 := Lib.hid (HBL1.out.trans (hb2.mono HBL1.out.size))
  have hk2 := HK1.out.below hb2 HK1.out.lt
  have hR2 := Rd.below hb2 _ _ HR1.out
  have hch := rd_chor1 hC2
  rw [HXI.out] at hch
  obtain ⟨gc, hgc⟩ : ∃ g, g = w2.heap.size := ⟨_, rfl⟩
  obtain ⟨W3, hW3⟩ : ∃ W, W = w2.alloc (.cells #[.string ⟨#[99]⟩, .slice AP x.parts.length cP, .slice AF x.flows.length cF, .slice AI x.items.length cI, .slice AS x.seqs.length cS] 28) := ⟨_, rfl⟩
  rw [← hW3, ← hgc] at hch
  have b23 : Below w2.heap.size w2 W3 := by rw [hW3]; exact (Below.refl _ _).alloc (Nat.le_refl _) _
  have hk3 := hk2.below b23 hk2.lt
  have hR3 := Rd.below b23 _ _ hR2
  have hb3 := HBL2.out.trans (b23.mono HBL2.out.size)
  have hl0 := hk3.lt
  have hblk := putAll_blk [.slice A1 4 c1, .slice (some ⟨gc, 0, none⟩) 1 1] 0 W3 _ hk3 rfl
  have hend : DocEndN w (gdocF p) (.returned (.agg #[.slice A1 4 c1, .slice (some ⟨gc, 0, none⟩) 1 1])) (putAll W3 w.heap.size 0 [.slice A1 4 c1, .slice (some ⟨gc, 0, none⟩) 1 1]) := by
    rw [HD.out]
    have hg := putAll_grown [.slice A1 4 c1, .slice (some ⟨gc, 0, none⟩) 1 1] (g := w.heap.size) W3
    exact ⟨A1, c1, gc, rfl, Rd.grown hg hk3 _ _ (free_msgs _ (by decide) _) hR3, Rd.grown hg hk3 _ _ (free_chors _ (by decide) (by decide) (by decide) (by decide) (by decide) (by decide) (by decide) _) hch, by rw [hgc]; exact HBL2.out.size, putAll_below (Nat.le_refl _) _ 0 _ hb3⟩
  have y0 : W3.cell? ⟨w.heap.size, 0, none⟩ = some (.slice none 0 0) := hk3.cell 0
  have y1 : W3.cell? ⟨w.heap.size, 1, none⟩ = some (.slice none 0 0) := hk3.cell 1
  have q0 := hk3.frozen 0
  have q1 := hk3.frozen 1
  have HBK := Lib.hid hblk
  have HEND := Lib.hid hend
  have HW3 := Lib.hid hW3.symm
  have HGC := Lib.hid hgc.symm
  clear hW3 hgc hch hC2 hb2 hk2 hR2 b23 hk3 hR3 hb3 hblk hend
  go_wp2_with (rw [HW3.out, HGC.out])
  exact bodyPost_ret (ret_docG HBK.out rfl) rfl HEND.out
theorem doc_gen {w : World} {A : Option Addr} {cap : Nat} {p : List Int} (hp : IntsAt w A p) (hl : p.length ≤ maxLen) :
    Calls Try.prog 43 #[.slice A p.length cap] w (DocEnd w (gdocF p)) := (doc_genN hp hl).mono (fun _ _ h => h.old)
end Go.Proofs.Yteoioboiniealaa
