/- The walk of the law FlatBad. -/
import Derived.Test.YteoioboiniealaaFlaG
import Derived.Test.YteoioboiniealaaFlaR
namespace Go.Proofs.Yteoioboiniealaa
open Go.RowKit
attribute [local go_sem ↓] Go.wp_at_zero Go.wp_at_succ

theorem rd_own {W : World} {B e sz n : Nat} {v : Value} {xs : List Value} {ds : List Dat} (h : W.ownsRow B e sz v n xs) (hl : RdL W ds xs) : Rd W (.sl e sz n ds) v := by
  obtain ⟨A, c, rfl, _, _⟩ := own_slice h
  exact rd_sl.2 ⟨A, c, xs, rfl, own_mono h (Nat.zero_le _), hl⟩
/-- An item's flows are others. -/
theorem item_set {W : World} {v : Value} {fl : List ByteArray} (hv : Rd W (strsD fl) v) : ∀ (l : List ItemD) (j : Nat) (hj : j < l.length) (xs : List Value), RdL W (l.flatMap itemC) xs → RdL W ((l.set j (withFlows l[j] fl)).flatMap itemC) (xs.set (j * 10 + 4) v)
  | x :: l, 0, _, xs, h => by
    rw [List.flatMap_cons] at h
    obtain ⟨a, b, rfl, ha, hb⟩ := h.split
    obtain ⟨v3, v4, v7, v8, v9, rfl, hV⟩ := rd_itemC.1 ha
    rw [List.set_cons_zero, List.flatMap_cons]
    refine RdL.append (xs := [.int .i64 x.kind, .string x.id, .string x.first, v3, v, .bool x.loop, .string x.called, v7, v8, v9]) ?_ hb
    exact rd_itemC.2 ⟨_, _, _, _, _, rfl, hV.1, hv, hV.2.2.1, hV.2.2.2.1, hV.2.2.2.2⟩
  | x :: l, j + 1, hj, xs, h => by
    rw [List.flatMap_cons] at h
    obtain ⟨a, b, rfl, ha, hb⟩ := h.split
    have hl := ha.len
    rw [itemC_len] at hl
    rw [List.set_cons_succ, List.flatMap_cons, List.set_append_right _ _ (by omega), hl, show (j + 1) * 10 + 4 - 10 = j * 10 + 4 by omega]
    exact RdL.append ha (item_set hv l j (by simpa using hj) b hb)
theorem seq_set0 {W : World} {a : ByteArray} : ∀ (l : List SeqD) (hl : 0 < l.length) (xs : List Value), RdL W (l.flatMap seqC) xs → RdL W ((l.set 0 ⟨l[0].id, a, l[0].dst⟩).flatMap seqC) (xs.set 1 (.string a))
  | x :: l, _, xs, h => by
    rw [List.flatMap_cons] at h
    obtain ⟨p, b, rfl, ha, hb⟩ := h.split
    obtain rfl := rd_seqC ha
    rw [List.set_cons_zero, List.flatMap_cons]
    exact RdL.append (xs := [.string x.id, .string a, .string x.dst]) (rdl_cons.2 ⟨_, _, rfl, rd_str.2 rfl, rdl_cons.2 ⟨_, _, rfl, rd_str.2 rfl, rdl_cons.2 ⟨_, _, rfl, rd_str.2 rfl, rdl_nil.2 rfl⟩⟩⟩) hb
theorem len_plain {l : List ItemD} (h : ∀ x ∈ l, x.items = []) : lenL l := lenL_all.2 (fun x hx => (lenI_eq x).2 (by rw [h x hx]; exact ⟨by decide, by unfold lenL; trivial⟩))
theorem graph_fb {W : World} {c : ChorD} {AP AF KI KS : Option Addr} {cP cF kI kS nP nF nI nS : Nat} (hP : Rd W (partsD c.parts) (.slice AP nP cP)) (hF : Rd W (flowsD c.flows) (.slice AF nF cF)) (hI : Rd W (itemsD c.items) (.slice KI nI kI)) (hS : Rd W (seqsD c.seqs) (.slice KS nS kS))
    (eP : c.parts.length = nP) (eF : c.flows.length = nF) (eI : c.items.length = nI) (eS : c.seqs.length = nS) (hid : c.id = ⟨#[99]⟩) (bP : nP ≤ 1000000) (bF : nF ≤ 1000000) (bI : nI ≤ 1000000) (hll : ∀ x ∈ c.items, x.items = []) {s : FS} (hs : graphF 2 c = some s) (hsm : SmallF s) :
    Calls Try.prog 11 #[.agg #[.string ⟨#[99]⟩, .slice AP nP cP, .slice AF nF cF, .slice KI nI kI, .slice KS nS kS]] W (GraphEnd W (c.parts.map (·.id)) s) := by
  subst eP
  subst eF
  subst eI
  subst eS
  rw [← hid]
  exact graph_any 2 c ⟨hP, hF, hI, hS⟩ bP bF bI (len_plain hll) hs hsm
/-- The changed choreography in memory: its box, copies of its items and of what follows what. -/
structure LBad (w1 : World) (gb : Nat) (c : ChorD) (AP : Option Addr) (cP : Nat) (AF : Option Addr) (cF : Nat) (KI : Option Addr) (kI : Nat) (KS : Option Addr) (kS : Nat) (xsI xsS : List Value) (W : World) : Prop where
  bel : Below w1.heap.size w1 W
  b : Blk W gb 28 #[.string ⟨#[99]⟩, .slice AP c.parts.length cP, .slice AF c.flows.length cF, .slice KI c.items.length kI, .slice KS c.seqs.length kS]
  oI : W.ownsRow w1.heap.size 33 10 (.slice KI c.items.length kI) c.items.length xsI
  oS : W.ownsRow w1.heap.size 36 3 (.slice KS c.seqs.length kS) c.seqs.length xsS
theorem rd_ownS {α : Type} {W : World} {B e sz n : Nat} {v : Value} {xs : List Value} {f : α → List Dat} {l : List α} (h : W.ownsRow B e sz v n xs) (hl : RdL W (l.flatMap f) xs) (hn : l.length = n) : Rd W (datS e sz f l) v := by
  subst hn
  exact rd_own h hl
theorem own_drewF {w : World} {base e size n : Nat} {v : Value} {xs : List Value} (h : w.ownsRow base e size v n xs) : w.drew.ownsRow base e size v n xs := h
theorem blk_of_own {W : World} {B e sz n g cap : Nat} {xs : List Value} (h : W.ownsRow B e sz (.slice (some ⟨g, 0, none⟩) n cap) n xs) : ∃ cs, Blk W g e cs := by
  rcases h.2 with ⟨h', _⟩ | ⟨g', cap', cur, h', _, hg, _⟩
  · cases h'
  · injection h' with h' _ _
    injection h' with h'
    injection h' with h' _ _
    subst h'
    exact ⟨cur, hg⟩
theorem withFlows_items (x : ItemD) (fl : List ByteArray) : (withFlows x fl).items = x.items := rfl
theorem items_set {l : List ItemD} {j : Nat} (hj : j < l.length) {fl : List ByteArray} (h : ∀ x ∈ l, x.items = []) : ∀ x ∈ l.set j (withFlows l[j] fl), x.items = [] := fun x hx => by
  rcases List.mem_or_eq_of_mem_set hx with hx | hx
  · exact h x hx
  · rw [hx]; exact h l[j] (List.getElem_mem hj)
set_option maxRecDepth 100000 in
set_option maxHeartbeats 32000000 in
theorem flatBad_walk (A0 : Option Addr) (c0 : Nat) (x0 : List Int) (a1 : Int) (w : World) (m0 : x0.length ≤ maxLen) (h0 : IntsAt w A0 x0) (_w1 : (Lit.int .i64 a1).wf = true) :
    Calls Try.prog 3 #[.slice A0 x0.length c0, .int .i64 a1] w fun e w' => e = .returned (.bool true) ∧ Below w.heap.size w w' := by
  have hgen := chor_gen (cap := c0) h0 m0 ⟨#[99]⟩ ⟨#[]⟩ (by decide)
  have hB := flat_chor x0 m0 ⟨#[99]⟩
  obtain ⟨c, hc⟩ : ∃ c, c = gchorF x0 ⟨#[99]⟩ ⟨#[]⟩ := ⟨_, rfl⟩
  rw [← hc] at hgen hB
  have hid : c.id = ⟨#[99]⟩ := by rw [hc]; rfl
  obtain ⟨hq0, hq7⟩ := am7 a1
  obtain ⟨q, hq⟩ : ∃ q, q = bits BinOp.and IntKind.i64 a1 7 := ⟨_, rfl⟩
  rw [← hq] at hq0 hq7
  have HQ := Lib.hid hq.symm
  have HGEN := Lib.hid hgen
  have HB := Lib.hid hB
  have HID := Lib.hid hid
  have hIL := hB.nI
  have hSL := hB.nS
  have hPL := hB.nP
  have hFL := hB.nF
  have hplain : ∀ x ∈ c.items, x.items = [] := fun x hx => (hB.items x hx).items
  have HPL := Lib.hid hplain
  obtain ⟨ii0, hii0, hiz0, hiz1, hiz2⟩ := info_parts Try.infoItemG
  obtain ⟨si0, hsi0, hsz0, hsz1, hsz2⟩ := info_parts Try.infoSeqG
  obtain ⟨fi0, hfi0, hfz0, hfz1, hfz2⟩ := info_parts Try.infoFlowG
  clear hgen hB hc hid hq m0 h0 _w1 hplain
  go_enter Try.func3, Try.ntmps3
  go_wp2_with fail
  refine HGEN.out.mono ?_
  clear HGEN
  rintro e w1 ⟨AP, cP, AF, cF, AI, cI, AS, cS, rfl, hcomp, hb1⟩
  rw [HID.out]
  obtain ⟨gb, hgb⟩ : ∃ g, g = w1.heap.size := ⟨_, rfl⟩
  obtain ⟨V1, hV1⟩ : ∃ V, V = w1.alloc (.cells #[.string ⟨#[99]⟩, .slice AP c.parts.length cP, .slice AF c.flows.length cF, .slice AI c.items.length cI, .slice AS c.seqs.length cS] 28) := ⟨_, rfl⟩
  have b11 : Below w1.heap.size w1 V1 := by rw [hV1]; exact (Below.refl _ _).alloc (Nat.le_refl _) _
  have kb : Blk V1 gb 28 #[.string ⟨#[99]⟩, .slice AP c.parts.length cP, .slice AF c.flows.length cF, .slice AI c.items.length cI, .slice AS c.seqs.length cS] := by rw [hV1, hgb]; exact Blk.new _ _ _
  obtain ⟨xsI, hrI, hlI, h1I⟩ := rd_reads hcomp.items
  obtain ⟨xsS, hrS, hlS, h1S⟩ := rd_reads hcomp.seqs
  have HC := Lib.hid hcomp
  have HB1 := Lib.hid hb1
  have HB11 := Lib.hid b11
  have HKB := Lib.hid kb
  have HRI := Lib.hid hrI
  have HRS := Lib.hid hrS
  have HLI := Lib.hid hlI
  have HLS := Lib.hid hlS
  have H1I := Lib.hid h1I
  have H1S := Lib.hid h1S
  have HV1 := Lib.hid hV1.symm
  have HGB := Lib.hid hgb.symm
  have d0 : Below V1.heap.size V1 V1.drew := (Below.refl V1.heap.size V1).drew
  have hgl := kb.lt
  clear hcomp hb1 b11 kb hrI hrS hlI hlS h1I h1S hV1 hgb
  go_upto_region 2 with fail
  rw [HV1.out, HGB.out]
  go_cut [] (fun wx => ∃ KI kI KS kS, LBad w1 gb c AP cP AF cF KI kI KS kS xsI xsS wx)
  case first =>
    refine wp_region_HT 9 (fun U => Below V1.heap.size V1 U) (by kernel_rfl) (by decide) (d0) (fun hHeld => ?_)
    refine ht_take 1 (v := ?vc_1) rfl (by kernel_rfl) (fun _ _ _ h => h) (Or.inl ⟨by rfl, ?hc_1⟩) hHeld ?rc_1
    case hc_1 => ((intro U hSw; have hkb := HKB.out.below hSw HKB.out.lt; have y3 : U.cell? ⟨gb, 3, none⟩ = some (.slice AI c.items.length cI) := hkb.cell 3; have y4 : U.cell? ⟨gb, 4, none⟩ = some (.slice AS c.seqs.length cS) := hkb.cell 4; clear hkb; go_simp); (try (with_reducible rfl)))
    try simp only [Act.put, List.setIfInBounds_toArray, List.set_cons_zero, List.set_cons_succ]
    refine ht_take 2 (v := ?vc_2) rfl (by kernel_rfl) (fun _ _ _ h => h) (Or.inl ⟨by rfl, ?hc_2⟩) hHeld ?rc_2
    case hc_2 => ((intro U hSw; have hkb := HKB.out.below hSw HKB.out.lt; have y3 : U.cell? ⟨gb, 3, none⟩ = some (.slice AI c.items.length cI) := hkb.cell 3; have y4 : U.cell? ⟨gb, 4, none⟩ = some (.slice AS c.seqs.length cS) := hkb.cell 4; clear hkb; go_simp); (try (with_reducible rfl)))
    try simp only [Act.put, List.setIfInBounds_toArray, List.set_cons_zero, List.set_cons_succ]
    refine ht_take 5 (v := ?vc_3) rfl (by kernel_rfl) (fun _ _ _ h => h) (Or.inl ⟨by rfl, ?hc_3⟩) hHeld ?rc_3
    case hc_3 => ((intro U hSw; have hkb := HKB.out.below hSw HKB.out.lt; have y3 : U.cell? ⟨gb, 3, none⟩ = some (.slice AI c.items.length cI) := hkb.cell 3; have y4 : U.cell? ⟨gb, 4, none⟩ = some (.slice AS c.seqs.length cS) := hkb.cell 4; clear hkb; go_simp); (try (with_reducible rfl)))
    try simp only [Act.put, List.setIfInBounds_toArray, List.set_cons_zero, List.set_cons_succ]
    refine ht_take 6 (v := ?vc_4) rfl (by kernel_rfl) (fun _ _ _ h => h) (Or.inl ⟨by rfl, ?hc_4⟩) hHeld ?rc_4
    case hc_4 => ((intro U hSw; have hkb := HKB.out.below hSw HKB.out.lt; have y3 : U.cell? ⟨gb, 3, none⟩ = some (.slice AI c.items.length cI) := hkb.cell 3; have y4 : U.cell? ⟨gb, 4, none⟩ = some (.slice AS c.seqs.length cS) := hkb.cell 4; clear hkb; go_simp); (try (with_reducible rfl)))
    try simp only [Act.put, List.setIfInBounds_toArray, List.set_cons_zero, List.set_cons_succ]
    refine wpHT_all [0, 4] (by kernel_rfl) ?_
    refine ht_cons (i := 0) rfl (fun K hK => ?_) (ht_cons (i := 4) rfl (fun K hK => ?_) (allHT.nil))
    · go_simp
      obtain ⟨gE, hgE⟩ : ∃ g, g = V1.heap.size := ⟨_, rfl⟩
      obtain ⟨T1, hT⟩ : ∃ T, T = (V1.drew).alloc (.cells #[] 33) := ⟨_, rfl⟩
      have d1 : Below V1.heap.size V1 T1 := by rw [hT]; exact d0.alloc d0.size (.cells #[] 33)
      have hE1 : T1.ownsRow V1.heap.size 33 10 (.slice (some ⟨gE, 0, none⟩) 0 0) 0 [] := by rw [hT, hgE]; exact World.ownsRow_lit (base := V1.heap.size) _ #[] 0 d0.size (by decide) rfl
      have nE0 : V1.heap.size ≤ gE := by rw [hgE]; exact d0.size
      show K _ ((V1.drew).alloc (.cells #[] 33))
      rw [← hT, ← hgE]
      clear hT hgE
      refine hK.out _ _ (d1) (fun hHeld => ?_)
      clear hK K
      try simp only [Act.put, List.setIfInBounds_toArray, List.set_cons_zero, List.set_cons_succ]
      refine wpHT_all [3, 4] (by kernel_rfl) ?_
      refine ht_cons (i := 3) rfl (fun K hK => ?_) (ht_cons (i := 4) rfl (fun K hK => ?_) (allHT.nil))
      · refine step_append_any _ (by rfl) (.tmp 15) (.tmp 17) _ (by rfl) V1.heap.size 33 ii0 _ 10 184 Try.underlying25 hii0 hiz0 hiz1 hiz2 rfl (by omega) (.slice (some ⟨gE, 0, none⟩) 0 0) 0 [] (by rfl) hE1 _ AI c.items.length cI _ (by rfl) (HRI.out.below (HB11.out.trans (d1.mono HB11.out.size))) H1I.out (by unfold maxLen; omega) (by omega) d1.size ?_
        intro v3 T2 hI2 hgrow _
        simp only [Nat.zero_add, List.nil_append] at hI2
        obtain ⟨A3, c3, rfl, _, _⟩ := own_slice hI2
        have d2 : Below V1.heap.size V1 T2 := d1.grown hgrow d1.size (fun j hj => by simp [Value.ownBlock] at hj; omega)
        clear hgrow
        refine hK.out _ _ (d2) (fun hHeld => ?_)
        clear hK K
        try simp only [Act.put, List.setIfInBounds_toArray, List.set_cons_zero, List.set_cons_succ]
        refine ht_take 8 (v := ?vc_5) rfl (by kernel_rfl) (fun _ _ _ h => h) (Or.inl ⟨by rfl, ?hc_5⟩) hHeld ?rc_5
        case hc_5 => ((intro U hSw; have hkb := HKB.out.below hSw HKB.out.lt; have y3 : U.cell? ⟨gb, 3, none⟩ = some (.slice AI c.items.length cI) := hkb.cell 3; have y4 : U.cell? ⟨gb, 4, none⟩ = some (.slice AS c.seqs.length cS) := hkb.cell 4; clear hkb; go_simp); (try (with_reducible rfl)))
        try simp only [Act.put, List.setIfInBounds_toArray, List.set_cons_zero, List.set_cons_succ]
        refine ht_one 4 rfl (by kernel_rfl) (fun K hK => ?_)
        go_simp
        obtain ⟨gF, hgF⟩ : ∃ g, g = T2.heap.size := ⟨_, rfl⟩
        obtain ⟨T3, hT⟩ : ∃ T, T = (T2).alloc (.cells #[] 36) := ⟨_, rfl⟩
        have d3 : Below V1.heap.size V1 T3 := by rw [hT]; exact d2.alloc d2.size (.cells #[] 36)
        have hF3 : T3.ownsRow V1.heap.size 36 3 (.slice (some ⟨gF, 0, none⟩) 0 0) 0 [] := by rw [hT, hgF]; exact World.ownsRow_lit (base := V1.heap.size) _ #[] 0 d2.size (by decide) rfl
        have hI3 : T3.ownsRow V1.heap.size 33 10 (.slice A3 c.items.length c3) c.items.length xsI := by rw [hT]; exact hI2.alloc _
        have nF0 : V1.heap.size ≤ gF := by rw [hgF]; exact d2.size
        show K _ ((T2).alloc (.cells #[] 36))
        rw [← hT, ← hgF]
        clear hT hgF
        refine hK.out _ _ (d3) (fun hHeld => ?_)
        clear hK K
        try simp only [Act.put, List.setIfInBounds_toArray, List.set_cons_zero, List.set_cons_succ]
        refine ht_one 7 rfl (by kernel_rfl) (fun K hK => ?_)
        refine step_append_any _ (by rfl) (.tmp 19) (.tmp 21) _ (by rfl) V1.heap.size 36 si0 _ 3 48 Try.underlying26 hsi0 hsz0 hsz1 hsz2 rfl (by omega) (.slice (some ⟨gF, 0, none⟩) 0 0) 0 [] (by rfl) hF3 _ AS c.seqs.length cS _ (by rfl) (HRS.out.below (HB11.out.trans (d3.mono HB11.out.size))) H1S.out (by unfold maxLen; omega) (by omega) d3.size ?_
        intro v3 T4 hS4 hgrow _
        simp only [Nat.zero_add, List.nil_append] at hS4
        obtain ⟨A7, c7, rfl, _, _⟩ := own_slice hS4
        have d4 : Below V1.heap.size V1 T4 := d3.grown hgrow d3.size (fun j hj => by simp [Value.ownBlock] at hj; omega)
        have hI4 := hI3.kept hgrow (own_own_ne hI3 hF3 (by decide))
        clear hgrow
        refine hK.out _ _ (d4) (fun hHeld => ?_)
        clear hK K
        try simp only [Act.put, List.setIfInBounds_toArray, List.set_cons_zero, List.set_cons_succ]
        refine ht_done (by kernel_rfl) rfl ?_
        have hkb := HKB.out.below d4 HKB.out.lt
        have y3 : T4.cell? ⟨gb, 3, none⟩ = some (.slice AI c.items.length cI) := hkb.cell 3
        have y4 : T4.cell? ⟨gb, 4, none⟩ = some (.slice AS c.seqs.length cS) := hkb.cell 4
        have f3 : T4.frozen? ⟨gb, 3, none⟩ = false := hkb.frozen 3
        have f4 : T4.frozen? ⟨gb, 4, none⟩ = false := hkb.frozen 4
        have hlk := hkb.lt
        have hbw : w1.heap.size ≤ gb := by have := HGB.out; omega
        have hLL : LBad w1 gb c AP cP AF cF A3 c3 A7 c7 xsI xsS ((T4.setCell ⟨gb, 3, none⟩ (.slice A3 c.items.length c3)).setCell ⟨gb, 4, none⟩ (.slice A7 c.seqs.length c7)) :=
          ⟨((HB11.out.trans (d4.mono HB11.out.size)).setCell (p := ⟨gb, 3, none⟩) hbw _).setCell (p := ⟨gb, 4, none⟩) hbw _, (hkb.set_ 3 _).set_ 4 _,
           ownsRow_setCell_other (a := ⟨gb, 4, none⟩) (ownsRow_setCell_other (a := ⟨gb, 3, none⟩) (own_mono hI4 HB11.out.size) (blk_own_ne hI4 hkb (by decide)) _) (blk_own_ne hI4 hkb (by decide)) _,
           ownsRow_setCell_other (a := ⟨gb, 4, none⟩) (ownsRow_setCell_other (a := ⟨gb, 3, none⟩) (own_mono hS4 HB11.out.size) (blk_own_ne hS4 hkb (by decide)) _) (blk_own_ne hS4 hkb (by decide)) _⟩
        have HLL := Lib.hid hLL
        clear hLL hkb hI4 hS4 hHeld
        go_wp2_with fail
        go_meet
        case rel => exact ⟨A3, c3, A7, c7, HLL.out⟩
      · go_simp
        obtain ⟨gF, hgF⟩ : ∃ g, g = T1.heap.size := ⟨_, rfl⟩
        obtain ⟨T2, hT⟩ : ∃ T, T = (T1).alloc (.cells #[] 36) := ⟨_, rfl⟩
        have d2 : Below V1.heap.size V1 T2 := by rw [hT]; exact d1.alloc d1.size (.cells #[] 36)
        have hF2 : T2.ownsRow V1.heap.size 36 3 (.slice (some ⟨gF, 0, none⟩) 0 0) 0 [] := by rw [hT, hgF]; exact World.ownsRow_lit (base := V1.heap.size) _ #[] 0 d1.size (by decide) rfl
        have hE2 : T2.ownsRow V1.heap.size 33 10 (.slice (some ⟨gE, 0, none⟩) 0 0) 0 [] := by rw [hT]; exact hE1.alloc _
        have nF0 : V1.heap.size ≤ gF := by rw [hgF]; exact d1.size
        have nEF : gE < gF := by rw [hgF]; exact (hE1.lt gE rfl).2
        show K _ ((T1).alloc (.cells #[] 36))
        rw [← hT, ← hgF]
        clear hT hgF
        refine hK.out _ _ (d2) (fun hHeld => ?_)
        clear hK K
        try simp only [Act.put, List.setIfInBounds_toArray, List.set_cons_zero, List.set_cons_succ]
        refine ht_one 3 rfl (by kernel_rfl) (fun K hK => ?_)
        refine step_append_any _ (by rfl) (.tmp 15) (.tmp 17) _ (by rfl) V1.heap.size 33 ii0 _ 10 184 Try.underlying25 hii0 hiz0 hiz1 hiz2 rfl (by omega) (.slice (some ⟨gE, 0, none⟩) 0 0) 0 [] (by rfl) hE2 _ AI c.items.length cI _ (by rfl) (HRI.out.below (HB11.out.trans (d2.mono HB11.out.size))) H1I.out (by unfold maxLen; omega) (by omega) d2.size ?_
        intro v3 T3 hI3 hgrow _
        simp only [Nat.zero_add, List.nil_append] at hI3
        obtain ⟨A3, c3, rfl, _, _⟩ := own_slice hI3
        have d3 : Below V1.heap.size V1 T3 := d2.grown hgrow d2.size (fun j hj => by simp [Value.ownBlock] at hj; omega)
        have hF3 := hF2.kept hgrow (own_own_ne hF2 hE2 (by decide))
        clear hgrow
        refine hK.out _ _ (d3) (fun hHeld => ?_)
        clear hK K
        try simp only [Act.put, List.setIfInBounds_toArray, List.set_cons_zero, List.set_cons_succ]
        refine ht_take 8 (v := ?vc_6) rfl (by kernel_rfl) (fun _ _ _ h => h) (Or.inl ⟨by rfl, ?hc_6⟩) hHeld ?rc_6
        case hc_6 => ((intro U hSw; have hkb := HKB.out.below hSw HKB.out.lt; have y3 : U.cell? ⟨gb, 3, none⟩ = some (.slice AI c.items.length cI) := hkb.cell 3; have y4 : U.cell? ⟨gb, 4, none⟩ = some (.slice AS c.seqs.length cS) := hkb.cell 4; clear hkb; go_simp); (try (with_reducible rfl)))
        try simp only [Act.put, List.setIfInBounds_toArray, List.set_cons_zero, List.set_cons_succ]
        refine ht_one 7 rfl (by kernel_rfl) (fun K hK => ?_)
        refine step_append_any _ (by rfl) (.tmp 19) (.tmp 21) _ (by rfl) V1.heap.size 36 si0 _ 3 48 Try.underlying26 hsi0 hsz0 hsz1 hsz2 rfl (by omega) (.slice (some ⟨gF, 0, none⟩) 0 0) 0 [] (by rfl) hF3 _ AS c.seqs.length cS _ (by rfl) (HRS.out.below (HB11.out.trans (d3.mono HB11.out.size))) H1S.out (by unfold maxLen; omega) (by omega) d3.size ?_
        intro v3 T4 hS4 hgrow _
        simp only [Nat.zero_add, List.nil_append] at hS4
        obtain ⟨A7, c7, rfl, _, _⟩ := own_slice hS4
        have d4 : Below V1.heap.size V1 T4 := d3.grown hgrow d3.size (fun j hj => by simp [Value.ownBlock] at hj; omega)
        have hI4 := hI3.kept hgrow (own_own_ne hI3 hF3 (by decide))
        clear hgrow
        refine hK.out _ _ (d4) (fun hHeld => ?_)
        clear hK K
        try simp only [Act.put, List.setIfInBounds_toArray, List.set_cons_zero, List.set_cons_succ]
        refine ht_done (by kernel_rfl) rfl ?_
        have hkb := HKB.out.below d4 HKB.out.lt
        have y3 : T4.cell? ⟨gb, 3, none⟩ = some (.slice AI c.items.length cI) := hkb.cell 3
        have y4 : T4.cell? ⟨gb, 4, none⟩ = some (.slice AS c.seqs.length cS) := hkb.cell 4
        have f3 : T4.frozen? ⟨gb, 3, none⟩ = false := hkb.frozen 3
        have f4 : T4.frozen? ⟨gb, 4, none⟩ = false := hkb.frozen 4
        have hlk := hkb.lt
        have hbw : w1.heap.size ≤ gb := by have := HGB.out; omega
        have hLL : LBad w1 gb c AP cP AF cF A3 c3 A7 c7 xsI xsS ((T4.setCell ⟨gb, 3, none⟩ (.slice A3 c.items.length c3)).setCell ⟨gb, 4, none⟩ (.slice A7 c.seqs.length c7)) :=
          ⟨((HB11.out.trans (d4.mono HB11.out.size)).setCell (p := ⟨gb, 3, none⟩) hbw _).setCell (p := ⟨gb, 4, none⟩) hbw _, (hkb.set_ 3 _).set_ 4 _,
           ownsRow_setCell_other (a := ⟨gb, 4, none⟩) (ownsRow_setCell_other (a := ⟨gb, 3, none⟩) (own_mono hI4 HB11.out.size) (blk_own_ne hI4 hkb (by decide)) _) (blk_own_ne hI4 hkb (by decide)) _,
           ownsRow_setCell_other (a := ⟨gb, 4, none⟩) (ownsRow_setCell_other (a := ⟨gb, 3, none⟩) (own_mono hS4 HB11.out.size) (blk_own_ne hS4 hkb (by decide)) _) (blk_own_ne hS4 hkb (by decide)) _⟩
        have HLL := Lib.hid hLL
        clear hLL hkb hI4 hS4 hHeld
        go_wp2_with fail
        go_meet
        case rel => exact ⟨A3, c3, A7, c7, HLL.out⟩
    · go_simp
      obtain ⟨gF, hgF⟩ : ∃ g, g = V1.heap.size := ⟨_, rfl⟩
      obtain ⟨T1, hT⟩ : ∃ T, T = (V1.drew).alloc (.cells #[] 36) := ⟨_, rfl⟩
      have d1 : Below V1.heap.size V1 T1 := by rw [hT]; exact d0.alloc d0.size (.cells #[] 36)
      have hF1 : T1.ownsRow V1.heap.size 36 3 (.slice (some ⟨gF, 0, none⟩) 0 0) 0 [] := by rw [hT, hgF]; exact World.ownsRow_lit (base := V1.heap.size) _ #[] 0 d0.size (by decide) rfl
      have nF0 : V1.heap.size ≤ gF := by rw [hgF]; exact d0.size
      show K _ ((V1.drew).alloc (.cells #[] 36))
      rw [← hT, ← hgF]
      clear hT hgF
      refine hK.out _ _ (d1) (fun hHeld => ?_)
      clear hK K
      try simp only [Act.put, List.setIfInBounds_toArray, List.set_cons_zero, List.set_cons_succ]
      refine ht_one 0 rfl (by kernel_rfl) (fun K hK => ?_)
      go_simp
      obtain ⟨gE, hgE⟩ : ∃ g, g = T1.heap.size := ⟨_, rfl⟩
      obtain ⟨T2, hT⟩ : ∃ T, T = (T1).alloc (.cells #[] 33) := ⟨_, rfl⟩
      have d2 : Below V1.heap.size V1 T2 := by rw [hT]; exact d1.alloc d1.size (.cells #[] 33)
      have hE2 : T2.ownsRow V1.heap.size 33 10 (.slice (some ⟨gE, 0, none⟩) 0 0) 0 [] := by rw [hT, hgE]; exact World.ownsRow_lit (base := V1.heap.size) _ #[] 0 d1.size (by decide) rfl
      have hF2 : T2.ownsRow V1.heap.size 36 3 (.slice (some ⟨gF, 0, none⟩) 0 0) 0 [] := by rw [hT]; exact hF1.alloc _
      have nE0 : V1.heap.size ≤ gE := by rw [hgE]; exact d1.size
      have nFE : gF < gE := by rw [hgE]; exact (hF1.lt gF rfl).2
      show K _ ((T1).alloc (.cells #[] 33))
      rw [← hT, ← hgE]
      clear hT hgE
      refine hK.out _ _ (d2) (fun hHeld => ?_)
      clear hK K
      try simp only [Act.put, List.setIfInBounds_toArray, List.set_cons_zero, List.set_cons_succ]
      refine ht_one 3 rfl (by kernel_rfl) (fun K hK => ?_)
      refine step_append_any _ (by rfl) (.tmp 15) (.tmp 17) _ (by rfl) V1.heap.size 33 ii0 _ 10 184 Try.underlying25 hii0 hiz0 hiz1 hiz2 rfl (by omega) (.slice (some ⟨gE, 0, none⟩) 0 0) 0 [] (by rfl) hE2 _ AI c.items.length cI _ (by rfl) (HRI.out.below (HB11.out.trans (d2.mono HB11.out.size))) H1I.out (by unfold maxLen; omega) (by omega) d2.size ?_
      intro v3 T3 hI3 hgrow _
      simp only [Nat.zero_add, List.nil_append] at hI3
      obtain ⟨A3, c3, rfl, _, _⟩ := own_slice hI3
      have d3 : Below V1.heap.size V1 T3 := d2.grown hgrow d2.size (fun j hj => by simp [Value.ownBlock] at hj; omega)
      have hF3 := hF2.kept hgrow (own_own_ne hF2 hE2 (by decide))
      clear hgrow
      refine hK.out _ _ (d3) (fun hHeld => ?_)
      clear hK K
      try simp only [Act.put, List.setIfInBounds_toArray, List.set_cons_zero, List.set_cons_succ]
      refine ht_take 8 (v := ?vc_7) rfl (by kernel_rfl) (fun _ _ _ h => h) (Or.inl ⟨by rfl, ?hc_7⟩) hHeld ?rc_7
      case hc_7 => ((intro U hSw; have hkb := HKB.out.below hSw HKB.out.lt; have y3 : U.cell? ⟨gb, 3, none⟩ = some (.slice AI c.items.length cI) := hkb.cell 3; have y4 : U.cell? ⟨gb, 4, none⟩ = some (.slice AS c.seqs.length cS) := hkb.cell 4; clear hkb; go_simp); (try (with_reducible rfl)))
      try simp only [Act.put, List.setIfInBounds_toArray, List.set_cons_zero, List.set_cons_succ]
      refine ht_one 7 rfl (by kernel_rfl) (fun K hK => ?_)
      refine step_append_any _ (by rfl) (.tmp 19) (.tmp 21) _ (by rfl) V1.heap.size 36 si0 _ 3 48 Try.underlying26 hsi0 hsz0 hsz1 hsz2 rfl (by omega) (.slice (some ⟨gF, 0, none⟩) 0 0) 0 [] (by rfl) hF3 _ AS c.seqs.length cS _ (by rfl) (HRS.out.below (HB11.out.trans (d3.mono HB11.out.size))) H1S.out (by unfold maxLen; omega) (by omega) d3.size ?_
      intro v3 T4 hS4 hgrow _
      simp only [Nat.zero_add, List.nil_append] at hS4
      obtain ⟨A7, c7, rfl, _, _⟩ := own_slice hS4
      have d4 : Below V1.heap.size V1 T4 := d3.grown hgrow d3.size (fun j hj => by simp [Value.ownBlock] at hj; omega)
      have hI4 := hI3.kept hgrow (own_own_ne hI3 hF3 (by decide))
      clear hgrow
      refine hK.out _ _ (d4) (fun hHeld => ?_)
      clear hK K
      try simp only [Act.put, List.setIfInBounds_toArray, List.set_cons_zero, List.set_cons_succ]
      refine ht_done (by kernel_rfl) rfl ?_
      have hkb := HKB.out.below d4 HKB.out.lt
      have y3 : T4.cell? ⟨gb, 3, none⟩ = some (.slice AI c.items.length cI) := hkb.cell 3
      have y4 : T4.cell? ⟨gb, 4, none⟩ = some (.slice AS c.seqs.length cS) := hkb.cell 4
      have f3 : T4.frozen? ⟨gb, 3, none⟩ = false := hkb.frozen 3
      have f4 : T4.frozen? ⟨gb, 4, none⟩ = false := hkb.frozen 4
      have hlk := hkb.lt
      have hbw : w1.heap.size ≤ gb := by have := HGB.out; omega
      have hLL : LBad w1 gb c AP cP AF cF A3 c3 A7 c7 xsI xsS ((T4.setCell ⟨gb, 3, none⟩ (.slice A3 c.items.length c3)).setCell ⟨gb, 4, none⟩ (.slice A7 c.seqs.length c7)) :=
        ⟨((HB11.out.trans (d4.mono HB11.out.size)).setCell (p := ⟨gb, 3, none⟩) hbw _).setCell (p := ⟨gb, 4, none⟩) hbw _, (hkb.set_ 3 _).set_ 4 _,
         ownsRow_setCell_other (a := ⟨gb, 4, none⟩) (ownsRow_setCell_other (a := ⟨gb, 3, none⟩) (own_mono hI4 HB11.out.size) (blk_own_ne hI4 hkb (by decide)) _) (blk_own_ne hI4 hkb (by decide)) _,
         ownsRow_setCell_other (a := ⟨gb, 4, none⟩) (ownsRow_setCell_other (a := ⟨gb, 3, none⟩) (own_mono hS4 HB11.out.size) (blk_own_ne hS4 hkb (by decide)) _) (blk_own_ne hS4 hkb (by decide)) _⟩
      have HLL := Lib.hid hLL
      clear hLL hkb hI4 hS4 hHeld
      go_wp2_with fail
      go_meet
      case rel => exact ⟨A3, c3, A7, c7, HLL.out⟩
  case rest =>
    obtain ⟨KI, kI, KS, kS, hL⟩ := hcut
    obtain ⟨V, rfl⟩ : ∃ V, V = wc := ⟨_, rfl⟩
    obtain ⟨gI, rfl, hgIl, _, hIat⟩ := own_at hL.oI (by obtain ⟨x, hx, _⟩ := HB.out.task; exact List.length_pos_of_mem hx)
    obtain ⟨gS, rfl, hgSl, _, hSat⟩ := own_at hL.oS (by omega)
    have hlv : RdL V (c.items.flatMap itemC) xsI := RdL.below hL.bel _ _ HLI.out
    have hsv : RdL V (c.seqs.flatMap seqC) xsS := RdL.below hL.bel _ _ HLS.out
    have y3 : V.cell? ⟨gb, 3, none⟩ = some (.slice (some ⟨gI, 0, none⟩) c.items.length kI) := hL.b.cell 3
    have hkind : ∀ (i : Nat) (hi : i < c.items.length), V.cell? ⟨gI, i * 10, none⟩ = some (.int .i64 c.items[i].kind) := fun i hi => by
      obtain ⟨vs, hvl, hvs, hva⟩ := rdl_at itemC_len i hi hlv
      obtain ⟨v3, v4, v7, v8, v9, rfl, _⟩ := rd_itemC.1 hvs
      rw [hIat _ (by omega), ← Nat.add_zero (i * 10), hva 0 (by omega)]
      rfl
    have HL := Lib.hid hL
    have HLV := Lib.hid hlv
    have HSV := Lib.hid hsv
    have HIAT := Lib.hid hIat
    have HSAT := Lib.hid hSat
    have HKIND := Lib.hid hkind
    have hgbl := hL.b.lt
    clear hL hlv hsv hIat hSat hkind HRI HRS H1I H1S d0 HV1 HKB
    go_wp2_with fail
    go_loop [6, 7] (fun kv iv => ∃ (i : Nat) (kk : Int), i ≤ c.items.length ∧ iv = .int .i64 i ∧ kv = .int .i64 kk ∧ Hid ((kk = -1 ∧ ∀ x ∈ c.items.take i, x.kind ≠ 3) ∨ ∃ j, ∃ h : j < c.items.length, kk = (j : Int) ∧ c.items[j].kind = 3)) (fun _ iv => c.items.length - (intOf iv).toNat)
    case atStart => exact ⟨0, -1, Nat.zero_le _, rfl, rfl, .inl ⟨rfl, by simp⟩⟩
    case round =>
      obtain ⟨i, kk, hi, rfl, rfl, hinv⟩ := hrel
      by_cases hlt : i < c.items.length
      · have hk0 := HKIND.out i hlt
        have hiI : (i : Int) < (c.items.length : Int) := by omega
        by_cases h3 : c.items[i].kind = 3
        · have hkb : (c.items[i].kind == 3) = true := by simp [h3]
          have HN := Lib.hid (show (((i : Int) = -1 ∧ ∀ x ∈ c.items.take (i + 1), x.kind ≠ 3) ∨ ∃ j, ∃ h : j < c.items.length, (i : Int) = (j : Int) ∧ c.items[j].kind = 3) from .inr ⟨i, hlt, rfl, h3⟩)
          generalize c.items[i].kind = kd at hk0 hkb
          clear h3 hinv
          go_wp2_with fail
          go_round
          case rel => exact ⟨i + 1, (i : Int), by omega, by go_num, rfl, HN⟩
          case measure => simp [intOf]; omega
        · have hkb : (c.items[i].kind == 3) = false := by simp [h3]
          have hN : (kk = -1 ∧ ∀ x ∈ c.items.take (i + 1), x.kind ≠ 3) ∨ ∃ j, ∃ h : j < c.items.length, kk = (j : Int) ∧ c.items[j].kind = 3 := by
            rcases hinv.out with ⟨h1, h2⟩ | h
            · refine .inl ⟨h1, fun x hx => ?_⟩
              rw [List.take_succ_eq_append_getElem hlt] at hx
              rcases List.mem_append.1 hx with hx | hx
              · exact h2 x hx
              · rw [List.mem_singleton.1 hx]; exact h3
            · exact .inr h
          have HN := Lib.hid hN
          generalize c.items[i].kind = kd at hk0 hkb
          clear h3 hinv hN
          go_wp2_with fail
          go_round
          case rel => exact ⟨i + 1, kk, by omega, by go_num, rfl, HN⟩
          case measure => simp [intOf]; omega
      · have hkk : ∃ j, ∃ h : j < c.items.length, kk = (j : Int) ∧ c.items[j].kind = 3 := by
          rcases hinv.out with ⟨_, h2⟩ | h
          · exfalso
            rw [List.take_of_length_le (by omega)] at h2
            obtain ⟨x, hx, h3⟩ := HB.out.task
            exact h2 x hx h3
          · exact h
        obtain ⟨j, hj, rfl, h3⟩ := hkk
        have H3 := Lib.hid h3
        have hjI : (j : Int) < (c.items.length : Int) := by omega
        clear hinv h3
        obtain ⟨vs, hvl, hvs, hva⟩ := rdl_at itemC_len j hj HLV.out
        obtain ⟨x, hx⟩ : ∃ x, x = c.items[j] := ⟨_, rfl⟩
        rw [← hx] at hvs
        obtain ⟨v3, v4, v7, v8, v9, rfl, hV3, hV4, _⟩ := rd_itemC.1 hvs
        have hx1 : V.cell? ⟨gI, j * 10 + 1, none⟩ = some (.string x.id) := by rw [HIAT.out _ (by omega), hva 1 (by omega)]; rfl
        have hx4 : V.cell? ⟨gI, j * 10 + 4, none⟩ = some v4 := by rw [HIAT.out _ (by omega), hva 4 (by omega)]; rfl
        have fx4 : V.frozen? ⟨gI, j * 10 + 4, none⟩ = false := HL.out.oI.frozenAt _
        have HX := Lib.hid hx
        have HV4 := Lib.hid hV4
        clear hvs hva hV3 hV4 hx hvl
        have hgIb : gb ≠ gI := fun e => blk_own_ne HL.out.oI HL.out.b (by decide) (by rw [e]; rfl)
        have hgSb : gb ≠ gS := fun e => blk_own_ne HL.out.oS HL.out.b (by decide) (by rw [e]; rfl)
        have hgSI : gS ≠ gI := fun e => own_ne HL.out.oI HL.out.oS (by decide) gI rfl (by rw [e]; rfl)
        have hbI : w1.heap.size ≤ gI := (HL.out.oI.lt gI rfl).1
        have hbS : w1.heap.size ≤ gS := (HL.out.oS.lt gS rfl).1
        have hbb : w1.heap.size ≤ gb := by have := HGB.out; omega
        go_upto_region 15 with fail
        rw [HQ.out]
        have hqs : q = 0 ∨ q = 1 ∨ q = 2 ∨ q = 3 ∨ q = 4 ∨ q = 5 ∨ q = 6 ∨ q = 7 := by omega
        clear hq0 hq7 HQ
        rcases hqs with rfl | rfl | rfl | rfl | rfl | rfl | rfl | rfl
        · obtain ⟨s, hs, hse, hsm⟩ := flat0 HB.out hj H3.out
          obtain ⟨V2, hV2⟩ : ∃ V', V' = V.setCell ⟨gI, j * 10 + 4, none⟩ (.slice none 0 0) := ⟨_, rfl⟩
          have hbV2 : Below w1.heap.size w1 V2 := by rw [hV2]; exact HL.out.bel.setCell (p := ⟨gI, j * 10 + 4, none⟩) hbI _
          have hk2 : Blk V2 gb 28 #[.string ⟨#[99]⟩, .slice AP c.parts.length cP, .slice AF c.flows.length cF, .slice (some ⟨gI, 0, none⟩) c.items.length kI, .slice (some ⟨gS, 0, none⟩) c.seqs.length kS] := by rw [hV2]; exact HL.out.b.far (p := ⟨gI, j * 10 + 4, none⟩) hgIb _
          have hP := Rd.below hbV2 _ _ HC.out.parts
          have hF : Rd V2 (flowsD (c.flows)) _ := Rd.below hbV2 _ _ HC.out.flows
          have hI : Rd V2 (itemsD (c.items.set j (withFlows c.items[j] []))) (.slice (some ⟨gI, 0, none⟩) c.items.length kI) := by
            have hown := (HL.out.oI.stored (j * 10 + 4) (.slice none 0 0)).1
            rw [← hV2] at hown
            exact rd_ownS hown (item_set (rd_nilF) c.items j hj xsI (RdL.below hbV2 _ _ HLI.out)) (by simp)
          have hS : Rd V2 (seqsD c.seqs) (.slice (some ⟨gS, 0, none⟩) c.seqs.length kS) := by
            have hown := ownsRow_setCell_other (a := ⟨gI, j * 10 + 4, none⟩) HL.out.oS (by show some gS ≠ some gI; simpa using hgSI) (.slice none 0 0)
            rw [← hV2] at hown
            exact rd_ownS hown (RdL.below hbV2 _ _ HLS.out) rfl
          have hcall := graph_fb (c := ⟨c.id, c.parts, c.flows, c.items.set j (withFlows c.items[j] []), c.seqs⟩) hP hF hI hS rfl rfl (by simp) rfl HID.out (by omega) (by omega) (by omega) (items_set hj HPL.out) hs hsm
          have HV2 := Lib.hid hV2.symm
          have HBV2 := Lib.hid hbV2
          have HK2 := Lib.hid hk2
          have HCALL := Lib.hid hcall
          have HSE := Lib.hid hse
          clear hV2 hbV2 hk2 hcall hs hse hsm hP hF hI hS
          go_upto_region 31 with fail
          rw [HV2.out]
          clear hx4 fx4 hx1 HV2
          have b0 : V2.cell? ⟨gb, 0, none⟩ = some (.string ⟨#[99]⟩) := HK2.out.cell 0
          have b1 : V2.cell? ⟨gb, 1, none⟩ = some (.slice AP c.parts.length cP) := HK2.out.cell 1
          have b2 : V2.cell? ⟨gb, 2, none⟩ = some (.slice AF c.flows.length cF) := HK2.out.cell 2
          have b3 : V2.cell? ⟨gb, 3, none⟩ = some (.slice (some ⟨gI, 0, none⟩) c.items.length kI) := HK2.out.cell 3
          have b4 : V2.cell? ⟨gb, 4, none⟩ = some (.slice (some ⟨gS, 0, none⟩) c.seqs.length kS) := HK2.out.cell 4
          go_wp2_with fail
          refine HCALL.out.mono ?_
          clear HCALL b0 b1 b2 b3 b4
          rintro e w4 ⟨hb4, h | h⟩
          · obtain ⟨_, rfl⟩ := h
            rw [HSE.out]
            have HB4 := Lib.hid (HBV2.out.trans (hb4.mono HBV2.out.size))
            clear hb4
            go_wp2_with fail
            refine (flat_awake _).mono ?_
            rintro e w5 ⟨rfl, hb5⟩
            have k11 := (Blk.new w4 44 #[.slice none 0 0, .slice none 0 0, .slice none 0 0, .slice none 0 0]).below hb5 (by simp)
            have n0 : w5.cell? ⟨w4.heap.size, 0, none⟩ = some (.slice none 0 0) := k11.cell 0
            have n2 : w5.cell? ⟨w4.heap.size, 2, none⟩ = some (.slice none 0 0) := k11.cell 2
            have hb6 := (HB4.out.alloc HB4.out.size _).trans (hb5.mono (by have := HB4.out.size; simp; omega))
            have HFI := Lib.hid (HB1.out.trans (hb6.mono HB1.out.size))
            clear hb5 hb6 k11
            go_wp2_with fail
            go_ret
            exact ⟨rfl, HFI.out⟩
          · exact absurd h.1 (by rw [HSE.out]; decide)
        · obtain ⟨s, hs, hse, hsm⟩ := flat1 HB.out hj H3.out
          obtain ⟨V2, hV2⟩ : ∃ V', V' = (V.setCell ⟨gI, j * 10 + 4, none⟩ (.slice (some ⟨V.heap.size, 0, none⟩) 1 1)).alloc (.cells #[.string ⟨#[110, 111]⟩] 9) := ⟨_, rfl⟩
          have hbV2 : Below w1.heap.size w1 V2 := by rw [hV2]; exact (have hb9 := HL.out.bel.setCell (p := ⟨gI, j * 10 + 4, none⟩) hbI (.slice (some ⟨V.heap.size, 0, none⟩) 1 1); (hb9.alloc hb9.size _))
          have hk2 : Blk V2 gb 28 #[.string ⟨#[99]⟩, .slice AP c.parts.length cP, .slice AF c.flows.length cF, .slice (some ⟨gI, 0, none⟩) c.items.length kI, .slice (some ⟨gS, 0, none⟩) c.seqs.length kS] := by rw [hV2]; exact ((HL.out.b.far (p := ⟨gI, j * 10 + 4, none⟩) hgIb _).alloc _)
          have hP := Rd.below hbV2 _ _ HC.out.parts
          have hF : Rd V2 (flowsD (c.flows)) _ := Rd.below hbV2 _ _ HC.out.flows
          have hI : Rd V2 (itemsD (c.items.set j (withFlows c.items[j] [bytesNo]))) (.slice (some ⟨gI, 0, none⟩) c.items.length kI) := by
            have hown := ((HL.out.oI.stored (j * 10 + 4) (.slice (some ⟨V.heap.size, 0, none⟩) 1 1)).1.alloc (.cells #[.string ⟨#[110, 111]⟩] 9))
            rw [← hV2] at hown
            exact rd_ownS hown (item_set (by
              have hr : Rd ((V.setCell ⟨gI, j * 10 + 4, none⟩ (.slice (some ⟨V.heap.size, 0, none⟩) 1 1)).alloc (.cells #[.string ⟨#[110, 111]⟩] 9)) (strsD [bytesNo]) _ := rd_litF (rdl_cons.2 ⟨_, _, rfl, rd_str.2 rfl, rdl_nil.2 rfl⟩) (show 1 ≤ maxLen by decide) rfl
              rw [show ((V.setCell ⟨gI, j * 10 + 4, none⟩ (.slice (some ⟨V.heap.size, 0, none⟩) 1 1))).heap.size = V.heap.size by simp] at hr
              rw [hV2]
              exact hr) c.items j hj xsI (RdL.below hbV2 _ _ HLI.out)) (by simp)
          have hS : Rd V2 (seqsD c.seqs) (.slice (some ⟨gS, 0, none⟩) c.seqs.length kS) := by
            have hown := ((ownsRow_setCell_other (a := ⟨gI, j * 10 + 4, none⟩) HL.out.oS (by show some gS ≠ some gI; simpa using hgSI) (.slice (some ⟨V.heap.size, 0, none⟩) 1 1)).alloc (.cells #[.string ⟨#[110, 111]⟩] 9))
            rw [← hV2] at hown
            exact rd_ownS hown (RdL.below hbV2 _ _ HLS.out) rfl
          have hcall := graph_fb (c := ⟨c.id, c.parts, c.flows, c.items.set j (withFlows c.items[j] [bytesNo]), c.seqs⟩) hP hF hI hS rfl rfl (by simp) rfl HID.out (by omega) (by omega) (by omega) (items_set hj HPL.out) hs hsm
          have HV2 := Lib.hid hV2.symm
          have HBV2 := Lib.hid hbV2
          have HK2 := Lib.hid hk2
          have HCALL := Lib.hid hcall
          have HSE := Lib.hid hse
          clear hV2 hbV2 hk2 hcall hs hse hsm hP hF hI hS
          go_upto_region 31 with fail
          rw [HV2.out]
          clear hx4 fx4 hx1 HV2
          have b0 : V2.cell? ⟨gb, 0, none⟩ = some (.string ⟨#[99]⟩) := HK2.out.cell 0
          have b1 : V2.cell? ⟨gb, 1, none⟩ = some (.slice AP c.parts.length cP) := HK2.out.cell 1
          have b2 : V2.cell? ⟨gb, 2, none⟩ = some (.slice AF c.flows.length cF) := HK2.out.cell 2
          have b3 : V2.cell? ⟨gb, 3, none⟩ = some (.slice (some ⟨gI, 0, none⟩) c.items.length kI) := HK2.out.cell 3
          have b4 : V2.cell? ⟨gb, 4, none⟩ = some (.slice (some ⟨gS, 0, none⟩) c.seqs.length kS) := HK2.out.cell 4
          go_wp2_with fail
          refine HCALL.out.mono ?_
          clear HCALL b0 b1 b2 b3 b4
          rintro e w4 ⟨hb4, h | h⟩
          · obtain ⟨_, rfl⟩ := h
            rw [HSE.out]
            have HB4 := Lib.hid (HBV2.out.trans (hb4.mono HBV2.out.size))
            clear hb4
            go_wp2_with fail
            refine (flat_awake _).mono ?_
            rintro e w5 ⟨rfl, hb5⟩
            have k11 := (Blk.new w4 44 #[.slice none 0 0, .slice none 0 0, .slice none 0 0, .slice none 0 0]).below hb5 (by simp)
            have n0 : w5.cell? ⟨w4.heap.size, 0, none⟩ = some (.slice none 0 0) := k11.cell 0
            have n2 : w5.cell? ⟨w4.heap.size, 2, none⟩ = some (.slice none 0 0) := k11.cell 2
            have hb6 := (HB4.out.alloc HB4.out.size _).trans (hb5.mono (by have := HB4.out.size; simp; omega))
            have HFI := Lib.hid (HB1.out.trans (hb6.mono HB1.out.size))
            clear hb5 hb6 k11
            go_wp2_with fail
            go_ret
            exact ⟨rfl, HFI.out⟩
          · exact absurd h.1 (by rw [HSE.out]; decide)
        · obtain ⟨⟨a, lf, hfa, _⟩, _⟩ := HB.out.tasks _ (List.getElem_mem hj) H3.out
          rw [← HX.out] at hfa
          obtain ⟨A4, c4, rfl, _, _, hat⟩ := rd_at strC_len HV4.out
          have hl4 : 0 < x.flows.length := by rw [hfa]; simp
          obtain ⟨b4, vs, rfl, hb4l, _, hvs, hcell⟩ := hat 0 hl4
          have hx0 : x.flows[0] = a := by simp [hfa]
          rw [hx0] at hvs
          obtain rfl := rd_strC hvs
          have e0 : V.cell? ⟨b4, 0, none⟩ = some (.string a) := hcell 0 (by omega)
          have hl4I : (0 : Int) < (x.flows.length : Int) := by omega
          clear hfa hvs hcell hx0
          go_upto_region 20 with fail
          refine wp_region_HT 22 (fun U => Below V.heap.size V U) (by kernel_rfl) (by decide) ((Below.refl _ _).drew) (fun hHeld => ?_)
          refine ht_take 0 (v := ?vw_1) rfl (by kernel_rfl) (fun _ _ _ h => h) (Or.inl ⟨by rfl, ?hw_1⟩) hHeld ?rw_1
          case hw_1 => ((intro U hSw; have y4 : U.cell? ⟨gI, j * 10 + 4, none⟩ = some (.slice (some ⟨b4, 0, none⟩) x.flows.length c4) := (hSw.cell (p := ⟨gI, j * 10 + 4, none⟩) hgIl).trans hx4; have ye : U.cell? ⟨b4, 0, none⟩ = some (.string a) := (hSw.cell (p := ⟨b4, 0, none⟩) hb4l).trans e0; go_simp); (try (with_reducible rfl)))
          try simp only [Act.put, List.setIfInBounds_toArray, List.set_cons_zero, List.set_cons_succ]
          refine ht_take 1 (v := ?vw_2) rfl (by kernel_rfl) (fun _ _ _ h => h) (Or.inl ⟨by rfl, ?hw_2⟩) hHeld ?rw_2
          case hw_2 => ((intro U hSw; have y4 : U.cell? ⟨gI, j * 10 + 4, none⟩ = some (.slice (some ⟨b4, 0, none⟩) x.flows.length c4) := (hSw.cell (p := ⟨gI, j * 10 + 4, none⟩) hgIl).trans hx4; have ye : U.cell? ⟨b4, 0, none⟩ = some (.string a) := (hSw.cell (p := ⟨b4, 0, none⟩) hb4l).trans e0; go_simp); (try (with_reducible rfl)))
          try simp only [Act.put, List.setIfInBounds_toArray, List.set_cons_zero, List.set_cons_succ]
          refine ht_take 2 (v := ?vw_3) rfl (by kernel_rfl) (fun _ _ _ h => h) (Or.inl ⟨by rfl, ?hw_3⟩) hHeld ?rw_3
          case hw_3 => ((intro U hSw; have y4 : U.cell? ⟨gI, j * 10 + 4, none⟩ = some (.slice (some ⟨b4, 0, none⟩) x.flows.length c4) := (hSw.cell (p := ⟨gI, j * 10 + 4, none⟩) hgIl).trans hx4; have ye : U.cell? ⟨b4, 0, none⟩ = some (.string a) := (hSw.cell (p := ⟨b4, 0, none⟩) hb4l).trans e0; go_simp); (try (with_reducible rfl)))
          try simp only [Act.put, List.setIfInBounds_toArray, List.set_cons_zero, List.set_cons_succ]
          refine ht_take 3 (v := ?vw_4) rfl (by kernel_rfl) (fun _ _ _ h => h) (Or.inl ⟨by rfl, ?hw_4⟩) hHeld ?rw_4
          case hw_4 => ((intro U hSw; have y4 : U.cell? ⟨gI, j * 10 + 4, none⟩ = some (.slice (some ⟨b4, 0, none⟩) x.flows.length c4) := (hSw.cell (p := ⟨gI, j * 10 + 4, none⟩) hgIl).trans hx4; have ye : U.cell? ⟨b4, 0, none⟩ = some (.string a) := (hSw.cell (p := ⟨b4, 0, none⟩) hb4l).trans e0; go_simp); (try (with_reducible rfl)))
          try simp only [Act.put, List.setIfInBounds_toArray, List.set_cons_zero, List.set_cons_succ]
          refine ht_take 4 (v := ?vw_5) rfl (by kernel_rfl) (fun _ _ _ h => h) (Or.inl ⟨by rfl, ?hw_5⟩) hHeld ?rw_5
          case hw_5 => ((intro U hSw; have y4 : U.cell? ⟨gI, j * 10 + 4, none⟩ = some (.slice (some ⟨b4, 0, none⟩) x.flows.length c4) := (hSw.cell (p := ⟨gI, j * 10 + 4, none⟩) hgIl).trans hx4; have ye : U.cell? ⟨b4, 0, none⟩ = some (.string a) := (hSw.cell (p := ⟨b4, 0, none⟩) hb4l).trans e0; go_simp); (try (with_reducible rfl)))
          try simp only [Act.put, List.setIfInBounds_toArray, List.set_cons_zero, List.set_cons_succ]
          refine ht_take 5 (v := ?vw_6) rfl (by kernel_rfl) (fun _ _ _ h => h) (Or.inl ⟨by rfl, ?hw_6⟩) hHeld ?rw_6
          case hw_6 => ((intro U hSw; have y4 : U.cell? ⟨gI, j * 10 + 4, none⟩ = some (.slice (some ⟨b4, 0, none⟩) x.flows.length c4) := (hSw.cell (p := ⟨gI, j * 10 + 4, none⟩) hgIl).trans hx4; have ye : U.cell? ⟨b4, 0, none⟩ = some (.string a) := (hSw.cell (p := ⟨b4, 0, none⟩) hb4l).trans e0; go_simp); (try (with_reducible rfl)))
          try simp only [Act.put, List.setIfInBounds_toArray, List.set_cons_zero, List.set_cons_succ]
          refine ht_take 6 (v := ?vw_7) rfl (by kernel_rfl) (fun _ _ _ h => h) (Or.inl ⟨by rfl, ?hw_7⟩) hHeld ?rw_7
          case hw_7 => ((intro U hSw; have y4 : U.cell? ⟨gI, j * 10 + 4, none⟩ = some (.slice (some ⟨b4, 0, none⟩) x.flows.length c4) := (hSw.cell (p := ⟨gI, j * 10 + 4, none⟩) hgIl).trans hx4; have ye : U.cell? ⟨b4, 0, none⟩ = some (.string a) := (hSw.cell (p := ⟨b4, 0, none⟩) hb4l).trans e0; go_simp); (try (with_reducible rfl)))
          try simp only [Act.put, List.setIfInBounds_toArray, List.set_cons_zero, List.set_cons_succ]
          refine ht_take 7 (v := ?vw_8) rfl (by kernel_rfl) (fun _ _ _ h => h) (Or.inl ⟨by rfl, ?hw_8⟩) hHeld ?rw_8
          case hw_8 => ((intro U hSw; have y4 : U.cell? ⟨gI, j * 10 + 4, none⟩ = some (.slice (some ⟨b4, 0, none⟩) x.flows.length c4) := (hSw.cell (p := ⟨gI, j * 10 + 4, none⟩) hgIl).trans hx4; have ye : U.cell? ⟨b4, 0, none⟩ = some (.string a) := (hSw.cell (p := ⟨b4, 0, none⟩) hb4l).trans e0; go_simp); (try (with_reducible rfl)))
          try simp only [Act.put, List.setIfInBounds_toArray, List.set_cons_zero, List.set_cons_succ]
          refine ht_take 8 (v := ?vw_9) rfl (by kernel_rfl) (fun _ _ _ h => h) (Or.inl ⟨by rfl, ?hw_9⟩) hHeld ?rw_9
          case hw_9 => ((intro U hSw; have y4 : U.cell? ⟨gI, j * 10 + 4, none⟩ = some (.slice (some ⟨b4, 0, none⟩) x.flows.length c4) := (hSw.cell (p := ⟨gI, j * 10 + 4, none⟩) hgIl).trans hx4; have ye : U.cell? ⟨b4, 0, none⟩ = some (.string a) := (hSw.cell (p := ⟨b4, 0, none⟩) hb4l).trans e0; go_simp); (try (with_reducible rfl)))
          try simp only [Act.put, List.setIfInBounds_toArray, List.set_cons_zero, List.set_cons_succ]
          refine ht_take 9 (v := ?vw_10) rfl (by kernel_rfl) (fun _ _ _ h => h) (Or.inl ⟨by rfl, ?hw_10⟩) hHeld ?rw_10
          case hw_10 => ((intro U hSw; have y4 : U.cell? ⟨gI, j * 10 + 4, none⟩ = some (.slice (some ⟨b4, 0, none⟩) x.flows.length c4) := (hSw.cell (p := ⟨gI, j * 10 + 4, none⟩) hgIl).trans hx4; have ye : U.cell? ⟨b4, 0, none⟩ = some (.string a) := (hSw.cell (p := ⟨b4, 0, none⟩) hb4l).trans e0; go_simp); (try (with_reducible rfl)))
          try simp only [Act.put, List.setIfInBounds_toArray, List.set_cons_zero, List.set_cons_succ]
          refine ht_take 10 (v := ?vw_11) rfl (by kernel_rfl) (fun _ _ _ h => h) (Or.inl ⟨by rfl, ?hw_11⟩) hHeld ?rw_11
          case hw_11 => ((intro U hSw; have y4 : U.cell? ⟨gI, j * 10 + 4, none⟩ = some (.slice (some ⟨b4, 0, none⟩) x.flows.length c4) := (hSw.cell (p := ⟨gI, j * 10 + 4, none⟩) hgIl).trans hx4; have ye : U.cell? ⟨b4, 0, none⟩ = some (.string a) := (hSw.cell (p := ⟨b4, 0, none⟩) hb4l).trans e0; go_simp); (try (with_reducible rfl)))
          try simp only [Act.put, List.setIfInBounds_toArray, List.set_cons_zero, List.set_cons_succ]
          refine ht_take 11 (v := ?vw_12) rfl (by kernel_rfl) (fun _ _ _ h => h) (Or.inl ⟨by rfl, ?hw_12⟩) hHeld ?rw_12
          case hw_12 => ((intro U hSw; have y4 : U.cell? ⟨gI, j * 10 + 4, none⟩ = some (.slice (some ⟨b4, 0, none⟩) x.flows.length c4) := (hSw.cell (p := ⟨gI, j * 10 + 4, none⟩) hgIl).trans hx4; have ye : U.cell? ⟨b4, 0, none⟩ = some (.string a) := (hSw.cell (p := ⟨b4, 0, none⟩) hb4l).trans e0; go_simp); (try (with_reducible rfl)))
          try simp only [Act.put, List.setIfInBounds_toArray, List.set_cons_zero, List.set_cons_succ]
          refine ht_take 12 (v := ?vw_13) rfl (by kernel_rfl) (fun _ _ _ h => h) (Or.inl ⟨by rfl, ?hw_13⟩) hHeld ?rw_13
          case hw_13 => ((intro U hSw; have y4 : U.cell? ⟨gI, j * 10 + 4, none⟩ = some (.slice (some ⟨b4, 0, none⟩) x.flows.length c4) := (hSw.cell (p := ⟨gI, j * 10 + 4, none⟩) hgIl).trans hx4; have ye : U.cell? ⟨b4, 0, none⟩ = some (.string a) := (hSw.cell (p := ⟨b4, 0, none⟩) hb4l).trans e0; go_simp); (try (with_reducible rfl)))
          try simp only [Act.put, List.setIfInBounds_toArray, List.set_cons_zero, List.set_cons_succ]
          refine ht_take 13 (v := ?vw_14) rfl (by kernel_rfl) (fun _ _ _ h => h) (Or.inl ⟨by rfl, ?hw_14⟩) hHeld ?rw_14
          case hw_14 => ((intro U hSw; have y4 : U.cell? ⟨gI, j * 10 + 4, none⟩ = some (.slice (some ⟨b4, 0, none⟩) x.flows.length c4) := (hSw.cell (p := ⟨gI, j * 10 + 4, none⟩) hgIl).trans hx4; have ye : U.cell? ⟨b4, 0, none⟩ = some (.string a) := (hSw.cell (p := ⟨b4, 0, none⟩) hb4l).trans e0; go_simp); (try (with_reducible rfl)))
          try simp only [Act.put, List.setIfInBounds_toArray, List.set_cons_zero, List.set_cons_succ]
          refine ht_take 14 (v := ?vw_15) rfl (by kernel_rfl) (fun _ _ _ h => h) (Or.inl ⟨by rfl, ?hw_15⟩) hHeld ?rw_15
          case hw_15 => ((intro U hSw; have y4 : U.cell? ⟨gI, j * 10 + 4, none⟩ = some (.slice (some ⟨b4, 0, none⟩) x.flows.length c4) := (hSw.cell (p := ⟨gI, j * 10 + 4, none⟩) hgIl).trans hx4; have ye : U.cell? ⟨b4, 0, none⟩ = some (.string a) := (hSw.cell (p := ⟨b4, 0, none⟩) hb4l).trans e0; go_simp); (try (with_reducible rfl)))
          try simp only [Act.put, List.setIfInBounds_toArray, List.set_cons_zero, List.set_cons_succ]
          refine ht_take 15 (v := ?vw_16) rfl (by kernel_rfl) (fun _ _ _ h => h) (Or.inl ⟨by rfl, ?hw_16⟩) hHeld ?rw_16
          case hw_16 => ((intro U hSw; have y4 : U.cell? ⟨gI, j * 10 + 4, none⟩ = some (.slice (some ⟨b4, 0, none⟩) x.flows.length c4) := (hSw.cell (p := ⟨gI, j * 10 + 4, none⟩) hgIl).trans hx4; have ye : U.cell? ⟨b4, 0, none⟩ = some (.string a) := (hSw.cell (p := ⟨b4, 0, none⟩) hb4l).trans e0; go_simp); (try (with_reducible rfl)))
          try simp only [Act.put, List.setIfInBounds_toArray, List.set_cons_zero, List.set_cons_succ]
          refine ht_take 16 (v := ?vw_17) rfl (by kernel_rfl) (fun _ _ _ h => h) (Or.inl ⟨by rfl, ?hw_17⟩) hHeld ?rw_17
          case hw_17 => ((intro U hSw; have y4 : U.cell? ⟨gI, j * 10 + 4, none⟩ = some (.slice (some ⟨b4, 0, none⟩) x.flows.length c4) := (hSw.cell (p := ⟨gI, j * 10 + 4, none⟩) hgIl).trans hx4; have ye : U.cell? ⟨b4, 0, none⟩ = some (.string a) := (hSw.cell (p := ⟨b4, 0, none⟩) hb4l).trans e0; go_simp); (try (with_reducible rfl)))
          try simp only [Act.put, List.setIfInBounds_toArray, List.set_cons_zero, List.set_cons_succ]
          refine ht_take 17 (v := ?vw_18) rfl (by kernel_rfl) (fun _ _ _ h => h) (Or.inl ⟨by rfl, ?hw_18⟩) hHeld ?rw_18
          case hw_18 => ((intro U hSw; have y4 : U.cell? ⟨gI, j * 10 + 4, none⟩ = some (.slice (some ⟨b4, 0, none⟩) x.flows.length c4) := (hSw.cell (p := ⟨gI, j * 10 + 4, none⟩) hgIl).trans hx4; have ye : U.cell? ⟨b4, 0, none⟩ = some (.string a) := (hSw.cell (p := ⟨b4, 0, none⟩) hb4l).trans e0; go_simp); (try (with_reducible rfl)))
          try simp only [Act.put, List.setIfInBounds_toArray, List.set_cons_zero, List.set_cons_succ]
          refine ht_take 18 (v := ?vw_19) rfl (by kernel_rfl) (fun _ _ _ h => h) (Or.inl ⟨by rfl, ?hw_19⟩) hHeld ?rw_19
          case hw_19 => ((intro U hSw; have y4 : U.cell? ⟨gI, j * 10 + 4, none⟩ = some (.slice (some ⟨b4, 0, none⟩) x.flows.length c4) := (hSw.cell (p := ⟨gI, j * 10 + 4, none⟩) hgIl).trans hx4; have ye : U.cell? ⟨b4, 0, none⟩ = some (.string a) := (hSw.cell (p := ⟨b4, 0, none⟩) hb4l).trans e0; go_simp); (try (with_reducible rfl)))
          try simp only [Act.put, List.setIfInBounds_toArray, List.set_cons_zero, List.set_cons_succ]
          refine ht_one 19 rfl (by kernel_rfl) (fun K hK => ?_)
          go_simp
          refine hK.out _ _ (hHeld.alloc hHeld.size _) (fun hHeld => ?_)
          clear hK K
          try simp only [Act.put, List.setIfInBounds_toArray, List.set_cons_zero, List.set_cons_succ]
          refine ht_take 20 (v := ?vw_20) rfl (by kernel_rfl) (fun _ _ _ h => h) (Or.inl ⟨by rfl, ?hw_20⟩) hHeld ?rw_20
          case hw_20 => ((intro U hSw; have y4 : U.cell? ⟨gI, j * 10 + 4, none⟩ = some (.slice (some ⟨b4, 0, none⟩) x.flows.length c4) := (hSw.cell (p := ⟨gI, j * 10 + 4, none⟩) hgIl).trans hx4; have ye : U.cell? ⟨b4, 0, none⟩ = some (.string a) := (hSw.cell (p := ⟨b4, 0, none⟩) hb4l).trans e0; go_simp); (try (with_reducible rfl)))
          try simp only [Act.put, List.setIfInBounds_toArray, List.set_cons_zero, List.set_cons_succ]
          refine ht_take 21 (v := ?vw_21) rfl (by kernel_rfl) (fun _ _ _ h => h) (Or.inl ⟨by rfl, ?hw_21⟩) hHeld ?rw_21
          case hw_21 => ((intro U hSw; have y4 : U.cell? ⟨gI, j * 10 + 4, none⟩ = some (.slice (some ⟨b4, 0, none⟩) x.flows.length c4) := (hSw.cell (p := ⟨gI, j * 10 + 4, none⟩) hgIl).trans hx4; have ye : U.cell? ⟨b4, 0, none⟩ = some (.string a) := (hSw.cell (p := ⟨b4, 0, none⟩) hb4l).trans e0; go_simp); (try (with_reducible rfl)))
          try simp only [Act.put, List.setIfInBounds_toArray, List.set_cons_zero, List.set_cons_succ]
          refine ht_done (by kernel_rfl) rfl ?_
          clear hHeld hat e0
          obtain ⟨s, hs, hse, hsm⟩ := flat2 HB.out hj H3.out a
          obtain ⟨V2, hV2⟩ : ∃ V', V' = ((V.setCell ⟨gI, j * 10 + 4, none⟩ (.slice (some ⟨V.heap.size, 0, none⟩) 3 3)).alloc (.cells #[.string a, .string a, .string a] 9)).drew := ⟨_, rfl⟩
          have hbV2 : Below w1.heap.size w1 V2 := by rw [hV2]; exact (have hb9 := HL.out.bel.setCell (p := ⟨gI, j * 10 + 4, none⟩) hbI (.slice (some ⟨V.heap.size, 0, none⟩) 3 3); (hb9.alloc hb9.size _).drew)
          have hk2 : Blk V2 gb 28 #[.string ⟨#[99]⟩, .slice AP c.parts.length cP, .slice AF c.flows.length cF, .slice (some ⟨gI, 0, none⟩) c.items.length kI, .slice (some ⟨gS, 0, none⟩) c.seqs.length kS] := by rw [hV2]; exact ((HL.out.b.far (p := ⟨gI, j * 10 + 4, none⟩) hgIb _).alloc _).drew
          have hP := Rd.below hbV2 _ _ HC.out.parts
          have hF : Rd V2 (flowsD (c.flows)) _ := Rd.below hbV2 _ _ HC.out.flows
          have hI : Rd V2 (itemsD (c.items.set j (withFlows c.items[j] [a, a, a]))) (.slice (some ⟨gI, 0, none⟩) c.items.length kI) := by
            have hown := (own_drewF ((HL.out.oI.stored (j * 10 + 4) (.slice (some ⟨V.heap.size, 0, none⟩) 3 3)).1.alloc (.cells #[.string a, .string a, .string a] 9)))
            rw [← hV2] at hown
            exact rd_ownS hown (item_set (by
              have hr : Rd ((V.setCell ⟨gI, j * 10 + 4, none⟩ (.slice (some ⟨V.heap.size, 0, none⟩) 3 3)).alloc (.cells #[.string a, .string a, .string a] 9)) (strsD [a, a, a]) _ := rd_litF (rdl_cons.2 ⟨_, _, rfl, rd_str.2 rfl, rdl_cons.2 ⟨_, _, rfl, rd_str.2 rfl, rdl_cons.2 ⟨_, _, rfl, rd_str.2 rfl, rdl_nil.2 rfl⟩⟩⟩) (show 3 ≤ maxLen by decide) rfl
              rw [show ((V.setCell ⟨gI, j * 10 + 4, none⟩ (.slice (some ⟨V.heap.size, 0, none⟩) 3 3))).heap.size = V.heap.size by simp] at hr
              rw [hV2]
              exact Rd.below (Below.refl _ _).drew _ _ hr) c.items j hj xsI (RdL.below hbV2 _ _ HLI.out)) (by simp)
          have hS : Rd V2 (seqsD c.seqs) (.slice (some ⟨gS, 0, none⟩) c.seqs.length kS) := by
            have hown := (own_drewF ((ownsRow_setCell_other (a := ⟨gI, j * 10 + 4, none⟩) HL.out.oS (by show some gS ≠ some gI; simpa using hgSI) (.slice (some ⟨V.heap.size, 0, none⟩) 3 3)).alloc (.cells #[.string a, .string a, .string a] 9)))
            rw [← hV2] at hown
            exact rd_ownS hown (RdL.below hbV2 _ _ HLS.out) rfl
          have hcall := graph_fb (c := ⟨c.id, c.parts, c.flows, c.items.set j (withFlows c.items[j] [a, a, a]), c.seqs⟩) hP hF hI hS rfl rfl (by simp) rfl HID.out (by omega) (by omega) (by omega) (items_set hj HPL.out) hs hsm
          have HV2 := Lib.hid hV2.symm
          have HBV2 := Lib.hid hbV2
          have HK2 := Lib.hid hk2
          have HCALL := Lib.hid hcall
          have HSE := Lib.hid hse
          clear hV2 hbV2 hk2 hcall hs hse hsm hP hF hI hS
          go_upto_region 31 with fail
          rw [HV2.out]
          clear hx4 fx4 hx1 HV2
          have b0 : V2.cell? ⟨gb, 0, none⟩ = some (.string ⟨#[99]⟩) := HK2.out.cell 0
          have b1 : V2.cell? ⟨gb, 1, none⟩ = some (.slice AP c.parts.length cP) := HK2.out.cell 1
          have b2 : V2.cell? ⟨gb, 2, none⟩ = some (.slice AF c.flows.length cF) := HK2.out.cell 2
          have b3 : V2.cell? ⟨gb, 3, none⟩ = some (.slice (some ⟨gI, 0, none⟩) c.items.length kI) := HK2.out.cell 3
          have b4 : V2.cell? ⟨gb, 4, none⟩ = some (.slice (some ⟨gS, 0, none⟩) c.seqs.length kS) := HK2.out.cell 4
          go_wp2_with fail
          refine HCALL.out.mono ?_
          clear HCALL b0 b1 b2 b3 b4
          rintro e w4 ⟨hb4, h | h⟩
          · obtain ⟨_, rfl⟩ := h
            rw [HSE.out]
            have HB4 := Lib.hid (HBV2.out.trans (hb4.mono HBV2.out.size))
            clear hb4
            go_wp2_with fail
            refine (flat_awake _).mono ?_
            rintro e w5 ⟨rfl, hb5⟩
            have k11 := (Blk.new w4 44 #[.slice none 0 0, .slice none 0 0, .slice none 0 0, .slice none 0 0]).below hb5 (by simp)
            have n0 : w5.cell? ⟨w4.heap.size, 0, none⟩ = some (.slice none 0 0) := k11.cell 0
            have n2 : w5.cell? ⟨w4.heap.size, 2, none⟩ = some (.slice none 0 0) := k11.cell 2
            have hb6 := (HB4.out.alloc HB4.out.size _).trans (hb5.mono (by have := HB4.out.size; simp; omega))
            have HFI := Lib.hid (HB1.out.trans (hb6.mono HB1.out.size))
            clear hb5 hb6 k11
            go_wp2_with fail
            go_ret
            exact ⟨rfl, HFI.out⟩
          · exact absurd h.1 (by rw [HSE.out]; decide)
        · obtain ⟨s, hs, hse, hsm⟩ := flat3 HB.out hj H3.out
          obtain ⟨V2, hV2⟩ : ∃ V', V' = V.setCell ⟨gb, 1, none⟩ (.slice none 0 0) := ⟨_, rfl⟩
          have hbV2 : Below w1.heap.size w1 V2 := by rw [hV2]; exact HL.out.bel.setCell (p := ⟨gb, 1, none⟩) hbb _
          have hk2 : Blk V2 gb 28 #[.string ⟨#[99]⟩, .slice none 0 0, .slice AF c.flows.length cF, .slice (some ⟨gI, 0, none⟩) c.items.length kI, .slice (some ⟨gS, 0, none⟩) c.seqs.length kS] := by rw [hV2]; exact HL.out.b.set_ 1 _
          have hP : Rd V2 (partsD []) (.slice none 0 0) := rd_nilF
          have hF := Rd.below hbV2 _ _ HC.out.flows
          have hI : Rd V2 (itemsD c.items) (.slice (some ⟨gI, 0, none⟩) c.items.length kI) := by
            have hown := ownsRow_setCell_other (a := ⟨gb, 1, none⟩) HL.out.oI (by show some gI ≠ some gb; simpa using Ne.symm hgIb) (.slice none 0 0)
            rw [← hV2] at hown
            exact rd_ownS hown (RdL.below hbV2 _ _ HLI.out) rfl
          have hS : Rd V2 (seqsD c.seqs) (.slice (some ⟨gS, 0, none⟩) c.seqs.length kS) := by
            have hown := ownsRow_setCell_other (a := ⟨gb, 1, none⟩) HL.out.oS (by show some gS ≠ some gb; simpa using Ne.symm hgSb) (.slice none 0 0)
            rw [← hV2] at hown
            exact rd_ownS hown (RdL.below hbV2 _ _ HLS.out) rfl
          have hcall := graph_fb (c := ⟨c.id, [], c.flows, c.items, c.seqs⟩) hP hF hI hS rfl rfl rfl rfl HID.out (by omega) (by omega) (by omega) HPL.out hs hsm
          have yb1 : V.cell? ⟨gb, 1, none⟩ = some (.slice AP c.parts.length cP) := HL.out.b.cell 1
          have fb1 : V.frozen? ⟨gb, 1, none⟩ = false := HL.out.b.frozen 1
          have HV2 := Lib.hid hV2.symm
          have HBV2 := Lib.hid hbV2
          have HK2 := Lib.hid hk2
          have HCALL := Lib.hid hcall
          have HSE := Lib.hid hse
          clear hV2 hbV2 hk2 hcall hs hse hsm hP hF hI hS
          go_upto_region 31 with fail
          rw [HV2.out]
          clear hx4 fx4 hx1 yb1 fb1 HV2
          have b0 : V2.cell? ⟨gb, 0, none⟩ = some (.string ⟨#[99]⟩) := HK2.out.cell 0
          have b1 : V2.cell? ⟨gb, 1, none⟩ = some (.slice none 0 0) := HK2.out.cell 1
          have b2 : V2.cell? ⟨gb, 2, none⟩ = some (.slice AF c.flows.length cF) := HK2.out.cell 2
          have b3 : V2.cell? ⟨gb, 3, none⟩ = some (.slice (some ⟨gI, 0, none⟩) c.items.length kI) := HK2.out.cell 3
          have b4 : V2.cell? ⟨gb, 4, none⟩ = some (.slice (some ⟨gS, 0, none⟩) c.seqs.length kS) := HK2.out.cell 4
          go_wp2_with fail
          refine HCALL.out.mono ?_
          clear HCALL b0 b1 b2 b3 b4
          rintro e w4 ⟨hb4, h | h⟩
          · obtain ⟨_, rfl⟩ := h
            rw [HSE.out]
            have HB4 := Lib.hid (HBV2.out.trans (hb4.mono HBV2.out.size))
            clear hb4
            go_wp2_with fail
            refine (flat_awake _).mono ?_
            rintro e w5 ⟨rfl, hb5⟩
            have k11 := (Blk.new w4 44 #[.slice none 0 0, .slice none 0 0, .slice none 0 0, .slice none 0 0]).below hb5 (by simp)
            have n0 : w5.cell? ⟨w4.heap.size, 0, none⟩ = some (.slice none 0 0) := k11.cell 0
            have n2 : w5.cell? ⟨w4.heap.size, 2, none⟩ = some (.slice none 0 0) := k11.cell 2
            have hb6 := (HB4.out.alloc HB4.out.size _).trans (hb5.mono (by have := HB4.out.size; simp; omega))
            have HFI := Lib.hid (HB1.out.trans (hb6.mono HB1.out.size))
            clear hb5 hb6 k11
            go_wp2_with fail
            go_ret
            exact ⟨rfl, HFI.out⟩
          · exact absurd h.1 (by rw [HSE.out]; decide)
        · obtain ⟨qs, hqs⟩ : ∃ qs : SeqD, qs = ⟨c.seqs[0].id, bytesNo, c.seqs[0].dst⟩ := ⟨_, rfl⟩
          obtain ⟨s, hs, hse, hsm⟩ := flat4 HB.out (q := qs) (List.mem_set (by omega) _) (by rw [hqs])
          obtain ⟨V2, hV2⟩ : ∃ V', V' = V.setCell ⟨gS, 1, none⟩ (.string ⟨#[110, 111]⟩) := ⟨_, rfl⟩
          have hbV2 : Below w1.heap.size w1 V2 := by rw [hV2]; exact HL.out.bel.setCell (p := ⟨gS, 1, none⟩) hbS _
          have hk2 : Blk V2 gb 28 #[.string ⟨#[99]⟩, .slice AP c.parts.length cP, .slice AF c.flows.length cF, .slice (some ⟨gI, 0, none⟩) c.items.length kI, .slice (some ⟨gS, 0, none⟩) c.seqs.length kS] := by rw [hV2]; exact HL.out.b.far (p := ⟨gS, 1, none⟩) hgSb _
          have hP := Rd.below hbV2 _ _ HC.out.parts
          have hF := Rd.below hbV2 _ _ HC.out.flows
          have hI : Rd V2 (itemsD c.items) (.slice (some ⟨gI, 0, none⟩) c.items.length kI) := by
            have hown := ownsRow_setCell_other (a := ⟨gS, 1, none⟩) HL.out.oI (by show some gI ≠ some gS; simpa using Ne.symm hgSI) (.string ⟨#[110, 111]⟩)
            rw [← hV2] at hown
            exact rd_ownS hown (RdL.below hbV2 _ _ HLI.out) rfl
          have hS : Rd V2 (seqsD (c.seqs.set 0 qs)) (.slice (some ⟨gS, 0, none⟩) c.seqs.length kS) := by
            have hown := (HL.out.oS.stored 1 (.string ⟨#[110, 111]⟩)).1
            rw [← hV2] at hown
            rw [hqs]
            exact rd_ownS hown (seq_set0 c.seqs (by omega) xsS (RdL.below hbV2 _ _ HLS.out)) (by simp)
          have hcall := graph_fb (c := ⟨c.id, c.parts, c.flows, c.items, c.seqs.set 0 qs⟩) hP hF hI hS rfl rfl rfl (by simp) HID.out (by omega) (by omega) (by omega) HPL.out hs hsm
          have yb4 : V.cell? ⟨gb, 4, none⟩ = some (.slice (some ⟨gS, 0, none⟩) c.seqs.length kS) := HL.out.b.cell 4
          have ys1 : ∃ u, V.cell? ⟨gS, 1, none⟩ = some u := by
            obtain ⟨vs, hvl, hvs, hva⟩ := rdl_at seqC_len 0 (by omega) HSV.out
            obtain rfl := rd_seqC hvs
            exact ⟨_, (HSAT.out 1 (by omega)).trans (hva 1 (by omega))⟩
          obtain ⟨u1, ys1⟩ := ys1
          have fs1 : V.frozen? ⟨gS, 1, none⟩ = false := HL.out.oS.frozenAt _
          have hslI : (0 : Int) < (c.seqs.length : Int) := by omega
          have HV2 := Lib.hid hV2.symm
          have HBV2 := Lib.hid hbV2
          have HK2 := Lib.hid hk2
          have HCALL := Lib.hid hcall
          have HSE := Lib.hid hse
          clear hV2 hbV2 hk2 hcall hs hse hsm hP hF hI hS hqs
          go_upto_region 31 with fail
          rw [HV2.out]
          clear hx4 fx4 hx1 yb4 ys1 fs1 HV2
          have b0 : V2.cell? ⟨gb, 0, none⟩ = some (.string ⟨#[99]⟩) := HK2.out.cell 0
          have b1 : V2.cell? ⟨gb, 1, none⟩ = some (.slice AP c.parts.length cP) := HK2.out.cell 1
          have b2 : V2.cell? ⟨gb, 2, none⟩ = some (.slice AF c.flows.length cF) := HK2.out.cell 2
          have b3 : V2.cell? ⟨gb, 3, none⟩ = some (.slice (some ⟨gI, 0, none⟩) c.items.length kI) := HK2.out.cell 3
          have b4 : V2.cell? ⟨gb, 4, none⟩ = some (.slice (some ⟨gS, 0, none⟩) c.seqs.length kS) := HK2.out.cell 4
          go_wp2_with fail
          refine HCALL.out.mono ?_
          clear HCALL b0 b1 b2 b3 b4
          rintro e w4 ⟨hb4, h | h⟩
          · obtain ⟨_, rfl⟩ := h
            rw [HSE.out]
            have HB4 := Lib.hid (HBV2.out.trans (hb4.mono HBV2.out.size))
            clear hb4
            go_wp2_with fail
            refine (flat_awake _).mono ?_
            rintro e w5 ⟨rfl, hb5⟩
            have k11 := (Blk.new w4 44 #[.slice none 0 0, .slice none 0 0, .slice none 0 0, .slice none 0 0]).below hb5 (by simp)
            have n0 : w5.cell? ⟨w4.heap.size, 0, none⟩ = some (.slice none 0 0) := k11.cell 0
            have n2 : w5.cell? ⟨w4.heap.size, 2, none⟩ = some (.slice none 0 0) := k11.cell 2
            have hb6 := (HB4.out.alloc HB4.out.size _).trans (hb5.mono (by have := HB4.out.size; simp; omega))
            have HFI := Lib.hid (HB1.out.trans (hb6.mono HB1.out.size))
            clear hb5 hb6 k11
            go_wp2_with fail
            go_ret
            exact ⟨rfl, HFI.out⟩
          · exact absurd h.1 (by rw [HSE.out]; decide)
        · go_upto_region 26 with fail
          refine wp_region_HT 10 (fun U => Blk U gb 28 #[.string ⟨#[99]⟩, .slice AP c.parts.length cP, .slice AF c.flows.length cF, .slice (some ⟨gI, 0, none⟩) c.items.length kI, .slice (some ⟨gS, 0, none⟩) c.seqs.length kS] ∧ U.ownsRow w1.heap.size 33 10 (.slice (some ⟨gI, 0, none⟩) c.items.length kI) c.items.length xsI) (by kernel_rfl) (by decide) (⟨HL.out.b, HL.out.oI⟩) (fun hHeld => ?_)
          refine ht_take 0 (v := ?vx_1) rfl (by kernel_rfl) (fun _ _ _ h => h) (Or.inl ⟨by rfl, ?hx_1⟩) hHeld ?rx_1
          case hx_1 => ((intro U hSw; have y4 : U.cell? ⟨gb, 4, none⟩ = some (.slice (some ⟨gS, 0, none⟩) c.seqs.length kS) := hSw.1.cell 4; have yx : U.cell? ⟨gI, j * 10 + 1, none⟩ = some (.string x.id) := (hSw.2.cellAt _ (by omega)).trans ((HL.out.oI.cellAt _ (by omega)).symm.trans hx1); go_simp); (try (with_reducible rfl)))
          try simp only [Act.put, List.setIfInBounds_toArray, List.set_cons_zero, List.set_cons_succ]
          refine ht_take 1 (v := ?vx_2) rfl (by kernel_rfl) (fun _ _ _ h => h) (Or.inl ⟨by rfl, ?hx_2⟩) hHeld ?rx_2
          case hx_2 => ((intro U hSw; have y4 : U.cell? ⟨gb, 4, none⟩ = some (.slice (some ⟨gS, 0, none⟩) c.seqs.length kS) := hSw.1.cell 4; have yx : U.cell? ⟨gI, j * 10 + 1, none⟩ = some (.string x.id) := (hSw.2.cellAt _ (by omega)).trans ((HL.out.oI.cellAt _ (by omega)).symm.trans hx1); go_simp); (try (with_reducible rfl)))
          try simp only [Act.put, List.setIfInBounds_toArray, List.set_cons_zero, List.set_cons_succ]
          refine ht_take 2 (v := ?vx_3) rfl (by kernel_rfl) (fun _ _ _ h => h) (Or.inl ⟨by rfl, ?hx_3⟩) hHeld ?rx_3
          case hx_3 => ((intro U hSw; have y4 : U.cell? ⟨gb, 4, none⟩ = some (.slice (some ⟨gS, 0, none⟩) c.seqs.length kS) := hSw.1.cell 4; have yx : U.cell? ⟨gI, j * 10 + 1, none⟩ = some (.string x.id) := (hSw.2.cellAt _ (by omega)).trans ((HL.out.oI.cellAt _ (by omega)).symm.trans hx1); go_simp); (try (with_reducible rfl)))
          try simp only [Act.put, List.setIfInBounds_toArray, List.set_cons_zero, List.set_cons_succ]
          refine ht_take 3 (v := ?vx_4) rfl (by kernel_rfl) (fun _ _ _ h => h) (Or.inl ⟨by rfl, ?hx_4⟩) hHeld ?rx_4
          case hx_4 => ((intro U hSw; have y4 : U.cell? ⟨gb, 4, none⟩ = some (.slice (some ⟨gS, 0, none⟩) c.seqs.length kS) := hSw.1.cell 4; have yx : U.cell? ⟨gI, j * 10 + 1, none⟩ = some (.string x.id) := (hSw.2.cellAt _ (by omega)).trans ((HL.out.oI.cellAt _ (by omega)).symm.trans hx1); go_simp); (try (with_reducible rfl)))
          try simp only [Act.put, List.setIfInBounds_toArray, List.set_cons_zero, List.set_cons_succ]
          refine ht_take 4 (v := ?vx_5) rfl (by kernel_rfl) (fun _ _ _ h => h) (Or.inl ⟨by rfl, ?hx_5⟩) hHeld ?rx_5
          case hx_5 => ((intro U hSw; have y4 : U.cell? ⟨gb, 4, none⟩ = some (.slice (some ⟨gS, 0, none⟩) c.seqs.length kS) := hSw.1.cell 4; have yx : U.cell? ⟨gI, j * 10 + 1, none⟩ = some (.string x.id) := (hSw.2.cellAt _ (by omega)).trans ((HL.out.oI.cellAt _ (by omega)).symm.trans hx1); go_simp); (try (with_reducible rfl)))
          try simp only [Act.put, List.setIfInBounds_toArray, List.set_cons_zero, List.set_cons_succ]
          refine ht_take 5 (v := ?vx_6) rfl (by kernel_rfl) (fun _ _ _ h => h) (Or.inl ⟨by rfl, ?hx_6⟩) hHeld ?rx_6
          case hx_6 => ((intro U hSw; have y4 : U.cell? ⟨gb, 4, none⟩ = some (.slice (some ⟨gS, 0, none⟩) c.seqs.length kS) := hSw.1.cell 4; have yx : U.cell? ⟨gI, j * 10 + 1, none⟩ = some (.string x.id) := (hSw.2.cellAt _ (by omega)).trans ((HL.out.oI.cellAt _ (by omega)).symm.trans hx1); go_simp); (try (with_reducible rfl)))
          try simp only [Act.put, List.setIfInBounds_toArray, List.set_cons_zero, List.set_cons_succ]
          refine ht_take 6 (v := ?vx_7) rfl (by kernel_rfl) (fun _ _ _ h => h) (Or.inl ⟨by rfl, ?hx_7⟩) hHeld ?rx_7
          case hx_7 => ((intro U hSw; have y4 : U.cell? ⟨gb, 4, none⟩ = some (.slice (some ⟨gS, 0, none⟩) c.seqs.length kS) := hSw.1.cell 4; have yx : U.cell? ⟨gI, j * 10 + 1, none⟩ = some (.string x.id) := (hSw.2.cellAt _ (by omega)).trans ((HL.out.oI.cellAt _ (by omega)).symm.trans hx1); go_simp); (try (with_reducible rfl)))
          try simp only [Act.put, List.setIfInBounds_toArray, List.set_cons_zero, List.set_cons_succ]
          refine ht_one 7 rfl (by kernel_rfl) (fun K hK => ?_)
          go_simp
          refine hK.out _ _ (⟨hHeld.1.alloc _, hHeld.2.alloc _⟩) (fun hHeld => ?_)
          clear hK K
          try simp only [Act.put, List.setIfInBounds_toArray, List.set_cons_zero, List.set_cons_succ]
          refine ht_one 8 rfl (by kernel_rfl) (fun K hK => ?_)
          refine step_append_lies _ (by rfl) (.tmp 105) (.tmp 111) _ (by rfl) w1.heap.size 36 si0 _ 3 48 Try.underlying26 hsi0 hsz0 hsz1 hsz2 rfl (by omega) (.slice (some ⟨gS, 0, none⟩) c.seqs.length kS) c.seqs.length xsS (by rfl) ((own_below HL.out.oS (Below.refl _ _).drew).alloc _) ⟨V.heap.size, 0, none⟩ 1 1 [.string ⟨#[]⟩, .string ⟨#[122, 122]⟩, .string x.id] (by rfl) (by rfl) (World.news_of_block (cs := #[.string ⟨#[]⟩, .string ⟨#[122, 122]⟩, .string x.id]) (t := 36) (fr := (0, 0)) (heap_alloc_new V.drew _)) (by simp [Value.oneCell']) (by omega) (by unfold maxLen; omega) (by omega) (by have := HL.out.bel.size; simp; omega) (V.heap.size + 1) (by simp) ?_
          intro gA capA w2 hownS hgrow hat hlt'
          refine hK.out _ _ (⟨hHeld.1.grown hgrow (Ne.symm (blk_own_ne HL.out.oS HL.out.b (by decide))), hHeld.2.kept hgrow (own_own_ne hHeld.2 (HL.out.oS.alloc _) (by decide))⟩) (fun hHeld => ?_)
          clear hK K
          try simp only [Act.put, List.setIfInBounds_toArray, List.set_cons_zero, List.set_cons_succ]
          refine ht_take 9 (v := ?vx_8) rfl (by kernel_rfl) (fun _ _ _ h => h) (Or.inl ⟨by rfl, ?hx_8⟩) hHeld ?rx_8
          case hx_8 => ((intro U hSw; have y4 : U.cell? ⟨gb, 4, none⟩ = some (.slice (some ⟨gS, 0, none⟩) c.seqs.length kS) := hSw.1.cell 4; have yx : U.cell? ⟨gI, j * 10 + 1, none⟩ = some (.string x.id) := (hSw.2.cellAt _ (by omega)).trans ((HL.out.oI.cellAt _ (by omega)).symm.trans hx1); go_simp); (try (with_reducible rfl)))
          try simp only [Act.put, List.setIfInBounds_toArray, List.set_cons_zero, List.set_cons_succ]
          refine ht_done (by kernel_rfl) rfl ?_
          have hbw2 : Below w1.heap.size w1 w2 := ((HL.out.bel.drew).alloc HL.out.bel.size _).grown hgrow (by have := HL.out.bel.size; simp; omega) (fun k hk => (HL.out.oS.lt k hk).1)
          obtain ⟨W3, hW3⟩ : ∃ W, W = w2.setCell ⟨gb, 4, none⟩ (.slice (some ⟨gA, 0, none⟩) (c.seqs.length + 1) capA) := ⟨_, rfl⟩
          have hbW3 : Below w1.heap.size w1 W3 := by rw [hW3]; exact hbw2.setCell (p := ⟨gb, 4, none⟩) hbb _
          have hk3 : Blk W3 gb 28 #[.string ⟨#[99]⟩, .slice AP c.parts.length cP, .slice AF c.flows.length cF, .slice (some ⟨gI, 0, none⟩) c.items.length kI, .slice (some ⟨gA, 0, none⟩) (c.seqs.length + 1) capA] := by rw [hW3]; exact hHeld.1.set_ 4 _
          have hoI3 : W3.ownsRow w1.heap.size 33 10 (.slice (some ⟨gI, 0, none⟩) c.items.length kI) c.items.length xsI := by rw [hW3]; exact ownsRow_setCell_other (a := ⟨gb, 4, none⟩) hHeld.2 (by show some gI ≠ some gb; simpa using Ne.symm hgIb) _
          have hoS3 : W3.ownsRow w1.heap.size 36 3 (.slice (some ⟨gA, 0, none⟩) (c.seqs.length + 1) capA) (c.seqs.length + 1) (xsS ++ [.string ⟨#[]⟩, .string ⟨#[122, 122]⟩, .string x.id]) := by rw [hW3]; exact ownsRow_setCell_other (a := ⟨gb, 4, none⟩) hownS (blk_own_ne hownS hHeld.1 (by decide)) _
          have z4 : w2.cell? ⟨gb, 4, none⟩ = some (.slice (some ⟨gS, 0, none⟩) c.seqs.length kS) := hHeld.1.cell 4
          have f4 : w2.frozen? ⟨gb, 4, none⟩ = false := hHeld.1.frozen 4
          have hl2 := hHeld.1.lt
          have HBW3 := Lib.hid hbW3
          have HK3 := Lib.hid hk3
          have HOI3 := Lib.hid hoI3
          have HOS3 := Lib.hid hoS3
          have HW3 := Lib.hid hW3.symm
          clear hbw2 hbW3 hk3 hoI3 hoS3 hownS hgrow hat hHeld hW3
          go_upto_region 27 with fail
          rw [HW3.out]
          clear z4 f4 HW3 hx4 fx4 hx1 hl2
          have z3 : W3.cell? ⟨gb, 3, none⟩ = some (.slice (some ⟨gI, 0, none⟩) c.items.length kI) := HK3.out.cell 3
          have f3 : W3.frozen? ⟨gb, 3, none⟩ = false := HK3.out.frozen 3
          have hl3 := HK3.out.lt
          go_wp2_with (at_builtin; refine wpList_append_lies _ rfl (.tmp 115) (.tmp 117) _ rfl w1.heap.size 33 ii0 _ 10 184 Try.underlying25 hii0 hiz0 hiz1 hiz2 rfl (by omega) (.slice (some ⟨gI, 0, none⟩) c.items.length kI) c.items.length xsI rfl (HOI3.out.alloc _) ⟨W3.heap.size, 0, none⟩ 1 1 [.int .i64 7, .string ⟨#[122, 122]⟩, .string ⟨#[]⟩, .slice none 0 0, .slice none 0 0, .bool false, .string ⟨#[]⟩, .slice none 0 0, .slice none 0 0, .slice none 0 0] rfl rfl (World.news_of_block (cs := #[.int .i64 7, .string ⟨#[122, 122]⟩, .string ⟨#[]⟩, .slice none 0 0, .slice none 0 0, .bool false, .string ⟨#[]⟩, .slice none 0 0, .slice none 0 0, .slice none 0 0]) (t := 33) (fr := (0, 0)) (heap_alloc_new W3 _)) (by simp [Value.oneCell']) (by omega) (by unfold maxLen; omega) (by omega) (by have := HBW3.out.size; simp; omega) (W3.heap.size + 1) (by simp) ?_)
          intro gZ capZ w4 hownI hgrow hat hlt'
          have hbw4 : Below w1.heap.size w1 w4 := (HBW3.out.alloc HBW3.out.size _).grown hgrow (by have := HBW3.out.size; simp; omega) (fun k hk => (HOI3.out.lt k hk).1)
          have hk4 := (HK3.out.alloc (.cells #[.int .i64 7, .string ⟨#[122, 122]⟩, .string ⟨#[]⟩, .slice none 0 0, .slice none 0 0, .bool false, .string ⟨#[]⟩, .slice none 0 0, .slice none 0 0, .slice none 0 0] 33)).grown hgrow (Ne.symm (blk_own_ne (HOI3.out.alloc (.cells #[.int .i64 7, .string ⟨#[122, 122]⟩, .string ⟨#[]⟩, .slice none 0 0, .slice none 0 0, .bool false, .string ⟨#[]⟩, .slice none 0 0, .slice none 0 0, .slice none 0 0] 33)) (HK3.out.alloc (.cells #[.int .i64 7, .string ⟨#[122, 122]⟩, .string ⟨#[]⟩, .slice none 0 0, .slice none 0 0, .bool false, .string ⟨#[]⟩, .slice none 0 0, .slice none 0 0, .slice none 0 0] 33)) (by decide)))
          have hoS4 := (HOS3.out.alloc (.cells #[.int .i64 7, .string ⟨#[122, 122]⟩, .string ⟨#[]⟩, .slice none 0 0, .slice none 0 0, .bool false, .string ⟨#[]⟩, .slice none 0 0, .slice none 0 0, .slice none 0 0] 33)).kept hgrow (own_own_ne (HOS3.out.alloc (.cells #[.int .i64 7, .string ⟨#[122, 122]⟩, .string ⟨#[]⟩, .slice none 0 0, .slice none 0 0, .bool false, .string ⟨#[]⟩, .slice none 0 0, .slice none 0 0, .slice none 0 0] 33)) (HOI3.out.alloc (.cells #[.int .i64 7, .string ⟨#[122, 122]⟩, .string ⟨#[]⟩, .slice none 0 0, .slice none 0 0, .bool false, .string ⟨#[]⟩, .slice none 0 0, .slice none 0 0, .slice none 0 0] 33)) (by decide))
          obtain ⟨s, hs, hse, hsm⟩ := flat5 HB.out x.id
          obtain ⟨V2, hV2⟩ : ∃ V', V' = w4.setCell ⟨gb, 3, none⟩ (.slice (some ⟨gZ, 0, none⟩) (c.items.length + 1) capZ) := ⟨_, rfl⟩
          have hbV2 : Below w1.heap.size w1 V2 := by rw [hV2]; exact hbw4.setCell (p := ⟨gb, 3, none⟩) hbb _
          have hk2 : Blk V2 gb 28 #[.string ⟨#[99]⟩, .slice AP c.parts.length cP, .slice AF c.flows.length cF, .slice (some ⟨gZ, 0, none⟩) (c.items.length + 1) capZ, .slice (some ⟨gA, 0, none⟩) (c.seqs.length + 1) capA] := by rw [hV2]; exact hk4.set_ 3 _
          have hP := Rd.below hbV2 _ _ HC.out.parts
          have hF := Rd.below hbV2 _ _ HC.out.flows
          have hI : Rd V2 (itemsD (c.items ++ [subZz])) (.slice (some ⟨gZ, 0, none⟩) (c.items.length + 1) capZ) := by
            have hown := ownsRow_setCell_other (a := ⟨gb, 3, none⟩) hownI (blk_own_ne hownI hk4 (by decide)) (.slice (some ⟨gZ, 0, none⟩) (c.items.length + 1) capZ)
            rw [← hV2] at hown
            refine rd_ownS hown ?_ (by simp)
            rw [List.flatMap_append, List.flatMap_cons, List.flatMap_nil, List.append_nil]
            exact RdL.append (RdL.below hbV2 _ _ HLI.out) (rd_itemC.2 ⟨_, _, _, _, _, rfl, rd_nilF, rd_nilF, rd_nilF, rd_nilF, rd_nilF⟩)
          have hS : Rd V2 (seqsD (c.seqs ++ [⟨⟨#[]⟩, bytesZz, x.id⟩])) (.slice (some ⟨gA, 0, none⟩) (c.seqs.length + 1) capA) := by
            have hown := ownsRow_setCell_other (a := ⟨gb, 3, none⟩) hoS4 (blk_own_ne hoS4 hk4 (by decide)) (.slice (some ⟨gZ, 0, none⟩) (c.items.length + 1) capZ)
            rw [← hV2] at hown
            refine rd_ownS hown ?_ (by simp)
            rw [List.flatMap_append, List.flatMap_cons, List.flatMap_nil, List.append_nil]
            exact RdL.append (RdL.below hbV2 _ _ HLS.out) (rdl_cons.2 ⟨_, _, rfl, rd_str.2 rfl, rdl_cons.2 ⟨_, _, rfl, rd_str.2 rfl, rdl_cons.2 ⟨_, _, rfl, rd_str.2 rfl, rdl_nil.2 rfl⟩⟩⟩)
          have hcall := graph_fb (c := ⟨c.id, c.parts, c.flows, c.items ++ [subZz], c.seqs ++ [⟨⟨#[]⟩, bytesZz, x.id⟩]⟩) hP hF hI hS rfl rfl (by simp) (by simp) HID.out (by omega) (by omega) (by omega) (fun y hy => by
            rcases List.mem_append.1 hy with hy | hy
            · exact HPL.out y hy
            · rw [List.mem_singleton.1 hy]; rfl) hs hsm
          have z3 : w4.cell? ⟨gb, 3, none⟩ = some (.slice (some ⟨gI, 0, none⟩) c.items.length kI) := hk4.cell 3
          have f3 : w4.frozen? ⟨gb, 3, none⟩ = false := hk4.frozen 3
          have hl4 := hk4.lt
          have HV2 := Lib.hid hV2.symm
          have HBV2 := Lib.hid hbV2
          have HK2 := Lib.hid hk2
          have HCALL := Lib.hid hcall
          have HSE := Lib.hid hse
          clear hV2 hbV2 hk2 hcall hs hse hsm hP hF hI hS hbw4 hk4 hoS4 hownI hgrow hat
          go_upto_region 31 with fail
          rw [HV2.out]
          clear z3 f3 HV2 hl4
          have b0 : V2.cell? ⟨gb, 0, none⟩ = some (.string ⟨#[99]⟩) := HK2.out.cell 0
          have b1 : V2.cell? ⟨gb, 1, none⟩ = some (.slice AP c.parts.length cP) := HK2.out.cell 1
          have b2 : V2.cell? ⟨gb, 2, none⟩ = some (.slice AF c.flows.length cF) := HK2.out.cell 2
          have b3 : V2.cell? ⟨gb, 3, none⟩ = some (.slice (some ⟨gZ, 0, none⟩) (c.items.length + 1) capZ) := HK2.out.cell 3
          have b4 : V2.cell? ⟨gb, 4, none⟩ = some (.slice (some ⟨gA, 0, none⟩) (c.seqs.length + 1) capA) := HK2.out.cell 4
          go_wp2_with fail
          refine HCALL.out.mono ?_
          clear HCALL b0 b1 b2 b3 b4
          rintro e w4 ⟨hb4, h | h⟩
          · obtain ⟨_, rfl⟩ := h
            rw [HSE.out]
            have HB4 := Lib.hid (HBV2.out.trans (hb4.mono HBV2.out.size))
            clear hb4
            go_wp2_with fail
            refine (flat_awake _).mono ?_
            rintro e w5 ⟨rfl, hb5⟩
            have k11 := (Blk.new w4 44 #[.slice none 0 0, .slice none 0 0, .slice none 0 0, .slice none 0 0]).below hb5 (by simp)
            have n0 : w5.cell? ⟨w4.heap.size, 0, none⟩ = some (.slice none 0 0) := k11.cell 0
            have n2 : w5.cell? ⟨w4.heap.size, 2, none⟩ = some (.slice none 0 0) := k11.cell 2
            have hb6 := (HB4.out.alloc HB4.out.size _).trans (hb5.mono (by have := HB4.out.size; simp; omega))
            have HFI := Lib.hid (HB1.out.trans (hb6.mono HB1.out.size))
            clear hb5 hb6 k11
            go_wp2_with fail
            go_ret
            exact ⟨rfl, HFI.out⟩
          · exact absurd h.1 (by rw [HSE.out]; decide)
        · obtain ⟨xsF, hrF, hlF, h1F⟩ := rd_reads HC.out.flows
          obtain ⟨APx, cPx, hvP, _, _, hatP⟩ := rd_at partC_len HC.out.parts
          injection hvP with e1 _ e3
          subst e1
          subst e3
          obtain ⟨bP, vs, rfl, hbP1, _, hvs, hcell⟩ := hatP 0 (by omega)
          obtain ⟨pa, hpa⟩ : ∃ p, p = c.parts[0].id := ⟨_, rfl⟩
          obtain rfl := rd_partC hvs
          rw [← hpa] at hcell
          have hbP : bP < V.heap.size := by have := HL.out.bel.size; omega
          have yp : V.cell? ⟨bP, 0, none⟩ = some (.string pa) := (HL.out.bel.cell (p := ⟨bP, 0, none⟩) hbP1).trans (hcell 0 (by omega))
          have hplI : (0 : Int) < (c.parts.length : Int) := by omega
          have hplN : 0 < c.parts.length := by omega
          have y1 : V.cell? ⟨gb, 1, none⟩ = some (.slice (some ⟨bP, 0, none⟩) c.parts.length cP) := HL.out.b.cell 1
          have HRF := Lib.hid hrF
          have HLF := Lib.hid hlF
          have H1F := Lib.hid h1F
          clear hrF hlF h1F hatP hcell hpa hvs
          go_upto_region 29 with fail
          refine wp_region_HT 16 (fun U => Below V.heap.size V U) (by kernel_rfl) (by decide) ((Below.refl _ _).drew) (fun hHeld => ?_)
          refine ht_take 0 (v := ?vz_1) rfl (by kernel_rfl) (fun _ _ _ h => h) (Or.inl ⟨by rfl, ?hz_1⟩) hHeld ?rz_1
          case hz_1 => ((intro U hSw; have y2 : U.cell? ⟨gb, 2, none⟩ = some (.slice AF c.flows.length cF) := (HL.out.b.below hSw HL.out.b.lt).cell 2; have yb1 : U.cell? ⟨gb, 1, none⟩ = some (.slice (some ⟨bP, 0, none⟩) c.parts.length cP) := (HL.out.b.below hSw HL.out.b.lt).cell 1; have ypp : U.cell? ⟨bP, 0, none⟩ = some (.string pa) := (hSw.cell (p := ⟨bP, 0, none⟩) hbP).trans yp; go_simp); (try (with_reducible rfl)))
          try simp only [Act.put, List.setIfInBounds_toArray, List.set_cons_zero, List.set_cons_succ]
          refine ht_take 1 (v := ?vz_2) rfl (by kernel_rfl) (fun _ _ _ h => h) (Or.inl ⟨by rfl, ?hz_2⟩) hHeld ?rz_2
          case hz_2 => ((intro U hSw; have y2 : U.cell? ⟨gb, 2, none⟩ = some (.slice AF c.flows.length cF) := (HL.out.b.below hSw HL.out.b.lt).cell 2; have yb1 : U.cell? ⟨gb, 1, none⟩ = some (.slice (some ⟨bP, 0, none⟩) c.parts.length cP) := (HL.out.b.below hSw HL.out.b.lt).cell 1; have ypp : U.cell? ⟨bP, 0, none⟩ = some (.string pa) := (hSw.cell (p := ⟨bP, 0, none⟩) hbP).trans yp; go_simp); (try (with_reducible rfl)))
          try simp only [Act.put, List.setIfInBounds_toArray, List.set_cons_zero, List.set_cons_succ]
          refine ht_take 2 (v := ?vz_3) rfl (by kernel_rfl) (fun _ _ _ h => h) (Or.inl ⟨by rfl, ?hz_3⟩) hHeld ?rz_3
          case hz_3 => ((intro U hSw; have y2 : U.cell? ⟨gb, 2, none⟩ = some (.slice AF c.flows.length cF) := (HL.out.b.below hSw HL.out.b.lt).cell 2; have yb1 : U.cell? ⟨gb, 1, none⟩ = some (.slice (some ⟨bP, 0, none⟩) c.parts.length cP) := (HL.out.b.below hSw HL.out.b.lt).cell 1; have ypp : U.cell? ⟨bP, 0, none⟩ = some (.string pa) := (hSw.cell (p := ⟨bP, 0, none⟩) hbP).trans yp; go_simp); (try (with_reducible rfl)))
          try simp only [Act.put, List.setIfInBounds_toArray, List.set_cons_zero, List.set_cons_succ]
          refine ht_take 3 (v := ?vz_4) rfl (by kernel_rfl) (fun _ _ _ h => h) (Or.inl ⟨by rfl, ?hz_4⟩) hHeld ?rz_4
          case hz_4 => ((intro U hSw; have y2 : U.cell? ⟨gb, 2, none⟩ = some (.slice AF c.flows.length cF) := (HL.out.b.below hSw HL.out.b.lt).cell 2; have yb1 : U.cell? ⟨gb, 1, none⟩ = some (.slice (some ⟨bP, 0, none⟩) c.parts.length cP) := (HL.out.b.below hSw HL.out.b.lt).cell 1; have ypp : U.cell? ⟨bP, 0, none⟩ = some (.string pa) := (hSw.cell (p := ⟨bP, 0, none⟩) hbP).trans yp; go_simp); (try (with_reducible rfl)))
          try simp only [Act.put, List.setIfInBounds_toArray, List.set_cons_zero, List.set_cons_succ]
          refine ht_take 4 (v := ?vz_5) rfl (by kernel_rfl) (fun _ _ _ h => h) (Or.inl ⟨by rfl, ?hz_5⟩) hHeld ?rz_5
          case hz_5 => ((intro U hSw; have y2 : U.cell? ⟨gb, 2, none⟩ = some (.slice AF c.flows.length cF) := (HL.out.b.below hSw HL.out.b.lt).cell 2; have yb1 : U.cell? ⟨gb, 1, none⟩ = some (.slice (some ⟨bP, 0, none⟩) c.parts.length cP) := (HL.out.b.below hSw HL.out.b.lt).cell 1; have ypp : U.cell? ⟨bP, 0, none⟩ = some (.string pa) := (hSw.cell (p := ⟨bP, 0, none⟩) hbP).trans yp; go_simp); (try (with_reducible rfl)))
          try simp only [Act.put, List.setIfInBounds_toArray, List.set_cons_zero, List.set_cons_succ]
          refine ht_take 5 (v := ?vz_6) rfl (by kernel_rfl) (fun _ _ _ h => h) (Or.inl ⟨by rfl, ?hz_6⟩) hHeld ?rz_6
          case hz_6 => ((intro U hSw; have y2 : U.cell? ⟨gb, 2, none⟩ = some (.slice AF c.flows.length cF) := (HL.out.b.below hSw HL.out.b.lt).cell 2; have yb1 : U.cell? ⟨gb, 1, none⟩ = some (.slice (some ⟨bP, 0, none⟩) c.parts.length cP) := (HL.out.b.below hSw HL.out.b.lt).cell 1; have ypp : U.cell? ⟨bP, 0, none⟩ = some (.string pa) := (hSw.cell (p := ⟨bP, 0, none⟩) hbP).trans yp; go_simp); (try (with_reducible rfl)))
          try simp only [Act.put, List.setIfInBounds_toArray, List.set_cons_zero, List.set_cons_succ]
          refine ht_take 6 (v := ?vz_7) rfl (by kernel_rfl) (fun _ _ _ h => h) (Or.inl ⟨by rfl, ?hz_7⟩) hHeld ?rz_7
          case hz_7 => ((intro U hSw; have y2 : U.cell? ⟨gb, 2, none⟩ = some (.slice AF c.flows.length cF) := (HL.out.b.below hSw HL.out.b.lt).cell 2; have yb1 : U.cell? ⟨gb, 1, none⟩ = some (.slice (some ⟨bP, 0, none⟩) c.parts.length cP) := (HL.out.b.below hSw HL.out.b.lt).cell 1; have ypp : U.cell? ⟨bP, 0, none⟩ = some (.string pa) := (hSw.cell (p := ⟨bP, 0, none⟩) hbP).trans yp; go_simp); (try (with_reducible rfl)))
          try simp only [Act.put, List.setIfInBounds_toArray, List.set_cons_zero, List.set_cons_succ]
          refine ht_take 7 (v := ?vz_8) rfl (by kernel_rfl) (fun _ _ _ h => h) (Or.inl ⟨by rfl, ?hz_8⟩) hHeld ?rz_8
          case hz_8 => ((intro U hSw; have y2 : U.cell? ⟨gb, 2, none⟩ = some (.slice AF c.flows.length cF) := (HL.out.b.below hSw HL.out.b.lt).cell 2; have yb1 : U.cell? ⟨gb, 1, none⟩ = some (.slice (some ⟨bP, 0, none⟩) c.parts.length cP) := (HL.out.b.below hSw HL.out.b.lt).cell 1; have ypp : U.cell? ⟨bP, 0, none⟩ = some (.string pa) := (hSw.cell (p := ⟨bP, 0, none⟩) hbP).trans yp; go_simp); (try (with_reducible rfl)))
          try simp only [Act.put, List.setIfInBounds_toArray, List.set_cons_zero, List.set_cons_succ]
          refine ht_take 8 (v := ?vz_9) rfl (by kernel_rfl) (fun _ _ _ h => h) (Or.inl ⟨by rfl, ?hz_9⟩) hHeld ?rz_9
          case hz_9 => ((intro U hSw; have y2 : U.cell? ⟨gb, 2, none⟩ = some (.slice AF c.flows.length cF) := (HL.out.b.below hSw HL.out.b.lt).cell 2; have yb1 : U.cell? ⟨gb, 1, none⟩ = some (.slice (some ⟨bP, 0, none⟩) c.parts.length cP) := (HL.out.b.below hSw HL.out.b.lt).cell 1; have ypp : U.cell? ⟨bP, 0, none⟩ = some (.string pa) := (hSw.cell (p := ⟨bP, 0, none⟩) hbP).trans yp; go_simp); (try (with_reducible rfl)))
          try simp only [Act.put, List.setIfInBounds_toArray, List.set_cons_zero, List.set_cons_succ]
          refine ht_take 9 (v := ?vz_10) rfl (by kernel_rfl) (fun _ _ _ h => h) (Or.inl ⟨by rfl, ?hz_10⟩) hHeld ?rz_10
          case hz_10 => ((intro U hSw; have y2 : U.cell? ⟨gb, 2, none⟩ = some (.slice AF c.flows.length cF) := (HL.out.b.below hSw HL.out.b.lt).cell 2; have yb1 : U.cell? ⟨gb, 1, none⟩ = some (.slice (some ⟨bP, 0, none⟩) c.parts.length cP) := (HL.out.b.below hSw HL.out.b.lt).cell 1; have ypp : U.cell? ⟨bP, 0, none⟩ = some (.string pa) := (hSw.cell (p := ⟨bP, 0, none⟩) hbP).trans yp; go_simp); (try (with_reducible rfl)))
          try simp only [Act.put, List.setIfInBounds_toArray, List.set_cons_zero, List.set_cons_succ]
          refine ht_take 10 (v := ?vz_11) rfl (by kernel_rfl) (fun _ _ _ h => h) (Or.inl ⟨by rfl, ?hz_11⟩) hHeld ?rz_11
          case hz_11 => ((intro U hSw; have y2 : U.cell? ⟨gb, 2, none⟩ = some (.slice AF c.flows.length cF) := (HL.out.b.below hSw HL.out.b.lt).cell 2; have yb1 : U.cell? ⟨gb, 1, none⟩ = some (.slice (some ⟨bP, 0, none⟩) c.parts.length cP) := (HL.out.b.below hSw HL.out.b.lt).cell 1; have ypp : U.cell? ⟨bP, 0, none⟩ = some (.string pa) := (hSw.cell (p := ⟨bP, 0, none⟩) hbP).trans yp; go_simp); (try (with_reducible rfl)))
          try simp only [Act.put, List.setIfInBounds_toArray, List.set_cons_zero, List.set_cons_succ]
          refine ht_take 12 (v := ?vz_12) rfl (by kernel_rfl) (fun _ _ _ h => h) (Or.inl ⟨by rfl, ?hz_12⟩) hHeld ?rz_12
          case hz_12 => ((intro U hSw; have y2 : U.cell? ⟨gb, 2, none⟩ = some (.slice AF c.flows.length cF) := (HL.out.b.below hSw HL.out.b.lt).cell 2; have yb1 : U.cell? ⟨gb, 1, none⟩ = some (.slice (some ⟨bP, 0, none⟩) c.parts.length cP) := (HL.out.b.below hSw HL.out.b.lt).cell 1; have ypp : U.cell? ⟨bP, 0, none⟩ = some (.string pa) := (hSw.cell (p := ⟨bP, 0, none⟩) hbP).trans yp; go_simp); (try (with_reducible rfl)))
          try simp only [Act.put, List.setIfInBounds_toArray, List.set_cons_zero, List.set_cons_succ]
          refine ht_take 13 (v := ?vz_13) rfl (by kernel_rfl) (fun _ _ _ h => h) (Or.inl ⟨by rfl, ?hz_13⟩) hHeld ?rz_13
          case hz_13 => ((intro U hSw; have y2 : U.cell? ⟨gb, 2, none⟩ = some (.slice AF c.flows.length cF) := (HL.out.b.below hSw HL.out.b.lt).cell 2; have yb1 : U.cell? ⟨gb, 1, none⟩ = some (.slice (some ⟨bP, 0, none⟩) c.parts.length cP) := (HL.out.b.below hSw HL.out.b.lt).cell 1; have ypp : U.cell? ⟨bP, 0, none⟩ = some (.string pa) := (hSw.cell (p := ⟨bP, 0, none⟩) hbP).trans yp; go_simp); (try (with_reducible rfl)))
          try simp only [Act.put, List.setIfInBounds_toArray, List.set_cons_zero, List.set_cons_succ]
          refine ht_one 11 rfl (by kernel_rfl) (fun K hK => ?_)
          go_simp
          refine hK.out _ _ (hHeld.alloc hHeld.size _) (fun hHeld => ?_)
          clear hK K
          try simp only [Act.put, List.setIfInBounds_toArray, List.set_cons_zero, List.set_cons_succ]
          refine ht_one 14 rfl (by kernel_rfl) (fun K hK => ?_)
          refine step_append_any _ (by rfl) (.tmp 133) (.tmp 135) _ (by rfl) w1.heap.size 40 fi0 _ 4 64 Try.underlying24 hfi0 hfz0 hfz1 hfz2 rfl (by omega) (.slice (some ⟨V.heap.size, 0, none⟩) 1 1) 1 [.string ⟨#[122, 102]⟩, .string pa, .string pa, .string ⟨#[]⟩] (by rfl) (World.ownsRow_lit (base := w1.heap.size) V.drew #[.string ⟨#[122, 102]⟩, .string pa, .string pa, .string ⟨#[]⟩] 1 HL.out.bel.size (by decide) rfl) _ AF c.flows.length cF _ (by rfl) (HRF.out.below ((HL.out.bel.drew).alloc HL.out.bel.size _)) H1F.out (by unfold maxLen; omega) (by omega) (by have := HL.out.bel.size; simp; omega) ?_
          intro v3 w2 hownF hgrow _
          rw [show 1 + c.flows.length = c.flows.length + 1 by omega] at hownF
          obtain ⟨A9, c9, rfl, _, _⟩ := own_slice hownF
          refine hK.out _ _ (hHeld.grown hgrow hHeld.size (fun k hk => by simp [Value.ownBlock] at hk; omega)) (fun hHeld => ?_)
          clear hK K
          try simp only [Act.put, List.setIfInBounds_toArray, List.set_cons_zero, List.set_cons_succ]
          refine ht_take 15 (v := ?vz_14) rfl (by kernel_rfl) (fun _ _ _ h => h) (Or.inl ⟨by rfl, ?hz_14⟩) hHeld ?rz_14
          case hz_14 => ((intro U hSw; have y2 : U.cell? ⟨gb, 2, none⟩ = some (.slice AF c.flows.length cF) := (HL.out.b.below hSw HL.out.b.lt).cell 2; have yb1 : U.cell? ⟨gb, 1, none⟩ = some (.slice (some ⟨bP, 0, none⟩) c.parts.length cP) := (HL.out.b.below hSw HL.out.b.lt).cell 1; have ypp : U.cell? ⟨bP, 0, none⟩ = some (.string pa) := (hSw.cell (p := ⟨bP, 0, none⟩) hbP).trans yp; go_simp); (try (with_reducible rfl)))
          try simp only [Act.put, List.setIfInBounds_toArray, List.set_cons_zero, List.set_cons_succ]
          refine ht_done (by kernel_rfl) rfl ?_
          have hb26 : Below V.heap.size V w2 := hHeld
          have hk6 := HL.out.b.below hb26 HL.out.b.lt
          have hoI6 := own_below HL.out.oI hb26
          have hoS6 := own_below HL.out.oS hb26
          have hbw2 : Below w1.heap.size w1 w2 := HL.out.bel.trans (hb26.mono HL.out.bel.size)
          obtain ⟨W3, hW3⟩ : ∃ W, W = w2.setCell ⟨gb, 2, none⟩ (.slice A9 (c.flows.length + 1) c9) := ⟨_, rfl⟩
          have hbW3 : Below w1.heap.size w1 W3 := by rw [hW3]; exact hbw2.setCell (p := ⟨gb, 2, none⟩) hbb _
          have hk3 : Blk W3 gb 28 #[.string ⟨#[99]⟩, .slice (some ⟨bP, 0, none⟩) c.parts.length cP, .slice A9 (c.flows.length + 1) c9, .slice (some ⟨gI, 0, none⟩) c.items.length kI, .slice (some ⟨gS, 0, none⟩) c.seqs.length kS] := by rw [hW3]; exact hk6.set_ 2 _
          have hoI3 : W3.ownsRow w1.heap.size 33 10 (.slice (some ⟨gI, 0, none⟩) c.items.length kI) c.items.length xsI := by rw [hW3]; exact ownsRow_setCell_other (a := ⟨gb, 2, none⟩) hoI6 (by show some gI ≠ some gb; simpa using Ne.symm hgIb) _
          have hoS3 : W3.ownsRow w1.heap.size 36 3 (.slice (some ⟨gS, 0, none⟩) c.seqs.length kS) c.seqs.length xsS := by rw [hW3]; exact ownsRow_setCell_other (a := ⟨gb, 2, none⟩) hoS6 (by show some gS ≠ some gb; simpa using Ne.symm hgSb) _
          have hoF3 : W3.ownsRow w1.heap.size 40 4 (.slice A9 (c.flows.length + 1) c9) (c.flows.length + 1) ([.string ⟨#[122, 102]⟩, .string pa, .string pa, .string ⟨#[]⟩] ++ xsF) := by rw [hW3]; exact ownsRow_setCell_other (a := ⟨gb, 2, none⟩) hownF (blk_own_ne hownF hk6 (by decide)) _
          have hx43 : W3.cell? ⟨gI, j * 10 + 4, none⟩ = some v4 := by rw [hoI3.cellAt _ (by omega)]; exact (HL.out.oI.cellAt _ (by omega)).symm.trans hx4
          have fx43 : W3.frozen? ⟨gI, j * 10 + 4, none⟩ = false := hoI3.frozenAt _
          have z2 : w2.cell? ⟨gb, 2, none⟩ = some (.slice AF c.flows.length cF) := hk6.cell 2
          have f2 : w2.frozen? ⟨gb, 2, none⟩ = false := hk6.frozen 2
          have hl2 := hk6.lt
          have hgI3 : gI < W3.heap.size := (hoI3.lt gI rfl).2
          have HBW3 := Lib.hid hbW3
          have HK3 := Lib.hid hk3
          have HOI3 := Lib.hid hoI3
          have HOS3 := Lib.hid hoS3
          have HOF3 := Lib.hid hoF3
          have HW3 := Lib.hid hW3.symm
          clear hbw2 hbW3 hk3 hoI3 hoS3 hoF3 hownF hgrow hHeld hW3 hb26 hk6 hoI6 hoS6
          go_upto_region 30 with fail
          rw [HW3.out]
          clear z2 f2 HW3 hx4 fx4 hx1 hl2 yp y1
          obtain ⟨s, hs, hse, hsm⟩ := flat6 HB.out hj H3.out pa ⟨#[]⟩
          obtain ⟨V2, hV2⟩ : ∃ V', V' = (W3.setCell ⟨gI, j * 10 + 4, none⟩ (.slice (some ⟨W3.heap.size, 0, none⟩) 1 1)).alloc (.cells #[.string ⟨#[122, 102]⟩] 9) := ⟨_, rfl⟩
          have hbV2 : Below w1.heap.size w1 V2 := by rw [hV2]; exact (have hb9 := HBW3.out.setCell (p := ⟨gI, j * 10 + 4, none⟩) hbI (.slice (some ⟨W3.heap.size, 0, none⟩) 1 1); (hb9.alloc hb9.size _))
          have hk2 : Blk V2 gb 28 #[.string ⟨#[99]⟩, .slice (some ⟨bP, 0, none⟩) c.parts.length cP, .slice A9 (c.flows.length + 1) c9, .slice (some ⟨gI, 0, none⟩) c.items.length kI, .slice (some ⟨gS, 0, none⟩) c.seqs.length kS] := by rw [hV2]; exact ((HK3.out.far (p := ⟨gI, j * 10 + 4, none⟩) hgIb _).alloc _)
          have hP := Rd.below hbV2 _ _ HC.out.parts
          have hF : Rd V2 (flowsD (⟨bytesZf, pa, pa, ⟨#[]⟩⟩ :: c.flows)) _ := rd_ownS (f := flowC) (l := ⟨bytesZf, pa, pa, ⟨#[]⟩⟩ :: c.flows) (by
              have hown := (ownsRow_setCell_other (a := ⟨gI, j * 10 + 4, none⟩) HOF3.out (fun e => own_ne HOI3.out HOF3.out (by decide) gI rfl e) (.slice (some ⟨W3.heap.size, 0, none⟩) 1 1)).alloc (.cells #[.string ⟨#[122, 102]⟩] 9)
              rw [← hV2] at hown
              exact hown) (by
              rw [List.flatMap_cons]
              exact RdL.append (rdl_cons.2 ⟨_, _, rfl, rd_str.2 rfl, rdl_cons.2 ⟨_, _, rfl, rd_str.2 rfl, rdl_cons.2 ⟨_, _, rfl, rd_str.2 rfl, rdl_cons.2 ⟨_, _, rfl, rd_str.2 rfl, rdl_nil.2 rfl⟩⟩⟩⟩) (RdL.below hbV2 _ _ HLF.out)) (by simp)
          have hI : Rd V2 (itemsD (c.items.set j (withFlows c.items[j] [bytesZf]))) (.slice (some ⟨gI, 0, none⟩) c.items.length kI) := by
            have hown := ((HOI3.out.stored (j * 10 + 4) (.slice (some ⟨W3.heap.size, 0, none⟩) 1 1)).1.alloc (.cells #[.string ⟨#[122, 102]⟩] 9))
            rw [← hV2] at hown
            exact rd_ownS hown (item_set (by
              have hr : Rd ((W3.setCell ⟨gI, j * 10 + 4, none⟩ (.slice (some ⟨W3.heap.size, 0, none⟩) 1 1)).alloc (.cells #[.string ⟨#[122, 102]⟩] 9)) (strsD [bytesZf]) _ := rd_litF (rdl_cons.2 ⟨_, _, rfl, rd_str.2 rfl, rdl_nil.2 rfl⟩) (show 1 ≤ maxLen by decide) rfl
              rw [show ((W3.setCell ⟨gI, j * 10 + 4, none⟩ (.slice (some ⟨W3.heap.size, 0, none⟩) 1 1))).heap.size = W3.heap.size by simp] at hr
              rw [hV2]
              exact hr) c.items j hj xsI (RdL.below hbV2 _ _ HLI.out)) (by simp)
          have hS : Rd V2 (seqsD c.seqs) (.slice (some ⟨gS, 0, none⟩) c.seqs.length kS) := by
            have hown := ((ownsRow_setCell_other (a := ⟨gI, j * 10 + 4, none⟩) HOS3.out (by show some gS ≠ some gI; simpa using hgSI) (.slice (some ⟨W3.heap.size, 0, none⟩) 1 1)).alloc (.cells #[.string ⟨#[122, 102]⟩] 9))
            rw [← hV2] at hown
            exact rd_ownS hown (RdL.below hbV2 _ _ HLS.out) rfl
          have hcall := graph_fb (c := ⟨c.id, c.parts, ⟨bytesZf, pa, pa, ⟨#[]⟩⟩ :: c.flows, c.items.set j (withFlows c.items[j] [bytesZf]), c.seqs⟩) hP hF hI hS rfl (by simp) (by simp) rfl HID.out (by omega) (by omega) (by omega) (items_set hj HPL.out) hs hsm
          have HV2 := Lib.hid hV2.symm
          have HBV2 := Lib.hid hbV2
          have HK2 := Lib.hid hk2
          have HCALL := Lib.hid hcall
          have HSE := Lib.hid hse
          clear hV2 hbV2 hk2 hcall hs hse hsm hP hF hI hS
          go_upto_region 31 with fail
          rw [HV2.out]
          clear hx43 fx43 HV2
          have b0 : V2.cell? ⟨gb, 0, none⟩ = some (.string ⟨#[99]⟩) := HK2.out.cell 0
          have b1 : V2.cell? ⟨gb, 1, none⟩ = some (.slice (some ⟨bP, 0, none⟩) c.parts.length cP) := HK2.out.cell 1
          have b2 : V2.cell? ⟨gb, 2, none⟩ = some (.slice A9 (c.flows.length + 1) c9) := HK2.out.cell 2
          have b3 : V2.cell? ⟨gb, 3, none⟩ = some (.slice (some ⟨gI, 0, none⟩) c.items.length kI) := HK2.out.cell 3
          have b4 : V2.cell? ⟨gb, 4, none⟩ = some (.slice (some ⟨gS, 0, none⟩) c.seqs.length kS) := HK2.out.cell 4
          go_wp2_with fail
          refine HCALL.out.mono ?_
          clear HCALL b0 b1 b2 b3 b4
          rintro e w4 ⟨hb4, h | h⟩
          · obtain ⟨_, rfl⟩ := h
            rw [HSE.out]
            have HB4 := Lib.hid (HBV2.out.trans (hb4.mono HBV2.out.size))
            clear hb4
            go_wp2_with fail
            refine (flat_awake _).mono ?_
            rintro e w5 ⟨rfl, hb5⟩
            have k11 := (Blk.new w4 44 #[.slice none 0 0, .slice none 0 0, .slice none 0 0, .slice none 0 0]).below hb5 (by simp)
            have n0 : w5.cell? ⟨w4.heap.size, 0, none⟩ = some (.slice none 0 0) := k11.cell 0
            have n2 : w5.cell? ⟨w4.heap.size, 2, none⟩ = some (.slice none 0 0) := k11.cell 2
            have hb6 := (HB4.out.alloc HB4.out.size _).trans (hb5.mono (by have := HB4.out.size; simp; omega))
            have HFI := Lib.hid (HB1.out.trans (hb6.mono HB1.out.size))
            clear hb5 hb6 k11
            go_wp2_with fail
            go_ret
            exact ⟨rfl, HFI.out⟩
          · exact absurd h.1 (by rw [HSE.out]; decide)
        · obtain ⟨s, hs, hse, hsm⟩ := flat7 HB.out
          obtain ⟨V2, hV2⟩ : ∃ V', V' = V := ⟨_, rfl⟩
          have hbV2 : Below w1.heap.size w1 V2 := by rw [hV2]; exact HL.out.bel
          have hk2 : Blk V2 gb 28 #[.string ⟨#[99]⟩, .slice AP c.parts.length cP, .slice AF c.flows.length cF, .slice (some ⟨gI, 0, none⟩) c.items.length kI, .slice (some ⟨gS, 0, none⟩) c.seqs.length kS] := by rw [hV2]; exact HL.out.b
          have hP := Rd.below hbV2 _ _ HC.out.parts
          have hF := Rd.below hbV2 _ _ HC.out.flows
          have hI : Rd V2 (itemsD c.items) (.slice (some ⟨gI, 0, none⟩) c.items.length kI) := by
            have hown := HL.out.oI
            rw [← hV2] at hown
            exact rd_ownS hown (RdL.below hbV2 _ _ HLI.out) rfl
          have hS : Rd V2 (seqsD c.seqs) (.slice (some ⟨gS, 0, none⟩) c.seqs.length kS) := by
            have hown := HL.out.oS
            rw [← hV2] at hown
            exact rd_ownS hown (RdL.below hbV2 _ _ HLS.out) rfl
          have hcall := graph_fb (c := c) hP hF hI hS rfl rfl rfl rfl HID.out (by omega) (by omega) (by omega) HPL.out hs hsm
          have HBV2 := Lib.hid hbV2
          have HK2 := Lib.hid hk2
          have HCALL := Lib.hid hcall
          have HSE := Lib.hid hse
          subst hV2
          clear hbV2 hk2 hcall hs hse hsm hP hF hI hS
          go_upto_region 13 with fail
          clear hx4 fx4 hx1
          have b0 : V2.cell? ⟨gb, 0, none⟩ = some (.string ⟨#[99]⟩) := HK2.out.cell 0
          have b1 : V2.cell? ⟨gb, 1, none⟩ = some (.slice AP c.parts.length cP) := HK2.out.cell 1
          have b2 : V2.cell? ⟨gb, 2, none⟩ = some (.slice AF c.flows.length cF) := HK2.out.cell 2
          have b3 : V2.cell? ⟨gb, 3, none⟩ = some (.slice (some ⟨gI, 0, none⟩) c.items.length kI) := HK2.out.cell 3
          have b4 : V2.cell? ⟨gb, 4, none⟩ = some (.slice (some ⟨gS, 0, none⟩) c.seqs.length kS) := HK2.out.cell 4
          go_wp2_with fail
          refine HCALL.out.mono ?_
          clear HCALL b0 b1 b2 b3 b4
          rintro e w4 ⟨hb4, h | h⟩
          · exact absurd HSE.out h.1
          · obtain ⟨_, vG, vM, vN, vE, rfl, hG, hM, hN, hE⟩ := h
            obtain ⟨AG, cG, rfl⟩ := rd_form hG
            obtain ⟨AM, cM, rfl⟩ := rd_form hM
            obtain ⟨AN, cN, rfl⟩ := rd_form hN
            obtain ⟨AE, cE, rfl⟩ := rd_form hE
            have HB4 := Lib.hid (HBV2.out.trans (hb4.mono HBV2.out.size))
            clear hb4 hG hM hN hE
            go_wp2_with fail
            refine (flat_awake _).mono ?_
            rintro e w5 ⟨rfl, hb5⟩
            have hb6 := (HB4.out.alloc HB4.out.size _).trans (hb5.mono (by have := HB4.out.size; simp; omega))
            have HFI := Lib.hid (HB1.out.trans (hb6.mono HB1.out.size))
            clear hb5 hb6
            go_wp2_with fail
            go_ret
            exact ⟨rfl, HFI.out⟩
end Go.Proofs.Yteoioboiniealaa
