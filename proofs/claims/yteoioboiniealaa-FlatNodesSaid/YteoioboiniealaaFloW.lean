/- The walk of the law FlatNodes. -/
import Derived.Test.YteoioboiniealaaFloNV
import Derived.Test.YteoioboiniealaaArgs
import Derived.Deep.CutBlock
import Derived.Deep.DeepCutAuto
namespace Go.Proofs.Yteoioboiniealaa
open Go.RowKit
attribute [local go_sem ↓] Go.wp_at_zero Go.wp_at_succ

theorem Try.infoStrW : (Try.prog.info? 9).map (fun i => (i.zero, i.size, i.bytes)) = some (some (.string ⟨#[]⟩), 1, 16) := by kernel_rfl
theorem wantT_msgs (ps : List ByteArray) (fl : List FlowD) (x : ItemD) (ms : List ByteArray) : ∀ t, (wantT ps fl x ms t).2.length ≤ ms.length + t
  | 0 => by unfold wantT; simp
  | t + 1 => by
    have h := wantT_msgs ps fl x ms t
    have h2 := addM_len (wantT ps fl x ms t).2 (lflowF (x.flows.getD t ⟨#[]⟩) fl).msg
    rw [wantT]
    split <;> (show (addM _ _).length ≤ _; omega)
def pairC (p : ByteArray × ByteArray) : List Dat := [.str p.1, .str p.2]
theorem pairC_len (x : ByteArray × ByteArray) : (pairC x).length = 2 := rfl
theorem pairs_rdl {w : World} : ∀ l : List (ByteArray × ByteArray), RdL w (l.flatMap pairC) (l.flatMap pairV)
  | [] => rdl_nil.2 rfl
  | x :: l => by
    rw [List.flatMap_cons, List.flatMap_cons]
    exact rdl_cons.2 ⟨_, _, rfl, rd_str.2 rfl, rdl_cons.2 ⟨_, _, rfl, rd_str.2 rfl, pairs_rdl l⟩⟩
theorem rd_pairC {w : World} {x : ByteArray × ByteArray} {vs : List Value} (h : RdL w (pairC x) vs) : vs = [.string x.1, .string x.2] := by
  unfold pairC at h
  obtain ⟨_, _, rfl, h0, h⟩ := rdl_cons.1 h
  obtain ⟨_, _, rfl, h1, h⟩ := rdl_cons.1 h
  obtain rfl := rdl_nil.1 h
  rw [rd_str.1 h0, rd_str.1 h1]
set_option maxRecDepth 100000 in
set_option maxHeartbeats 32000000 in
theorem flatNodes_walk (A0 : Option Addr) (c0 : Nat) (x0 : List Int) (A1 : Option Addr) (c1 : Nat) (x1 : List Int) (w : World) (m0 : x0.length ≤ maxLen) (h0 : IntsAt w A0 x0) (m1 : x1.length ≤ maxLen) (h1 : IntsAt w A1 x1) :
    Calls Try.prog 9 #[.slice A0 x0.length c0, .slice A1 x1.length c1] w fun e w' => e = .returned (.bool true) ∧ Below w.heap.size w w' := by
  have hgen := nested_gen (cap := c0) (capq := c1) h0 m0 h1 m1
  obtain ⟨c, x, hN, hF⟩ := flo_nest x0 x1 m0 m1
  obtain ⟨d, hd⟩ : ∃ d, d = gnestedF x0 x1 := ⟨_, rfl⟩
  rw [← hd] at hN hgen
  obtain ⟨cw, hcw⟩ : ∃ y, y = wantC c x := ⟨_, rfl⟩
  have hgot := hN.got
  rw [← hcw] at hF hgot
  obtain ⟨s, hgF, hLev⟩ := graph_ok hF.lvl
  obtain ⟨ps, hps⟩ : ∃ l, l = cw.parts.map (·.id) := ⟨_, rfl⟩
  obtain ⟨L, hL⟩ : ∃ l, l = levL false cw.items := ⟨_, rfl⟩
  obtain ⟨Es, hEs⟩ : ∃ l, l = edgL cw.items cw.seqs := ⟨_, rfl⟩
  have hids := hF.ids
  have hloop := hF.loop
  have htask := hF.tasks
  have hnL := hF.nL false
  rw [← hL] at hids hloop htask hnL
  rw [← hps, ← hL, ← hEs] at hLev
  have hlen2 : Es.length ≤ 2000 := by rw [hEs]; unfold edgL; have := hF.nE; have := hF.nS; simp; omega
  have hse : s.e = 0 := hLev.e
  have hsn : s.nodes = (nodesOf ps cw.flows L []).1 := by rw [hLev.nodes]; rfl
  have hsm : s.msgs = (nodesOf ps cw.flows L []).2 := hLev.msgs
  obtain ⟨hel, heat⟩ := edges_at hLev hids
  have hnl : s.nodes.length = L.length := by rw [hsn, nodesOf_len]
  have hml : s.msgs.length ≤ 2000 := by rw [hsm]; have := nodesOf_msgs ps cw.flows L []; simp at this; omega
  have hsmall : SmallF s := ⟨by omega, by omega, by omega⟩
  have hpl : ps.length = cw.parts.length := by rw [hps]; simp
  have hpl2 := hF.nP
  have hfl2 := hF.nF
  have hil2 := hF.nI
  have hsl2 := hF.nS
  have hlenL := hF.lenL
  have hlev := hF.lev
  have hedg := hF.edg
  obtain ⟨nL, hnLL⟩ : ∃ n, n = L.length := ⟨_, rfl⟩
  obtain ⟨nE, hnE⟩ : ∃ n, n = Es.length := ⟨_, rfl⟩
  obtain ⟨nM, hnM⟩ : ∃ n, n = s.msgs.length := ⟨_, rfl⟩
  have hcall := fun (W : World) (vM vC : Value) (hM : Rd W (msgsD d.msgs) vM) (hC : Rd W (chorsD d.chors) vC) => chor_walk d 3 (items_all d hN.small 3) sC hM hC cw 0 hgot hN.small hN.parts (by decide) (hN.count sC (.inl rfl))
  have hgraph := fun (W : World) (AP : Option Addr) (cP : Nat) (AF : Option Addr) (cF : Nat) (AI : Option Addr) (cI : Nat) (AS : Option Addr) (cS : Nat) (hC : Comp W cw.parts cw.flows cw.items cw.seqs AP cP AF cF AI cI AS cS) => graph_any 2 cw hC (by omega) (by omega) (by omega) hlenL hgF hsmall
  have HCALL := Lib.hid hcall
  have HGRAPH := Lib.hid hgraph
  have HGEN := Lib.hid hgen
  have HLEV := Lib.hid hlev
  have HEDG := Lib.hid hedg
  have HL := Lib.hid hL
  have HES := Lib.hid hEs
  have HPS := Lib.hid hps
  have HSE := Lib.hid hse
  have HSN := Lib.hid hsn
  have HSM := Lib.hid hsm
  have HEAT := Lib.hid heat
  have HEL := Lib.hid hel
  have HNL := Lib.hid hnl
  have HLOOP := Lib.hid hloop
  have HTASK := Lib.hid htask
  have HPL := Lib.hid hpl
  have HNLL := Lib.hid hnLL
  have HNE := Lib.hid hnE
  have HNM := Lib.hid hnM
  have hnL1 : nL ≤ 1000 := by omega
  have hnE1 : nE ≤ 2000 := by omega
  have hnM1 : nM ≤ 2000 := by omega
  clear hgen hN hF hd hcw hgot hgF hLev hids hloop htask hnL hlen2 hse hsn hsm hel heat hnl hml hsmall hpl hpl2 hlenL hlev hedg hcall hgraph hps hL hEs hnLL hnE hnM h0 h1 m0 m1
  obtain ⟨j0, hj0, hy0, hy1, hy2⟩ := info_parts Try.infoStrW
  go_enter Try.func9, Try.ntmps9
  go_wp2_with fail
  refine HGEN.out.mono ?_
  clear HGEN
  rintro e w1 ⟨A2, c2, B1, k1, rfl, hms, hch, hb1⟩
  have hcall := HCALL.out w1 _ _ hms hch
  have HB1 := Lib.hid hb1
  have HC1 := Lib.hid hcall
  clear hms hch hb1 hcall HCALL
  go_wp2_with fail
  refine HC1.out.mono ?_
  clear HC1
  rintro e w2 ⟨vP, vF, vI, vS, rfl, hV, hb2⟩
  obtain ⟨AP, cP, rfl⟩ := rd_form hV.1
  obtain ⟨AF, cF, rfl⟩ := rd_form hV.2.1
  obtain ⟨AI, cI, rfl⟩ := rd_form hV.2.2.1
  obtain ⟨AS, cS, rfl⟩ := rd_form hV.2.2.2
  obtain ⟨gc, hgc⟩ : ∃ g, g = w2.heap.size := ⟨_, rfl⟩
  obtain ⟨T1, hT1⟩ : ∃ T, T = w2.alloc (.cells #[.string cw.id, .slice AP cw.parts.length cP, .slice AF cw.flows.length cF, .slice AI cw.items.length cI, .slice AS cw.seqs.length cS] 28) := ⟨_, rfl⟩
  have bT1 : Below w2.heap.size w2 T1 := by rw [hT1]; exact (Below.refl _ _).alloc (Nat.le_refl _) _
  have kc : Blk T1 gc 28 #[.string cw.id, .slice AP cw.parts.length cP, .slice AF cw.flows.length cF, .slice AI cw.items.length cI, .slice AS cw.seqs.length cS] := by rw [hT1, hgc]; exact Blk.new _ _ _
  have hgr := HGRAPH.out T1 AP cP AF cF AI cI AS cS ⟨Rd.below bT1 _ _ hV.1, Rd.below bT1 _ _ hV.2.1, Rd.below bT1 _ _ hV.2.2.1, Rd.below bT1 _ _ hV.2.2.2⟩
  have hb02 := HB1.out.trans (hb2.mono HB1.out.size)
  have HGR := Lib.hid hgr
  have HV := Lib.hid hV
  have HB02 := Lib.hid (hb02.trans (bT1.mono hb02.size))
  have HBT1 := Lib.hid bT1
  have HKC := Lib.hid kc
  have HT1 := Lib.hid hT1.symm
  have HGC := Lib.hid hgc.symm
  have x0 : T1.cell? ⟨gc, 0, none⟩ = some (.string cw.id) := kc.cell 0
  have x1 : T1.cell? ⟨gc, 1, none⟩ = some (.slice AP cw.parts.length cP) := kc.cell 1
  have x2 : T1.cell? ⟨gc, 2, none⟩ = some (.slice AF cw.flows.length cF) := kc.cell 2
  have x3 : T1.cell? ⟨gc, 3, none⟩ = some (.slice AI cw.items.length cI) := kc.cell 3
  have x4 : T1.cell? ⟨gc, 4, none⟩ = some (.slice AS cw.seqs.length cS) := kc.cell 4
  have lgc := kc.lt
  clear hgr hV hb2 hb02 bT1 kc hT1 hgc HGRAPH HB1
  go_upto_region 2 with fail
  rw [HT1.out, HGC.out]
  clear HT1
  go_wp2_with fail
  refine HGR.out.mono ?_
  clear HGR
  rintro e w3 ⟨hb3, hend⟩
  rcases hend with ⟨he, _⟩ | ⟨_, vG, vM, vN, vE, rfl, hG, hM, hN, hE⟩
  · exact absurd HSE.out he
  obtain ⟨AG, cG, rfl⟩ := rd_form hG
  obtain ⟨AM, cM, rfl⟩ := rd_form hM
  obtain ⟨AN, cN, rfl⟩ := rd_form hN
  obtain ⟨AE, cE, rfl⟩ := rd_form hE
  have ePL : (cw.parts.map (·.id)).length = cw.parts.length := by simp
  rw [ePL] at hG ⊢
  rw [← HNM.out] at hM ⊢
  rw [HNL.out, ← HNLL.out] at hN ⊢
  rw [HEL.out, ← HNE.out] at hE ⊢
  rw [← HPS.out] at hG
  obtain ⟨gg, hgg⟩ : ∃ g, g = w3.heap.size := ⟨_, rfl⟩
  obtain ⟨T2, hT2⟩ : ∃ T, T = w3.alloc (.cells #[.slice AG cw.parts.length cG, .slice AM nM cM, .slice AN nL cN, .slice AE nE cE] 44) := ⟨_, rfl⟩
  have bT2 : Below w3.heap.size w3 T2 := by rw [hT2]; exact (Below.refl _ _).alloc (Nat.le_refl _) _
  have b12 := hb3.trans (bT2.mono hb3.size)
  have kg : Blk T2 gg 44 #[.slice AG cw.parts.length cG, .slice AM nM cM, .slice AN nL cN, .slice AE nE cE] := by rw [hT2, hgg]; exact Blk.new _ _ _
  have kc := HKC.out.below b12 lgc
  have HKG := Lib.hid kg
  have HKC2 := Lib.hid kc
  have HG := Lib.hid (Rd.below bT2 _ _ hG)
  have HM := Lib.hid (Rd.below bT2 _ _ hM)
  have HN := Lib.hid (Rd.below bT2 _ _ hN)
  have HE := Lib.hid (Rd.below bT2 _ _ hE)
  have HVF := Lib.hid (Rd.below (HBT1.out.trans (b12.mono HBT1.out.size)) _ _ HV.out.2.1)
  have HVI := Lib.hid (Rd.below (HBT1.out.trans (b12.mono HBT1.out.size)) _ _ HV.out.2.2.1)
  have HVS := Lib.hid (Rd.below (HBT1.out.trans (b12.mono HBT1.out.size)) _ _ HV.out.2.2.2)
  have HB12 := Lib.hid (HB02.out.trans (b12.mono HB02.out.size))
  have HT2 := Lib.hid hT2.symm
  have HGG := Lib.hid hgg.symm
  have q0 : T2.cell? ⟨gc, 0, none⟩ = some (.string cw.id) := kc.cell 0
  have q1 : T2.cell? ⟨gc, 1, none⟩ = some (.slice AP cw.parts.length cP) := kc.cell 1
  have q2 : T2.cell? ⟨gc, 2, none⟩ = some (.slice AF cw.flows.length cF) := kc.cell 2
  have q3 : T2.cell? ⟨gc, 3, none⟩ = some (.slice AI cw.items.length cI) := kc.cell 3
  have q4 : T2.cell? ⟨gc, 4, none⟩ = some (.slice AS cw.seqs.length cS) := kc.cell 4
  have r0 : T2.cell? ⟨gg, 0, none⟩ = some (.slice AG cw.parts.length cG) := kg.cell 0
  have r1 : T2.cell? ⟨gg, 1, none⟩ = some (.slice AM nM cM) := kg.cell 1
  have r2 : T2.cell? ⟨gg, 2, none⟩ = some (.slice AN nL cN) := kg.cell 2
  have r3 : T2.cell? ⟨gg, 3, none⟩ = some (.slice AE nE cE) := kg.cell 3
  have lgc2 := kc.lt
  have lgg2 := kg.lt
  have hlv := fun U (hU : Below T2.heap.size T2 U) => HLEV.out U T2.heap.size _ false hU.size (RdP.below (Rd.allQ _ _ HVI.out) hU)
  have hed := fun U (hU : Below T2.heap.size T2 U) => HEDG.out U _ _ (Rd.below hU _ _ HVI.out) (Rd.below hU _ _ HVS.out)
  rw [← HL.out] at hlv
  rw [← HES.out] at hed
  unfold LevE at hlv
  unfold EdE at hed
  rw [← HNLL.out] at hlv
  rw [← HNE.out] at hed
  have HLV := Lib.hid hlv
  have HED := Lib.hid hed
  clear hlv hed hb3 hG hM hN hE hT2 hgg bT2 b12 kg kc HV HBT1 HKC HB02 HLEV HEDG ePL x0 x1 x2 x3 x4
  go_upto_region 3 with fail
  rw [HT2.out, HGG.out]
  clear HT2
  have HY_a := Lib.hid (fun (U : World) (hSw : (fun U => Below T2.heap.size T2 U) U) => And.intro (show U.cell? ⟨gc, 3, none⟩ = some (.slice AI cw.items.length cI) from (hSw.cell (p := ⟨gc, 3, none⟩) lgc2).trans q3) ((show U.cell? ⟨gc, 4, none⟩ = some (.slice AS cw.seqs.length cS) from (hSw.cell (p := ⟨gc, 4, none⟩) lgc2).trans q4)))
  refine wp_region_HT 8 (fun U => Below T2.heap.size T2 U) (by kernel_rfl) (by decide) ((Below.refl _ _).drew) (fun hHeld => ?_)
  refine ht_take 0 (v := ?va_1) rfl (by kernel_rfl) (fun _ _ _ h => h) (Or.inl ⟨by rfl, ?ha_1⟩) hHeld ?ra_1
  case ha_1 => ((intro U hSw; obtain ⟨y3, y4⟩ := HY_a.out U hSw; go_simp); (try (with_reducible rfl)))
  try simp only [Act.put, List.setIfInBounds_toArray, List.set_cons_zero, List.set_cons_succ]
  refine ht_take 1 (v := ?va_2) rfl (by kernel_rfl) (fun _ _ _ h => h) (Or.inl ⟨by rfl, ?ha_2⟩) hHeld ?ra_2
  case ha_2 => ((intro U hSw; obtain ⟨y3, y4⟩ := HY_a.out U hSw; go_simp); (try (with_reducible rfl)))
  try simp only [Act.put, List.setIfInBounds_toArray, List.set_cons_zero, List.set_cons_succ]
  refine ht_take 3 (v := ?va_3) rfl (by kernel_rfl) (fun _ _ _ h => h) (Or.inl ⟨by rfl, ?ha_3⟩) hHeld ?ra_3
  case ha_3 => ((intro U hSw; obtain ⟨y3, y4⟩ := HY_a.out U hSw; go_simp); (try (with_reducible rfl)))
  try simp only [Act.put, List.setIfInBounds_toArray, List.set_cons_zero, List.set_cons_succ]
  refine ht_take 4 (v := ?va_4) rfl (by kernel_rfl) (fun _ _ _ h => h) (Or.inl ⟨by rfl, ?ha_4⟩) hHeld ?ra_4
  case ha_4 => ((intro U hSw; obtain ⟨y3, y4⟩ := HY_a.out U hSw; go_simp); (try (with_reducible rfl)))
  try simp only [Act.put, List.setIfInBounds_toArray, List.set_cons_zero, List.set_cons_succ]
  refine ht_take 5 (v := ?va_5) rfl (by kernel_rfl) (fun _ _ _ h => h) (Or.inl ⟨by rfl, ?ha_5⟩) hHeld ?ra_5
  case ha_5 => ((intro U hSw; obtain ⟨y3, y4⟩ := HY_a.out U hSw; go_simp); (try (with_reducible rfl)))
  try simp only [Act.put, List.setIfInBounds_toArray, List.set_cons_zero, List.set_cons_succ]
  refine ht_take 6 (v := ?va_6) rfl (by kernel_rfl) (fun _ _ _ h => h) (Or.inl ⟨by rfl, ?ha_6⟩) hHeld ?ra_6
  case ha_6 => ((intro U hSw; obtain ⟨y3, y4⟩ := HY_a.out U hSw; go_simp); (try (with_reducible rfl)))
  try simp only [Act.put, List.setIfInBounds_toArray, List.set_cons_zero, List.set_cons_succ]
  refine ht_one 2 rfl (by kernel_rfl) (fun K hK => ?_)
  go_simp
  refine (HLV.out _ hHeld).mono ?_
  rintro e w4 ⟨AL, cL, xsL, rfl, hLW⟩
  go_wp2_with fail
  refine hK.out _ _ (hHeld.trans (hLW.bel.mono hHeld.size)) (fun hHeld => ?_)
  clear hK K
  try simp only [Act.put, List.setIfInBounds_toArray, List.set_cons_zero, List.set_cons_succ]
  refine ht_one 7 rfl (by kernel_rfl) (fun K hK => ?_)
  go_simp
  refine (HED.out _ hHeld).mono ?_
  rintro e w5 ⟨AQ, cQ, rfl, hEW⟩
  have HEW := Lib.hid hEW
  have HLW := Lib.hid (And.intro hLW hEW.bel)
  go_wp2_with fail
  refine hK.out _ _ (hHeld.trans (hEW.bel.mono hHeld.size)) (fun hHeld => ?_)
  clear hK K
  try simp only [Act.put, List.setIfInBounds_toArray, List.set_cons_zero, List.set_cons_succ]
  refine ht_done (by kernel_rfl) rfl ?_
  obtain ⟨wB, rfl⟩ : ∃ V, V = w5 := ⟨_, rfl⟩
  have hbB := hHeld
  clear hHeld
  have hLr : Rd wB (itemsD L) (.slice AL nL cL) := Rd.below (HLW.out.2) _ _ (by
    have h := HLW.out.1
    have e := HNLL.out
    subst e
    exact rd_sl.2 ⟨_, _, _, rfl, own_mono h.own (Nat.zero_le _), RdPL.rd _ _ h.rd⟩)
  have kg := HKG.out.below hbB lgg2
  have kc := HKC2.out.below hbB lgc2
  have HKG3 := Lib.hid kg
  have HKC3 := Lib.hid kc
  have HG3 := Lib.hid (Rd.below hbB _ _ HG.out)
  have HM3 := Lib.hid (Rd.below hbB _ _ HM.out)
  have HN3 := Lib.hid (Rd.below hbB _ _ HN.out)
  have HE3 := Lib.hid (Rd.below hbB _ _ HE.out)
  have HVF3 := Lib.hid (Rd.below hbB _ _ HVF.out)
  have HLR := Lib.hid hLr
  have HBB := Lib.hid (HB12.out.trans (hbB.mono HB12.out.size))
  have qb0 : wB.cell? ⟨gc, 0, none⟩ = some (.string cw.id) := kc.cell 0
  have qb1 : wB.cell? ⟨gc, 1, none⟩ = some (.slice AP cw.parts.length cP) := kc.cell 1
  have qb2 : wB.cell? ⟨gc, 2, none⟩ = some (.slice AF cw.flows.length cF) := kc.cell 2
  have qb3 : wB.cell? ⟨gc, 3, none⟩ = some (.slice AI cw.items.length cI) := kc.cell 3
  have qb4 : wB.cell? ⟨gc, 4, none⟩ = some (.slice AS cw.seqs.length cS) := kc.cell 4
  have rb0 : wB.cell? ⟨gg, 0, none⟩ = some (.slice AG cw.parts.length cG) := kg.cell 0
  have rb1 : wB.cell? ⟨gg, 1, none⟩ = some (.slice AM nM cM) := kg.cell 1
  have rb2 : wB.cell? ⟨gg, 2, none⟩ = some (.slice AN nL cN) := kg.cell 2
  have rb3 : wB.cell? ⟨gg, 3, none⟩ = some (.slice AE nE cE) := kg.cell 3
  have lgc3 := kc.lt
  have lgg3 := kg.lt
  clear hbB hLr kg kc HKG HKC2 HG HM HN HE HVF HVI HVS HB12 HLV HED q0 q1 q2 q3 q4 r0 r1 r2 r3
  go_upto_region 4 with fail
  go_upto_region 6 with fail
  obtain ⟨T6, hT6⟩ : ∃ T, T = (wB.alloc (.cells #[] 9)).alloc (.cells #[] 9) := ⟨_, rfl⟩
  have hLp0 : LpW wB [] [] 0 0 (.slice (some ⟨wB.heap.size, 0, none⟩) 0 0) (.slice (some ⟨wB.heap.size + 1, 0, none⟩) 0 0) T6 := by
    rw [hT6]
    refine ⟨((Below.refl _ _).alloc (Nat.le_refl _) _).alloc (by simp) _, own_below (World.ownsRow_lit (base := wB.heap.size) wB #[] 0 (Nat.le_refl _) (by decide) rfl) ((Below.refl _ _).alloc (Nat.le_refl _) _), ?_, fun b h1 h2 => ?_⟩
    · have := World.ownsRow_lit (e := 9) (size := 1) (base := wB.heap.size) (wB.alloc (.cells #[] 9)) #[] 0 (by simp) (by decide) rfl
      simpa using this
    · simp [Value.ownBlock] at h1 h2
      omega
  have HLP0 := Lib.hid hLp0
  have HT6 := Lib.hid hT6.symm
  clear hLp0 hT6
  go_upto_region 7 with fail
  rw [HT6.out]
  clear HT6
  go_wp2_with fail
  go_loopw [11, 12, 13, 14, 15, 16, 17] (fun nv mv iv _ _ _ _ wr => ∃ (i k : Nat) (An : Option Addr) (cn : Nat) (Am : Option Addr) (cm : Nat), i ≤ nL ∧ iv = .int .i64 i ∧ nv = .slice An i cn ∧ mv = .slice Am k cm ∧ Hid (LpW wB ((L.take i).map (·.id)) (nodesOf ps cw.flows (L.take i) []).2 i k (.slice An i cn) (.slice Am k cm) wr) ∧ Hid ((nodesOf ps cw.flows (L.take i) []).2.length = k)) (fun _ _ iv _ _ _ _ _ => nL - (intOf iv).toNat)
  case atStart => exact ⟨0, 0, _, _, _, _, Nat.zero_le _, rfl, rfl, rfl, Lib.hid (by rw [List.take_zero]; exact HLP0.out), Lib.hid (by rw [List.take_zero]; rfl)⟩
  case round =>
    clear HLP0
    obtain ⟨i, k, An, cn, Am, cm, hi, rfl, rfl, rfl, hLP, hK⟩ := hrel
    obtain ⟨V, rfl⟩ : ∃ V, V = wr := ⟨_, rfl⟩
    by_cases hlt : i < nL
    · have hlt2 : i < L.length := by have := HNLL.out; omega
      obtain ⟨x, hx⟩ : ∃ x, x = L[i] := ⟨_, rfl⟩
      obtain ⟨Mi, hMi⟩ : ∃ m, m = (nodesOf ps cw.flows (L.take i) []).2 := ⟨_, rfl⟩
      obtain ⟨n1, n2⟩ := nodesOf_at ps cw.flows [] hlt2
      have hmx : x ∈ L := by rw [hx]; exact List.getElem_mem hlt2
      have hMl : Mi.length ≤ 2000 := by
        have := nodesOf_msgs ps cw.flows (L.take i) []
        rw [← hMi] at this
        simp at this
        omega
      rw [← hx, ← hMi] at n1 n2
      rw [← hMi] at hLP hK
      obtain ⟨fk, fi, fl, f5⟩ := nodeOf_facts ps cw.flows x Mi (HLOOP.out x hmx)
      obtain ⟨nd, hnd⟩ : ∃ n, n = (nodeOf ps cw.flows x Mi).1 := ⟨_, rfl⟩
      rw [← hnd] at n1 fk fi fl f5
      obtain ⟨BN, kN, hvN, _, _, hatN⟩ := rd_at nodeC_len HN3.out
      injection hvN with e1 e2 e3
      clear e2
      subst e1
      subst e3
      have hlsn : i < s.nodes.length := by have := HNL.out; omega
      obtain ⟨bN, vsN, rfl, hbN, _, hvsN, hcN⟩ := hatN i hlsn
      have hsn : s.nodes[i] = nd := by
        have h := n1
        rw [← HSN.out, List.getElem?_eq_getElem hlsn] at h
        injection h
      rw [hsn] at hvsN
      have hvN2 := rd_nodeC hvsN
      subst hvN2
      obtain ⟨BL, kL, hvL, _, _, hatL⟩ := rd_at itemC_len HLR.out
      injection hvL with e1 e2 e3
      clear e2
      subst e1
      subst e3
      obtain ⟨bL, vsL, rfl, hbL, _, hvsL, hcL⟩ := hatL i hlt2
      rw [← hx] at hvsL
      obtain ⟨v3, v4, v7, v8, v9, rfl, _, h4, _⟩ := rd_itemC.1 hvsL
      obtain ⟨A4, c4, rfl⟩ := rd_form h4
      have hbV := hLP.out.bel
      have hwV := hbV.size
      obtain ⟨na, hna⟩ : ∃ n, n = nd.src := ⟨_, rfl⟩
      obtain ⟨nb, hnb⟩ : ∃ n, n = nd.dst := ⟨_, rfl⟩
      obtain ⟨nm, hnm⟩ : ∃ n, n = nd.msg := ⟨_, rfl⟩
      obtain ⟨nr, hnr⟩ : ∃ n, n = nd.reply := ⟨_, rfl⟩
      have hnv : nodeV nd = [.int .i64 x.kind, .string x.id, .int .i64 na, .int .i64 nb, .int .i64 nm, .int .i64 nr, .bool x.loop] := by unfold nodeV; rw [fk, fi, fl, ← hna, ← hnb, ← hnm, ← hnr]
      rw [hnv] at hcN
      have hcN2 : ∀ j v, ([.int .i64 x.kind, .string x.id, .int .i64 na, .int .i64 nb, .int .i64 nm, .int .i64 nr, .bool x.loop] : List Value)[j]? = some v → j < 7 → V.cell? ⟨bN, i * 7 + j, none⟩ = some v := fun j v hv hj => (hbV.cell (p := ⟨bN, i * 7 + j, none⟩) hbN).trans ((hcN j hj).trans hv)
      have n0 : V.cell? ⟨bN, i * 7, none⟩ = some (.int .i64 x.kind) := hcN2 0 _ rfl (by omega)
      have n1_ : V.cell? ⟨bN, i * 7 + 1, none⟩ = some (.string x.id) := hcN2 1 _ rfl (by omega)
      have n2_ : V.cell? ⟨bN, i * 7 + 2, none⟩ = some (.int .i64 na) := hcN2 2 _ rfl (by omega)
      have n3 : V.cell? ⟨bN, i * 7 + 3, none⟩ = some (.int .i64 nb) := hcN2 3 _ rfl (by omega)
      have n4 : V.cell? ⟨bN, i * 7 + 4, none⟩ = some (.int .i64 nm) := hcN2 4 _ rfl (by omega)
      have n5 : V.cell? ⟨bN, i * 7 + 5, none⟩ = some (.int .i64 nr) := hcN2 5 _ rfl (by omega)
      have n6 : V.cell? ⟨bN, i * 7 + 6, none⟩ = some (.bool x.loop) := hcN2 6 _ rfl (by omega)
      have l0 : wB.cell? ⟨bL, i * 10, none⟩ = some (.int .i64 x.kind) := hcL 0 (by omega)
      have l1 : wB.cell? ⟨bL, i * 10 + 1, none⟩ = some (.string x.id) := hcL 1 (by omega)
      have l4 : wB.cell? ⟨bL, i * 10 + 4, none⟩ = some (.slice A4 x.flows.length c4) := hcL 4 (by omega)
      have l5 : wB.cell? ⟨bL, i * 10 + 5, none⟩ = some (.bool x.loop) := hcL 5 (by omega)
      have rV : V.cell? ⟨gg, 2, none⟩ = some (.slice (some ⟨bN, 0, none⟩) nL cN) := (hbV.cell (p := ⟨gg, 2, none⟩) lgg3).trans rb2
      have lggV : gg < V.heap.size := by omega
      obtain ⟨gn, hgn⟩ : ∃ g, g = V.heap.size := ⟨_, rfl⟩
      obtain ⟨V1, hV1⟩ : ∃ T, T = V.alloc (.cells #[.int .i64 x.kind, .string x.id, .int .i64 na, .int .i64 nb, .int .i64 nm, .int .i64 nr, .bool x.loop] 55) := ⟨_, rfl⟩
      have bV1 : Below V.heap.size V V1 := by rw [hV1]; exact (Below.refl _ _).alloc (Nat.le_refl _) _
      have kn : Blk V1 gn 55 #[.int .i64 x.kind, .string x.id, .int .i64 na, .int .i64 nb, .int .i64 nm, .int .i64 nr, .bool x.loop] := by rw [hV1, hgn]; exact Blk.new _ _ _
      have hnx : (L.take (i + 1)).map (·.id) = (L.take i).map (·.id) ++ [x.id] := by rw [List.take_succ_eq_append_getElem hlt2, List.map_append, hx]; rfl
      obtain ⟨nmI, hnmI⟩ : ∃ l, l = (L.take i).map (·.id) := ⟨_, rfl⟩
      rw [← hnmI] at hLP hnx
      have hiI : (i : Int) < (nL : Int) := by omega
      have hwV1 := bV1.size
      have HLP := Lib.hid (hLP.out.below bV1)
      have HK := Lib.hid hK.out
      have HKN := Lib.hid kn
      have HV1 := Lib.hid hV1.symm
      have HGN := Lib.hid hgn.symm
      have HNX := Lib.hid hnx
      have HN1 := Lib.hid hnd
      have HN2 := Lib.hid n2
      have HF5 := Lib.hid f5
      have HH4 := Lib.hid h4
      have HNA := Lib.hid hna
      have HNB := Lib.hid hnb
      have HNMM := Lib.hid hnm
      have HNR := Lib.hid hnr
      have HNMI := Lib.hid hnmI
      have HMX := Lib.hid hmx
      have hgnw : wB.heap.size ≤ gn := by omega
      have k0 : V1.cell? ⟨gn, 0, none⟩ = some (.int .i64 x.kind) := kn.cell 0
      have k1 : V1.cell? ⟨gn, 1, none⟩ = some (.string x.id) := kn.cell 1
      have k2 : V1.cell? ⟨gn, 2, none⟩ = some (.int .i64 na) := kn.cell 2
      have k3 : V1.cell? ⟨gn, 3, none⟩ = some (.int .i64 nb) := kn.cell 3
      have k4 : V1.cell? ⟨gn, 4, none⟩ = some (.int .i64 nm) := kn.cell 4
      have k5 : V1.cell? ⟨gn, 5, none⟩ = some (.int .i64 nr) := kn.cell 5
      have k6 : V1.cell? ⟨gn, 6, none⟩ = some (.bool x.loop) := kn.cell 6
      have lgn := kn.lt
      clear n1 n2 fk fi fl f5 hnd hatN hvsN hcN hcN2 hsn hatL hvsL hcL hnv hna hnb hnm hnr hV1 hgn bV1 kn hnx hnmI hbV hLP hK h4 hMi hmx hx
      go_upto_region 11 with fail
      rw [HV1.out, HGN.out]
      clear HV1
      go_wp2_with (at_builtin; refine wpList_append_lies _ rfl (.tmp 83) (.tmp 86) _ rfl wB.heap.size 9 j0 _ 1 16 Try.underlying30 hj0 hy0 hy1 hy2 rfl (by omega) (.slice An i cn) i (nmI.map .string) rfl (own_below HLP.out.on ((Below.refl _ _).alloc (Nat.le_refl _) _)) ⟨V1.heap.size, 0, none⟩ 1 1 [.string x.id] rfl rfl (World.news_of_block (cs := #[.string x.id]) (t := 9) (fr := (0, 0)) (heap_alloc_new V1 _)) (by simp [Value.oneCell']) (by omega) (by unfold maxLen; omega) (by omega) (by simp; omega) (V1.heap.size + 1) (by simp) ?_)
      intro gA capA V2 hown hgrow hat _
      have hLP2 := HLP.out.name hown hgrow hat
      have kn2 := (HKN.out.alloc (.cells #[.string x.id] 9)).grown hgrow (Ne.symm (blk_own_ne HLP.out.on HKN.out (by decide)))
      rw [← HNX.out] at hLP2
      obtain ⟨nmJ, hnmJ⟩ : ∃ l, l = (L.take (i + 1)).map (·.id) := ⟨_, rfl⟩
      rw [← hnmJ] at hLP2
      have HLP2 := Lib.hid hLP2
      have HKN2 := Lib.hid kn2
      have HNMJ := Lib.hid hnmJ
      have hbV2 := hLP2.bel
      have hwV2 := hbV2.size
      have p0 : V2.cell? ⟨gn, 0, none⟩ = some (.int .i64 x.kind) := kn2.cell 0
      have p1 : V2.cell? ⟨gn, 1, none⟩ = some (.string x.id) := kn2.cell 1
      have p2 : V2.cell? ⟨gn, 2, none⟩ = some (.int .i64 na) := kn2.cell 2
      have p3 : V2.cell? ⟨gn, 3, none⟩ = some (.int .i64 nb) := kn2.cell 3
      have p4 : V2.cell? ⟨gn, 4, none⟩ = some (.int .i64 nm) := kn2.cell 4
      have p5 : V2.cell? ⟨gn, 5, none⟩ = some (.int .i64 nr) := kn2.cell 5
      have p6 : V2.cell? ⟨gn, 6, none⟩ = some (.bool x.loop) := kn2.cell 6
      have lgn2 := kn2.lt
      have m0_ : V2.cell? ⟨bL, i * 10, none⟩ = some (.int .i64 x.kind) := (hbV2.cell (p := ⟨bL, i * 10, none⟩) hbL).trans l0
      have m1_ : V2.cell? ⟨bL, i * 10 + 1, none⟩ = some (.string x.id) := (hbV2.cell (p := ⟨bL, i * 10 + 1, none⟩) hbL).trans l1
      have m5_ : V2.cell? ⟨bL, i * 10 + 5, none⟩ = some (.bool x.loop) := (hbV2.cell (p := ⟨bL, i * 10 + 5, none⟩) hbL).trans l5
      have hbL2 : bL < V2.heap.size := by omega
      clear hLP2 kn2 hnmJ hown hgrow hat hbV2 HLP HKN k0 k1 k2 k3 k4 k5 k6 n0 n1_ n2_ n3 n4 n5 n6 rV
      go_upto_region 12 with fail
      go_quiet (fail)
      obtain ⟨Y, hY⟩ : ∃ Y, Y = V2.drewN nq := ⟨_, rfl⟩
      rw [← hY]
      have hbY : Below V2.heap.size V2 Y := by rw [hY]; exact below_drewN (Below.refl _ _) _
      have hwY := hbY.size
      have HLP2 := Lib.hid (HLP2.out.below hbY)
      have HKN2 := Lib.hid (HKN2.out.below hbY lgn2)
      have p0 : Y.cell? ⟨gn, 0, none⟩ = _ := (hbY.cell (p := ⟨gn, 0, none⟩) lgn2).trans p0
      have p1 : Y.cell? ⟨gn, 1, none⟩ = _ := (hbY.cell (p := ⟨gn, 1, none⟩) lgn2).trans p1
      have p2 : Y.cell? ⟨gn, 2, none⟩ = _ := (hbY.cell (p := ⟨gn, 2, none⟩) lgn2).trans p2
      have p3 : Y.cell? ⟨gn, 3, none⟩ = _ := (hbY.cell (p := ⟨gn, 3, none⟩) lgn2).trans p3
      have p4 : Y.cell? ⟨gn, 4, none⟩ = _ := (hbY.cell (p := ⟨gn, 4, none⟩) lgn2).trans p4
      have p5 : Y.cell? ⟨gn, 5, none⟩ = _ := (hbY.cell (p := ⟨gn, 5, none⟩) lgn2).trans p5
      have p6 : Y.cell? ⟨gn, 6, none⟩ = _ := (hbY.cell (p := ⟨gn, 6, none⟩) lgn2).trans p6
      have m0_ : Y.cell? ⟨bL, i * 10, none⟩ = _ := (hbY.cell (p := ⟨bL, i * 10, none⟩) hbL2).trans m0_
      have m1_ : Y.cell? ⟨bL, i * 10 + 1, none⟩ = _ := (hbY.cell (p := ⟨bL, i * 10 + 1, none⟩) hbL2).trans m1_
      have m5_ : Y.cell? ⟨bL, i * 10 + 5, none⟩ = _ := (hbY.cell (p := ⟨bL, i * 10 + 5, none⟩) hbL2).trans m5_
      have lgn2 : gn < Y.heap.size := by omega
      have hbL2 : bL < Y.heap.size := by omega
      clear hY hbY
      by_cases h3 : x.kind = 3
      · have hk3 : (x.kind == 3) = true := by simp [h3]
        have hfl := HTASK.out x HMX.out h3
        have hw3 := wantT_all (ps := ps) (fl := cw.flows) (ms := Mi) h3 hfl
        have HW3 := Lib.hid hw3
        clear h3 hw3
        obtain ⟨gw, hgw⟩ : ∃ g, g = Y.heap.size := ⟨_, rfl⟩
        obtain ⟨V3, hV3⟩ : ∃ T, T = Y.alloc (.cells #[.int .i64 x.kind, .string x.id, .int .i64 0, .int .i64 0, .int .i64 0, .int .i64 (-1), .bool x.loop] 55) := ⟨_, rfl⟩
        have bV3 : Below Y.heap.size Y V3 := by rw [hV3]; exact (Below.refl _ _).alloc (Nat.le_refl _) _
        have kw : Blk V3 gw 55 #[.int .i64 x.kind, .string x.id, .int .i64 0, .int .i64 0, .int .i64 0, .int .i64 (-1), .bool x.loop] := by rw [hV3, hgw]; exact Blk.new _ _ _
        have HLP3 := Lib.hid (HLP2.out.below bV3)
        have HKN3 := Lib.hid (HKN2.out.below bV3 lgn2)
        have HKW := Lib.hid kw
        have hgwn : gn ≠ gw := by omega
        have hgww : wB.heap.size ≤ gw := by omega
        have HV3 := Lib.hid hV3.symm
        have HGW := Lib.hid hgw.symm
        have HFL := Lib.hid hfl
        clear hgw hV3 bV3 kw hfl
        go_upto_region 17 with fail
        go_upto_region 18 with fail
        rw [HV3.out, HGW.out]
        clear HV3
        go_wp2_with fail
        have hk3b : (x.kind != 3) = false := by simp [bne, hk3]
        rw [hk3b]
        clear hk3b
        go_loopw [12, 16, 17] (fun mv tv _ wr => ∃ (t k' : Nat) (Aq : Option Addr) (cq : Nat), t ≤ x.flows.length ∧ mv = .slice Aq k' cq ∧ tv = .int .i64 t ∧ Hid (LpW wB nmJ (wantT ps cw.flows x Mi t).2 (i + 1) k' (.slice (some ⟨gA, 0, none⟩) (i + 1) capA) (.slice Aq k' cq) wr) ∧ Hid ((wantT ps cw.flows x Mi t).2.length = k') ∧ Hid (Blk wr gn 55 #[.int .i64 x.kind, .string x.id, .int .i64 na, .int .i64 nb, .int .i64 nm, .int .i64 nr, .bool x.loop]) ∧ Hid (Blk wr gw 55 #[.int .i64 x.kind, .string x.id, .int .i64 (wantT ps cw.flows x Mi t).1.src, .int .i64 (wantT ps cw.flows x Mi t).1.dst, .int .i64 (wantT ps cw.flows x Mi t).1.msg, .int .i64 (wantT ps cw.flows x Mi t).1.reply, .bool x.loop])) (fun _ tv _ _ => x.flows.length - (intOf tv).toNat)
        case atStart => exact ⟨0, k, _, _, Nat.zero_le _, rfl, rfl, Lib.hid (by unfold wantT; exact HLP3.out), Lib.hid (by unfold wantT; exact HK.out), HKN3, Lib.hid (by unfold wantT; exact HKW.out)⟩
        case round =>
          clear HLP3 HKN3 HKW
          obtain ⟨t, k', Aq, cq, ht, rfl, rfl, hQ1, hQ2, hQ3, hQ4⟩ := hrel
          obtain ⟨P, rfl⟩ : ∃ P, P = wr := ⟨_, rfl⟩
          have hbP := hQ1.out.bel
          have hwP := hbP.size
          have p4_ : P.cell? ⟨bL, i * 10 + 4, none⟩ = some (.slice A4 x.flows.length c4) := (hbP.cell (p := ⟨bL, i * 10 + 4, none⟩) hbL).trans l4
          have hfl2 := HFL.out
          by_cases hlt4 : t < x.flows.length
          · have htI : (t : Int) < (x.flows.length : Int) := by omega
            have ht2 : (t : Int) < 2 := by omega
            obtain ⟨A4q, k4q, hv4, _, _, hat4⟩ := rd_at strC_len HH4.out
            injection hv4 with e1 e2 e3
            clear e2
            subst e1
            subst e3
            obtain ⟨b4, vs4, rfl, hb4, _, hvs4, hc4⟩ := hat4 t hlt4
            obtain rfl := rd_strC hvs4
            obtain ⟨fs, hfs⟩ : ∃ y, y = x.flows[t] := ⟨_, rfl⟩
            have hgd : x.flows.getD t ⟨#[]⟩ = fs := by rw [hfs]; simp [List.getD, hlt4]
            rw [← hfs] at hc4
            have p5_ : P.cell? ⟨b4, t, none⟩ = some (.string fs) := (hbP.cell (p := ⟨b4, t, none⟩) hb4).trans (by simpa using hc4 0 (by omega))
            obtain ⟨fx, hfx⟩ : ∃ y, y = lflowF fs cw.flows := ⟨_, rfl⟩
            have hcl := fun (U : World) (hU : Below P.heap.size P U) => lflow_any (.string cw.id) (.slice AP cw.parts.length cP) (.slice AI cw.items.length cI) (.slice AS cw.seqs.length cS) fs (Rd.below hU _ _ (Rd.below hbP _ _ HVF3.out))
            rw [← hfx] at hcl
            have HCL := Lib.hid hcl
            obtain ⟨ms1, hms1⟩ : ∃ l, l = (wantT ps cw.flows x Mi t).2 := ⟨_, rfl⟩
            obtain ⟨sa, hsa⟩ : ∃ n, n = (wantT ps cw.flows x Mi t).1.src := ⟨_, rfl⟩
            obtain ⟨sb, hsb⟩ : ∃ n, n = (wantT ps cw.flows x Mi t).1.dst := ⟨_, rfl⟩
            obtain ⟨sm, hsm⟩ : ∃ n, n = (wantT ps cw.flows x Mi t).1.msg := ⟨_, rfl⟩
            obtain ⟨sr, hsr⟩ : ∃ n, n = (wantT ps cw.flows x Mi t).1.reply := ⟨_, rfl⟩
            rw [← hms1] at hQ1 hQ2
            rw [← hsa, ← hsb, ← hsm, ← hsr] at hQ4
            have hkM : ms1.length ≤ 2002 := by
              have h1 := wantT_msgs ps cw.flows x Mi t
              rw [← hms1] at h1
              omega
            have hk'M : k' ≤ 2002 := by have := hQ2.out; omega
            have HQ1 := Lib.hid hQ1.out
            have HQ2 := Lib.hid hQ2.out
            have HQ3 := Lib.hid hQ3.out
            have HQ4 := Lib.hid hQ4.out
            have HSA := Lib.hid hsa
            have HSB := Lib.hid hsb
            have HSM1 := Lib.hid hsm
            have HSR := Lib.hid hsr
            have HMS1 := Lib.hid hms1
            have HGD := Lib.hid hgd
            have HFX := Lib.hid hfx
            have hPc := hbP
            have g0 : P.cell? ⟨gc, 0, none⟩ = some (.string cw.id) := (hbP.cell (p := ⟨gc, 0, none⟩) lgc3).trans qb0
            have g1 : P.cell? ⟨gc, 1, none⟩ = some (.slice AP cw.parts.length cP) := (hbP.cell (p := ⟨gc, 1, none⟩) lgc3).trans qb1
            have g2 : P.cell? ⟨gc, 2, none⟩ = some (.slice AF cw.flows.length cF) := (hbP.cell (p := ⟨gc, 2, none⟩) lgc3).trans qb2
            have g3 : P.cell? ⟨gc, 3, none⟩ = some (.slice AI cw.items.length cI) := (hbP.cell (p := ⟨gc, 3, none⟩) lgc3).trans qb3
            have g4 : P.cell? ⟨gc, 4, none⟩ = some (.slice AS cw.seqs.length cS) := (hbP.cell (p := ⟨gc, 4, none⟩) lgc3).trans qb4
            have lgcP : gc < P.heap.size := by omega
            have lggP : gg < P.heap.size := by omega
            have hbLP : bL < P.heap.size := by omega
            have hb4P : b4 < P.heap.size := by omega
            clear hQ1 hQ2 hQ3 hQ4 hsa hsb hsm hsr hms1 hgd hfx hfs hcl hat4 hvs4 hc4 hbP hPc
            go_upto_region 21 with fail
            have HY_g := Lib.hid (fun (U : World) (hSw : (fun U => Below P.heap.size P U) U) => And.intro (show U.cell? ⟨gc, 0, none⟩ = some (.string cw.id) from (hSw.cell (p := ⟨gc, 0, none⟩) lgcP).trans g0) (And.intro (show U.cell? ⟨gc, 1, none⟩ = some (.slice AP cw.parts.length cP) from (hSw.cell (p := ⟨gc, 1, none⟩) lgcP).trans g1) (And.intro (show U.cell? ⟨gc, 2, none⟩ = some (.slice AF cw.flows.length cF) from (hSw.cell (p := ⟨gc, 2, none⟩) lgcP).trans g2) (And.intro (show U.cell? ⟨gc, 3, none⟩ = some (.slice AI cw.items.length cI) from (hSw.cell (p := ⟨gc, 3, none⟩) lgcP).trans g3) (And.intro (show U.cell? ⟨gc, 4, none⟩ = some (.slice AS cw.seqs.length cS) from (hSw.cell (p := ⟨gc, 4, none⟩) lgcP).trans g4) (And.intro (show U.cell? ⟨bL, i * 10 + 4, none⟩ = some (.slice (some ⟨b4, 0, none⟩) x.flows.length c4) from (hSw.cell (p := ⟨bL, i * 10 + 4, none⟩) hbLP).trans p4_) ((show U.cell? ⟨b4, t, none⟩ = some (.string fs) from (hSw.cell (p := ⟨b4, t, none⟩) hb4P).trans p5_))))))))
            refine wp_region_HT 11 (fun U => Below P.heap.size P U) (by kernel_rfl) (by decide) ((Below.refl _ _).drew) (fun hHeld => ?_)
            refine ht_take 0 (v := ?vg_1) rfl (by kernel_rfl) (fun _ _ _ h => h) (Or.inl ⟨by rfl, ?hg_1⟩) hHeld ?rg_1
            case hg_1 => ((intro U hSw; obtain ⟨y0, y1, y2, y3, y4, y6, y7⟩ := HY_g.out U hSw; go_simp); (try (with_reducible rfl)))
            try simp only [Act.put, List.setIfInBounds_toArray, List.set_cons_zero, List.set_cons_succ]
            refine ht_take 1 (v := ?vg_2) rfl (by kernel_rfl) (fun _ _ _ h => h) (Or.inl ⟨by rfl, ?hg_2⟩) hHeld ?rg_2
            case hg_2 => ((intro U hSw; obtain ⟨y0, y1, y2, y3, y4, y6, y7⟩ := HY_g.out U hSw; go_simp); (try (with_reducible rfl)))
            try simp only [Act.put, List.setIfInBounds_toArray, List.set_cons_zero, List.set_cons_succ]
            refine ht_take 2 (v := ?vg_3) rfl (by kernel_rfl) (fun _ _ _ h => h) (Or.inl ⟨by rfl, ?hg_3⟩) hHeld ?rg_3
            case hg_3 => ((intro U hSw; obtain ⟨y0, y1, y2, y3, y4, y6, y7⟩ := HY_g.out U hSw; go_simp); (try (with_reducible rfl)))
            try simp only [Act.put, List.setIfInBounds_toArray, List.set_cons_zero, List.set_cons_succ]
            refine ht_take 3 (v := ?vg_4) rfl (by kernel_rfl) (fun _ _ _ h => h) (Or.inl ⟨by rfl, ?hg_4⟩) hHeld ?rg_4
            case hg_4 => ((intro U hSw; obtain ⟨y0, y1, y2, y3, y4, y6, y7⟩ := HY_g.out U hSw; go_simp); (try (with_reducible rfl)))
            try simp only [Act.put, List.setIfInBounds_toArray, List.set_cons_zero, List.set_cons_succ]
            refine ht_take 4 (v := ?vg_5) rfl (by kernel_rfl) (fun _ _ _ h => h) (Or.inl ⟨by rfl, ?hg_5⟩) hHeld ?rg_5
            case hg_5 => ((intro U hSw; obtain ⟨y0, y1, y2, y3, y4, y6, y7⟩ := HY_g.out U hSw; go_simp); (try (with_reducible rfl)))
            try simp only [Act.put, List.setIfInBounds_toArray, List.set_cons_zero, List.set_cons_succ]
            refine ht_take 5 (v := ?vg_6) rfl (by kernel_rfl) (fun _ _ _ h => h) (Or.inl ⟨by rfl, ?hg_6⟩) hHeld ?rg_6
            case hg_6 => ((intro U hSw; obtain ⟨y0, y1, y2, y3, y4, y6, y7⟩ := HY_g.out U hSw; go_simp); (try (with_reducible rfl)))
            try simp only [Act.put, List.setIfInBounds_toArray, List.set_cons_zero, List.set_cons_succ]
            refine ht_take 6 (v := ?vg_7) rfl (by kernel_rfl) (fun _ _ _ h => h) (Or.inl ⟨by rfl, ?hg_7⟩) hHeld ?rg_7
            case hg_7 => ((intro U hSw; obtain ⟨y0, y1, y2, y3, y4, y6, y7⟩ := HY_g.out U hSw; go_simp); (try (with_reducible rfl)))
            try simp only [Act.put, List.setIfInBounds_toArray, List.set_cons_zero, List.set_cons_succ]
            refine ht_take 7 (v := ?vg_8) rfl (by kernel_rfl) (fun _ _ _ h => h) (Or.inl ⟨by rfl, ?hg_8⟩) hHeld ?rg_8
            case hg_8 => ((intro U hSw; obtain ⟨y0, y1, y2, y3, y4, y6, y7⟩ := HY_g.out U hSw; go_simp); (try (with_reducible rfl)))
            try simp only [Act.put, List.setIfInBounds_toArray, List.set_cons_zero, List.set_cons_succ]
            refine ht_take 8 (v := ?vg_9) rfl (by kernel_rfl) (fun _ _ _ h => h) (Or.inl ⟨by rfl, ?hg_9⟩) hHeld ?rg_9
            case hg_9 => ((intro U hSw; obtain ⟨y0, y1, y2, y3, y4, y6, y7⟩ := HY_g.out U hSw; go_simp); (try (with_reducible rfl)))
            try simp only [Act.put, List.setIfInBounds_toArray, List.set_cons_zero, List.set_cons_succ]
            refine wpHT_all [9, 10] (by kernel_rfl) ?_
            refine ht_cons (i := 9) rfl (fun K hK => ?oa) (ht_cons (i := 10) rfl (fun K hK => ?ob) (allHT.nil))
            case' oa =>
              go_simp
              refine (HCL.out _ hHeld).mono ?_
              rintro e w7 ⟨rfl, hb7⟩
              have hb21 := hHeld.trans (hb7.mono hHeld.size)
              go_wp2_with fail
              refine hK.out _ _ (hb21) (fun hHeld => ?_)
              clear hK K
              try simp only [Act.put, List.setIfInBounds_toArray, List.set_cons_zero, List.set_cons_succ]
              refine ht_one 10 rfl (by kernel_rfl) (fun K hK => ?_)
              go_simp
              refine hK.out _ _ (hHeld.alloc hHeld.size _) (fun hHeld => ?_)
              clear hK K
              try simp only [Act.put, List.setIfInBounds_toArray, List.set_cons_zero, List.set_cons_succ]
              refine ht_done (by kernel_rfl) rfl ?_
              clear hHeld
              go_upto_region 22 with fail
              obtain ⟨X, hX⟩ : ∃ X, X = w7.alloc (.cells #[.string fx.id, .string fx.src, .string fx.dst, .string fx.msg] 40) := ⟨_, rfl⟩
              obtain ⟨gx, hgx⟩ : ∃ g, g = w7.heap.size := ⟨_, rfl⟩
              have hbX : Below P.heap.size P X := by rw [hX]; exact hb21.alloc hb21.size _
              have hgxP : P.heap.size ≤ gx := by rw [hgx]; exact hb21.size
              have hkx : Blk X gx 40 #[.string fx.id, .string fx.src, .string fx.dst, .string fx.msg] := by rw [hX, hgx]; exact Blk.new _ _ _
              rw [← hX, ← hgx]
              clear hX hgx hb7 hb21
            case' ob =>
              go_simp
              refine hK.out _ _ (hHeld.alloc hHeld.size _) (fun hHeld => ?_)
              clear hK K
              try simp only [Act.put, List.setIfInBounds_toArray, List.set_cons_zero, List.set_cons_succ]
              refine ht_one 9 rfl (by kernel_rfl) (fun K hK => ?_)
              go_simp
              refine (HCL.out _ hHeld).mono ?_
              rintro e w7 ⟨rfl, hb7⟩
              have hb21 := hHeld.trans (hb7.mono hHeld.size)
              go_wp2_with fail
              refine hK.out _ _ (hb21) (fun hHeld => ?_)
              clear hK K
              try simp only [Act.put, List.setIfInBounds_toArray, List.set_cons_zero, List.set_cons_succ]
              refine ht_done (by kernel_rfl) rfl ?_
              have kz := (Blk.new P.drew 40 #[.string ⟨#[]⟩, .string ⟨#[]⟩, .string ⟨#[]⟩, .string ⟨#[]⟩]).below hb7 (by simp)
              have q0_ : w7.cell? ⟨P.heap.size, 0, none⟩ = some (.string ⟨#[]⟩) := kz.cell 0
              have q1_ : w7.cell? ⟨P.heap.size, 1, none⟩ = some (.string ⟨#[]⟩) := kz.cell 1
              have q2_ : w7.cell? ⟨P.heap.size, 2, none⟩ = some (.string ⟨#[]⟩) := kz.cell 2
              have q3_ : w7.cell? ⟨P.heap.size, 3, none⟩ = some (.string ⟨#[]⟩) := kz.cell 3
              have qf0 : w7.frozen? ⟨P.heap.size, 0, none⟩ = false := kz.frozen 0
              have qf1 : w7.frozen? ⟨P.heap.size, 1, none⟩ = false := kz.frozen 1
              have qf2 : w7.frozen? ⟨P.heap.size, 2, none⟩ = false := kz.frozen 2
              have qf3 : w7.frozen? ⟨P.heap.size, 3, none⟩ = false := kz.frozen 3
              clear hHeld
              go_upto_region 22 with fail
              obtain ⟨X, hX⟩ : ∃ X, X = (((w7.setCell ⟨P.heap.size, 0, none⟩ (.string fx.id)).setCell ⟨P.heap.size, 1, none⟩ (.string fx.src)).setCell ⟨P.heap.size, 2, none⟩ (.string fx.dst)).setCell ⟨P.heap.size, 3, none⟩ (.string fx.msg) := ⟨_, rfl⟩
              obtain ⟨gx, hgx⟩ : ∃ g, g = P.heap.size := ⟨_, rfl⟩
              have hbX : Below P.heap.size P X := by
                rw [hX]
                exact (((hb21.setCell (p := ⟨P.heap.size, 0, none⟩) (Nat.le_refl _) _).setCell (p := ⟨P.heap.size, 1, none⟩) (Nat.le_refl _) _).setCell (p := ⟨P.heap.size, 2, none⟩) (Nat.le_refl _) _).setCell (p := ⟨P.heap.size, 3, none⟩) (Nat.le_refl _) _
              have hgxP : P.heap.size ≤ gx := by omega
              have hkx : Blk X gx 40 #[.string fx.id, .string fx.src, .string fx.dst, .string fx.msg] := by
                rw [hX, hgx]
                exact (((kz.set_ 0 (.string fx.id)).set_ 1 (.string fx.src)).set_ 2 (.string fx.dst)).set_ 3 (.string fx.msg)
              rw [← hX, ← hgx]
              clear hX hgx hb7 hb21 kz q0_ q1_ q2_ q3_ qf0 qf1 qf2 qf3
            all_goals
              have hwX := hbX.size
              have hl5 := HQ1.out.below hbX
              have hn5 := HQ3.out.below hbX HQ3.out.lt
              have hw5 := HQ4.out.below hbX HQ4.out.lt
              have hRm : Rd X (strsD ms1) (.slice Aq k' cq) := rd_texts hl5.om HQ2.out
              have x3_ : X.cell? ⟨gx, 3, none⟩ = some (.string fx.msg) := hkx.cell 3
              have hf5 := lfind_any fx.msg hRm
              have HFD := Lib.hid hf5
              have HL5 := Lib.hid hl5
              have HN5 := Lib.hid hn5
              have HW5 := Lib.hid hw5
              have HX5 := Lib.hid hkx
              clear hl5 hn5 hw5 hkx hRm hf5 HQ1 HQ3 HQ4 HCL p4_ p5_ g0 g1 g2 g3 g4 hbX
              go_wp2_with fail
              refine HFD.out.mono ?_
              rintro e w8 ⟨rfl, rfl⟩
              clear HFD
              by_cases hneg : placeF ms1 fx.msg < 0
              case' pos =>
                have had : addM ms1 fx.msg = ms1 ++ [fx.msg] := by unfold addM; rw [if_pos hneg]
                go_upto_region 23 with fail
                go_wp2_with (at_builtin; refine wpList_append_lies _ rfl (.tmp 173) (.tmp 176) _ rfl wB.heap.size 9 j0 _ 1 16 Try.underlying30 hj0 hy0 hy1 hy2 rfl (by omega) (.slice Aq k' cq) k' (ms1.map .string) rfl (own_below HL5.out.om ((Below.refl _ _).alloc (Nat.le_refl _) _)) ⟨X.heap.size, 0, none⟩ 1 1 [.string fx.msg] rfl rfl (World.news_of_block (cs := #[.string fx.msg]) (t := 9) (fr := (0, 0)) (heap_alloc_new X _)) (by simp [Value.oneCell']) (by omega) (by unfold maxLen; omega) (by omega) (by simp; omega) (X.heap.size + 1) (by simp) ?_)
                intro gB capB Z hown hgrow hat _
                have hl6 := HL5.out.mess hown hgrow hat
                have hn6 := (HN5.out.alloc (.cells #[.string fx.msg] 9)).grown hgrow (Ne.symm (blk_own_ne HL5.out.om HN5.out (by decide)))
                have hw6 := (HW5.out.alloc (.cells #[.string fx.msg] 9)).grown hgrow (Ne.symm (blk_own_ne HL5.out.om HW5.out (by decide)))
                have hx6 := (HX5.out.alloc (.cells #[.string fx.msg] 9)).grown hgrow (Ne.symm (blk_own_ne HL5.out.om HX5.out (by decide)))
                have hk6 : (addM ms1 fx.msg).length = k' + 1 := by rw [had, List.length_append, HQ2.out]; rfl
                rw [← had] at hl6
                clear hown hgrow hat HL5 HN5 HW5 HX5 x3_
                obtain ⟨k6, hk6e⟩ : ∃ m, m = k' + 1 := ⟨_, rfl⟩
                obtain ⟨Am6, hAm6⟩ : ∃ a, a = some (⟨gB, 0, none⟩ : Addr) := ⟨_, rfl⟩
                obtain ⟨cm6, rfl⟩ : ∃ a, a = capB := ⟨_, rfl⟩
                rw [← hk6e, ← hAm6] at hl6
                rw [← hk6e] at hk6
                rw [← hk6e, ← hAm6]
                clear hk6e hAm6
              case' neg =>
                have had : addM ms1 fx.msg = ms1 := by unfold addM; rw [if_neg hneg]
                have hl6 := HL5.out
                have hn6 := HN5.out
                have hw6 := HW5.out
                have hx6 := HX5.out
                have hk6 : (addM ms1 fx.msg).length = k' := by rw [had, HQ2.out]
                rw [← had] at hl6
                clear HL5 HN5 HW5 HX5 x3_
                obtain ⟨Z, rfl⟩ : ∃ W, W = X := ⟨_, rfl⟩
                obtain ⟨k6, rfl⟩ : ∃ m, m = k' := ⟨_, rfl⟩
                obtain ⟨Am6, rfl⟩ : ∃ a, a = Aq := ⟨_, rfl⟩
                obtain ⟨cm6, rfl⟩ : ∃ a, a = cq := ⟨_, rfl⟩
              all_goals
                obtain ⟨ms2, hms2⟩ : ∃ l, l = addM ms1 fx.msg := ⟨_, rfl⟩
                rw [← hms2] at hl6 hk6
                have hRm6 : Rd Z (strsD ms2) (.slice Am6 k6 cm6) := rd_texts hl6.om hk6
                have hfm6 := fun (U : World) (s : ByteArray) (hU : Below Z.heap.size Z U) => lfind_any s (Rd.below hU _ _ hRm6)
                have hfp6 := fun (U : World) (s : ByteArray) (hU : Below Z.heap.size Z U) => lfind_any s (Rd.below hU _ _ (Rd.below hl6.bel _ _ HG3.out))
                have HFM := Lib.hid hfm6
                have HFP := Lib.hid hfp6
                have HMS2 := Lib.hid hms2
                have hbZ := hl6.bel
                have hwZ := hbZ.size
                have z0 : Z.cell? ⟨gg, 0, none⟩ = some (.slice AG cw.parts.length cG) := (hbZ.cell (p := ⟨gg, 0, none⟩) lgg3).trans rb0
                have z1 : Z.cell? ⟨gx, 1, none⟩ = some (.string fx.src) := hx6.cell 1
                have z2 : Z.cell? ⟨gx, 2, none⟩ = some (.string fx.dst) := hx6.cell 2
                have z3 : Z.cell? ⟨gx, 3, none⟩ = some (.string fx.msg) := hx6.cell 3
                have w0_ : Z.cell? ⟨gw, 0, none⟩ = some (.int .i64 x.kind) := hw6.cell 0
                have w1_ : Z.cell? ⟨gw, 1, none⟩ = some (.string x.id) := hw6.cell 1
                have w2_ : Z.cell? ⟨gw, 2, none⟩ = some (.int .i64 sa) := hw6.cell 2
                have w3_ : Z.cell? ⟨gw, 3, none⟩ = some (.int .i64 sb) := hw6.cell 3
                have w4_ : Z.cell? ⟨gw, 4, none⟩ = some (.int .i64 sm) := hw6.cell 4
                have w5_ : Z.cell? ⟨gw, 5, none⟩ = some (.int .i64 sr) := hw6.cell 5
                have w6_ : Z.cell? ⟨gw, 6, none⟩ = some (.bool x.loop) := hw6.cell 6
                have wf2 : Z.frozen? ⟨gw, 2, none⟩ = false := hw6.frozen 2
                have wf3 : Z.frozen? ⟨gw, 3, none⟩ = false := hw6.frozen 3
                have wf4 : Z.frozen? ⟨gw, 4, none⟩ = false := hw6.frozen 4
                have wf5 : Z.frozen? ⟨gw, 5, none⟩ = false := hw6.frozen 5
                have lggZ : gg < Z.heap.size := by omega
                have lgxZ := hx6.lt
                have HL6 := Lib.hid hl6
                have HK6 := Lib.hid hk6
                have HN6 := Lib.hid hn6
                have HW6 := Lib.hid hw6
                clear hl6 hk6 hn6 hw6 hx6 hRm6 hfm6 hfp6 hms2 hbZ had
                by_cases ht0 : t = 0
                · subst ht0
                  go_upto_region 25 with fail
                  have HY_k := Lib.hid (fun (U : World) (hSw : (fun U => Below Z.heap.size Z U) U) => And.intro (show U.cell? ⟨gg, 0, none⟩ = some (.slice AG cw.parts.length cG) from (hSw.cell (p := ⟨gg, 0, none⟩) lggZ).trans z0) (And.intro (show U.cell? ⟨gx, 1, none⟩ = some (.string fx.src) from (hSw.cell (p := ⟨gx, 1, none⟩) lgxZ).trans z1) (And.intro (show U.cell? ⟨gx, 2, none⟩ = some (.string fx.dst) from (hSw.cell (p := ⟨gx, 2, none⟩) lgxZ).trans z2) ((show U.cell? ⟨gx, 3, none⟩ = some (.string fx.msg) from (hSw.cell (p := ⟨gx, 3, none⟩) lgxZ).trans z3)))))
                  refine wp_region_HT 15 (fun U => Below Z.heap.size Z U) (by kernel_rfl) (by decide) ((Below.refl _ _).drew) (fun hHeld => ?_)
                  refine ht_take 0 (v := ?_) rfl (by kernel_rfl) (fun _ _ _ h => h) (Or.inl ⟨by rfl, ?_⟩) hHeld ?_
                  any_goals (first | ((intro U hSw; obtain ⟨y0, y1, y2, y3⟩ := HY_k.out U hSw; go_simp); (try (with_reducible rfl)); done) | skip)
                  try simp only [Act.put, List.setIfInBounds_toArray, List.set_cons_zero, List.set_cons_succ]
                  refine ht_take 1 (v := ?_) rfl (by kernel_rfl) (fun _ _ _ h => h) (Or.inl ⟨by rfl, ?_⟩) hHeld ?_
                  any_goals (first | ((intro U hSw; obtain ⟨y0, y1, y2, y3⟩ := HY_k.out U hSw; go_simp); (try (with_reducible rfl)); done) | skip)
                  try simp only [Act.put, List.setIfInBounds_toArray, List.set_cons_zero, List.set_cons_succ]
                  refine ht_take 2 (v := ?_) rfl (by kernel_rfl) (fun _ _ _ h => h) (Or.inl ⟨by rfl, ?_⟩) hHeld ?_
                  any_goals (first | ((intro U hSw; obtain ⟨y0, y1, y2, y3⟩ := HY_k.out U hSw; go_simp); (try (with_reducible rfl)); done) | skip)
                  try simp only [Act.put, List.setIfInBounds_toArray, List.set_cons_zero, List.set_cons_succ]
                  refine ht_take 3 (v := ?_) rfl (by kernel_rfl) (fun _ _ _ h => h) (Or.inl ⟨by rfl, ?_⟩) hHeld ?_
                  any_goals (first | ((intro U hSw; obtain ⟨y0, y1, y2, y3⟩ := HY_k.out U hSw; go_simp); (try (with_reducible rfl)); done) | skip)
                  try simp only [Act.put, List.setIfInBounds_toArray, List.set_cons_zero, List.set_cons_succ]
                  refine ht_take 5 (v := ?_) rfl (by kernel_rfl) (fun _ _ _ h => h) (Or.inl ⟨by rfl, ?_⟩) hHeld ?_
                  any_goals (first | ((intro U hSw; obtain ⟨y0, y1, y2, y3⟩ := HY_k.out U hSw; go_simp); (try (with_reducible rfl)); done) | skip)
                  try simp only [Act.put, List.setIfInBounds_toArray, List.set_cons_zero, List.set_cons_succ]
                  refine ht_take 6 (v := ?_) rfl (by kernel_rfl) (fun _ _ _ h => h) (Or.inl ⟨by rfl, ?_⟩) hHeld ?_
                  any_goals (first | ((intro U hSw; obtain ⟨y0, y1, y2, y3⟩ := HY_k.out U hSw; go_simp); (try (with_reducible rfl)); done) | skip)
                  try simp only [Act.put, List.setIfInBounds_toArray, List.set_cons_zero, List.set_cons_succ]
                  refine ht_take 7 (v := ?_) rfl (by kernel_rfl) (fun _ _ _ h => h) (Or.inl ⟨by rfl, ?_⟩) hHeld ?_
                  any_goals (first | ((intro U hSw; obtain ⟨y0, y1, y2, y3⟩ := HY_k.out U hSw; go_simp); (try (with_reducible rfl)); done) | skip)
                  try simp only [Act.put, List.setIfInBounds_toArray, List.set_cons_zero, List.set_cons_succ]
                  refine ht_take 8 (v := ?_) rfl (by kernel_rfl) (fun _ _ _ h => h) (Or.inl ⟨by rfl, ?_⟩) hHeld ?_
                  any_goals (first | ((intro U hSw; obtain ⟨y0, y1, y2, y3⟩ := HY_k.out U hSw; go_simp); (try (with_reducible rfl)); done) | skip)
                  try simp only [Act.put, List.setIfInBounds_toArray, List.set_cons_zero, List.set_cons_succ]
                  refine ht_take 10 (v := ?_) rfl (by kernel_rfl) (fun _ _ _ h => h) (Or.inl ⟨by rfl, ?_⟩) hHeld ?_
                  any_goals (first | ((intro U hSw; obtain ⟨y0, y1, y2, y3⟩ := HY_k.out U hSw; go_simp); (try (with_reducible rfl)); done) | skip)
                  try simp only [Act.put, List.setIfInBounds_toArray, List.set_cons_zero, List.set_cons_succ]
                  refine ht_take 11 (v := ?_) rfl (by kernel_rfl) (fun _ _ _ h => h) (Or.inl ⟨by rfl, ?_⟩) hHeld ?_
                  any_goals (first | ((intro U hSw; obtain ⟨y0, y1, y2, y3⟩ := HY_k.out U hSw; go_simp); (try (with_reducible rfl)); done) | skip)
                  try simp only [Act.put, List.setIfInBounds_toArray, List.set_cons_zero, List.set_cons_succ]
                  refine ht_take 12 (v := ?_) rfl (by kernel_rfl) (fun _ _ _ h => h) (Or.inl ⟨by rfl, ?_⟩) hHeld ?_
                  any_goals (first | ((intro U hSw; obtain ⟨y0, y1, y2, y3⟩ := HY_k.out U hSw; go_simp); (try (with_reducible rfl)); done) | skip)
                  try simp only [Act.put, List.setIfInBounds_toArray, List.set_cons_zero, List.set_cons_succ]
                  refine ht_one 4 rfl (by kernel_rfl) (fun K hK => ?_)
                  go_simp
                  refine (HFP.out _ fx.src hHeld).mono ?_
                  rintro e w9 ⟨rfl, rfl⟩
                  go_wp2_with fail
                  refine hK.out _ _ (hHeld) (fun hHeld => ?_)
                  clear hK K
                  try simp only [Act.put, List.setIfInBounds_toArray, List.set_cons_zero, List.set_cons_succ]
                  refine ht_take 14 (v := ?_) rfl (by kernel_rfl) (fun _ _ _ h => h) (Or.inl ⟨by rfl, ?_⟩) hHeld ?_
                  any_goals (first | ((intro U hSw; obtain ⟨y0, y1, y2, y3⟩ := HY_k.out U hSw; go_simp); (try (with_reducible rfl)); done) | skip)
                  try simp only [Act.put, List.setIfInBounds_toArray, List.set_cons_zero, List.set_cons_succ]
                  refine ht_one 9 rfl (by kernel_rfl) (fun K hK => ?_)
                  go_simp
                  refine (HFP.out _ fx.dst hHeld).mono ?_
                  rintro e w9 ⟨rfl, rfl⟩
                  go_wp2_with fail
                  refine hK.out _ _ (hHeld) (fun hHeld => ?_)
                  clear hK K
                  try simp only [Act.put, List.setIfInBounds_toArray, List.set_cons_zero, List.set_cons_succ]
                  refine ht_one 13 rfl (by kernel_rfl) (fun K hK => ?_)
                  go_simp
                  refine (HFM.out _ fx.msg hHeld).mono ?_
                  rintro e w9 ⟨rfl, rfl⟩
                  go_wp2_with fail
                  refine hK.out _ _ (hHeld) (fun hHeld => ?_)
                  clear hK K
                  try simp only [Act.put, List.setIfInBounds_toArray, List.set_cons_zero, List.set_cons_succ]
                  refine ht_done (by kernel_rfl) rfl ?_
                  clear hHeld
                  go_wp2_with fail
                  have ky1 := (Blk.drew HW6.out).set_ 2 (.int .i64 (placeF ps fx.src))
                  have ky2 := ky1.set_ 3 (.int .i64 (placeF ps fx.dst))
                  have ky3 := ky2.set_ 4 (.int .i64 (placeF ms2 fx.msg))
                  have kl0 := HL6.out.below (Below.refl Z.heap.size Z).drew
                  have kl1 := kl0.set_ (Blk.drew HW6.out) (by decide) hgww 2 (.int .i64 (placeF ps fx.src))
                  have kl2 := kl1.set_ ky1 (by decide) hgww 3 (.int .i64 (placeF ps fx.dst))
                  have kl3 := kl2.set_ ky2 (by decide) hgww 4 (.int .i64 (placeF ms2 fx.msg))
                  have kn1 := (Blk.drew HN6.out).far (p := ⟨gw, 2, none⟩) hgwn (.int .i64 (placeF ps fx.src))
                  have kn2 := kn1.far (p := ⟨gw, 3, none⟩) hgwn (.int .i64 (placeF ps fx.dst))
                  have kn3 := kn2.far (p := ⟨gw, 4, none⟩) hgwn (.int .i64 (placeF ms2 fx.msg))
                  have hW1 : wantT ps cw.flows x Mi (0 + 1) = (⟨x.kind, x.id, placeF ps fx.src, placeF ps fx.dst, placeF ms2 fx.msg, sr, x.loop⟩, ms2) := by rw [wantT, if_pos rfl, HGD.out, ← HFX.out, ← HMS1.out, ← HSR.out, ← HMS2.out]
                  go_roundw
                  case rel => exact ⟨0 + 1, k6, Am6, cm6, by omega, rfl, (by first | rfl | go_num), Lib.hid (by rw [hW1]; exact kl3), Lib.hid (by rw [hW1]; exact HK6.out), Lib.hid kn3, Lib.hid (by rw [hW1]; exact ky3)⟩
                  case measure => simp [intOf]; omega
                · obtain rfl : t = 1 := by omega
                  go_upto_region 26 with fail
                  go_wp2_with fail
                  refine (HFM.out _ fx.msg (Below.refl _ _)).mono ?_
                  rintro e w9 ⟨rfl, rfl⟩
                  go_wp2_with fail
                  have ky1 := HW6.out.set_ 5 (.int .i64 (placeF ms2 fx.msg))
                  have kl1 := HL6.out.set_ HW6.out (by decide) hgww 5 (.int .i64 (placeF ms2 fx.msg))
                  have kn1 := HN6.out.far (p := ⟨gw, 5, none⟩) hgwn (.int .i64 (placeF ms2 fx.msg))
                  have hW1 : wantT ps cw.flows x Mi (1 + 1) = (⟨x.kind, x.id, sa, sb, sm, placeF ms2 fx.msg, x.loop⟩, ms2) := by rw [wantT, if_neg (by decide), HGD.out, ← HFX.out, ← HMS1.out, ← HSA.out, ← HSB.out, ← HSM1.out, ← HMS2.out]
                  go_roundw
                  case rel => exact ⟨1 + 1, k6, Am6, cm6, by omega, rfl, (by first | rfl | go_num), Lib.hid (by rw [hW1]; exact kl1), Lib.hid (by rw [hW1]; exact HK6.out), Lib.hid kn1, Lib.hid (by rw [hW1]; exact ky1)⟩
                  case measure => simp [intOf]; omega
          · have htn : t = x.flows.length := by omega
            subst htn
            have e3 := HW3.out
            rw [e3] at hQ1 hQ2 hQ4
            rw [← HN1.out] at hQ4
            rw [← HNA.out, ← HNB.out, ← HNMM.out, ← HNR.out] at hQ4
            have u0_ : P.cell? ⟨gn, 0, none⟩ = some (.int .i64 x.kind) := hQ3.out.cell 0
            have u1_ : P.cell? ⟨gn, 1, none⟩ = some (.string x.id) := hQ3.out.cell 1
            have u2_ : P.cell? ⟨gn, 2, none⟩ = some (.int .i64 na) := hQ3.out.cell 2
            have u3_ : P.cell? ⟨gn, 3, none⟩ = some (.int .i64 nb) := hQ3.out.cell 3
            have u4_ : P.cell? ⟨gn, 4, none⟩ = some (.int .i64 nm) := hQ3.out.cell 4
            have u5_ : P.cell? ⟨gn, 5, none⟩ = some (.int .i64 nr) := hQ3.out.cell 5
            have u6_ : P.cell? ⟨gn, 6, none⟩ = some (.bool x.loop) := hQ3.out.cell 6
            have v0_ : P.cell? ⟨gw, 0, none⟩ = some (.int .i64 x.kind) := hQ4.out.cell 0
            have v1_ : P.cell? ⟨gw, 1, none⟩ = some (.string x.id) := hQ4.out.cell 1
            have v2_ : P.cell? ⟨gw, 2, none⟩ = some (.int .i64 na) := hQ4.out.cell 2
            have v3_ : P.cell? ⟨gw, 3, none⟩ = some (.int .i64 nb) := hQ4.out.cell 3
            have v4_ : P.cell? ⟨gw, 4, none⟩ = some (.int .i64 nm) := hQ4.out.cell 4
            have v5_ : P.cell? ⟨gw, 5, none⟩ = some (.int .i64 nr) := hQ4.out.cell 5
            have v6_ : P.cell? ⟨gw, 6, none⟩ = some (.bool x.loop) := hQ4.out.cell 6
            have HQ1 := Lib.hid hQ1.out
            have HQ2 := Lib.hid hQ2.out
            clear hQ1 hQ2 hQ3 hQ4 e3 hbP hfl2
            go_upto_region 27 with fail
            go_wp2_with fail
            go_roundw
            case rel => exact ⟨i + 1, k', some ⟨gA, 0, none⟩, capA, Aq, cq, by omega, by go_num, rfl, rfl, Lib.hid (by rw [HN2.out, ← HNMJ.out]; exact HQ1.out), Lib.hid (by rw [HN2.out]; exact HQ2.out)⟩
            case measure => simp [intOf]; omega
      · have hk3 : (x.kind == 3) = false := by simp [h3]
        obtain ⟨g1, g2, g3, g4, g5⟩ := HF5.out h3
        rw [← HNA.out] at g1
        rw [← HNB.out] at g2
        rw [← HNMM.out] at g3
        rw [← HNR.out] at g4
        subst g1 g2 g3 g4
        have hM2 : (nodesOf ps cw.flows (L.take (i + 1)) []).2 = Mi := by rw [HN2.out, g5]
        have HM2 := Lib.hid hM2
        clear h3 g5 hM2
        go_wp2_with fail
        go_roundw
        case rel => exact ⟨i + 1, k, some ⟨gA, 0, none⟩, capA, Am, cm, by omega, by go_num, rfl, rfl, Lib.hid (by rw [HM2.out, ← HNMJ.out]; exact HLP2.out), Lib.hid (by rw [HM2.out]; exact HK.out)⟩
        case measure => simp [intOf]; omega
    · have hil : i = nL := by omega
      subst hil
      have hLl : L.take i = L := by rw [HNLL.out]; exact List.take_length
      rw [hLl] at hLP hK
      obtain ⟨nm, hnm⟩ : ∃ l, l = L.map (·.id) := ⟨_, rfl⟩
      rw [← hnm] at hLP
      have hbV := hLP.out.bel
      have hwV := hbV.size
      have hnmn : nm.length = i := by rw [hnm, HNLL.out]; simp
      have hRn : Rd V (strsD nm) (.slice An i cn) := rd_texts hLP.out.on hnmn
      have hRm : Rd V (strsD s.msgs) (.slice Am k cm) := rd_texts (by rw [HSM.out]; exact hLP.out.om) (by rw [HSM.out]; exact hK.out)
      have hRg : Rd V (strsD s.msgs) (.slice AM nM cM) := Rd.below hbV _ _ HM3.out
      have hPr : Rd V (datS 86 2 pairC Es) (.slice AQ nE cQ) := Rd.below hbV _ _ (by
        have e := HNE.out
        have h := own_mono HEW.out.own (Nat.zero_le _)
        subst e
        exact rd_sl.2 ⟨_, _, _, rfl, h, pairs_rdl Es⟩)
      have hEr := Rd.below hbV _ _ HE3.out
      obtain ⟨AE2, kE, hvE, _, _, hatE⟩ := rd_at edgeC_len hEr
      injection hvE with e1 e2 e3
      clear e2
      subst e1
      subst e3
      obtain ⟨AQ2, kQ, hvQ, _, _, hatQ⟩ := rd_at pairC_len hPr
      injection hvQ with e1 e2 e3
      clear e2
      subst e1
      subst e3
      have HFN := Lib.hid (fun (U : World) (t : ByteArray) (hU : Below V.heap.size V U) => lfind_any t (Rd.below hU _ _ hRn))
      have HST := Lib.hid (fun (U : World) (hU : Below V.heap.size V U) => same_texts (Rd.below hU _ _ hRg) (Rd.below hU _ _ hRm))
      have r3V : V.cell? ⟨gg, 3, none⟩ = some (.slice AE nE cE) := (hbV.cell (p := ⟨gg, 3, none⟩) lgg3).trans rb3
      have r1V : V.cell? ⟨gg, 1, none⟩ = some (.slice AM nM cM) := (hbV.cell (p := ⟨gg, 1, none⟩) lgg3).trans rb1
      have lggV : gg < V.heap.size := by omega
      have HAE := Lib.hid hatE
      have HAQ := Lib.hid hatQ
      have HNM2 := Lib.hid hnm
      have HBV := Lib.hid (HBB.out.trans (hbV.mono HBB.out.size))
      clear hLl hLP hK hnm hbV hRn hRm hRg hPr hEr hatE hatQ hnmn
      go_upto_region 29 with fail
      go_wp2_with fail
      go_loopw [18] (fun iv wr => ∃ j : Nat, j ≤ nE ∧ iv = .int .i64 j ∧ Below V.heap.size V wr) (fun iv _ => nE - (intOf iv).toNat)
      case atStart => exact ⟨0, Nat.zero_le _, rfl, Below.refl _ _⟩
      case round =>
        obtain ⟨j, hj, rfl, hbw⟩ := hrel
        by_cases hlt : j < nE
        · have hltE : j < Es.length := by have := HNE.out; omega
          have hltS : j < s.edges.length := by have := HEL.out; omega
          obtain ⟨BE, vsE, rfl, hbE, _, hvsE, hcE⟩ := HAE.out j hltS
          obtain ⟨BQ, vsQ, rfl, hbQ, _, hvsQ, hcQ⟩ := HAQ.out j hltE
          have hse : s.edges[j] = (placeF nm Es[j].1, placeF nm Es[j].2) := by
            have h := HEAT.out j hltE
            rw [List.getElem?_eq_getElem hltS] at h
            injection h with h
            rw [h, HNM2.out]
          rw [hse] at hvsE
          have hvE := rd_edgeC hvsE
          have hvQ := rd_pairC hvsQ
          subst hvE
          subst hvQ
          obtain ⟨pa, hpa⟩ : ∃ x, x = Es[j].1 := ⟨_, rfl⟩
          obtain ⟨pb, hpb⟩ : ∃ x, x = Es[j].2 := ⟨_, rfl⟩
          rw [← hpa, ← hpb] at hcE hcQ
          have c0 : V.cell? ⟨BE, j * 2, none⟩ = some (.int .i64 (placeF nm pa)) := hcE 0 (by omega)
          have c1 : V.cell? ⟨BE, j * 2 + 1, none⟩ = some (.int .i64 (placeF nm pb)) := hcE 1 (by omega)
          have d0 : V.cell? ⟨BQ, j * 2, none⟩ = some (.string pa) := hcQ 0 (by omega)
          have d1 : V.cell? ⟨BQ, j * 2 + 1, none⟩ = some (.string pb) := hcQ 1 (by omega)
          have hjI : (j : Int) < (nE : Int) := by omega
          clear hse hvsE hvsQ hcE hcQ hpa hpb
          go_upto_region 32 with fail
          have HY_f := Lib.hid (fun (U : World) (hSw : (fun U => Below V.heap.size V U) U) => And.intro (show U.cell? ⟨gg, 3, none⟩ = some (.slice (some ⟨BE, 0, none⟩) nE cE) from (hSw.cell (p := ⟨gg, 3, none⟩) lggV).trans r3V) (And.intro (show U.cell? ⟨BE, j * 2, none⟩ = some (.int .i64 (placeF nm pa)) from (hSw.cell (p := ⟨BE, j * 2, none⟩) hbE).trans c0) (And.intro (show U.cell? ⟨BE, j * 2 + 1, none⟩ = some (.int .i64 (placeF nm pb)) from (hSw.cell (p := ⟨BE, j * 2 + 1, none⟩) hbE).trans c1) (And.intro (show U.cell? ⟨BQ, j * 2, none⟩ = some (.string pa) from (hSw.cell (p := ⟨BQ, j * 2, none⟩) hbQ).trans d0) ((show U.cell? ⟨BQ, j * 2 + 1, none⟩ = some (.string pb) from (hSw.cell (p := ⟨BQ, j * 2 + 1, none⟩) hbQ).trans d1))))))
          refine wp_region_HT 29 (fun U => Below V.heap.size V U) (by kernel_rfl) (by decide) (hbw.drew) (fun hHeld => ?_)
          refine ht_take 0 (v := ?vf_1) rfl (by kernel_rfl) (fun _ _ _ h => h) (Or.inl ⟨by rfl, ?hf_1⟩) hHeld ?rf_1
          case hf_1 => ((intro U hSw; obtain ⟨z3, z0, z1, z4, z5⟩ := HY_f.out U hSw; go_simp); (try (with_reducible rfl)))
          try simp only [Act.put, List.setIfInBounds_toArray, List.set_cons_zero, List.set_cons_succ]
          refine ht_take 1 (v := ?vf_2) rfl (by kernel_rfl) (fun _ _ _ h => h) (Or.inl ⟨by rfl, ?hf_2⟩) hHeld ?rf_2
          case hf_2 => ((intro U hSw; obtain ⟨z3, z0, z1, z4, z5⟩ := HY_f.out U hSw; go_simp); (try (with_reducible rfl)))
          try simp only [Act.put, List.setIfInBounds_toArray, List.set_cons_zero, List.set_cons_succ]
          refine ht_take 2 (v := ?vf_3) rfl (by kernel_rfl) (fun _ _ _ h => h) (Or.inl ⟨by rfl, ?hf_3⟩) hHeld ?rf_3
          case hf_3 => ((intro U hSw; obtain ⟨z3, z0, z1, z4, z5⟩ := HY_f.out U hSw; go_simp); (try (with_reducible rfl)))
          try simp only [Act.put, List.setIfInBounds_toArray, List.set_cons_zero, List.set_cons_succ]
          refine ht_take 3 (v := ?vf_4) rfl (by kernel_rfl) (fun _ _ _ h => h) (Or.inl ⟨by rfl, ?hf_4⟩) hHeld ?rf_4
          case hf_4 => ((intro U hSw; obtain ⟨z3, z0, z1, z4, z5⟩ := HY_f.out U hSw; go_simp); (try (with_reducible rfl)))
          try simp only [Act.put, List.setIfInBounds_toArray, List.set_cons_zero, List.set_cons_succ]
          refine ht_take 4 (v := ?vf_5) rfl (by kernel_rfl) (fun _ _ _ h => h) (Or.inl ⟨by rfl, ?hf_5⟩) hHeld ?rf_5
          case hf_5 => ((intro U hSw; obtain ⟨z3, z0, z1, z4, z5⟩ := HY_f.out U hSw; go_simp); (try (with_reducible rfl)))
          try simp only [Act.put, List.setIfInBounds_toArray, List.set_cons_zero, List.set_cons_succ]
          refine ht_take 5 (v := ?vf_6) rfl (by kernel_rfl) (fun _ _ _ h => h) (Or.inl ⟨by rfl, ?hf_6⟩) hHeld ?rf_6
          case hf_6 => ((intro U hSw; obtain ⟨z3, z0, z1, z4, z5⟩ := HY_f.out U hSw; go_simp); (try (with_reducible rfl)))
          try simp only [Act.put, List.setIfInBounds_toArray, List.set_cons_zero, List.set_cons_succ]
          refine ht_take 6 (v := ?vf_7) rfl (by kernel_rfl) (fun _ _ _ h => h) (Or.inl ⟨by rfl, ?hf_7⟩) hHeld ?rf_7
          case hf_7 => ((intro U hSw; obtain ⟨z3, z0, z1, z4, z5⟩ := HY_f.out U hSw; go_simp); (try (with_reducible rfl)))
          try simp only [Act.put, List.setIfInBounds_toArray, List.set_cons_zero, List.set_cons_succ]
          refine ht_take 7 (v := ?vf_8) rfl (by kernel_rfl) (fun _ _ _ h => h) (Or.inl ⟨by rfl, ?hf_8⟩) hHeld ?rf_8
          case hf_8 => ((intro U hSw; obtain ⟨z3, z0, z1, z4, z5⟩ := HY_f.out U hSw; go_simp); (try (with_reducible rfl)))
          try simp only [Act.put, List.setIfInBounds_toArray, List.set_cons_zero, List.set_cons_succ]
          refine ht_take 8 (v := ?vf_9) rfl (by kernel_rfl) (fun _ _ _ h => h) (Or.inl ⟨by rfl, ?hf_9⟩) hHeld ?rf_9
          case hf_9 => ((intro U hSw; obtain ⟨z3, z0, z1, z4, z5⟩ := HY_f.out U hSw; go_simp); (try (with_reducible rfl)))
          try simp only [Act.put, List.setIfInBounds_toArray, List.set_cons_zero, List.set_cons_succ]
          refine ht_take 9 (v := ?vf_10) rfl (by kernel_rfl) (fun _ _ _ h => h) (Or.inl ⟨by rfl, ?hf_10⟩) hHeld ?rf_10
          case hf_10 => ((intro U hSw; obtain ⟨z3, z0, z1, z4, z5⟩ := HY_f.out U hSw; go_simp); (try (with_reducible rfl)))
          try simp only [Act.put, List.setIfInBounds_toArray, List.set_cons_zero, List.set_cons_succ]
          refine ht_take 10 (v := ?vf_11) rfl (by kernel_rfl) (fun _ _ _ h => h) (Or.inl ⟨by rfl, ?hf_11⟩) hHeld ?rf_11
          case hf_11 => ((intro U hSw; obtain ⟨z3, z0, z1, z4, z5⟩ := HY_f.out U hSw; go_simp); (try (with_reducible rfl)))
          try simp only [Act.put, List.setIfInBounds_toArray, List.set_cons_zero, List.set_cons_succ]
          refine ht_take 11 (v := ?vf_12) rfl (by kernel_rfl) (fun _ _ _ h => h) (Or.inl ⟨by rfl, ?hf_12⟩) hHeld ?rf_12
          case hf_12 => ((intro U hSw; obtain ⟨z3, z0, z1, z4, z5⟩ := HY_f.out U hSw; go_simp); (try (with_reducible rfl)))
          try simp only [Act.put, List.setIfInBounds_toArray, List.set_cons_zero, List.set_cons_succ]
          refine ht_one 12 rfl (by kernel_rfl) (fun K hK => ?_)
          go_simp
          refine (HFN.out _ pa hHeld).mono ?_
          rintro e w2 ⟨rfl, rfl⟩
          go_wp2_with fail
          refine hK.out _ _ (hHeld) (fun hHeld => ?_)
          clear hK K
          try simp only [Act.put, List.setIfInBounds_toArray, List.set_cons_zero, List.set_cons_succ]
          refine ht_take 13 (v := ?vf_13) rfl (by kernel_rfl) (fun _ _ _ h => h) (Or.inl ⟨by rfl, ?hf_13⟩) hHeld ?rf_13
          case hf_13 => ((intro U hSw; obtain ⟨z3, z0, z1, z4, z5⟩ := HY_f.out U hSw; go_simp); (try (with_reducible rfl)))
          try simp only [Act.put, List.setIfInBounds_toArray, List.set_cons_zero, List.set_cons_succ]
          refine ht_take 14 (v := ?vf_14) rfl (by kernel_rfl) (fun _ _ _ h => h) (Or.inl ⟨by rfl, ?hf_14⟩) hHeld ?rf_14
          case hf_14 => ((intro U hSw; obtain ⟨z3, z0, z1, z4, z5⟩ := HY_f.out U hSw; go_simp); (try (with_reducible rfl)))
          try simp only [Act.put, List.setIfInBounds_toArray, List.set_cons_zero, List.set_cons_succ]
          refine ht_take 15 (v := ?vf_15) rfl (by kernel_rfl) (fun _ _ _ h => h) (Or.inl ⟨by rfl, ?hf_15⟩) hHeld ?rf_15
          case hf_15 => ((intro U hSw; obtain ⟨z3, z0, z1, z4, z5⟩ := HY_f.out U hSw; go_simp); (try (with_reducible rfl)))
          try simp only [Act.put, List.setIfInBounds_toArray, List.set_cons_zero, List.set_cons_succ]
          refine ht_take 16 (v := ?vf_16) rfl (by kernel_rfl) (fun _ _ _ h => h) (Or.inl ⟨by rfl, ?hf_16⟩) hHeld ?rf_16
          case hf_16 => ((intro U hSw; obtain ⟨z3, z0, z1, z4, z5⟩ := HY_f.out U hSw; go_simp); (try (with_reducible rfl)))
          try simp only [Act.put, List.setIfInBounds_toArray, List.set_cons_zero, List.set_cons_succ]
          refine ht_take 17 (v := ?vf_17) rfl (by kernel_rfl) (fun _ _ _ h => h) (Or.inl ⟨by rfl, ?hf_17⟩) hHeld ?rf_17
          case hf_17 => ((intro U hSw; obtain ⟨z3, z0, z1, z4, z5⟩ := HY_f.out U hSw; go_simp); (try (with_reducible rfl)))
          try simp only [Act.put, List.setIfInBounds_toArray, List.set_cons_zero, List.set_cons_succ]
          refine ht_take 18 (v := ?vf_18) rfl (by kernel_rfl) (fun _ _ _ h => h) (Or.inl ⟨by rfl, ?hf_18⟩) hHeld ?rf_18
          case hf_18 => ((intro U hSw; obtain ⟨z3, z0, z1, z4, z5⟩ := HY_f.out U hSw; go_simp); (try (with_reducible rfl)))
          try simp only [Act.put, List.setIfInBounds_toArray, List.set_cons_zero, List.set_cons_succ]
          refine ht_take 19 (v := ?vf_19) rfl (by kernel_rfl) (fun _ _ _ h => h) (Or.inl ⟨by rfl, ?hf_19⟩) hHeld ?rf_19
          case hf_19 => ((intro U hSw; obtain ⟨z3, z0, z1, z4, z5⟩ := HY_f.out U hSw; go_simp); (try (with_reducible rfl)))
          try simp only [Act.put, List.setIfInBounds_toArray, List.set_cons_zero, List.set_cons_succ]
          refine ht_take 20 (v := ?vf_20) rfl (by kernel_rfl) (fun _ _ _ h => h) (Or.inl ⟨by rfl, ?hf_20⟩) hHeld ?rf_20
          case hf_20 => ((intro U hSw; obtain ⟨z3, z0, z1, z4, z5⟩ := HY_f.out U hSw; go_simp); (try (with_reducible rfl)))
          try simp only [Act.put, List.setIfInBounds_toArray, List.set_cons_zero, List.set_cons_succ]
          refine ht_take 21 (v := ?vf_21) rfl (by kernel_rfl) (fun _ _ _ h => h) (Or.inl ⟨by rfl, ?hf_21⟩) hHeld ?rf_21
          case hf_21 => ((intro U hSw; obtain ⟨z3, z0, z1, z4, z5⟩ := HY_f.out U hSw; go_simp); (try (with_reducible rfl)))
          try simp only [Act.put, List.setIfInBounds_toArray, List.set_cons_zero, List.set_cons_succ]
          refine ht_take 22 (v := ?vf_22) rfl (by kernel_rfl) (fun _ _ _ h => h) (Or.inl ⟨by rfl, ?hf_22⟩) hHeld ?rf_22
          case hf_22 => ((intro U hSw; obtain ⟨z3, z0, z1, z4, z5⟩ := HY_f.out U hSw; go_simp); (try (with_reducible rfl)))
          try simp only [Act.put, List.setIfInBounds_toArray, List.set_cons_zero, List.set_cons_succ]
          refine ht_take 23 (v := ?vf_23) rfl (by kernel_rfl) (fun _ _ _ h => h) (Or.inl ⟨by rfl, ?hf_23⟩) hHeld ?rf_23
          case hf_23 => ((intro U hSw; obtain ⟨z3, z0, z1, z4, z5⟩ := HY_f.out U hSw; go_simp); (try (with_reducible rfl)))
          try simp only [Act.put, List.setIfInBounds_toArray, List.set_cons_zero, List.set_cons_succ]
          refine ht_take 24 (v := ?vf_24) rfl (by kernel_rfl) (fun _ _ _ h => h) (Or.inl ⟨by rfl, ?hf_24⟩) hHeld ?rf_24
          case hf_24 => ((intro U hSw; obtain ⟨z3, z0, z1, z4, z5⟩ := HY_f.out U hSw; go_simp); (try (with_reducible rfl)))
          try simp only [Act.put, List.setIfInBounds_toArray, List.set_cons_zero, List.set_cons_succ]
          refine ht_take 25 (v := ?vf_25) rfl (by kernel_rfl) (fun _ _ _ h => h) (Or.inl ⟨by rfl, ?hf_25⟩) hHeld ?rf_25
          case hf_25 => ((intro U hSw; obtain ⟨z3, z0, z1, z4, z5⟩ := HY_f.out U hSw; go_simp); (try (with_reducible rfl)))
          try simp only [Act.put, List.setIfInBounds_toArray, List.set_cons_zero, List.set_cons_succ]
          refine ht_take 26 (v := ?vf_26) rfl (by kernel_rfl) (fun _ _ _ h => h) (Or.inl ⟨by rfl, ?hf_26⟩) hHeld ?rf_26
          case hf_26 => ((intro U hSw; obtain ⟨z3, z0, z1, z4, z5⟩ := HY_f.out U hSw; go_simp); (try (with_reducible rfl)))
          try simp only [Act.put, List.setIfInBounds_toArray, List.set_cons_zero, List.set_cons_succ]
          refine ht_one 27 rfl (by kernel_rfl) (fun K hK => ?_)
          go_simp
          refine (HFN.out _ pb hHeld).mono ?_
          rintro e w2 ⟨rfl, rfl⟩
          go_wp2_with fail
          refine hK.out _ _ (hHeld) (fun hHeld => ?_)
          clear hK K
          try simp only [Act.put, List.setIfInBounds_toArray, List.set_cons_zero, List.set_cons_succ]
          refine ht_take 28 (v := ?vf_27) rfl (by kernel_rfl) (fun _ _ _ h => h) (Or.inl ⟨by rfl, ?hf_27⟩) hHeld ?rf_27
          case hf_27 => ((intro U hSw; obtain ⟨z3, z0, z1, z4, z5⟩ := HY_f.out U hSw; go_simp); (try (with_reducible rfl)))
          try simp only [Act.put, List.setIfInBounds_toArray, List.set_cons_zero, List.set_cons_succ]
          refine ht_done (by kernel_rfl) rfl ?_
          go_wp2_with fail
          go_roundw
          case rel => exact ⟨j + 1, by omega, by go_num, hHeld⟩
          case measure => simp [intOf]; omega
        · have hjn : j = nE := by omega
          subst hjn
          have hwS := hbw.size
          go_upto_region 34 with fail
          go_wp2_with fail
          refine (flat_awake _).mono ?_
          rintro e w5 ⟨rfl, hb5⟩
          have hb6 := hbw.trans (hb5.mono hwS)
          have r1w : w5.cell? ⟨gg, 1, none⟩ = some (.slice AM nM cM) := (hb6.cell (p := ⟨gg, 1, none⟩) lggV).trans r1V
          have HB6 := Lib.hid hb6
          clear hb5 hb6 hbw
          go_wp2_with fail
          refine (HST.out _ HB6.out).mono ?_
          rintro e w6 ⟨rfl, hb7⟩
          have HFI := Lib.hid (HBV.out.trans ((HB6.out.trans (hb7.mono HB6.out.size)).mono HBV.out.size))
          clear hb7
          go_wp2_with fail
          go_ret
          exact ⟨rfl, HFI.out⟩
end Go.Proofs.Yteoioboiniealaa
