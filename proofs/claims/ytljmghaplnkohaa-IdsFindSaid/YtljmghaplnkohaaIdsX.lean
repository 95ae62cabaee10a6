/- The walk of the law IdsFind. -/
import Derived.Test.YtljmghaplnkohaaIdsT
import Derived.Test.YtljmghaplnkohaaIdsV
import Derived.Test.YtljmghaplnkohaaIdsW
import Derived.Test.YtljmghaplnkohaaArgs
import Derived.Deep.CutBlock
namespace Go.Proofs.Ytljmghaplnkohaa
open Go.RowKit
attribute [local go_sem ↓] Go.wp_at_zero Go.wp_at_succ

/-- What is found in a nested document. -/
structure FindI (d : DocD) (c x : ChorD) : Prop where
  chk : checkF d = 0
  chorD : findFrom (fun y : ChorD => eqS y.id ⟨#[100]⟩) d.chors 0 = 1
  chorM : findFrom (fun y : ChorD => eqS y.id ⟨#[109, 97]⟩) d.chors 0 = -1
  msgC : findFrom (fun y : PartD => eqS y.id ⟨#[109, 99]⟩) d.msgs 0 = 2
  msgN : findFrom (fun y : PartD => eqS y.id ⟨#[99]⟩) d.msgs 0 = -1
  none : (idsD d).any (eqS · ⟨#[110, 111, 32, 111, 110, 101]⟩) = false
theorem find_i {d : DocD} {c x : ChorD} (h : NestI d c x) : FindI d c x := by
  have hd : d.chors = [c, x] := by rw [h.eq]
  have hm : d.msgs = gmsgsF := by rw [h.eq]
  refine ⟨?_, ?_, ?_, ?_, ?_, ?_⟩
  · unfold checkF
    rw [h.adds, h.refs]
    rfl
  · rw [hd, findFrom, findFrom, h.cid, h.xid]
    decide +kernel
  · rw [hd, findFrom, findFrom, findFrom, h.cid, h.xid]
    decide +kernel
  · rw [hm]
    decide +kernel
  · rw [hm]
    decide +kernel
  · rw [List.any_eq_false]
    intro a ha he
    have h1 := h.names a ha
    rw [(eqS_iff _ _).1 he] at h1
    revert h1
    decide +kernel
set_option maxRecDepth 100000 in
set_option maxHeartbeats 16000000 in
theorem idsFind_walk (A0 : Option Addr) (c0 : Nat) (x0 : List Int) (A1 : Option Addr) (c1 : Nat) (x1 : List Int) (a2 : Int) (w : World) (m0 : x0.length ≤ maxLen) (h0 : IntsAt w A0 x0) (m1 : x1.length ≤ maxLen) (h1 : IntsAt w A1 x1) (_w2 : (Lit.int .i64 a2).wf = true) :
    Calls Try.prog 4 #[.slice A0 x0.length c0, .slice A1 x1.length c1, .int .i64 a2] w fun e w' => e = .returned (.bool true) ∧ Below w.heap.size w w' := by
  have hgen := nested_gen (cap := c0) (capq := c1) h0 m0 h1 m1
  obtain ⟨c, x, hN⟩ := nest_i x0 x1 m0 m1
  obtain ⟨d, hd⟩ : ∃ d, d = gnestedF x0 x1 := ⟨_, rfl⟩
  rw [← hd] at hN hgen
  have HFI := Lib.hid (find_i hN)
  have HN := Lib.hid hN
  have HGEN := Lib.hid hgen
  have lI := hN.lI
  have lP := hN.lP
  have lF := hN.lF
  obtain ⟨m, hm⟩ : ∃ m : Nat, bits BinOp.and IntKind.i64 a2 65535 = (m : Int) := ⟨(bits BinOp.and IntKind.i64 a2 65535).toNat, (Int.toNat_of_nonneg (am65535 a2).1).symm⟩
  obtain ⟨i, hi⟩ : ∃ i, i = m % c.items.length := ⟨_, rfl⟩
  obtain ⟨k, hk⟩ : ∃ k, k = m % c.parts.length := ⟨_, rfl⟩
  obtain ⟨f, hf⟩ : ∃ f, f = m % c.flows.length := ⟨_, rfl⟩
  have iI : i < c.items.length := by rw [hi]; exact Nat.mod_lt _ lI.1
  have kP : k < c.parts.length := by rw [hk]; exact Nat.mod_lt _ lP.1
  have fF : f < c.flows.length := by rw [hf]; exact Nat.mod_lt _ lF.1
  have ti : (m : Int).tmod (c.items.length : Int) = (i : Int) := by rw [Int.tmod_eq_emod_of_nonneg (by omega), hi]; omega
  have tk : (m : Int).tmod (c.parts.length : Int) = (k : Int) := by rw [Int.tmod_eq_emod_of_nonneg (by omega), hk]; omega
  have tf : (m : Int).tmod (c.flows.length : Int) = (f : Int) := by rw [Int.tmod_eq_emod_of_nonneg (by omega), hf]; omega
  have HM := Lib.hid hm
  have HTI := Lib.hid ti
  have HTK := Lib.hid tk
  have HTF := Lib.hid tf
  have HI : Hid (findFrom (fun y : ItemD => eqS y.id c.items[i].id) c.items 0 = (i : Int)) := by
    have h := find_at (fun y : ItemD => y.id) 0 iI hN.nI
    rw [Nat.zero_add] at h
    exact h
  have HK : Hid (findFrom (fun y : PartD => eqS y.id c.parts[k].id) c.parts 0 = (k : Int)) := by
    have h := find_at (fun y : PartD => y.id) 0 kP hN.nP
    rw [Nat.zero_add] at h
    exact h
  have HF : Hid (findFrom (fun y : FlowD => eqS y.id c.flows[f].id) c.flows 0 = (f : Int)) := by
    have h := find_at (fun y : FlowD => y.id) 0 fF hN.nF
    rw [Nat.zero_add] at h
    exact h
  have nI : c.items ≠ [] := List.ne_nil_of_length_pos lI.1
  have nP : c.parts ≠ [] := List.ne_nil_of_length_pos lP.1
  have nF : c.flows ≠ [] := List.ne_nil_of_length_pos lF.1
  have hlen : (idsD d).length ≤ 1000000 := by have := hN.fit.2; simpa using this
  clear h0 h1 m0 m1 hN hgen hd hm hi hk hf ti tk tf
  go_enter Try.func4, Try.ntmps4
  go_wp2_with fail
  refine HGEN.out.mono ?_
  clear HGEN
  rintro e w1 hE1
  obtain ⟨A1, c1, B1, k1, rfl, hms, hch, hb1⟩ := hE1
  have hdl : d.chors.length = 2 := by rw [HN.out.eq]; rfl
  have hdc : d.chors = [c, x] := by rw [HN.out.eq]
  have HMS := Lib.hid hms
  have HCH := Lib.hid hch
  have hch2 := hch
  obtain ⟨A2, c2, hv2, _, _, hat⟩ := rd_at chorC_len hch2
  injection hv2 with e1 _ e3
  subst e1
  subst e3
  obtain ⟨bc, vs, rfl, hbc, _, hvs, hcell⟩ := hat 0 (by omega)
  have hc0 : d.chors[0]'(by omega) = c := by simp only [hdc, List.getElem_cons_zero]
  rw [hc0] at hvs
  obtain ⟨vP, vF, vI, vS, rfl, hV⟩ := rd_chorC.1 hvs
  obtain ⟨AP, cP, rfl⟩ := rd_form hV.1
  obtain ⟨AF, cF, rfl⟩ := rd_form hV.2.1
  obtain ⟨AI, cI, rfl⟩ := rd_form hV.2.2.1
  obtain ⟨AS, cS, rfl⟩ := rd_form hV.2.2.2
  have ce0 : w1.cell? ⟨bc, 0, none⟩ = some (.string c.id) := hcell 0 (by omega)
  have ce1 : w1.cell? ⟨bc, 1, none⟩ = some (.slice AP c.parts.length cP) := hcell 1 (by omega)
  have ce2 : w1.cell? ⟨bc, 2, none⟩ = some (.slice AF c.flows.length cF) := hcell 2 (by omega)
  have ce3 : w1.cell? ⟨bc, 3, none⟩ = some (.slice AI c.items.length cI) := hcell 3 (by omega)
  have ce4 : w1.cell? ⟨bc, 4, none⟩ = some (.slice AS c.seqs.length cS) := hcell 4 (by omega)
  obtain ⟨AI', cI', hvI, _, _, hatI⟩ := rd_at itemC_len hV.2.2.1
  injection hvI with e1 _ e3
  subst e1
  subst e3
  obtain ⟨bI, vs, rfl, hbI, _, hvs, hcI⟩ := hatI i iI
  obtain ⟨_, _, _, _, _, rfl, _⟩ := rd_itemC.1 hvs
  have eI : w1.cell? ⟨bI, i * 10 + 1, none⟩ = some (.string c.items[i].id) := hcI 1 (by omega)
  obtain ⟨AP', cP', hvI, _, _, hatP⟩ := rd_at partC_len hV.1
  injection hvI with e1 _ e3
  subst e1
  subst e3
  obtain ⟨bP, vs, rfl, hbP, _, hvs, hcP⟩ := hatP k kP
  obtain rfl := rd_partC hvs
  have eP : w1.cell? ⟨bP, k * 2, none⟩ = some (.string c.parts[k].id) := hcP 0 (by omega)
  obtain ⟨AF', cF', hvI, _, _, hatF⟩ := rd_at flowC_len hV.2.1
  injection hvI with e1 _ e3
  subst e1
  subst e3
  obtain ⟨bF, vs, rfl, hbF, _, hvs, hcF⟩ := hatF f fF
  obtain rfl := rd_flowC hvs
  have eF : w1.cell? ⟨bF, f * 4, none⟩ = some (.string c.flows[f].id) := hcF 0 (by omega)
  have HEI := Lib.hid eI
  have HEP := Lib.hid eP
  have HEF := Lib.hid eF
  have HVP := Lib.hid hV.1
  have HVF := Lib.hid hV.2.1
  have HVI := Lib.hid hV.2.2.1
  have HB1 := Lib.hid hb1
  obtain ⟨gd, hgd⟩ : ∃ g, g = w1.heap.size := ⟨_, rfl⟩
  obtain ⟨V1, hV1⟩ : ∃ V, V = w1.alloc (.cells #[.slice A1 d.msgs.length c1, .slice (some ⟨bc, 0, none⟩) d.chors.length k1] 42) := ⟨_, rfl⟩
  have b11 : Below w1.heap.size w1 V1 := by rw [hV1]; exact (Below.refl _ _).alloc (Nat.le_refl _) _
  have hbd : Blk V1 gd 42 #[.slice A1 d.msgs.length c1, .slice (some ⟨bc, 0, none⟩) d.chors.length k1] := by rw [hV1, hgd]; exact Blk.new _ _ _
  have hnew := new_any d (Rd.below b11 _ _ hms) (Rd.below b11 _ _ hch) HN.out.fit
  rw [HN.out.adds] at hnew
  have HNEW := Lib.hid hnew
  have HB11 := Lib.hid b11
  have HBD := Lib.hid hbd
  have HV1 := Lib.hid hV1.symm
  have HG := Lib.hid hgd.symm
  have HCX := Lib.hid (And.intro ce0 (And.intro ce1 (And.intro ce2 (And.intro ce3 ce4))))
  have d0 : V1.cell? ⟨gd, 0, none⟩ = some (.slice A1 d.msgs.length c1) := hbd.cell 0
  have d1 : V1.cell? ⟨gd, 1, none⟩ = some (.slice (some ⟨bc, 0, none⟩) d.chors.length k1) := hbd.cell 1
  have HDL := Lib.hid hdl
  clear hms hch hch2 hat hvs hcell hV hV1 hgd b11 hbd hb1 hdl hdc hc0 hnew hatI hatP hatF hcI hcP hcF eI eP eF ce0 ce1 ce2 ce3 ce4
  go_upto_region 2 with fail
  rw [HV1.out, HG.out]
  go_wp2_with fail
  refine HNEW.out.mono ?_
  clear HNEW
  rintro e w2 (⟨h, _, _⟩ | ⟨_, g, rfl, hT⟩)
  · exact absurd rfl h
  have hb2 := hT.bel
  have hbd2 := HBD.out.below hb2 HBD.out.lt
  have b12 := HB11.out.trans (hb2.mono HB11.out.size)
  have hev := every_any d (Rd.below b12 _ _ HMS.out) (Rd.below b12 _ _ HCH.out) hlen
  have HEV := Lib.hid hev
  have HT := Lib.hid hT
  have HB12 := Lib.hid b12
  have HBD2 := Lib.hid hbd2
  have z0 : w2.cell? ⟨gd, 0, none⟩ = some (.slice A1 d.msgs.length c1) := hbd2.cell 0
  have z1 : w2.cell? ⟨gd, 1, none⟩ = some (.slice (some ⟨bc, 0, none⟩) d.chors.length k1) := hbd2.cell 1
  clear hev hT b12 hbd2 hb2 d0 d1
  go_wp2_with fail
  refine HEV.out.mono ?_
  clear HEV
  rintro e w3 ⟨AE, cE, rfl, hO3, hb3⟩
  have hT3 := HT.out.below hb3
  have HLEN := Lib.hid (len_any hT3)
  have HT3 := Lib.hid hT3
  have hb13 := HB12.out.trans (hb3.mono HB12.out.size)
  have HB13 := Lib.hid hb13
  have hbd3 := HBD2.out.below hb3 HBD2.out.lt
  have HBD3 := Lib.hid hbd3
  have hrs := rd_of_strs hO3
  have HRS := Lib.hid hrs
  obtain ⟨_, _, _, hl1, hl2, _⟩ := rd_at (f := strC) (fun _ => rfl) hrs
  have hlm : (idsD d).length ≤ maxLen := by omega
  unfold maxLen at hlm
  obtain ⟨ids, hids⟩ : ∃ l, l = idsD d := ⟨_, rfl⟩
  rw [← hids] at HT3 HLEN HRS hlm hlen ⊢
  have HIDS := Lib.hid hids
  clear hT3 hb13 hbd3 hb3 hO3 hrs hids hl1 hl2 HT z0 z1
  go_wp2_with fail
  refine HLEN.out.mono ?_
  clear HLEN
  rintro e w4 ⟨rfl, rfl⟩
  go_wp2_with fail
  go_loopw [11] (fun iv wr => ∃ k : Nat, k ≤ ids.length ∧ iv = .int .i64 k ∧ w3 = wr) (fun iv _ => ids.length - (intOf iv).toNat)
  case atStart => exact ⟨0, Nat.zero_le _, rfl, rfl⟩
  case round =>
    obtain ⟨j, hj, rfl, rfl⟩ := hrel
    by_cases hlt : j < ids.length
    · obtain ⟨A', c', hv', _, _, hat⟩ := rd_at (f := strC) (fun _ => rfl) HRS.out
      injection hv' with e1 _ e3
      subst e1
      subst e3
      obtain ⟨bE, vs, rfl, hbE, _, hvs, hcell⟩ := hat j hlt
      obtain ⟨_, _, rfl, hs, hvs⟩ := rdl_cons.1 hvs
      obtain rfl := rdl_nil.1 hvs
      obtain rfl := rd_str.1 hs
      have e0 : w3.cell? ⟨bE, j, none⟩ = some (.string ids[j]) := by have t := hcell 0 (by simp); simpa [strC] using t
      have hany : ids.any (eqS · ids[j]) = true := List.any_eq_true.2 ⟨ids[j], List.getElem_mem hlt, (eqS_iff _ _).2 rfl⟩
      have hhas := has_any ids[j] HT3.out
      rw [hany] at hhas
      have HHAS := Lib.hid hhas
      have hjI : (j : Int) < (ids.length : Int) := by omega
      clear hat hvs hcell hs hany hhas
      go_wp2_with fail
      refine HHAS.out.mono ?_
      rintro e w5 ⟨rfl, rfl⟩
      go_wp2_with fail
      go_roundw
      case rel => exact ⟨j + 1, by omega, by go_num, trivial⟩
      case measure => simp [intOf]; omega
    · have hjl : j = ids.length := by omega
      subst hjl
      have y0 : w3.cell? ⟨gd, 0, none⟩ = some (.slice A1 d.msgs.length c1) := HBD3.out.cell 0
      have y1 : w3.cell? ⟨gd, 1, none⟩ = some (.slice (some ⟨bc, 0, none⟩) d.chors.length k1) := HBD3.out.cell 1
      have c3_0 : w3.cell? ⟨bc, 0, none⟩ = some (.string c.id) := (HB13.out.cell (p := ⟨bc, 0, none⟩) hbc).trans HCX.out.1
      have c3_1 : w3.cell? ⟨bc, 1, none⟩ = some (.slice (some ⟨bP, 0, none⟩) c.parts.length cP) := (HB13.out.cell (p := ⟨bc, 1, none⟩) hbc).trans HCX.out.2.1
      have c3_2 : w3.cell? ⟨bc, 2, none⟩ = some (.slice (some ⟨bF, 0, none⟩) c.flows.length cF) := (HB13.out.cell (p := ⟨bc, 2, none⟩) hbc).trans HCX.out.2.2.1
      have c3_3 : w3.cell? ⟨bc, 3, none⟩ = some (.slice (some ⟨bI, 0, none⟩) c.items.length cI) := (HB13.out.cell (p := ⟨bc, 3, none⟩) hbc).trans HCX.out.2.2.2.1
      have c3_4 : w3.cell? ⟨bc, 4, none⟩ = some (.slice AS c.seqs.length cS) := (HB13.out.cell (p := ⟨bc, 4, none⟩) hbc).trans HCX.out.2.2.2.2
      have hb13 := HB13.out
      obtain ⟨gc, hgc⟩ : ∃ g, g = w3.heap.size := ⟨_, rfl⟩
      obtain ⟨V4, hV4⟩ : ∃ V, V = w3.alloc (.cells #[.string c.id, .slice (some ⟨bP, 0, none⟩) c.parts.length cP, .slice (some ⟨bF, 0, none⟩) c.flows.length cF, .slice (some ⟨bI, 0, none⟩) c.items.length cI, .slice AS c.seqs.length cS] 54) := ⟨_, rfl⟩
      have b34 : Below w3.heap.size w3 V4 := by rw [hV4]; exact (Below.refl _ _).alloc (Nat.le_refl _) _
      have hkc : Blk V4 gc 54 #[.string c.id, .slice (some ⟨bP, 0, none⟩) c.parts.length cP, .slice (some ⟨bF, 0, none⟩) c.flows.length cF, .slice (some ⟨bI, 0, none⟩) c.items.length cI, .slice AS c.seqs.length cS] := by rw [hV4, hgc]; exact Blk.new _ _ _
      have hbd4 := HBD3.out.below b34 HBD3.out.lt
      have b14 := hb13.trans (b34.mono hb13.size)
      have eI := (b14.cell (p := ⟨bI, i * 10 + 1, none⟩) hbI).trans HEI.out
      have eP := (b14.cell (p := ⟨bP, k * 2, none⟩) hbP).trans HEP.out
      have eF := (b14.cell (p := ⟨bF, f * 4, none⟩) hbF).trans HEF.out
      have lbI : bI < V4.heap.size := by have := b14.size; omega
      have lbP : bP < V4.heap.size := by have := b14.size; omega
      have lbF : bF < V4.heap.size := by have := b14.size; omega
      have lgc := hkc.lt
      have lgd := hbd4.lt
      have r1 : Hid (∀ U, Below V4.heap.size V4 U → Rd U (msgsD d.msgs) (.slice A1 d.msgs.length c1)) := fun U h => Rd.below (b14.trans (h.mono b14.size)) _ _ HMS.out
      have r2 : Hid (∀ U, Below V4.heap.size V4 U → Rd U (chorsD d.chors) (.slice (some ⟨bc, 0, none⟩) d.chors.length k1)) := fun U h => Rd.below (b14.trans (h.mono b14.size)) _ _ HCH.out
      have r3 : Hid (∀ U, Below V4.heap.size V4 U → Rd U (partsD c.parts) (.slice (some ⟨bP, 0, none⟩) c.parts.length cP)) := fun U h => Rd.below (b14.trans (h.mono b14.size)) _ _ HVP.out
      have r4 : Hid (∀ U, Below V4.heap.size V4 U → Rd U (flowsD c.flows) (.slice (some ⟨bF, 0, none⟩) c.flows.length cF)) := fun U h => Rd.below (b14.trans (h.mono b14.size)) _ _ HVF.out
      have r5 : Hid (∀ U, Below V4.heap.size V4 U → Rd U (itemsD c.items) (.slice (some ⟨bI, 0, none⟩) c.items.length cI)) := fun U h => Rd.below (b14.trans (h.mono b14.size)) _ _ HVI.out
      have r6 : Hid (∀ U, Below V4.heap.size V4 U → TabW V1 g ids U) := fun U h => (HT3.out.below b34).below h
      have HEND := Lib.hid (HB1.out.trans (b14.mono HB1.out.size))
      have HV4 := Lib.hid hV4.symm
      have HGC := Lib.hid hgc.symm
      have x1 : (1 : Int) < (d.chors.length : Int) := by rw [HDL.out]; decide
      have d0 : V4.cell? ⟨gd, 0, none⟩ = some (.slice A1 d.msgs.length c1) := hbd4.cell 0
      have d1 : V4.cell? ⟨gd, 1, none⟩ = some (.slice (some ⟨bc, 0, none⟩) d.chors.length k1) := hbd4.cell 1
      have xc0 : V4.cell? ⟨gc, 0, none⟩ = some (.string c.id) := hkc.cell 0
      have xc1 : V4.cell? ⟨gc, 1, none⟩ = some (.slice (some ⟨bP, 0, none⟩) c.parts.length cP) := hkc.cell 1
      have xc2 : V4.cell? ⟨gc, 2, none⟩ = some (.slice (some ⟨bF, 0, none⟩) c.flows.length cF) := hkc.cell 2
      have xc3 : V4.cell? ⟨gc, 3, none⟩ = some (.slice (some ⟨bI, 0, none⟩) c.items.length cI) := hkc.cell 3
      have xc4 : V4.cell? ⟨gc, 4, none⟩ = some (.slice AS c.seqs.length cS) := hkc.cell 4
      go_upto_region 12 with fail
      rw [HV4.out, HGC.out]
      clear HV4 HGC hV4 hgc b34 hkc hbd4 b14 hb13 c3_0 c3_1 c3_2 c3_3 c3_4 y0 y1
      have hm := HM.out
      have hti := HTI.out
      have htk := HTK.out
      have htf := HTF.out
      refine wp_region_HT 20 (fun U => Below V4.heap.size V4 U) (by kernel_rfl) (by decide) ((Below.refl _ _).drew) (fun hHeld => ?_)
      refine ht_take 0 (v := ?va_1) rfl (by kernel_rfl) (fun _ _ _ h => h) (Or.inl ⟨by rfl, ?ha_1⟩) hHeld ?ra_1
      case ha_1 => ((intro U hSw; have qd0 := (hSw.cell (p := ⟨gd, 0, none⟩) lgd).trans d0; have qd1 := (hSw.cell (p := ⟨gd, 1, none⟩) lgd).trans d1; have qxc0 := (hSw.cell (p := ⟨gc, 0, none⟩) lgc).trans xc0; have qxc1 := (hSw.cell (p := ⟨gc, 1, none⟩) lgc).trans xc1; have qxc2 := (hSw.cell (p := ⟨gc, 2, none⟩) lgc).trans xc2; have qxc3 := (hSw.cell (p := ⟨gc, 3, none⟩) lgc).trans xc3; have qxc4 := (hSw.cell (p := ⟨gc, 4, none⟩) lgc).trans xc4; have qeI := (hSw.cell (p := ⟨bI, i * 10 + 1, none⟩) lbI).trans eI; have qeP := (hSw.cell (p := ⟨bP, k * 2, none⟩) lbP).trans eP; have qeF := (hSw.cell (p := ⟨bF, f * 4, none⟩) lbF).trans eF; go_simp); (try (with_reducible rfl)))
      try simp only [Act.put, List.setIfInBounds_toArray, List.set_cons_zero, List.set_cons_succ]
      refine ht_take 1 (v := ?va_2) rfl (by kernel_rfl) (fun _ _ _ h => h) (Or.inl ⟨by rfl, ?ha_2⟩) hHeld ?ra_2
      case ha_2 => ((intro U hSw; have qd0 := (hSw.cell (p := ⟨gd, 0, none⟩) lgd).trans d0; have qd1 := (hSw.cell (p := ⟨gd, 1, none⟩) lgd).trans d1; have qxc0 := (hSw.cell (p := ⟨gc, 0, none⟩) lgc).trans xc0; have qxc1 := (hSw.cell (p := ⟨gc, 1, none⟩) lgc).trans xc1; have qxc2 := (hSw.cell (p := ⟨gc, 2, none⟩) lgc).trans xc2; have qxc3 := (hSw.cell (p := ⟨gc, 3, none⟩) lgc).trans xc3; have qxc4 := (hSw.cell (p := ⟨gc, 4, none⟩) lgc).trans xc4; have qeI := (hSw.cell (p := ⟨bI, i * 10 + 1, none⟩) lbI).trans eI; have qeP := (hSw.cell (p := ⟨bP, k * 2, none⟩) lbP).trans eP; have qeF := (hSw.cell (p := ⟨bF, f * 4, none⟩) lbF).trans eF; go_simp); (try (with_reducible rfl)))
      try simp only [Act.put, List.setIfInBounds_toArray, List.set_cons_zero, List.set_cons_succ]
      refine ht_take 2 (v := ?va_3) rfl (by kernel_rfl) (fun _ _ _ h => h) (Or.inl ⟨by rfl, ?ha_3⟩) hHeld ?ra_3
      case ha_3 => ((intro U hSw; have qd0 := (hSw.cell (p := ⟨gd, 0, none⟩) lgd).trans d0; have qd1 := (hSw.cell (p := ⟨gd, 1, none⟩) lgd).trans d1; have qxc0 := (hSw.cell (p := ⟨gc, 0, none⟩) lgc).trans xc0; have qxc1 := (hSw.cell (p := ⟨gc, 1, none⟩) lgc).trans xc1; have qxc2 := (hSw.cell (p := ⟨gc, 2, none⟩) lgc).trans xc2; have qxc3 := (hSw.cell (p := ⟨gc, 3, none⟩) lgc).trans xc3; have qxc4 := (hSw.cell (p := ⟨gc, 4, none⟩) lgc).trans xc4; have qeI := (hSw.cell (p := ⟨bI, i * 10 + 1, none⟩) lbI).trans eI; have qeP := (hSw.cell (p := ⟨bP, k * 2, none⟩) lbP).trans eP; have qeF := (hSw.cell (p := ⟨bF, f * 4, none⟩) lbF).trans eF; go_simp); (try (with_reducible rfl)))
      try simp only [Act.put, List.setIfInBounds_toArray, List.set_cons_zero, List.set_cons_succ]
      refine ht_take 3 (v := ?va_4) rfl (by kernel_rfl) (fun _ _ _ h => h) (Or.inl ⟨by rfl, ?ha_4⟩) hHeld ?ra_4
      case ha_4 => ((intro U hSw; have qd0 := (hSw.cell (p := ⟨gd, 0, none⟩) lgd).trans d0; have qd1 := (hSw.cell (p := ⟨gd, 1, none⟩) lgd).trans d1; have qxc0 := (hSw.cell (p := ⟨gc, 0, none⟩) lgc).trans xc0; have qxc1 := (hSw.cell (p := ⟨gc, 1, none⟩) lgc).trans xc1; have qxc2 := (hSw.cell (p := ⟨gc, 2, none⟩) lgc).trans xc2; have qxc3 := (hSw.cell (p := ⟨gc, 3, none⟩) lgc).trans xc3; have qxc4 := (hSw.cell (p := ⟨gc, 4, none⟩) lgc).trans xc4; have qeI := (hSw.cell (p := ⟨bI, i * 10 + 1, none⟩) lbI).trans eI; have qeP := (hSw.cell (p := ⟨bP, k * 2, none⟩) lbP).trans eP; have qeF := (hSw.cell (p := ⟨bF, f * 4, none⟩) lbF).trans eF; go_simp); (try (with_reducible rfl)))
      try simp only [Act.put, List.setIfInBounds_toArray, List.set_cons_zero, List.set_cons_succ]
      refine ht_take 4 (v := ?va_5) rfl (by kernel_rfl) (fun _ _ _ h => h) (Or.inl ⟨by rfl, ?ha_5⟩) hHeld ?ra_5
      case ha_5 => ((intro U hSw; have qd0 := (hSw.cell (p := ⟨gd, 0, none⟩) lgd).trans d0; have qd1 := (hSw.cell (p := ⟨gd, 1, none⟩) lgd).trans d1; have qxc0 := (hSw.cell (p := ⟨gc, 0, none⟩) lgc).trans xc0; have qxc1 := (hSw.cell (p := ⟨gc, 1, none⟩) lgc).trans xc1; have qxc2 := (hSw.cell (p := ⟨gc, 2, none⟩) lgc).trans xc2; have qxc3 := (hSw.cell (p := ⟨gc, 3, none⟩) lgc).trans xc3; have qxc4 := (hSw.cell (p := ⟨gc, 4, none⟩) lgc).trans xc4; have qeI := (hSw.cell (p := ⟨bI, i * 10 + 1, none⟩) lbI).trans eI; have qeP := (hSw.cell (p := ⟨bP, k * 2, none⟩) lbP).trans eP; have qeF := (hSw.cell (p := ⟨bF, f * 4, none⟩) lbF).trans eF; go_simp); (try (with_reducible rfl)))
      try simp only [Act.put, List.setIfInBounds_toArray, List.set_cons_zero, List.set_cons_succ]
      refine ht_take 5 (v := ?va_6) rfl (by kernel_rfl) (fun _ _ _ h => h) (Or.inl ⟨by rfl, ?ha_6⟩) hHeld ?ra_6
      case ha_6 => ((intro U hSw; have qd0 := (hSw.cell (p := ⟨gd, 0, none⟩) lgd).trans d0; have qd1 := (hSw.cell (p := ⟨gd, 1, none⟩) lgd).trans d1; have qxc0 := (hSw.cell (p := ⟨gc, 0, none⟩) lgc).trans xc0; have qxc1 := (hSw.cell (p := ⟨gc, 1, none⟩) lgc).trans xc1; have qxc2 := (hSw.cell (p := ⟨gc, 2, none⟩) lgc).trans xc2; have qxc3 := (hSw.cell (p := ⟨gc, 3, none⟩) lgc).trans xc3; have qxc4 := (hSw.cell (p := ⟨gc, 4, none⟩) lgc).trans xc4; have qeI := (hSw.cell (p := ⟨bI, i * 10 + 1, none⟩) lbI).trans eI; have qeP := (hSw.cell (p := ⟨bP, k * 2, none⟩) lbP).trans eP; have qeF := (hSw.cell (p := ⟨bF, f * 4, none⟩) lbF).trans eF; go_simp); (try (with_reducible rfl)))
      try simp only [Act.put, List.setIfInBounds_toArray, List.set_cons_zero, List.set_cons_succ]
      refine ht_take 6 (v := ?va_7) rfl (by kernel_rfl) (fun _ _ _ h => h) (Or.inl ⟨by rfl, ?ha_7⟩) hHeld ?ra_7
      case ha_7 => ((intro U hSw; have qd0 := (hSw.cell (p := ⟨gd, 0, none⟩) lgd).trans d0; have qd1 := (hSw.cell (p := ⟨gd, 1, none⟩) lgd).trans d1; have qxc0 := (hSw.cell (p := ⟨gc, 0, none⟩) lgc).trans xc0; have qxc1 := (hSw.cell (p := ⟨gc, 1, none⟩) lgc).trans xc1; have qxc2 := (hSw.cell (p := ⟨gc, 2, none⟩) lgc).trans xc2; have qxc3 := (hSw.cell (p := ⟨gc, 3, none⟩) lgc).trans xc3; have qxc4 := (hSw.cell (p := ⟨gc, 4, none⟩) lgc).trans xc4; have qeI := (hSw.cell (p := ⟨bI, i * 10 + 1, none⟩) lbI).trans eI; have qeP := (hSw.cell (p := ⟨bP, k * 2, none⟩) lbP).trans eP; have qeF := (hSw.cell (p := ⟨bF, f * 4, none⟩) lbF).trans eF; go_simp); (try (with_reducible rfl)))
      try simp only [Act.put, List.setIfInBounds_toArray, List.set_cons_zero, List.set_cons_succ]
      refine ht_take 7 (v := ?va_8) rfl (by kernel_rfl) (fun _ _ _ h => h) (Or.inl ⟨by rfl, ?ha_8⟩) hHeld ?ra_8
      case ha_8 => ((intro U hSw; have qd0 := (hSw.cell (p := ⟨gd, 0, none⟩) lgd).trans d0; have qd1 := (hSw.cell (p := ⟨gd, 1, none⟩) lgd).trans d1; have qxc0 := (hSw.cell (p := ⟨gc, 0, none⟩) lgc).trans xc0; have qxc1 := (hSw.cell (p := ⟨gc, 1, none⟩) lgc).trans xc1; have qxc2 := (hSw.cell (p := ⟨gc, 2, none⟩) lgc).trans xc2; have qxc3 := (hSw.cell (p := ⟨gc, 3, none⟩) lgc).trans xc3; have qxc4 := (hSw.cell (p := ⟨gc, 4, none⟩) lgc).trans xc4; have qeI := (hSw.cell (p := ⟨bI, i * 10 + 1, none⟩) lbI).trans eI; have qeP := (hSw.cell (p := ⟨bP, k * 2, none⟩) lbP).trans eP; have qeF := (hSw.cell (p := ⟨bF, f * 4, none⟩) lbF).trans eF; go_simp); (try (with_reducible rfl)))
      try simp only [Act.put, List.setIfInBounds_toArray, List.set_cons_zero, List.set_cons_succ]
      refine ht_take 8 (v := ?va_9) rfl (by kernel_rfl) (fun _ _ _ h => h) (Or.inl ⟨by rfl, ?ha_9⟩) hHeld ?ra_9
      case ha_9 => ((intro U hSw; have qd0 := (hSw.cell (p := ⟨gd, 0, none⟩) lgd).trans d0; have qd1 := (hSw.cell (p := ⟨gd, 1, none⟩) lgd).trans d1; have qxc0 := (hSw.cell (p := ⟨gc, 0, none⟩) lgc).trans xc0; have qxc1 := (hSw.cell (p := ⟨gc, 1, none⟩) lgc).trans xc1; have qxc2 := (hSw.cell (p := ⟨gc, 2, none⟩) lgc).trans xc2; have qxc3 := (hSw.cell (p := ⟨gc, 3, none⟩) lgc).trans xc3; have qxc4 := (hSw.cell (p := ⟨gc, 4, none⟩) lgc).trans xc4; have qeI := (hSw.cell (p := ⟨bI, i * 10 + 1, none⟩) lbI).trans eI; have qeP := (hSw.cell (p := ⟨bP, k * 2, none⟩) lbP).trans eP; have qeF := (hSw.cell (p := ⟨bF, f * 4, none⟩) lbF).trans eF; go_simp); (try (with_reducible rfl)))
      try simp only [Act.put, List.setIfInBounds_toArray, List.set_cons_zero, List.set_cons_succ]
      refine ht_take 9 (v := ?va_10) rfl (by kernel_rfl) (fun _ _ _ h => h) (Or.inl ⟨by rfl, ?ha_10⟩) hHeld ?ra_10
      case ha_10 => ((intro U hSw; have qd0 := (hSw.cell (p := ⟨gd, 0, none⟩) lgd).trans d0; have qd1 := (hSw.cell (p := ⟨gd, 1, none⟩) lgd).trans d1; have qxc0 := (hSw.cell (p := ⟨gc, 0, none⟩) lgc).trans xc0; have qxc1 := (hSw.cell (p := ⟨gc, 1, none⟩) lgc).trans xc1; have qxc2 := (hSw.cell (p := ⟨gc, 2, none⟩) lgc).trans xc2; have qxc3 := (hSw.cell (p := ⟨gc, 3, none⟩) lgc).trans xc3; have qxc4 := (hSw.cell (p := ⟨gc, 4, none⟩) lgc).trans xc4; have qeI := (hSw.cell (p := ⟨bI, i * 10 + 1, none⟩) lbI).trans eI; have qeP := (hSw.cell (p := ⟨bP, k * 2, none⟩) lbP).trans eP; have qeF := (hSw.cell (p := ⟨bF, f * 4, none⟩) lbF).trans eF; go_simp); (try (with_reducible rfl)))
      try simp only [Act.put, List.setIfInBounds_toArray, List.set_cons_zero, List.set_cons_succ]
      refine ht_take 10 (v := ?va_11) rfl (by kernel_rfl) (fun _ _ _ h => h) (Or.inl ⟨by rfl, ?ha_11⟩) hHeld ?ra_11
      case ha_11 => ((intro U hSw; have qd0 := (hSw.cell (p := ⟨gd, 0, none⟩) lgd).trans d0; have qd1 := (hSw.cell (p := ⟨gd, 1, none⟩) lgd).trans d1; have qxc0 := (hSw.cell (p := ⟨gc, 0, none⟩) lgc).trans xc0; have qxc1 := (hSw.cell (p := ⟨gc, 1, none⟩) lgc).trans xc1; have qxc2 := (hSw.cell (p := ⟨gc, 2, none⟩) lgc).trans xc2; have qxc3 := (hSw.cell (p := ⟨gc, 3, none⟩) lgc).trans xc3; have qxc4 := (hSw.cell (p := ⟨gc, 4, none⟩) lgc).trans xc4; have qeI := (hSw.cell (p := ⟨bI, i * 10 + 1, none⟩) lbI).trans eI; have qeP := (hSw.cell (p := ⟨bP, k * 2, none⟩) lbP).trans eP; have qeF := (hSw.cell (p := ⟨bF, f * 4, none⟩) lbF).trans eF; go_simp); (try (with_reducible rfl)))
      try simp only [Act.put, List.setIfInBounds_toArray, List.set_cons_zero, List.set_cons_succ]
      refine ht_take 11 (v := ?va_12) rfl (by kernel_rfl) (fun _ _ _ h => h) (Or.inl ⟨by rfl, ?ha_12⟩) hHeld ?ra_12
      case ha_12 => ((intro U hSw; have qd0 := (hSw.cell (p := ⟨gd, 0, none⟩) lgd).trans d0; have qd1 := (hSw.cell (p := ⟨gd, 1, none⟩) lgd).trans d1; have qxc0 := (hSw.cell (p := ⟨gc, 0, none⟩) lgc).trans xc0; have qxc1 := (hSw.cell (p := ⟨gc, 1, none⟩) lgc).trans xc1; have qxc2 := (hSw.cell (p := ⟨gc, 2, none⟩) lgc).trans xc2; have qxc3 := (hSw.cell (p := ⟨gc, 3, none⟩) lgc).trans xc3; have qxc4 := (hSw.cell (p := ⟨gc, 4, none⟩) lgc).trans xc4; have qeI := (hSw.cell (p := ⟨bI, i * 10 + 1, none⟩) lbI).trans eI; have qeP := (hSw.cell (p := ⟨bP, k * 2, none⟩) lbP).trans eP; have qeF := (hSw.cell (p := ⟨bF, f * 4, none⟩) lbF).trans eF; go_simp); (try (with_reducible rfl)))
      try simp only [Act.put, List.setIfInBounds_toArray, List.set_cons_zero, List.set_cons_succ]
      refine ht_take 12 (v := ?va_13) rfl (by kernel_rfl) (fun _ _ _ h => h) (Or.inl ⟨by rfl, ?ha_13⟩) hHeld ?ra_13
      case ha_13 => ((intro U hSw; have qd0 := (hSw.cell (p := ⟨gd, 0, none⟩) lgd).trans d0; have qd1 := (hSw.cell (p := ⟨gd, 1, none⟩) lgd).trans d1; have qxc0 := (hSw.cell (p := ⟨gc, 0, none⟩) lgc).trans xc0; have qxc1 := (hSw.cell (p := ⟨gc, 1, none⟩) lgc).trans xc1; have qxc2 := (hSw.cell (p := ⟨gc, 2, none⟩) lgc).trans xc2; have qxc3 := (hSw.cell (p := ⟨gc, 3, none⟩) lgc).trans xc3; have qxc4 := (hSw.cell (p := ⟨gc, 4, none⟩) lgc).trans xc4; have qeI := (hSw.cell (p := ⟨bI, i * 10 + 1, none⟩) lbI).trans eI; have qeP := (hSw.cell (p := ⟨bP, k * 2, none⟩) lbP).trans eP; have qeF := (hSw.cell (p := ⟨bF, f * 4, none⟩) lbF).trans eF; go_simp); (try (with_reducible rfl)))
      try simp only [Act.put, List.setIfInBounds_toArray, List.set_cons_zero, List.set_cons_succ]
      refine ht_take 13 (v := ?va_14) rfl (by kernel_rfl) (fun _ _ _ h => h) (Or.inl ⟨by rfl, ?ha_14⟩) hHeld ?ra_14
      case ha_14 => ((intro U hSw; have qd0 := (hSw.cell (p := ⟨gd, 0, none⟩) lgd).trans d0; have qd1 := (hSw.cell (p := ⟨gd, 1, none⟩) lgd).trans d1; have qxc0 := (hSw.cell (p := ⟨gc, 0, none⟩) lgc).trans xc0; have qxc1 := (hSw.cell (p := ⟨gc, 1, none⟩) lgc).trans xc1; have qxc2 := (hSw.cell (p := ⟨gc, 2, none⟩) lgc).trans xc2; have qxc3 := (hSw.cell (p := ⟨gc, 3, none⟩) lgc).trans xc3; have qxc4 := (hSw.cell (p := ⟨gc, 4, none⟩) lgc).trans xc4; have qeI := (hSw.cell (p := ⟨bI, i * 10 + 1, none⟩) lbI).trans eI; have qeP := (hSw.cell (p := ⟨bP, k * 2, none⟩) lbP).trans eP; have qeF := (hSw.cell (p := ⟨bF, f * 4, none⟩) lbF).trans eF; go_simp); (try (with_reducible rfl)))
      try simp only [Act.put, List.setIfInBounds_toArray, List.set_cons_zero, List.set_cons_succ]
      refine ht_take 14 (v := ?va_15) rfl (by kernel_rfl) (fun _ _ _ h => h) (Or.inl ⟨by rfl, ?ha_15⟩) hHeld ?ra_15
      case ha_15 => ((intro U hSw; have qd0 := (hSw.cell (p := ⟨gd, 0, none⟩) lgd).trans d0; have qd1 := (hSw.cell (p := ⟨gd, 1, none⟩) lgd).trans d1; have qxc0 := (hSw.cell (p := ⟨gc, 0, none⟩) lgc).trans xc0; have qxc1 := (hSw.cell (p := ⟨gc, 1, none⟩) lgc).trans xc1; have qxc2 := (hSw.cell (p := ⟨gc, 2, none⟩) lgc).trans xc2; have qxc3 := (hSw.cell (p := ⟨gc, 3, none⟩) lgc).trans xc3; have qxc4 := (hSw.cell (p := ⟨gc, 4, none⟩) lgc).trans xc4; have qeI := (hSw.cell (p := ⟨bI, i * 10 + 1, none⟩) lbI).trans eI; have qeP := (hSw.cell (p := ⟨bP, k * 2, none⟩) lbP).trans eP; have qeF := (hSw.cell (p := ⟨bF, f * 4, none⟩) lbF).trans eF; go_simp); (try (with_reducible rfl)))
      try simp only [Act.put, List.setIfInBounds_toArray, List.set_cons_zero, List.set_cons_succ]
      refine ht_take 15 (v := ?va_16) rfl (by kernel_rfl) (fun _ _ _ h => h) (Or.inl ⟨by rfl, ?ha_16⟩) hHeld ?ra_16
      case ha_16 => ((intro U hSw; have qd0 := (hSw.cell (p := ⟨gd, 0, none⟩) lgd).trans d0; have qd1 := (hSw.cell (p := ⟨gd, 1, none⟩) lgd).trans d1; have qxc0 := (hSw.cell (p := ⟨gc, 0, none⟩) lgc).trans xc0; have qxc1 := (hSw.cell (p := ⟨gc, 1, none⟩) lgc).trans xc1; have qxc2 := (hSw.cell (p := ⟨gc, 2, none⟩) lgc).trans xc2; have qxc3 := (hSw.cell (p := ⟨gc, 3, none⟩) lgc).trans xc3; have qxc4 := (hSw.cell (p := ⟨gc, 4, none⟩) lgc).trans xc4; have qeI := (hSw.cell (p := ⟨bI, i * 10 + 1, none⟩) lbI).trans eI; have qeP := (hSw.cell (p := ⟨bP, k * 2, none⟩) lbP).trans eP; have qeF := (hSw.cell (p := ⟨bF, f * 4, none⟩) lbF).trans eF; go_simp); (try (with_reducible rfl)))
      try simp only [Act.put, List.setIfInBounds_toArray, List.set_cons_zero, List.set_cons_succ]
      refine ht_take 16 (v := ?va_17) rfl (by kernel_rfl) (fun _ _ _ h => h) (Or.inl ⟨by rfl, ?ha_17⟩) hHeld ?ra_17
      case ha_17 => ((intro U hSw; have qd0 := (hSw.cell (p := ⟨gd, 0, none⟩) lgd).trans d0; have qd1 := (hSw.cell (p := ⟨gd, 1, none⟩) lgd).trans d1; have qxc0 := (hSw.cell (p := ⟨gc, 0, none⟩) lgc).trans xc0; have qxc1 := (hSw.cell (p := ⟨gc, 1, none⟩) lgc).trans xc1; have qxc2 := (hSw.cell (p := ⟨gc, 2, none⟩) lgc).trans xc2; have qxc3 := (hSw.cell (p := ⟨gc, 3, none⟩) lgc).trans xc3; have qxc4 := (hSw.cell (p := ⟨gc, 4, none⟩) lgc).trans xc4; have qeI := (hSw.cell (p := ⟨bI, i * 10 + 1, none⟩) lbI).trans eI; have qeP := (hSw.cell (p := ⟨bP, k * 2, none⟩) lbP).trans eP; have qeF := (hSw.cell (p := ⟨bF, f * 4, none⟩) lbF).trans eF; go_simp); (try (with_reducible rfl)))
      try simp only [Act.put, List.setIfInBounds_toArray, List.set_cons_zero, List.set_cons_succ]
      refine ht_take 17 (v := ?va_18) rfl (by kernel_rfl) (fun _ _ _ h => h) (Or.inl ⟨by rfl, ?ha_18⟩) hHeld ?ra_18
      case ha_18 => ((intro U hSw; have qd0 := (hSw.cell (p := ⟨gd, 0, none⟩) lgd).trans d0; have qd1 := (hSw.cell (p := ⟨gd, 1, none⟩) lgd).trans d1; have qxc0 := (hSw.cell (p := ⟨gc, 0, none⟩) lgc).trans xc0; have qxc1 := (hSw.cell (p := ⟨gc, 1, none⟩) lgc).trans xc1; have qxc2 := (hSw.cell (p := ⟨gc, 2, none⟩) lgc).trans xc2; have qxc3 := (hSw.cell (p := ⟨gc, 3, none⟩) lgc).trans xc3; have qxc4 := (hSw.cell (p := ⟨gc, 4, none⟩) lgc).trans xc4; have qeI := (hSw.cell (p := ⟨bI, i * 10 + 1, none⟩) lbI).trans eI; have qeP := (hSw.cell (p := ⟨bP, k * 2, none⟩) lbP).trans eP; have qeF := (hSw.cell (p := ⟨bF, f * 4, none⟩) lbF).trans eF; go_simp); (try (with_reducible rfl)))
      try simp only [Act.put, List.setIfInBounds_toArray, List.set_cons_zero, List.set_cons_succ]
      refine ht_take 18 (v := ?va_19) rfl (by kernel_rfl) (fun _ _ _ h => h) (Or.inl ⟨by rfl, ?ha_19⟩) hHeld ?ra_19
      case ha_19 => ((intro U hSw; have qd0 := (hSw.cell (p := ⟨gd, 0, none⟩) lgd).trans d0; have qd1 := (hSw.cell (p := ⟨gd, 1, none⟩) lgd).trans d1; have qxc0 := (hSw.cell (p := ⟨gc, 0, none⟩) lgc).trans xc0; have qxc1 := (hSw.cell (p := ⟨gc, 1, none⟩) lgc).trans xc1; have qxc2 := (hSw.cell (p := ⟨gc, 2, none⟩) lgc).trans xc2; have qxc3 := (hSw.cell (p := ⟨gc, 3, none⟩) lgc).trans xc3; have qxc4 := (hSw.cell (p := ⟨gc, 4, none⟩) lgc).trans xc4; have qeI := (hSw.cell (p := ⟨bI, i * 10 + 1, none⟩) lbI).trans eI; have qeP := (hSw.cell (p := ⟨bP, k * 2, none⟩) lbP).trans eP; have qeF := (hSw.cell (p := ⟨bF, f * 4, none⟩) lbF).trans eF; go_simp); (try (with_reducible rfl)))
      try simp only [Act.put, List.setIfInBounds_toArray, List.set_cons_zero, List.set_cons_succ]
      refine ht_take 19 (v := ?va_20) rfl (by kernel_rfl) (fun _ _ _ h => h) (Or.inl ⟨by rfl, ?ha_20⟩) hHeld ?ra_20
      case ha_20 => ((intro U hSw; have qd0 := (hSw.cell (p := ⟨gd, 0, none⟩) lgd).trans d0; have qd1 := (hSw.cell (p := ⟨gd, 1, none⟩) lgd).trans d1; have qxc0 := (hSw.cell (p := ⟨gc, 0, none⟩) lgc).trans xc0; have qxc1 := (hSw.cell (p := ⟨gc, 1, none⟩) lgc).trans xc1; have qxc2 := (hSw.cell (p := ⟨gc, 2, none⟩) lgc).trans xc2; have qxc3 := (hSw.cell (p := ⟨gc, 3, none⟩) lgc).trans xc3; have qxc4 := (hSw.cell (p := ⟨gc, 4, none⟩) lgc).trans xc4; have qeI := (hSw.cell (p := ⟨bI, i * 10 + 1, none⟩) lbI).trans eI; have qeP := (hSw.cell (p := ⟨bP, k * 2, none⟩) lbP).trans eP; have qeF := (hSw.cell (p := ⟨bF, f * 4, none⟩) lbF).trans eF; go_simp); (try (with_reducible rfl)))
      try simp only [Act.put, List.setIfInBounds_toArray, List.set_cons_zero, List.set_cons_succ]
      refine ht_done (by kernel_rfl) rfl ?_
      have HDR := Lib.hid hHeld
      clear hHeld hm hti htk htf
      go_upto_region 13 with fail
      have HCHK : Hid (∀ U, Below V4.heap.size V4 U → Calls Try.prog 20 #[.agg #[.slice A1 d.msgs.length c1, .slice (some ⟨bc, 0, none⟩) d.chors.length k1]] U fun e w' => e = .returned (.int .i64 0) ∧ Below U.heap.size U w') := fun U h => by
        have t := check_any d (r1.out U h) (r2.out U h) HN.out.fit
        rw [HFI.out.chk] at t
        exact t
      have HREF : Hid (∀ U, Below V4.heap.size V4 U → Calls Try.prog 21 #[.agg #[.slice A1 d.msgs.length c1, .slice (some ⟨bc, 0, none⟩) d.chors.length k1]] U fun e w' => e = .returned (.bool true) ∧ Below U.heap.size U w') := fun U h => by
        have t := refs_any d (r1.out U h) (r2.out U h)
        rw [HN.out.refs] at t
        exact t
      have HITM : Hid (∀ U, Below V4.heap.size V4 U → Calls Try.prog 22 #[.slice (some ⟨bI, 0, none⟩) c.items.length cI, .string c.items[i].id] U fun e w' => e = .returned (.int .i64 i) ∧ Below U.heap.size U w') := fun U h => by
        have t := idsItem_any c.items[i].id (r5.out U h)
        rw [HI.out] at t
        exact t
      have HPRT : Hid (∀ U, Below V4.heap.size V4 U → Calls Try.prog 23 #[.agg #[.string c.id, .slice (some ⟨bP, 0, none⟩) c.parts.length cP, .slice (some ⟨bF, 0, none⟩) c.flows.length cF, .slice (some ⟨bI, 0, none⟩) c.items.length cI, .slice AS c.seqs.length cS], .string c.parts[k].id] U fun e w' => e = .returned (.int .i64 k) ∧ Below U.heap.size U w') := fun U h => by
        have t := idsPart_any (vId := .string c.id) (vF := .slice (some ⟨bF, 0, none⟩) c.flows.length cF) (vI := .slice (some ⟨bI, 0, none⟩) c.items.length cI) (vS := .slice AS c.seqs.length cS) c.parts[k].id (r3.out U h)
        rw [HK.out] at t
        exact t
      have HFLW : Hid (∀ U, Below V4.heap.size V4 U → Calls Try.prog 24 #[.agg #[.string c.id, .slice (some ⟨bP, 0, none⟩) c.parts.length cP, .slice (some ⟨bF, 0, none⟩) c.flows.length cF, .slice (some ⟨bI, 0, none⟩) c.items.length cI, .slice AS c.seqs.length cS], .string c.flows[f].id] U fun e w' => e = .returned (.int .i64 f) ∧ Below U.heap.size U w') := fun U h => by
        have t := idsFlow_any (vId := .string c.id) (vP := .slice (some ⟨bP, 0, none⟩) c.parts.length cP) (vI := .slice (some ⟨bI, 0, none⟩) c.items.length cI) (vS := .slice AS c.seqs.length cS) c.flows[f].id (r4.out U h)
        rw [HF.out] at t
        exact t
      have HCHD : Hid (∀ U, Below V4.heap.size V4 U → Calls Try.prog 25 #[.agg #[.slice A1 d.msgs.length c1, .slice (some ⟨bc, 0, none⟩) d.chors.length k1], .string ⟨#[100]⟩] U fun e w' => e = .returned (.int .i64 1) ∧ Below U.heap.size U w') := fun U h => by
        have t := idsChor_any (vM := .slice A1 d.msgs.length c1) ⟨#[100]⟩ (r2.out U h)
        rw [HFI.out.chorD] at t
        exact t
      have HCHM : Hid (∀ U, Below V4.heap.size V4 U → Calls Try.prog 25 #[.agg #[.slice A1 d.msgs.length c1, .slice (some ⟨bc, 0, none⟩) d.chors.length k1], .string ⟨#[109, 97]⟩] U fun e w' => e = .returned (.int .i64 (-1)) ∧ Below U.heap.size U w') := fun U h => by
        have t := idsChor_any (vM := .slice A1 d.msgs.length c1) ⟨#[109, 97]⟩ (r2.out U h)
        rw [HFI.out.chorM] at t
        exact t
      have HMSC : Hid (∀ U, Below V4.heap.size V4 U → Calls Try.prog 26 #[.agg #[.slice A1 d.msgs.length c1, .slice (some ⟨bc, 0, none⟩) d.chors.length k1], .string ⟨#[109, 99]⟩] U fun e w' => e = .returned (.int .i64 2) ∧ Below U.heap.size U w') := fun U h => by
        have t := idsMsg_any (vC := .slice (some ⟨bc, 0, none⟩) d.chors.length k1) ⟨#[109, 99]⟩ (r1.out U h)
        rw [HFI.out.msgC] at t
        exact t
      have HMSN : Hid (∀ U, Below V4.heap.size V4 U → Calls Try.prog 26 #[.agg #[.slice A1 d.msgs.length c1, .slice (some ⟨bc, 0, none⟩) d.chors.length k1], .string ⟨#[99]⟩] U fun e w' => e = .returned (.int .i64 (-1)) ∧ Below U.heap.size U w') := fun U h => by
        have t := idsMsg_any (vC := .slice (some ⟨bc, 0, none⟩) d.chors.length k1) ⟨#[99]⟩ (r1.out U h)
        rw [HFI.out.msgN] at t
        exact t
      have HHS : Hid (∀ U, Below V4.heap.size V4 U → Calls Try.prog 18 #[.pointer (some ⟨g, 0, none⟩), .string ⟨#[110, 111, 32, 111, 110, 101]⟩] U fun e w' => e = .returned (.bool false) ∧ U = w') := fun U h => by
        have t := has_any ⟨#[110, 111, 32, 111, 110, 101]⟩ (r6.out U h)
        rw [HIDS.out, HFI.out.none] at t
        exact t
      refine wp_region_HT 72 (fun U => Below V4.heap.size V4 U) (by kernel_rfl) (by decide) (HDR.out.drew) (fun hHeld => ?_)
      refine ht_one 0 rfl (by kernel_rfl) (fun K hK => ?_)
      go_simp
      refine (ids_awake _).mono ?_
      rintro e w6 ⟨rfl, hb6⟩
      go_wp2_with fail
      refine hK.out _ _ (hHeld.trans (hb6.mono hHeld.size)) (fun hHeld => ?_)
      clear hK K
      try simp only [Act.put, List.setIfInBounds_toArray, List.set_cons_zero, List.set_cons_succ]
      refine ht_take 1 (v := ?vc_1) rfl (by kernel_rfl) (fun _ _ _ h => h) (Or.inl ⟨by rfl, ?hc_1⟩) hHeld ?rc_1
      case hc_1 => ((intro U hSw; have qd0 := (hSw.cell (p := ⟨gd, 0, none⟩) lgd).trans d0; have qd1 := (hSw.cell (p := ⟨gd, 1, none⟩) lgd).trans d1; have qxc0 := (hSw.cell (p := ⟨gc, 0, none⟩) lgc).trans xc0; have qxc1 := (hSw.cell (p := ⟨gc, 1, none⟩) lgc).trans xc1; have qxc2 := (hSw.cell (p := ⟨gc, 2, none⟩) lgc).trans xc2; have qxc3 := (hSw.cell (p := ⟨gc, 3, none⟩) lgc).trans xc3; have qxc4 := (hSw.cell (p := ⟨gc, 4, none⟩) lgc).trans xc4; have qeI := (hSw.cell (p := ⟨bI, i * 10 + 1, none⟩) lbI).trans eI; have qeP := (hSw.cell (p := ⟨bP, k * 2, none⟩) lbP).trans eP; have qeF := (hSw.cell (p := ⟨bF, f * 4, none⟩) lbF).trans eF; go_simp); (try (with_reducible rfl)))
      try simp only [Act.put, List.setIfInBounds_toArray, List.set_cons_zero, List.set_cons_succ]
      refine ht_take 2 (v := ?vc_2) rfl (by kernel_rfl) (fun _ _ _ h => h) (Or.inl ⟨by rfl, ?hc_2⟩) hHeld ?rc_2
      case hc_2 => ((intro U hSw; have qd0 := (hSw.cell (p := ⟨gd, 0, none⟩) lgd).trans d0; have qd1 := (hSw.cell (p := ⟨gd, 1, none⟩) lgd).trans d1; have qxc0 := (hSw.cell (p := ⟨gc, 0, none⟩) lgc).trans xc0; have qxc1 := (hSw.cell (p := ⟨gc, 1, none⟩) lgc).trans xc1; have qxc2 := (hSw.cell (p := ⟨gc, 2, none⟩) lgc).trans xc2; have qxc3 := (hSw.cell (p := ⟨gc, 3, none⟩) lgc).trans xc3; have qxc4 := (hSw.cell (p := ⟨gc, 4, none⟩) lgc).trans xc4; have qeI := (hSw.cell (p := ⟨bI, i * 10 + 1, none⟩) lbI).trans eI; have qeP := (hSw.cell (p := ⟨bP, k * 2, none⟩) lbP).trans eP; have qeF := (hSw.cell (p := ⟨bF, f * 4, none⟩) lbF).trans eF; go_simp); (try (with_reducible rfl)))
      try simp only [Act.put, List.setIfInBounds_toArray, List.set_cons_zero, List.set_cons_succ]
      refine ht_one 3 rfl (by kernel_rfl) (fun K hK => ?_)
      go_simp
      refine (HCHK.out _ hHeld).mono ?_
      rintro e w6 ⟨rfl, hb6⟩
      go_wp2_with fail
      refine hK.out _ _ (hHeld.trans (hb6.mono hHeld.size)) (fun hHeld => ?_)
      clear hK K
      try simp only [Act.put, List.setIfInBounds_toArray, List.set_cons_zero, List.set_cons_succ]
      refine ht_take 4 (v := ?vc_3) rfl (by kernel_rfl) (fun _ _ _ h => h) (Or.inl ⟨by rfl, ?hc_3⟩) hHeld ?rc_3
      case hc_3 => ((intro U hSw; have qd0 := (hSw.cell (p := ⟨gd, 0, none⟩) lgd).trans d0; have qd1 := (hSw.cell (p := ⟨gd, 1, none⟩) lgd).trans d1; have qxc0 := (hSw.cell (p := ⟨gc, 0, none⟩) lgc).trans xc0; have qxc1 := (hSw.cell (p := ⟨gc, 1, none⟩) lgc).trans xc1; have qxc2 := (hSw.cell (p := ⟨gc, 2, none⟩) lgc).trans xc2; have qxc3 := (hSw.cell (p := ⟨gc, 3, none⟩) lgc).trans xc3; have qxc4 := (hSw.cell (p := ⟨gc, 4, none⟩) lgc).trans xc4; have qeI := (hSw.cell (p := ⟨bI, i * 10 + 1, none⟩) lbI).trans eI; have qeP := (hSw.cell (p := ⟨bP, k * 2, none⟩) lbP).trans eP; have qeF := (hSw.cell (p := ⟨bF, f * 4, none⟩) lbF).trans eF; go_simp); (try (with_reducible rfl)))
      try simp only [Act.put, List.setIfInBounds_toArray, List.set_cons_zero, List.set_cons_succ]
      refine ht_take 5 (v := ?vc_4) rfl (by kernel_rfl) (fun _ _ _ h => h) (Or.inl ⟨by rfl, ?hc_4⟩) hHeld ?rc_4
      case hc_4 => ((intro U hSw; have qd0 := (hSw.cell (p := ⟨gd, 0, none⟩) lgd).trans d0; have qd1 := (hSw.cell (p := ⟨gd, 1, none⟩) lgd).trans d1; have qxc0 := (hSw.cell (p := ⟨gc, 0, none⟩) lgc).trans xc0; have qxc1 := (hSw.cell (p := ⟨gc, 1, none⟩) lgc).trans xc1; have qxc2 := (hSw.cell (p := ⟨gc, 2, none⟩) lgc).trans xc2; have qxc3 := (hSw.cell (p := ⟨gc, 3, none⟩) lgc).trans xc3; have qxc4 := (hSw.cell (p := ⟨gc, 4, none⟩) lgc).trans xc4; have qeI := (hSw.cell (p := ⟨bI, i * 10 + 1, none⟩) lbI).trans eI; have qeP := (hSw.cell (p := ⟨bP, k * 2, none⟩) lbP).trans eP; have qeF := (hSw.cell (p := ⟨bF, f * 4, none⟩) lbF).trans eF; go_simp); (try (with_reducible rfl)))
      try simp only [Act.put, List.setIfInBounds_toArray, List.set_cons_zero, List.set_cons_succ]
      refine ht_take 6 (v := ?vc_5) rfl (by kernel_rfl) (fun _ _ _ h => h) (Or.inl ⟨by rfl, ?hc_5⟩) hHeld ?rc_5
      case hc_5 => ((intro U hSw; have qd0 := (hSw.cell (p := ⟨gd, 0, none⟩) lgd).trans d0; have qd1 := (hSw.cell (p := ⟨gd, 1, none⟩) lgd).trans d1; have qxc0 := (hSw.cell (p := ⟨gc, 0, none⟩) lgc).trans xc0; have qxc1 := (hSw.cell (p := ⟨gc, 1, none⟩) lgc).trans xc1; have qxc2 := (hSw.cell (p := ⟨gc, 2, none⟩) lgc).trans xc2; have qxc3 := (hSw.cell (p := ⟨gc, 3, none⟩) lgc).trans xc3; have qxc4 := (hSw.cell (p := ⟨gc, 4, none⟩) lgc).trans xc4; have qeI := (hSw.cell (p := ⟨bI, i * 10 + 1, none⟩) lbI).trans eI; have qeP := (hSw.cell (p := ⟨bP, k * 2, none⟩) lbP).trans eP; have qeF := (hSw.cell (p := ⟨bF, f * 4, none⟩) lbF).trans eF; go_simp); (try (with_reducible rfl)))
      try simp only [Act.put, List.setIfInBounds_toArray, List.set_cons_zero, List.set_cons_succ]
      refine ht_take 7 (v := ?vc_6) rfl (by kernel_rfl) (fun _ _ _ h => h) (Or.inl ⟨by rfl, ?hc_6⟩) hHeld ?rc_6
      case hc_6 => ((intro U hSw; have qd0 := (hSw.cell (p := ⟨gd, 0, none⟩) lgd).trans d0; have qd1 := (hSw.cell (p := ⟨gd, 1, none⟩) lgd).trans d1; have qxc0 := (hSw.cell (p := ⟨gc, 0, none⟩) lgc).trans xc0; have qxc1 := (hSw.cell (p := ⟨gc, 1, none⟩) lgc).trans xc1; have qxc2 := (hSw.cell (p := ⟨gc, 2, none⟩) lgc).trans xc2; have qxc3 := (hSw.cell (p := ⟨gc, 3, none⟩) lgc).trans xc3; have qxc4 := (hSw.cell (p := ⟨gc, 4, none⟩) lgc).trans xc4; have qeI := (hSw.cell (p := ⟨bI, i * 10 + 1, none⟩) lbI).trans eI; have qeP := (hSw.cell (p := ⟨bP, k * 2, none⟩) lbP).trans eP; have qeF := (hSw.cell (p := ⟨bF, f * 4, none⟩) lbF).trans eF; go_simp); (try (with_reducible rfl)))
      try simp only [Act.put, List.setIfInBounds_toArray, List.set_cons_zero, List.set_cons_succ]
      refine ht_one 8 rfl (by kernel_rfl) (fun K hK => ?_)
      go_simp
      refine (HREF.out _ hHeld).mono ?_
      rintro e w6 ⟨rfl, hb6⟩
      go_wp2_with fail
      refine hK.out _ _ (hHeld.trans (hb6.mono hHeld.size)) (fun hHeld => ?_)
      clear hK K
      try simp only [Act.put, List.setIfInBounds_toArray, List.set_cons_zero, List.set_cons_succ]
      refine ht_take 9 (v := ?vc_7) rfl (by kernel_rfl) (fun _ _ _ h => h) (Or.inl ⟨by rfl, ?hc_7⟩) hHeld ?rc_7
      case hc_7 => ((intro U hSw; have qd0 := (hSw.cell (p := ⟨gd, 0, none⟩) lgd).trans d0; have qd1 := (hSw.cell (p := ⟨gd, 1, none⟩) lgd).trans d1; have qxc0 := (hSw.cell (p := ⟨gc, 0, none⟩) lgc).trans xc0; have qxc1 := (hSw.cell (p := ⟨gc, 1, none⟩) lgc).trans xc1; have qxc2 := (hSw.cell (p := ⟨gc, 2, none⟩) lgc).trans xc2; have qxc3 := (hSw.cell (p := ⟨gc, 3, none⟩) lgc).trans xc3; have qxc4 := (hSw.cell (p := ⟨gc, 4, none⟩) lgc).trans xc4; have qeI := (hSw.cell (p := ⟨bI, i * 10 + 1, none⟩) lbI).trans eI; have qeP := (hSw.cell (p := ⟨bP, k * 2, none⟩) lbP).trans eP; have qeF := (hSw.cell (p := ⟨bF, f * 4, none⟩) lbF).trans eF; go_simp); (try (with_reducible rfl)))
      try simp only [Act.put, List.setIfInBounds_toArray, List.set_cons_zero, List.set_cons_succ]
      refine ht_take 10 (v := ?vc_8) rfl (by kernel_rfl) (fun _ _ _ h => h) (Or.inl ⟨by rfl, ?hc_8⟩) hHeld ?rc_8
      case hc_8 => ((intro U hSw; have qd0 := (hSw.cell (p := ⟨gd, 0, none⟩) lgd).trans d0; have qd1 := (hSw.cell (p := ⟨gd, 1, none⟩) lgd).trans d1; have qxc0 := (hSw.cell (p := ⟨gc, 0, none⟩) lgc).trans xc0; have qxc1 := (hSw.cell (p := ⟨gc, 1, none⟩) lgc).trans xc1; have qxc2 := (hSw.cell (p := ⟨gc, 2, none⟩) lgc).trans xc2; have qxc3 := (hSw.cell (p := ⟨gc, 3, none⟩) lgc).trans xc3; have qxc4 := (hSw.cell (p := ⟨gc, 4, none⟩) lgc).trans xc4; have qeI := (hSw.cell (p := ⟨bI, i * 10 + 1, none⟩) lbI).trans eI; have qeP := (hSw.cell (p := ⟨bP, k * 2, none⟩) lbP).trans eP; have qeF := (hSw.cell (p := ⟨bF, f * 4, none⟩) lbF).trans eF; go_simp); (try (with_reducible rfl)))
      try simp only [Act.put, List.setIfInBounds_toArray, List.set_cons_zero, List.set_cons_succ]
      refine ht_take 11 (v := ?vc_9) rfl (by kernel_rfl) (fun _ _ _ h => h) (Or.inl ⟨by rfl, ?hc_9⟩) hHeld ?rc_9
      case hc_9 => ((intro U hSw; have qd0 := (hSw.cell (p := ⟨gd, 0, none⟩) lgd).trans d0; have qd1 := (hSw.cell (p := ⟨gd, 1, none⟩) lgd).trans d1; have qxc0 := (hSw.cell (p := ⟨gc, 0, none⟩) lgc).trans xc0; have qxc1 := (hSw.cell (p := ⟨gc, 1, none⟩) lgc).trans xc1; have qxc2 := (hSw.cell (p := ⟨gc, 2, none⟩) lgc).trans xc2; have qxc3 := (hSw.cell (p := ⟨gc, 3, none⟩) lgc).trans xc3; have qxc4 := (hSw.cell (p := ⟨gc, 4, none⟩) lgc).trans xc4; have qeI := (hSw.cell (p := ⟨bI, i * 10 + 1, none⟩) lbI).trans eI; have qeP := (hSw.cell (p := ⟨bP, k * 2, none⟩) lbP).trans eP; have qeF := (hSw.cell (p := ⟨bF, f * 4, none⟩) lbF).trans eF; go_simp); (try (with_reducible rfl)))
      try simp only [Act.put, List.setIfInBounds_toArray, List.set_cons_zero, List.set_cons_succ]
      refine ht_take 12 (v := ?vc_10) rfl (by kernel_rfl) (fun _ _ _ h => h) (Or.inl ⟨by rfl, ?hc_10⟩) hHeld ?rc_10
      case hc_10 => ((intro U hSw; have qd0 := (hSw.cell (p := ⟨gd, 0, none⟩) lgd).trans d0; have qd1 := (hSw.cell (p := ⟨gd, 1, none⟩) lgd).trans d1; have qxc0 := (hSw.cell (p := ⟨gc, 0, none⟩) lgc).trans xc0; have qxc1 := (hSw.cell (p := ⟨gc, 1, none⟩) lgc).trans xc1; have qxc2 := (hSw.cell (p := ⟨gc, 2, none⟩) lgc).trans xc2; have qxc3 := (hSw.cell (p := ⟨gc, 3, none⟩) lgc).trans xc3; have qxc4 := (hSw.cell (p := ⟨gc, 4, none⟩) lgc).trans xc4; have qeI := (hSw.cell (p := ⟨bI, i * 10 + 1, none⟩) lbI).trans eI; have qeP := (hSw.cell (p := ⟨bP, k * 2, none⟩) lbP).trans eP; have qeF := (hSw.cell (p := ⟨bF, f * 4, none⟩) lbF).trans eF; go_simp); (try (with_reducible rfl)))
      try simp only [Act.put, List.setIfInBounds_toArray, List.set_cons_zero, List.set_cons_succ]
      refine ht_take 13 (v := ?vc_11) rfl (by kernel_rfl) (fun _ _ _ h => h) (Or.inl ⟨by rfl, ?hc_11⟩) hHeld ?rc_11
      case hc_11 => ((intro U hSw; have qd0 := (hSw.cell (p := ⟨gd, 0, none⟩) lgd).trans d0; have qd1 := (hSw.cell (p := ⟨gd, 1, none⟩) lgd).trans d1; have qxc0 := (hSw.cell (p := ⟨gc, 0, none⟩) lgc).trans xc0; have qxc1 := (hSw.cell (p := ⟨gc, 1, none⟩) lgc).trans xc1; have qxc2 := (hSw.cell (p := ⟨gc, 2, none⟩) lgc).trans xc2; have qxc3 := (hSw.cell (p := ⟨gc, 3, none⟩) lgc).trans xc3; have qxc4 := (hSw.cell (p := ⟨gc, 4, none⟩) lgc).trans xc4; have qeI := (hSw.cell (p := ⟨bI, i * 10 + 1, none⟩) lbI).trans eI; have qeP := (hSw.cell (p := ⟨bP, k * 2, none⟩) lbP).trans eP; have qeF := (hSw.cell (p := ⟨bF, f * 4, none⟩) lbF).trans eF; go_simp); (try (with_reducible rfl)))
      try simp only [Act.put, List.setIfInBounds_toArray, List.set_cons_zero, List.set_cons_succ]
      refine ht_take 14 (v := ?vc_12) rfl (by kernel_rfl) (fun _ _ _ h => h) (Or.inl ⟨by rfl, ?hc_12⟩) hHeld ?rc_12
      case hc_12 => ((intro U hSw; have qd0 := (hSw.cell (p := ⟨gd, 0, none⟩) lgd).trans d0; have qd1 := (hSw.cell (p := ⟨gd, 1, none⟩) lgd).trans d1; have qxc0 := (hSw.cell (p := ⟨gc, 0, none⟩) lgc).trans xc0; have qxc1 := (hSw.cell (p := ⟨gc, 1, none⟩) lgc).trans xc1; have qxc2 := (hSw.cell (p := ⟨gc, 2, none⟩) lgc).trans xc2; have qxc3 := (hSw.cell (p := ⟨gc, 3, none⟩) lgc).trans xc3; have qxc4 := (hSw.cell (p := ⟨gc, 4, none⟩) lgc).trans xc4; have qeI := (hSw.cell (p := ⟨bI, i * 10 + 1, none⟩) lbI).trans eI; have qeP := (hSw.cell (p := ⟨bP, k * 2, none⟩) lbP).trans eP; have qeF := (hSw.cell (p := ⟨bF, f * 4, none⟩) lbF).trans eF; go_simp); (try (with_reducible rfl)))
      try simp only [Act.put, List.setIfInBounds_toArray, List.set_cons_zero, List.set_cons_succ]
      refine ht_take 15 (v := ?vc_13) rfl (by kernel_rfl) (fun _ _ _ h => h) (Or.inl ⟨by rfl, ?hc_13⟩) hHeld ?rc_13
      case hc_13 => ((intro U hSw; have qd0 := (hSw.cell (p := ⟨gd, 0, none⟩) lgd).trans d0; have qd1 := (hSw.cell (p := ⟨gd, 1, none⟩) lgd).trans d1; have qxc0 := (hSw.cell (p := ⟨gc, 0, none⟩) lgc).trans xc0; have qxc1 := (hSw.cell (p := ⟨gc, 1, none⟩) lgc).trans xc1; have qxc2 := (hSw.cell (p := ⟨gc, 2, none⟩) lgc).trans xc2; have qxc3 := (hSw.cell (p := ⟨gc, 3, none⟩) lgc).trans xc3; have qxc4 := (hSw.cell (p := ⟨gc, 4, none⟩) lgc).trans xc4; have qeI := (hSw.cell (p := ⟨bI, i * 10 + 1, none⟩) lbI).trans eI; have qeP := (hSw.cell (p := ⟨bP, k * 2, none⟩) lbP).trans eP; have qeF := (hSw.cell (p := ⟨bF, f * 4, none⟩) lbF).trans eF; go_simp); (try (with_reducible rfl)))
      try simp only [Act.put, List.setIfInBounds_toArray, List.set_cons_zero, List.set_cons_succ]
      refine ht_take 16 (v := ?vc_14) rfl (by kernel_rfl) (fun _ _ _ h => h) (Or.inl ⟨by rfl, ?hc_14⟩) hHeld ?rc_14
      case hc_14 => ((intro U hSw; have qd0 := (hSw.cell (p := ⟨gd, 0, none⟩) lgd).trans d0; have qd1 := (hSw.cell (p := ⟨gd, 1, none⟩) lgd).trans d1; have qxc0 := (hSw.cell (p := ⟨gc, 0, none⟩) lgc).trans xc0; have qxc1 := (hSw.cell (p := ⟨gc, 1, none⟩) lgc).trans xc1; have qxc2 := (hSw.cell (p := ⟨gc, 2, none⟩) lgc).trans xc2; have qxc3 := (hSw.cell (p := ⟨gc, 3, none⟩) lgc).trans xc3; have qxc4 := (hSw.cell (p := ⟨gc, 4, none⟩) lgc).trans xc4; have qeI := (hSw.cell (p := ⟨bI, i * 10 + 1, none⟩) lbI).trans eI; have qeP := (hSw.cell (p := ⟨bP, k * 2, none⟩) lbP).trans eP; have qeF := (hSw.cell (p := ⟨bF, f * 4, none⟩) lbF).trans eF; go_simp); (try (with_reducible rfl)))
      try simp only [Act.put, List.setIfInBounds_toArray, List.set_cons_zero, List.set_cons_succ]
      refine ht_take 17 (v := ?vc_15) rfl (by kernel_rfl) (fun _ _ _ h => h) (Or.inl ⟨by rfl, ?hc_15⟩) hHeld ?rc_15
      case hc_15 => ((intro U hSw; have qd0 := (hSw.cell (p := ⟨gd, 0, none⟩) lgd).trans d0; have qd1 := (hSw.cell (p := ⟨gd, 1, none⟩) lgd).trans d1; have qxc0 := (hSw.cell (p := ⟨gc, 0, none⟩) lgc).trans xc0; have qxc1 := (hSw.cell (p := ⟨gc, 1, none⟩) lgc).trans xc1; have qxc2 := (hSw.cell (p := ⟨gc, 2, none⟩) lgc).trans xc2; have qxc3 := (hSw.cell (p := ⟨gc, 3, none⟩) lgc).trans xc3; have qxc4 := (hSw.cell (p := ⟨gc, 4, none⟩) lgc).trans xc4; have qeI := (hSw.cell (p := ⟨bI, i * 10 + 1, none⟩) lbI).trans eI; have qeP := (hSw.cell (p := ⟨bP, k * 2, none⟩) lbP).trans eP; have qeF := (hSw.cell (p := ⟨bF, f * 4, none⟩) lbF).trans eF; go_simp); (try (with_reducible rfl)))
      try simp only [Act.put, List.setIfInBounds_toArray, List.set_cons_zero, List.set_cons_succ]
      refine ht_take 18 (v := ?vc_16) rfl (by kernel_rfl) (fun _ _ _ h => h) (Or.inl ⟨by rfl, ?hc_16⟩) hHeld ?rc_16
      case hc_16 => ((intro U hSw; have qd0 := (hSw.cell (p := ⟨gd, 0, none⟩) lgd).trans d0; have qd1 := (hSw.cell (p := ⟨gd, 1, none⟩) lgd).trans d1; have qxc0 := (hSw.cell (p := ⟨gc, 0, none⟩) lgc).trans xc0; have qxc1 := (hSw.cell (p := ⟨gc, 1, none⟩) lgc).trans xc1; have qxc2 := (hSw.cell (p := ⟨gc, 2, none⟩) lgc).trans xc2; have qxc3 := (hSw.cell (p := ⟨gc, 3, none⟩) lgc).trans xc3; have qxc4 := (hSw.cell (p := ⟨gc, 4, none⟩) lgc).trans xc4; have qeI := (hSw.cell (p := ⟨bI, i * 10 + 1, none⟩) lbI).trans eI; have qeP := (hSw.cell (p := ⟨bP, k * 2, none⟩) lbP).trans eP; have qeF := (hSw.cell (p := ⟨bF, f * 4, none⟩) lbF).trans eF; go_simp); (try (with_reducible rfl)))
      try simp only [Act.put, List.setIfInBounds_toArray, List.set_cons_zero, List.set_cons_succ]
      refine ht_take 20 (v := ?vc_17) rfl (by kernel_rfl) (fun _ _ _ h => h) (Or.inl ⟨by rfl, ?hc_17⟩) hHeld ?rc_17
      case hc_17 => ((intro U hSw; have qd0 := (hSw.cell (p := ⟨gd, 0, none⟩) lgd).trans d0; have qd1 := (hSw.cell (p := ⟨gd, 1, none⟩) lgd).trans d1; have qxc0 := (hSw.cell (p := ⟨gc, 0, none⟩) lgc).trans xc0; have qxc1 := (hSw.cell (p := ⟨gc, 1, none⟩) lgc).trans xc1; have qxc2 := (hSw.cell (p := ⟨gc, 2, none⟩) lgc).trans xc2; have qxc3 := (hSw.cell (p := ⟨gc, 3, none⟩) lgc).trans xc3; have qxc4 := (hSw.cell (p := ⟨gc, 4, none⟩) lgc).trans xc4; have qeI := (hSw.cell (p := ⟨bI, i * 10 + 1, none⟩) lbI).trans eI; have qeP := (hSw.cell (p := ⟨bP, k * 2, none⟩) lbP).trans eP; have qeF := (hSw.cell (p := ⟨bF, f * 4, none⟩) lbF).trans eF; go_simp); (try (with_reducible rfl)))
      try simp only [Act.put, List.setIfInBounds_toArray, List.set_cons_zero, List.set_cons_succ]
      refine ht_one 19 rfl (by kernel_rfl) (fun K hK => ?_)
      go_simp
      refine (HITM.out _ hHeld).mono ?_
      rintro e w6 ⟨rfl, hb6⟩
      go_wp2_with fail
      refine hK.out _ _ (hHeld.trans (hb6.mono hHeld.size)) (fun hHeld => ?_)
      clear hK K
      try simp only [Act.put, List.setIfInBounds_toArray, List.set_cons_zero, List.set_cons_succ]
      refine ht_take 21 (v := ?vc_18) rfl (by kernel_rfl) (fun _ _ _ h => h) (Or.inl ⟨by rfl, ?hc_18⟩) hHeld ?rc_18
      case hc_18 => ((intro U hSw; have qd0 := (hSw.cell (p := ⟨gd, 0, none⟩) lgd).trans d0; have qd1 := (hSw.cell (p := ⟨gd, 1, none⟩) lgd).trans d1; have qxc0 := (hSw.cell (p := ⟨gc, 0, none⟩) lgc).trans xc0; have qxc1 := (hSw.cell (p := ⟨gc, 1, none⟩) lgc).trans xc1; have qxc2 := (hSw.cell (p := ⟨gc, 2, none⟩) lgc).trans xc2; have qxc3 := (hSw.cell (p := ⟨gc, 3, none⟩) lgc).trans xc3; have qxc4 := (hSw.cell (p := ⟨gc, 4, none⟩) lgc).trans xc4; have qeI := (hSw.cell (p := ⟨bI, i * 10 + 1, none⟩) lbI).trans eI; have qeP := (hSw.cell (p := ⟨bP, k * 2, none⟩) lbP).trans eP; have qeF := (hSw.cell (p := ⟨bF, f * 4, none⟩) lbF).trans eF; go_simp); (try (with_reducible rfl)))
      try simp only [Act.put, List.setIfInBounds_toArray, List.set_cons_zero, List.set_cons_succ]
      refine ht_take 22 (v := ?vc_19) rfl (by kernel_rfl) (fun _ _ _ h => h) (Or.inl ⟨by rfl, ?hc_19⟩) hHeld ?rc_19
      case hc_19 => ((intro U hSw; have qd0 := (hSw.cell (p := ⟨gd, 0, none⟩) lgd).trans d0; have qd1 := (hSw.cell (p := ⟨gd, 1, none⟩) lgd).trans d1; have qxc0 := (hSw.cell (p := ⟨gc, 0, none⟩) lgc).trans xc0; have qxc1 := (hSw.cell (p := ⟨gc, 1, none⟩) lgc).trans xc1; have qxc2 := (hSw.cell (p := ⟨gc, 2, none⟩) lgc).trans xc2; have qxc3 := (hSw.cell (p := ⟨gc, 3, none⟩) lgc).trans xc3; have qxc4 := (hSw.cell (p := ⟨gc, 4, none⟩) lgc).trans xc4; have qeI := (hSw.cell (p := ⟨bI, i * 10 + 1, none⟩) lbI).trans eI; have qeP := (hSw.cell (p := ⟨bP, k * 2, none⟩) lbP).trans eP; have qeF := (hSw.cell (p := ⟨bF, f * 4, none⟩) lbF).trans eF; go_simp); (try (with_reducible rfl)))
      try simp only [Act.put, List.setIfInBounds_toArray, List.set_cons_zero, List.set_cons_succ]
      refine ht_take 23 (v := ?vc_20) rfl (by kernel_rfl) (fun _ _ _ h => h) (Or.inl ⟨by rfl, ?hc_20⟩) hHeld ?rc_20
      case hc_20 => ((intro U hSw; have qd0 := (hSw.cell (p := ⟨gd, 0, none⟩) lgd).trans d0; have qd1 := (hSw.cell (p := ⟨gd, 1, none⟩) lgd).trans d1; have qxc0 := (hSw.cell (p := ⟨gc, 0, none⟩) lgc).trans xc0; have qxc1 := (hSw.cell (p := ⟨gc, 1, none⟩) lgc).trans xc1; have qxc2 := (hSw.cell (p := ⟨gc, 2, none⟩) lgc).trans xc2; have qxc3 := (hSw.cell (p := ⟨gc, 3, none⟩) lgc).trans xc3; have qxc4 := (hSw.cell (p := ⟨gc, 4, none⟩) lgc).trans xc4; have qeI := (hSw.cell (p := ⟨bI, i * 10 + 1, none⟩) lbI).trans eI; have qeP := (hSw.cell (p := ⟨bP, k * 2, none⟩) lbP).trans eP; have qeF := (hSw.cell (p := ⟨bF, f * 4, none⟩) lbF).trans eF; go_simp); (try (with_reducible rfl)))
      try simp only [Act.put, List.setIfInBounds_toArray, List.set_cons_zero, List.set_cons_succ]
      refine ht_take 24 (v := ?vc_21) rfl (by kernel_rfl) (fun _ _ _ h => h) (Or.inl ⟨by rfl, ?hc_21⟩) hHeld ?rc_21
      case hc_21 => ((intro U hSw; have qd0 := (hSw.cell (p := ⟨gd, 0, none⟩) lgd).trans d0; have qd1 := (hSw.cell (p := ⟨gd, 1, none⟩) lgd).trans d1; have qxc0 := (hSw.cell (p := ⟨gc, 0, none⟩) lgc).trans xc0; have qxc1 := (hSw.cell (p := ⟨gc, 1, none⟩) lgc).trans xc1; have qxc2 := (hSw.cell (p := ⟨gc, 2, none⟩) lgc).trans xc2; have qxc3 := (hSw.cell (p := ⟨gc, 3, none⟩) lgc).trans xc3; have qxc4 := (hSw.cell (p := ⟨gc, 4, none⟩) lgc).trans xc4; have qeI := (hSw.cell (p := ⟨bI, i * 10 + 1, none⟩) lbI).trans eI; have qeP := (hSw.cell (p := ⟨bP, k * 2, none⟩) lbP).trans eP; have qeF := (hSw.cell (p := ⟨bF, f * 4, none⟩) lbF).trans eF; go_simp); (try (with_reducible rfl)))
      try simp only [Act.put, List.setIfInBounds_toArray, List.set_cons_zero, List.set_cons_succ]
      refine ht_take 25 (v := ?vc_22) rfl (by kernel_rfl) (fun _ _ _ h => h) (Or.inl ⟨by rfl, ?hc_22⟩) hHeld ?rc_22
      case hc_22 => ((intro U hSw; have qd0 := (hSw.cell (p := ⟨gd, 0, none⟩) lgd).trans d0; have qd1 := (hSw.cell (p := ⟨gd, 1, none⟩) lgd).trans d1; have qxc0 := (hSw.cell (p := ⟨gc, 0, none⟩) lgc).trans xc0; have qxc1 := (hSw.cell (p := ⟨gc, 1, none⟩) lgc).trans xc1; have qxc2 := (hSw.cell (p := ⟨gc, 2, none⟩) lgc).trans xc2; have qxc3 := (hSw.cell (p := ⟨gc, 3, none⟩) lgc).trans xc3; have qxc4 := (hSw.cell (p := ⟨gc, 4, none⟩) lgc).trans xc4; have qeI := (hSw.cell (p := ⟨bI, i * 10 + 1, none⟩) lbI).trans eI; have qeP := (hSw.cell (p := ⟨bP, k * 2, none⟩) lbP).trans eP; have qeF := (hSw.cell (p := ⟨bF, f * 4, none⟩) lbF).trans eF; go_simp); (try (with_reducible rfl)))
      try simp only [Act.put, List.setIfInBounds_toArray, List.set_cons_zero, List.set_cons_succ]
      refine ht_take 26 (v := ?vc_23) rfl (by kernel_rfl) (fun _ _ _ h => h) (Or.inl ⟨by rfl, ?hc_23⟩) hHeld ?rc_23
      case hc_23 => ((intro U hSw; have qd0 := (hSw.cell (p := ⟨gd, 0, none⟩) lgd).trans d0; have qd1 := (hSw.cell (p := ⟨gd, 1, none⟩) lgd).trans d1; have qxc0 := (hSw.cell (p := ⟨gc, 0, none⟩) lgc).trans xc0; have qxc1 := (hSw.cell (p := ⟨gc, 1, none⟩) lgc).trans xc1; have qxc2 := (hSw.cell (p := ⟨gc, 2, none⟩) lgc).trans xc2; have qxc3 := (hSw.cell (p := ⟨gc, 3, none⟩) lgc).trans xc3; have qxc4 := (hSw.cell (p := ⟨gc, 4, none⟩) lgc).trans xc4; have qeI := (hSw.cell (p := ⟨bI, i * 10 + 1, none⟩) lbI).trans eI; have qeP := (hSw.cell (p := ⟨bP, k * 2, none⟩) lbP).trans eP; have qeF := (hSw.cell (p := ⟨bF, f * 4, none⟩) lbF).trans eF; go_simp); (try (with_reducible rfl)))
      try simp only [Act.put, List.setIfInBounds_toArray, List.set_cons_zero, List.set_cons_succ]
      refine ht_take 27 (v := ?vc_24) rfl (by kernel_rfl) (fun _ _ _ h => h) (Or.inl ⟨by rfl, ?hc_24⟩) hHeld ?rc_24
      case hc_24 => ((intro U hSw; have qd0 := (hSw.cell (p := ⟨gd, 0, none⟩) lgd).trans d0; have qd1 := (hSw.cell (p := ⟨gd, 1, none⟩) lgd).trans d1; have qxc0 := (hSw.cell (p := ⟨gc, 0, none⟩) lgc).trans xc0; have qxc1 := (hSw.cell (p := ⟨gc, 1, none⟩) lgc).trans xc1; have qxc2 := (hSw.cell (p := ⟨gc, 2, none⟩) lgc).trans xc2; have qxc3 := (hSw.cell (p := ⟨gc, 3, none⟩) lgc).trans xc3; have qxc4 := (hSw.cell (p := ⟨gc, 4, none⟩) lgc).trans xc4; have qeI := (hSw.cell (p := ⟨bI, i * 10 + 1, none⟩) lbI).trans eI; have qeP := (hSw.cell (p := ⟨bP, k * 2, none⟩) lbP).trans eP; have qeF := (hSw.cell (p := ⟨bF, f * 4, none⟩) lbF).trans eF; go_simp); (try (with_reducible rfl)))
      try simp only [Act.put, List.setIfInBounds_toArray, List.set_cons_zero, List.set_cons_succ]
      refine ht_take 28 (v := ?vc_25) rfl (by kernel_rfl) (fun _ _ _ h => h) (Or.inl ⟨by rfl, ?hc_25⟩) hHeld ?rc_25
      case hc_25 => ((intro U hSw; have qd0 := (hSw.cell (p := ⟨gd, 0, none⟩) lgd).trans d0; have qd1 := (hSw.cell (p := ⟨gd, 1, none⟩) lgd).trans d1; have qxc0 := (hSw.cell (p := ⟨gc, 0, none⟩) lgc).trans xc0; have qxc1 := (hSw.cell (p := ⟨gc, 1, none⟩) lgc).trans xc1; have qxc2 := (hSw.cell (p := ⟨gc, 2, none⟩) lgc).trans xc2; have qxc3 := (hSw.cell (p := ⟨gc, 3, none⟩) lgc).trans xc3; have qxc4 := (hSw.cell (p := ⟨gc, 4, none⟩) lgc).trans xc4; have qeI := (hSw.cell (p := ⟨bI, i * 10 + 1, none⟩) lbI).trans eI; have qeP := (hSw.cell (p := ⟨bP, k * 2, none⟩) lbP).trans eP; have qeF := (hSw.cell (p := ⟨bF, f * 4, none⟩) lbF).trans eF; go_simp); (try (with_reducible rfl)))
      try simp only [Act.put, List.setIfInBounds_toArray, List.set_cons_zero, List.set_cons_succ]
      refine ht_take 29 (v := ?vc_26) rfl (by kernel_rfl) (fun _ _ _ h => h) (Or.inl ⟨by rfl, ?hc_26⟩) hHeld ?rc_26
      case hc_26 => ((intro U hSw; have qd0 := (hSw.cell (p := ⟨gd, 0, none⟩) lgd).trans d0; have qd1 := (hSw.cell (p := ⟨gd, 1, none⟩) lgd).trans d1; have qxc0 := (hSw.cell (p := ⟨gc, 0, none⟩) lgc).trans xc0; have qxc1 := (hSw.cell (p := ⟨gc, 1, none⟩) lgc).trans xc1; have qxc2 := (hSw.cell (p := ⟨gc, 2, none⟩) lgc).trans xc2; have qxc3 := (hSw.cell (p := ⟨gc, 3, none⟩) lgc).trans xc3; have qxc4 := (hSw.cell (p := ⟨gc, 4, none⟩) lgc).trans xc4; have qeI := (hSw.cell (p := ⟨bI, i * 10 + 1, none⟩) lbI).trans eI; have qeP := (hSw.cell (p := ⟨bP, k * 2, none⟩) lbP).trans eP; have qeF := (hSw.cell (p := ⟨bF, f * 4, none⟩) lbF).trans eF; go_simp); (try (with_reducible rfl)))
      try simp only [Act.put, List.setIfInBounds_toArray, List.set_cons_zero, List.set_cons_succ]
      refine ht_take 30 (v := ?vc_27) rfl (by kernel_rfl) (fun _ _ _ h => h) (Or.inl ⟨by rfl, ?hc_27⟩) hHeld ?rc_27
      case hc_27 => ((intro U hSw; have qd0 := (hSw.cell (p := ⟨gd, 0, none⟩) lgd).trans d0; have qd1 := (hSw.cell (p := ⟨gd, 1, none⟩) lgd).trans d1; have qxc0 := (hSw.cell (p := ⟨gc, 0, none⟩) lgc).trans xc0; have qxc1 := (hSw.cell (p := ⟨gc, 1, none⟩) lgc).trans xc1; have qxc2 := (hSw.cell (p := ⟨gc, 2, none⟩) lgc).trans xc2; have qxc3 := (hSw.cell (p := ⟨gc, 3, none⟩) lgc).trans xc3; have qxc4 := (hSw.cell (p := ⟨gc, 4, none⟩) lgc).trans xc4; have qeI := (hSw.cell (p := ⟨bI, i * 10 + 1, none⟩) lbI).trans eI; have qeP := (hSw.cell (p := ⟨bP, k * 2, none⟩) lbP).trans eP; have qeF := (hSw.cell (p := ⟨bF, f * 4, none⟩) lbF).trans eF; go_simp); (try (with_reducible rfl)))
      try simp only [Act.put, List.setIfInBounds_toArray, List.set_cons_zero, List.set_cons_succ]
      refine ht_take 32 (v := ?vc_28) rfl (by kernel_rfl) (fun _ _ _ h => h) (Or.inl ⟨by rfl, ?hc_28⟩) hHeld ?rc_28
      case hc_28 => ((intro U hSw; have qd0 := (hSw.cell (p := ⟨gd, 0, none⟩) lgd).trans d0; have qd1 := (hSw.cell (p := ⟨gd, 1, none⟩) lgd).trans d1; have qxc0 := (hSw.cell (p := ⟨gc, 0, none⟩) lgc).trans xc0; have qxc1 := (hSw.cell (p := ⟨gc, 1, none⟩) lgc).trans xc1; have qxc2 := (hSw.cell (p := ⟨gc, 2, none⟩) lgc).trans xc2; have qxc3 := (hSw.cell (p := ⟨gc, 3, none⟩) lgc).trans xc3; have qxc4 := (hSw.cell (p := ⟨gc, 4, none⟩) lgc).trans xc4; have qeI := (hSw.cell (p := ⟨bI, i * 10 + 1, none⟩) lbI).trans eI; have qeP := (hSw.cell (p := ⟨bP, k * 2, none⟩) lbP).trans eP; have qeF := (hSw.cell (p := ⟨bF, f * 4, none⟩) lbF).trans eF; go_simp); (try (with_reducible rfl)))
      try simp only [Act.put, List.setIfInBounds_toArray, List.set_cons_zero, List.set_cons_succ]
      refine ht_one 31 rfl (by kernel_rfl) (fun K hK => ?_)
      go_simp
      refine (HPRT.out _ hHeld).mono ?_
      rintro e w6 ⟨rfl, hb6⟩
      go_wp2_with fail
      refine hK.out _ _ (hHeld.trans (hb6.mono hHeld.size)) (fun hHeld => ?_)
      clear hK K
      try simp only [Act.put, List.setIfInBounds_toArray, List.set_cons_zero, List.set_cons_succ]
      refine ht_take 33 (v := ?vc_29) rfl (by kernel_rfl) (fun _ _ _ h => h) (Or.inl ⟨by rfl, ?hc_29⟩) hHeld ?rc_29
      case hc_29 => ((intro U hSw; have qd0 := (hSw.cell (p := ⟨gd, 0, none⟩) lgd).trans d0; have qd1 := (hSw.cell (p := ⟨gd, 1, none⟩) lgd).trans d1; have qxc0 := (hSw.cell (p := ⟨gc, 0, none⟩) lgc).trans xc0; have qxc1 := (hSw.cell (p := ⟨gc, 1, none⟩) lgc).trans xc1; have qxc2 := (hSw.cell (p := ⟨gc, 2, none⟩) lgc).trans xc2; have qxc3 := (hSw.cell (p := ⟨gc, 3, none⟩) lgc).trans xc3; have qxc4 := (hSw.cell (p := ⟨gc, 4, none⟩) lgc).trans xc4; have qeI := (hSw.cell (p := ⟨bI, i * 10 + 1, none⟩) lbI).trans eI; have qeP := (hSw.cell (p := ⟨bP, k * 2, none⟩) lbP).trans eP; have qeF := (hSw.cell (p := ⟨bF, f * 4, none⟩) lbF).trans eF; go_simp); (try (with_reducible rfl)))
      try simp only [Act.put, List.setIfInBounds_toArray, List.set_cons_zero, List.set_cons_succ]
      refine ht_take 34 (v := ?vc_30) rfl (by kernel_rfl) (fun _ _ _ h => h) (Or.inl ⟨by rfl, ?hc_30⟩) hHeld ?rc_30
      case hc_30 => ((intro U hSw; have qd0 := (hSw.cell (p := ⟨gd, 0, none⟩) lgd).trans d0; have qd1 := (hSw.cell (p := ⟨gd, 1, none⟩) lgd).trans d1; have qxc0 := (hSw.cell (p := ⟨gc, 0, none⟩) lgc).trans xc0; have qxc1 := (hSw.cell (p := ⟨gc, 1, none⟩) lgc).trans xc1; have qxc2 := (hSw.cell (p := ⟨gc, 2, none⟩) lgc).trans xc2; have qxc3 := (hSw.cell (p := ⟨gc, 3, none⟩) lgc).trans xc3; have qxc4 := (hSw.cell (p := ⟨gc, 4, none⟩) lgc).trans xc4; have qeI := (hSw.cell (p := ⟨bI, i * 10 + 1, none⟩) lbI).trans eI; have qeP := (hSw.cell (p := ⟨bP, k * 2, none⟩) lbP).trans eP; have qeF := (hSw.cell (p := ⟨bF, f * 4, none⟩) lbF).trans eF; go_simp); (try (with_reducible rfl)))
      try simp only [Act.put, List.setIfInBounds_toArray, List.set_cons_zero, List.set_cons_succ]
      refine ht_take 35 (v := ?vc_31) rfl (by kernel_rfl) (fun _ _ _ h => h) (Or.inl ⟨by rfl, ?hc_31⟩) hHeld ?rc_31
      case hc_31 => ((intro U hSw; have qd0 := (hSw.cell (p := ⟨gd, 0, none⟩) lgd).trans d0; have qd1 := (hSw.cell (p := ⟨gd, 1, none⟩) lgd).trans d1; have qxc0 := (hSw.cell (p := ⟨gc, 0, none⟩) lgc).trans xc0; have qxc1 := (hSw.cell (p := ⟨gc, 1, none⟩) lgc).trans xc1; have qxc2 := (hSw.cell (p := ⟨gc, 2, none⟩) lgc).trans xc2; have qxc3 := (hSw.cell (p := ⟨gc, 3, none⟩) lgc).trans xc3; have qxc4 := (hSw.cell (p := ⟨gc, 4, none⟩) lgc).trans xc4; have qeI := (hSw.cell (p := ⟨bI, i * 10 + 1, none⟩) lbI).trans eI; have qeP := (hSw.cell (p := ⟨bP, k * 2, none⟩) lbP).trans eP; have qeF := (hSw.cell (p := ⟨bF, f * 4, none⟩) lbF).trans eF; go_simp); (try (with_reducible rfl)))
      try simp only [Act.put, List.setIfInBounds_toArray, List.set_cons_zero, List.set_cons_succ]
      refine ht_take 36 (v := ?vc_32) rfl (by kernel_rfl) (fun _ _ _ h => h) (Or.inl ⟨by rfl, ?hc_32⟩) hHeld ?rc_32
      case hc_32 => ((intro U hSw; have qd0 := (hSw.cell (p := ⟨gd, 0, none⟩) lgd).trans d0; have qd1 := (hSw.cell (p := ⟨gd, 1, none⟩) lgd).trans d1; have qxc0 := (hSw.cell (p := ⟨gc, 0, none⟩) lgc).trans xc0; have qxc1 := (hSw.cell (p := ⟨gc, 1, none⟩) lgc).trans xc1; have qxc2 := (hSw.cell (p := ⟨gc, 2, none⟩) lgc).trans xc2; have qxc3 := (hSw.cell (p := ⟨gc, 3, none⟩) lgc).trans xc3; have qxc4 := (hSw.cell (p := ⟨gc, 4, none⟩) lgc).trans xc4; have qeI := (hSw.cell (p := ⟨bI, i * 10 + 1, none⟩) lbI).trans eI; have qeP := (hSw.cell (p := ⟨bP, k * 2, none⟩) lbP).trans eP; have qeF := (hSw.cell (p := ⟨bF, f * 4, none⟩) lbF).trans eF; go_simp); (try (with_reducible rfl)))
      try simp only [Act.put, List.setIfInBounds_toArray, List.set_cons_zero, List.set_cons_succ]
      refine ht_take 37 (v := ?vc_33) rfl (by kernel_rfl) (fun _ _ _ h => h) (Or.inl ⟨by rfl, ?hc_33⟩) hHeld ?rc_33
      case hc_33 => ((intro U hSw; have qd0 := (hSw.cell (p := ⟨gd, 0, none⟩) lgd).trans d0; have qd1 := (hSw.cell (p := ⟨gd, 1, none⟩) lgd).trans d1; have qxc0 := (hSw.cell (p := ⟨gc, 0, none⟩) lgc).trans xc0; have qxc1 := (hSw.cell (p := ⟨gc, 1, none⟩) lgc).trans xc1; have qxc2 := (hSw.cell (p := ⟨gc, 2, none⟩) lgc).trans xc2; have qxc3 := (hSw.cell (p := ⟨gc, 3, none⟩) lgc).trans xc3; have qxc4 := (hSw.cell (p := ⟨gc, 4, none⟩) lgc).trans xc4; have qeI := (hSw.cell (p := ⟨bI, i * 10 + 1, none⟩) lbI).trans eI; have qeP := (hSw.cell (p := ⟨bP, k * 2, none⟩) lbP).trans eP; have qeF := (hSw.cell (p := ⟨bF, f * 4, none⟩) lbF).trans eF; go_simp); (try (with_reducible rfl)))
      try simp only [Act.put, List.setIfInBounds_toArray, List.set_cons_zero, List.set_cons_succ]
      refine ht_take 38 (v := ?vc_34) rfl (by kernel_rfl) (fun _ _ _ h => h) (Or.inl ⟨by rfl, ?hc_34⟩) hHeld ?rc_34
      case hc_34 => ((intro U hSw; have qd0 := (hSw.cell (p := ⟨gd, 0, none⟩) lgd).trans d0; have qd1 := (hSw.cell (p := ⟨gd, 1, none⟩) lgd).trans d1; have qxc0 := (hSw.cell (p := ⟨gc, 0, none⟩) lgc).trans xc0; have qxc1 := (hSw.cell (p := ⟨gc, 1, none⟩) lgc).trans xc1; have qxc2 := (hSw.cell (p := ⟨gc, 2, none⟩) lgc).trans xc2; have qxc3 := (hSw.cell (p := ⟨gc, 3, none⟩) lgc).trans xc3; have qxc4 := (hSw.cell (p := ⟨gc, 4, none⟩) lgc).trans xc4; have qeI := (hSw.cell (p := ⟨bI, i * 10 + 1, none⟩) lbI).trans eI; have qeP := (hSw.cell (p := ⟨bP, k * 2, none⟩) lbP).trans eP; have qeF := (hSw.cell (p := ⟨bF, f * 4, none⟩) lbF).trans eF; go_simp); (try (with_reducible rfl)))
      try simp only [Act.put, List.setIfInBounds_toArray, List.set_cons_zero, List.set_cons_succ]
      refine ht_take 39 (v := ?vc_35) rfl (by kernel_rfl) (fun _ _ _ h => h) (Or.inl ⟨by rfl, ?hc_35⟩) hHeld ?rc_35
      case hc_35 => ((intro U hSw; have qd0 := (hSw.cell (p := ⟨gd, 0, none⟩) lgd).trans d0; have qd1 := (hSw.cell (p := ⟨gd, 1, none⟩) lgd).trans d1; have qxc0 := (hSw.cell (p := ⟨gc, 0, none⟩) lgc).trans xc0; have qxc1 := (hSw.cell (p := ⟨gc, 1, none⟩) lgc).trans xc1; have qxc2 := (hSw.cell (p := ⟨gc, 2, none⟩) lgc).trans xc2; have qxc3 := (hSw.cell (p := ⟨gc, 3, none⟩) lgc).trans xc3; have qxc4 := (hSw.cell (p := ⟨gc, 4, none⟩) lgc).trans xc4; have qeI := (hSw.cell (p := ⟨bI, i * 10 + 1, none⟩) lbI).trans eI; have qeP := (hSw.cell (p := ⟨bP, k * 2, none⟩) lbP).trans eP; have qeF := (hSw.cell (p := ⟨bF, f * 4, none⟩) lbF).trans eF; go_simp); (try (with_reducible rfl)))
      try simp only [Act.put, List.setIfInBounds_toArray, List.set_cons_zero, List.set_cons_succ]
      refine ht_take 40 (v := ?vc_36) rfl (by kernel_rfl) (fun _ _ _ h => h) (Or.inl ⟨by rfl, ?hc_36⟩) hHeld ?rc_36
      case hc_36 => ((intro U hSw; have qd0 := (hSw.cell (p := ⟨gd, 0, none⟩) lgd).trans d0; have qd1 := (hSw.cell (p := ⟨gd, 1, none⟩) lgd).trans d1; have qxc0 := (hSw.cell (p := ⟨gc, 0, none⟩) lgc).trans xc0; have qxc1 := (hSw.cell (p := ⟨gc, 1, none⟩) lgc).trans xc1; have qxc2 := (hSw.cell (p := ⟨gc, 2, none⟩) lgc).trans xc2; have qxc3 := (hSw.cell (p := ⟨gc, 3, none⟩) lgc).trans xc3; have qxc4 := (hSw.cell (p := ⟨gc, 4, none⟩) lgc).trans xc4; have qeI := (hSw.cell (p := ⟨bI, i * 10 + 1, none⟩) lbI).trans eI; have qeP := (hSw.cell (p := ⟨bP, k * 2, none⟩) lbP).trans eP; have qeF := (hSw.cell (p := ⟨bF, f * 4, none⟩) lbF).trans eF; go_simp); (try (with_reducible rfl)))
      try simp only [Act.put, List.setIfInBounds_toArray, List.set_cons_zero, List.set_cons_succ]
      refine ht_take 41 (v := ?vc_37) rfl (by kernel_rfl) (fun _ _ _ h => h) (Or.inl ⟨by rfl, ?hc_37⟩) hHeld ?rc_37
      case hc_37 => ((intro U hSw; have qd0 := (hSw.cell (p := ⟨gd, 0, none⟩) lgd).trans d0; have qd1 := (hSw.cell (p := ⟨gd, 1, none⟩) lgd).trans d1; have qxc0 := (hSw.cell (p := ⟨gc, 0, none⟩) lgc).trans xc0; have qxc1 := (hSw.cell (p := ⟨gc, 1, none⟩) lgc).trans xc1; have qxc2 := (hSw.cell (p := ⟨gc, 2, none⟩) lgc).trans xc2; have qxc3 := (hSw.cell (p := ⟨gc, 3, none⟩) lgc).trans xc3; have qxc4 := (hSw.cell (p := ⟨gc, 4, none⟩) lgc).trans xc4; have qeI := (hSw.cell (p := ⟨bI, i * 10 + 1, none⟩) lbI).trans eI; have qeP := (hSw.cell (p := ⟨bP, k * 2, none⟩) lbP).trans eP; have qeF := (hSw.cell (p := ⟨bF, f * 4, none⟩) lbF).trans eF; go_simp); (try (with_reducible rfl)))
      try simp only [Act.put, List.setIfInBounds_toArray, List.set_cons_zero, List.set_cons_succ]
      refine ht_take 42 (v := ?vc_38) rfl (by kernel_rfl) (fun _ _ _ h => h) (Or.inl ⟨by rfl, ?hc_38⟩) hHeld ?rc_38
      case hc_38 => ((intro U hSw; have qd0 := (hSw.cell (p := ⟨gd, 0, none⟩) lgd).trans d0; have qd1 := (hSw.cell (p := ⟨gd, 1, none⟩) lgd).trans d1; have qxc0 := (hSw.cell (p := ⟨gc, 0, none⟩) lgc).trans xc0; have qxc1 := (hSw.cell (p := ⟨gc, 1, none⟩) lgc).trans xc1; have qxc2 := (hSw.cell (p := ⟨gc, 2, none⟩) lgc).trans xc2; have qxc3 := (hSw.cell (p := ⟨gc, 3, none⟩) lgc).trans xc3; have qxc4 := (hSw.cell (p := ⟨gc, 4, none⟩) lgc).trans xc4; have qeI := (hSw.cell (p := ⟨bI, i * 10 + 1, none⟩) lbI).trans eI; have qeP := (hSw.cell (p := ⟨bP, k * 2, none⟩) lbP).trans eP; have qeF := (hSw.cell (p := ⟨bF, f * 4, none⟩) lbF).trans eF; go_simp); (try (with_reducible rfl)))
      try simp only [Act.put, List.setIfInBounds_toArray, List.set_cons_zero, List.set_cons_succ]
      refine ht_take 44 (v := ?vc_39) rfl (by kernel_rfl) (fun _ _ _ h => h) (Or.inl ⟨by rfl, ?hc_39⟩) hHeld ?rc_39
      case hc_39 => ((intro U hSw; have qd0 := (hSw.cell (p := ⟨gd, 0, none⟩) lgd).trans d0; have qd1 := (hSw.cell (p := ⟨gd, 1, none⟩) lgd).trans d1; have qxc0 := (hSw.cell (p := ⟨gc, 0, none⟩) lgc).trans xc0; have qxc1 := (hSw.cell (p := ⟨gc, 1, none⟩) lgc).trans xc1; have qxc2 := (hSw.cell (p := ⟨gc, 2, none⟩) lgc).trans xc2; have qxc3 := (hSw.cell (p := ⟨gc, 3, none⟩) lgc).trans xc3; have qxc4 := (hSw.cell (p := ⟨gc, 4, none⟩) lgc).trans xc4; have qeI := (hSw.cell (p := ⟨bI, i * 10 + 1, none⟩) lbI).trans eI; have qeP := (hSw.cell (p := ⟨bP, k * 2, none⟩) lbP).trans eP; have qeF := (hSw.cell (p := ⟨bF, f * 4, none⟩) lbF).trans eF; go_simp); (try (with_reducible rfl)))
      try simp only [Act.put, List.setIfInBounds_toArray, List.set_cons_zero, List.set_cons_succ]
      refine ht_one 43 rfl (by kernel_rfl) (fun K hK => ?_)
      go_simp
      refine (HFLW.out _ hHeld).mono ?_
      rintro e w6 ⟨rfl, hb6⟩
      go_wp2_with fail
      refine hK.out _ _ (hHeld.trans (hb6.mono hHeld.size)) (fun hHeld => ?_)
      clear hK K
      try simp only [Act.put, List.setIfInBounds_toArray, List.set_cons_zero, List.set_cons_succ]
      refine ht_take 45 (v := ?vc_40) rfl (by kernel_rfl) (fun _ _ _ h => h) (Or.inl ⟨by rfl, ?hc_40⟩) hHeld ?rc_40
      case hc_40 => ((intro U hSw; have qd0 := (hSw.cell (p := ⟨gd, 0, none⟩) lgd).trans d0; have qd1 := (hSw.cell (p := ⟨gd, 1, none⟩) lgd).trans d1; have qxc0 := (hSw.cell (p := ⟨gc, 0, none⟩) lgc).trans xc0; have qxc1 := (hSw.cell (p := ⟨gc, 1, none⟩) lgc).trans xc1; have qxc2 := (hSw.cell (p := ⟨gc, 2, none⟩) lgc).trans xc2; have qxc3 := (hSw.cell (p := ⟨gc, 3, none⟩) lgc).trans xc3; have qxc4 := (hSw.cell (p := ⟨gc, 4, none⟩) lgc).trans xc4; have qeI := (hSw.cell (p := ⟨bI, i * 10 + 1, none⟩) lbI).trans eI; have qeP := (hSw.cell (p := ⟨bP, k * 2, none⟩) lbP).trans eP; have qeF := (hSw.cell (p := ⟨bF, f * 4, none⟩) lbF).trans eF; go_simp); (try (with_reducible rfl)))
      try simp only [Act.put, List.setIfInBounds_toArray, List.set_cons_zero, List.set_cons_succ]
      refine ht_take 46 (v := ?vc_41) rfl (by kernel_rfl) (fun _ _ _ h => h) (Or.inl ⟨by rfl, ?hc_41⟩) hHeld ?rc_41
      case hc_41 => ((intro U hSw; have qd0 := (hSw.cell (p := ⟨gd, 0, none⟩) lgd).trans d0; have qd1 := (hSw.cell (p := ⟨gd, 1, none⟩) lgd).trans d1; have qxc0 := (hSw.cell (p := ⟨gc, 0, none⟩) lgc).trans xc0; have qxc1 := (hSw.cell (p := ⟨gc, 1, none⟩) lgc).trans xc1; have qxc2 := (hSw.cell (p := ⟨gc, 2, none⟩) lgc).trans xc2; have qxc3 := (hSw.cell (p := ⟨gc, 3, none⟩) lgc).trans xc3; have qxc4 := (hSw.cell (p := ⟨gc, 4, none⟩) lgc).trans xc4; have qeI := (hSw.cell (p := ⟨bI, i * 10 + 1, none⟩) lbI).trans eI; have qeP := (hSw.cell (p := ⟨bP, k * 2, none⟩) lbP).trans eP; have qeF := (hSw.cell (p := ⟨bF, f * 4, none⟩) lbF).trans eF; go_simp); (try (with_reducible rfl)))
      try simp only [Act.put, List.setIfInBounds_toArray, List.set_cons_zero, List.set_cons_succ]
      refine ht_take 47 (v := ?vc_42) rfl (by kernel_rfl) (fun _ _ _ h => h) (Or.inl ⟨by rfl, ?hc_42⟩) hHeld ?rc_42
      case hc_42 => ((intro U hSw; have qd0 := (hSw.cell (p := ⟨gd, 0, none⟩) lgd).trans d0; have qd1 := (hSw.cell (p := ⟨gd, 1, none⟩) lgd).trans d1; have qxc0 := (hSw.cell (p := ⟨gc, 0, none⟩) lgc).trans xc0; have qxc1 := (hSw.cell (p := ⟨gc, 1, none⟩) lgc).trans xc1; have qxc2 := (hSw.cell (p := ⟨gc, 2, none⟩) lgc).trans xc2; have qxc3 := (hSw.cell (p := ⟨gc, 3, none⟩) lgc).trans xc3; have qxc4 := (hSw.cell (p := ⟨gc, 4, none⟩) lgc).trans xc4; have qeI := (hSw.cell (p := ⟨bI, i * 10 + 1, none⟩) lbI).trans eI; have qeP := (hSw.cell (p := ⟨bP, k * 2, none⟩) lbP).trans eP; have qeF := (hSw.cell (p := ⟨bF, f * 4, none⟩) lbF).trans eF; go_simp); (try (with_reducible rfl)))
      try simp only [Act.put, List.setIfInBounds_toArray, List.set_cons_zero, List.set_cons_succ]
      refine ht_take 48 (v := ?vc_43) rfl (by kernel_rfl) (fun _ _ _ h => h) (Or.inl ⟨by rfl, ?hc_43⟩) hHeld ?rc_43
      case hc_43 => ((intro U hSw; have qd0 := (hSw.cell (p := ⟨gd, 0, none⟩) lgd).trans d0; have qd1 := (hSw.cell (p := ⟨gd, 1, none⟩) lgd).trans d1; have qxc0 := (hSw.cell (p := ⟨gc, 0, none⟩) lgc).trans xc0; have qxc1 := (hSw.cell (p := ⟨gc, 1, none⟩) lgc).trans xc1; have qxc2 := (hSw.cell (p := ⟨gc, 2, none⟩) lgc).trans xc2; have qxc3 := (hSw.cell (p := ⟨gc, 3, none⟩) lgc).trans xc3; have qxc4 := (hSw.cell (p := ⟨gc, 4, none⟩) lgc).trans xc4; have qeI := (hSw.cell (p := ⟨bI, i * 10 + 1, none⟩) lbI).trans eI; have qeP := (hSw.cell (p := ⟨bP, k * 2, none⟩) lbP).trans eP; have qeF := (hSw.cell (p := ⟨bF, f * 4, none⟩) lbF).trans eF; go_simp); (try (with_reducible rfl)))
      try simp only [Act.put, List.setIfInBounds_toArray, List.set_cons_zero, List.set_cons_succ]
      refine ht_one 49 rfl (by kernel_rfl) (fun K hK => ?_)
      go_simp
      refine (HCHD.out _ hHeld).mono ?_
      rintro e w6 ⟨rfl, hb6⟩
      go_wp2_with fail
      refine hK.out _ _ (hHeld.trans (hb6.mono hHeld.size)) (fun hHeld => ?_)
      clear hK K
      try simp only [Act.put, List.setIfInBounds_toArray, List.set_cons_zero, List.set_cons_succ]
      refine ht_take 50 (v := ?vc_44) rfl (by kernel_rfl) (fun _ _ _ h => h) (Or.inl ⟨by rfl, ?hc_44⟩) hHeld ?rc_44
      case hc_44 => ((intro U hSw; have qd0 := (hSw.cell (p := ⟨gd, 0, none⟩) lgd).trans d0; have qd1 := (hSw.cell (p := ⟨gd, 1, none⟩) lgd).trans d1; have qxc0 := (hSw.cell (p := ⟨gc, 0, none⟩) lgc).trans xc0; have qxc1 := (hSw.cell (p := ⟨gc, 1, none⟩) lgc).trans xc1; have qxc2 := (hSw.cell (p := ⟨gc, 2, none⟩) lgc).trans xc2; have qxc3 := (hSw.cell (p := ⟨gc, 3, none⟩) lgc).trans xc3; have qxc4 := (hSw.cell (p := ⟨gc, 4, none⟩) lgc).trans xc4; have qeI := (hSw.cell (p := ⟨bI, i * 10 + 1, none⟩) lbI).trans eI; have qeP := (hSw.cell (p := ⟨bP, k * 2, none⟩) lbP).trans eP; have qeF := (hSw.cell (p := ⟨bF, f * 4, none⟩) lbF).trans eF; go_simp); (try (with_reducible rfl)))
      try simp only [Act.put, List.setIfInBounds_toArray, List.set_cons_zero, List.set_cons_succ]
      refine ht_take 51 (v := ?vc_45) rfl (by kernel_rfl) (fun _ _ _ h => h) (Or.inl ⟨by rfl, ?hc_45⟩) hHeld ?rc_45
      case hc_45 => ((intro U hSw; have qd0 := (hSw.cell (p := ⟨gd, 0, none⟩) lgd).trans d0; have qd1 := (hSw.cell (p := ⟨gd, 1, none⟩) lgd).trans d1; have qxc0 := (hSw.cell (p := ⟨gc, 0, none⟩) lgc).trans xc0; have qxc1 := (hSw.cell (p := ⟨gc, 1, none⟩) lgc).trans xc1; have qxc2 := (hSw.cell (p := ⟨gc, 2, none⟩) lgc).trans xc2; have qxc3 := (hSw.cell (p := ⟨gc, 3, none⟩) lgc).trans xc3; have qxc4 := (hSw.cell (p := ⟨gc, 4, none⟩) lgc).trans xc4; have qeI := (hSw.cell (p := ⟨bI, i * 10 + 1, none⟩) lbI).trans eI; have qeP := (hSw.cell (p := ⟨bP, k * 2, none⟩) lbP).trans eP; have qeF := (hSw.cell (p := ⟨bF, f * 4, none⟩) lbF).trans eF; go_simp); (try (with_reducible rfl)))
      try simp only [Act.put, List.setIfInBounds_toArray, List.set_cons_zero, List.set_cons_succ]
      refine ht_take 52 (v := ?vc_46) rfl (by kernel_rfl) (fun _ _ _ h => h) (Or.inl ⟨by rfl, ?hc_46⟩) hHeld ?rc_46
      case hc_46 => ((intro U hSw; have qd0 := (hSw.cell (p := ⟨gd, 0, none⟩) lgd).trans d0; have qd1 := (hSw.cell (p := ⟨gd, 1, none⟩) lgd).trans d1; have qxc0 := (hSw.cell (p := ⟨gc, 0, none⟩) lgc).trans xc0; have qxc1 := (hSw.cell (p := ⟨gc, 1, none⟩) lgc).trans xc1; have qxc2 := (hSw.cell (p := ⟨gc, 2, none⟩) lgc).trans xc2; have qxc3 := (hSw.cell (p := ⟨gc, 3, none⟩) lgc).trans xc3; have qxc4 := (hSw.cell (p := ⟨gc, 4, none⟩) lgc).trans xc4; have qeI := (hSw.cell (p := ⟨bI, i * 10 + 1, none⟩) lbI).trans eI; have qeP := (hSw.cell (p := ⟨bP, k * 2, none⟩) lbP).trans eP; have qeF := (hSw.cell (p := ⟨bF, f * 4, none⟩) lbF).trans eF; go_simp); (try (with_reducible rfl)))
      try simp only [Act.put, List.setIfInBounds_toArray, List.set_cons_zero, List.set_cons_succ]
      refine ht_take 53 (v := ?vc_47) rfl (by kernel_rfl) (fun _ _ _ h => h) (Or.inl ⟨by rfl, ?hc_47⟩) hHeld ?rc_47
      case hc_47 => ((intro U hSw; have qd0 := (hSw.cell (p := ⟨gd, 0, none⟩) lgd).trans d0; have qd1 := (hSw.cell (p := ⟨gd, 1, none⟩) lgd).trans d1; have qxc0 := (hSw.cell (p := ⟨gc, 0, none⟩) lgc).trans xc0; have qxc1 := (hSw.cell (p := ⟨gc, 1, none⟩) lgc).trans xc1; have qxc2 := (hSw.cell (p := ⟨gc, 2, none⟩) lgc).trans xc2; have qxc3 := (hSw.cell (p := ⟨gc, 3, none⟩) lgc).trans xc3; have qxc4 := (hSw.cell (p := ⟨gc, 4, none⟩) lgc).trans xc4; have qeI := (hSw.cell (p := ⟨bI, i * 10 + 1, none⟩) lbI).trans eI; have qeP := (hSw.cell (p := ⟨bP, k * 2, none⟩) lbP).trans eP; have qeF := (hSw.cell (p := ⟨bF, f * 4, none⟩) lbF).trans eF; go_simp); (try (with_reducible rfl)))
      try simp only [Act.put, List.setIfInBounds_toArray, List.set_cons_zero, List.set_cons_succ]
      refine ht_one 54 rfl (by kernel_rfl) (fun K hK => ?_)
      go_simp
      refine (HMSC.out _ hHeld).mono ?_
      rintro e w6 ⟨rfl, hb6⟩
      go_wp2_with fail
      refine hK.out _ _ (hHeld.trans (hb6.mono hHeld.size)) (fun hHeld => ?_)
      clear hK K
      try simp only [Act.put, List.setIfInBounds_toArray, List.set_cons_zero, List.set_cons_succ]
      refine ht_take 55 (v := ?vc_48) rfl (by kernel_rfl) (fun _ _ _ h => h) (Or.inl ⟨by rfl, ?hc_48⟩) hHeld ?rc_48
      case hc_48 => ((intro U hSw; have qd0 := (hSw.cell (p := ⟨gd, 0, none⟩) lgd).trans d0; have qd1 := (hSw.cell (p := ⟨gd, 1, none⟩) lgd).trans d1; have qxc0 := (hSw.cell (p := ⟨gc, 0, none⟩) lgc).trans xc0; have qxc1 := (hSw.cell (p := ⟨gc, 1, none⟩) lgc).trans xc1; have qxc2 := (hSw.cell (p := ⟨gc, 2, none⟩) lgc).trans xc2; have qxc3 := (hSw.cell (p := ⟨gc, 3, none⟩) lgc).trans xc3; have qxc4 := (hSw.cell (p := ⟨gc, 4, none⟩) lgc).trans xc4; have qeI := (hSw.cell (p := ⟨bI, i * 10 + 1, none⟩) lbI).trans eI; have qeP := (hSw.cell (p := ⟨bP, k * 2, none⟩) lbP).trans eP; have qeF := (hSw.cell (p := ⟨bF, f * 4, none⟩) lbF).trans eF; go_simp); (try (with_reducible rfl)))
      try simp only [Act.put, List.setIfInBounds_toArray, List.set_cons_zero, List.set_cons_succ]
      refine ht_take 56 (v := ?vc_49) rfl (by kernel_rfl) (fun _ _ _ h => h) (Or.inl ⟨by rfl, ?hc_49⟩) hHeld ?rc_49
      case hc_49 => ((intro U hSw; have qd0 := (hSw.cell (p := ⟨gd, 0, none⟩) lgd).trans d0; have qd1 := (hSw.cell (p := ⟨gd, 1, none⟩) lgd).trans d1; have qxc0 := (hSw.cell (p := ⟨gc, 0, none⟩) lgc).trans xc0; have qxc1 := (hSw.cell (p := ⟨gc, 1, none⟩) lgc).trans xc1; have qxc2 := (hSw.cell (p := ⟨gc, 2, none⟩) lgc).trans xc2; have qxc3 := (hSw.cell (p := ⟨gc, 3, none⟩) lgc).trans xc3; have qxc4 := (hSw.cell (p := ⟨gc, 4, none⟩) lgc).trans xc4; have qeI := (hSw.cell (p := ⟨bI, i * 10 + 1, none⟩) lbI).trans eI; have qeP := (hSw.cell (p := ⟨bP, k * 2, none⟩) lbP).trans eP; have qeF := (hSw.cell (p := ⟨bF, f * 4, none⟩) lbF).trans eF; go_simp); (try (with_reducible rfl)))
      try simp only [Act.put, List.setIfInBounds_toArray, List.set_cons_zero, List.set_cons_succ]
      refine ht_take 57 (v := ?vc_50) rfl (by kernel_rfl) (fun _ _ _ h => h) (Or.inl ⟨by rfl, ?hc_50⟩) hHeld ?rc_50
      case hc_50 => ((intro U hSw; have qd0 := (hSw.cell (p := ⟨gd, 0, none⟩) lgd).trans d0; have qd1 := (hSw.cell (p := ⟨gd, 1, none⟩) lgd).trans d1; have qxc0 := (hSw.cell (p := ⟨gc, 0, none⟩) lgc).trans xc0; have qxc1 := (hSw.cell (p := ⟨gc, 1, none⟩) lgc).trans xc1; have qxc2 := (hSw.cell (p := ⟨gc, 2, none⟩) lgc).trans xc2; have qxc3 := (hSw.cell (p := ⟨gc, 3, none⟩) lgc).trans xc3; have qxc4 := (hSw.cell (p := ⟨gc, 4, none⟩) lgc).trans xc4; have qeI := (hSw.cell (p := ⟨bI, i * 10 + 1, none⟩) lbI).trans eI; have qeP := (hSw.cell (p := ⟨bP, k * 2, none⟩) lbP).trans eP; have qeF := (hSw.cell (p := ⟨bF, f * 4, none⟩) lbF).trans eF; go_simp); (try (with_reducible rfl)))
      try simp only [Act.put, List.setIfInBounds_toArray, List.set_cons_zero, List.set_cons_succ]
      refine ht_take 58 (v := ?vc_51) rfl (by kernel_rfl) (fun _ _ _ h => h) (Or.inl ⟨by rfl, ?hc_51⟩) hHeld ?rc_51
      case hc_51 => ((intro U hSw; have qd0 := (hSw.cell (p := ⟨gd, 0, none⟩) lgd).trans d0; have qd1 := (hSw.cell (p := ⟨gd, 1, none⟩) lgd).trans d1; have qxc0 := (hSw.cell (p := ⟨gc, 0, none⟩) lgc).trans xc0; have qxc1 := (hSw.cell (p := ⟨gc, 1, none⟩) lgc).trans xc1; have qxc2 := (hSw.cell (p := ⟨gc, 2, none⟩) lgc).trans xc2; have qxc3 := (hSw.cell (p := ⟨gc, 3, none⟩) lgc).trans xc3; have qxc4 := (hSw.cell (p := ⟨gc, 4, none⟩) lgc).trans xc4; have qeI := (hSw.cell (p := ⟨bI, i * 10 + 1, none⟩) lbI).trans eI; have qeP := (hSw.cell (p := ⟨bP, k * 2, none⟩) lbP).trans eP; have qeF := (hSw.cell (p := ⟨bF, f * 4, none⟩) lbF).trans eF; go_simp); (try (with_reducible rfl)))
      try simp only [Act.put, List.setIfInBounds_toArray, List.set_cons_zero, List.set_cons_succ]
      refine ht_one 59 rfl (by kernel_rfl) (fun K hK => ?_)
      go_simp
      refine (HMSN.out _ hHeld).mono ?_
      rintro e w6 ⟨rfl, hb6⟩
      go_wp2_with fail
      refine hK.out _ _ (hHeld.trans (hb6.mono hHeld.size)) (fun hHeld => ?_)
      clear hK K
      try simp only [Act.put, List.setIfInBounds_toArray, List.set_cons_zero, List.set_cons_succ]
      refine ht_take 60 (v := ?vc_52) rfl (by kernel_rfl) (fun _ _ _ h => h) (Or.inl ⟨by rfl, ?hc_52⟩) hHeld ?rc_52
      case hc_52 => ((intro U hSw; have qd0 := (hSw.cell (p := ⟨gd, 0, none⟩) lgd).trans d0; have qd1 := (hSw.cell (p := ⟨gd, 1, none⟩) lgd).trans d1; have qxc0 := (hSw.cell (p := ⟨gc, 0, none⟩) lgc).trans xc0; have qxc1 := (hSw.cell (p := ⟨gc, 1, none⟩) lgc).trans xc1; have qxc2 := (hSw.cell (p := ⟨gc, 2, none⟩) lgc).trans xc2; have qxc3 := (hSw.cell (p := ⟨gc, 3, none⟩) lgc).trans xc3; have qxc4 := (hSw.cell (p := ⟨gc, 4, none⟩) lgc).trans xc4; have qeI := (hSw.cell (p := ⟨bI, i * 10 + 1, none⟩) lbI).trans eI; have qeP := (hSw.cell (p := ⟨bP, k * 2, none⟩) lbP).trans eP; have qeF := (hSw.cell (p := ⟨bF, f * 4, none⟩) lbF).trans eF; go_simp); (try (with_reducible rfl)))
      try simp only [Act.put, List.setIfInBounds_toArray, List.set_cons_zero, List.set_cons_succ]
      refine ht_take 61 (v := ?vc_53) rfl (by kernel_rfl) (fun _ _ _ h => h) (Or.inl ⟨by rfl, ?hc_53⟩) hHeld ?rc_53
      case hc_53 => ((intro U hSw; have qd0 := (hSw.cell (p := ⟨gd, 0, none⟩) lgd).trans d0; have qd1 := (hSw.cell (p := ⟨gd, 1, none⟩) lgd).trans d1; have qxc0 := (hSw.cell (p := ⟨gc, 0, none⟩) lgc).trans xc0; have qxc1 := (hSw.cell (p := ⟨gc, 1, none⟩) lgc).trans xc1; have qxc2 := (hSw.cell (p := ⟨gc, 2, none⟩) lgc).trans xc2; have qxc3 := (hSw.cell (p := ⟨gc, 3, none⟩) lgc).trans xc3; have qxc4 := (hSw.cell (p := ⟨gc, 4, none⟩) lgc).trans xc4; have qeI := (hSw.cell (p := ⟨bI, i * 10 + 1, none⟩) lbI).trans eI; have qeP := (hSw.cell (p := ⟨bP, k * 2, none⟩) lbP).trans eP; have qeF := (hSw.cell (p := ⟨bF, f * 4, none⟩) lbF).trans eF; go_simp); (try (with_reducible rfl)))
      try simp only [Act.put, List.setIfInBounds_toArray, List.set_cons_zero, List.set_cons_succ]
      refine ht_take 62 (v := ?vc_54) rfl (by kernel_rfl) (fun _ _ _ h => h) (Or.inl ⟨by rfl, ?hc_54⟩) hHeld ?rc_54
      case hc_54 => ((intro U hSw; have qd0 := (hSw.cell (p := ⟨gd, 0, none⟩) lgd).trans d0; have qd1 := (hSw.cell (p := ⟨gd, 1, none⟩) lgd).trans d1; have qxc0 := (hSw.cell (p := ⟨gc, 0, none⟩) lgc).trans xc0; have qxc1 := (hSw.cell (p := ⟨gc, 1, none⟩) lgc).trans xc1; have qxc2 := (hSw.cell (p := ⟨gc, 2, none⟩) lgc).trans xc2; have qxc3 := (hSw.cell (p := ⟨gc, 3, none⟩) lgc).trans xc3; have qxc4 := (hSw.cell (p := ⟨gc, 4, none⟩) lgc).trans xc4; have qeI := (hSw.cell (p := ⟨bI, i * 10 + 1, none⟩) lbI).trans eI; have qeP := (hSw.cell (p := ⟨bP, k * 2, none⟩) lbP).trans eP; have qeF := (hSw.cell (p := ⟨bF, f * 4, none⟩) lbF).trans eF; go_simp); (try (with_reducible rfl)))
      try simp only [Act.put, List.setIfInBounds_toArray, List.set_cons_zero, List.set_cons_succ]
      refine ht_take 63 (v := ?vc_55) rfl (by kernel_rfl) (fun _ _ _ h => h) (Or.inl ⟨by rfl, ?hc_55⟩) hHeld ?rc_55
      case hc_55 => ((intro U hSw; have qd0 := (hSw.cell (p := ⟨gd, 0, none⟩) lgd).trans d0; have qd1 := (hSw.cell (p := ⟨gd, 1, none⟩) lgd).trans d1; have qxc0 := (hSw.cell (p := ⟨gc, 0, none⟩) lgc).trans xc0; have qxc1 := (hSw.cell (p := ⟨gc, 1, none⟩) lgc).trans xc1; have qxc2 := (hSw.cell (p := ⟨gc, 2, none⟩) lgc).trans xc2; have qxc3 := (hSw.cell (p := ⟨gc, 3, none⟩) lgc).trans xc3; have qxc4 := (hSw.cell (p := ⟨gc, 4, none⟩) lgc).trans xc4; have qeI := (hSw.cell (p := ⟨bI, i * 10 + 1, none⟩) lbI).trans eI; have qeP := (hSw.cell (p := ⟨bP, k * 2, none⟩) lbP).trans eP; have qeF := (hSw.cell (p := ⟨bF, f * 4, none⟩) lbF).trans eF; go_simp); (try (with_reducible rfl)))
      try simp only [Act.put, List.setIfInBounds_toArray, List.set_cons_zero, List.set_cons_succ]
      refine ht_one 64 rfl (by kernel_rfl) (fun K hK => ?_)
      go_simp
      refine (HCHM.out _ hHeld).mono ?_
      rintro e w6 ⟨rfl, hb6⟩
      go_wp2_with fail
      refine hK.out _ _ (hHeld.trans (hb6.mono hHeld.size)) (fun hHeld => ?_)
      clear hK K
      try simp only [Act.put, List.setIfInBounds_toArray, List.set_cons_zero, List.set_cons_succ]
      refine ht_take 65 (v := ?vc_56) rfl (by kernel_rfl) (fun _ _ _ h => h) (Or.inl ⟨by rfl, ?hc_56⟩) hHeld ?rc_56
      case hc_56 => ((intro U hSw; have qd0 := (hSw.cell (p := ⟨gd, 0, none⟩) lgd).trans d0; have qd1 := (hSw.cell (p := ⟨gd, 1, none⟩) lgd).trans d1; have qxc0 := (hSw.cell (p := ⟨gc, 0, none⟩) lgc).trans xc0; have qxc1 := (hSw.cell (p := ⟨gc, 1, none⟩) lgc).trans xc1; have qxc2 := (hSw.cell (p := ⟨gc, 2, none⟩) lgc).trans xc2; have qxc3 := (hSw.cell (p := ⟨gc, 3, none⟩) lgc).trans xc3; have qxc4 := (hSw.cell (p := ⟨gc, 4, none⟩) lgc).trans xc4; have qeI := (hSw.cell (p := ⟨bI, i * 10 + 1, none⟩) lbI).trans eI; have qeP := (hSw.cell (p := ⟨bP, k * 2, none⟩) lbP).trans eP; have qeF := (hSw.cell (p := ⟨bF, f * 4, none⟩) lbF).trans eF; go_simp); (try (with_reducible rfl)))
      try simp only [Act.put, List.setIfInBounds_toArray, List.set_cons_zero, List.set_cons_succ]
      refine ht_take 66 (v := ?vc_57) rfl (by kernel_rfl) (fun _ _ _ h => h) (Or.inl ⟨by rfl, ?hc_57⟩) hHeld ?rc_57
      case hc_57 => ((intro U hSw; have qd0 := (hSw.cell (p := ⟨gd, 0, none⟩) lgd).trans d0; have qd1 := (hSw.cell (p := ⟨gd, 1, none⟩) lgd).trans d1; have qxc0 := (hSw.cell (p := ⟨gc, 0, none⟩) lgc).trans xc0; have qxc1 := (hSw.cell (p := ⟨gc, 1, none⟩) lgc).trans xc1; have qxc2 := (hSw.cell (p := ⟨gc, 2, none⟩) lgc).trans xc2; have qxc3 := (hSw.cell (p := ⟨gc, 3, none⟩) lgc).trans xc3; have qxc4 := (hSw.cell (p := ⟨gc, 4, none⟩) lgc).trans xc4; have qeI := (hSw.cell (p := ⟨bI, i * 10 + 1, none⟩) lbI).trans eI; have qeP := (hSw.cell (p := ⟨bP, k * 2, none⟩) lbP).trans eP; have qeF := (hSw.cell (p := ⟨bF, f * 4, none⟩) lbF).trans eF; go_simp); (try (with_reducible rfl)))
      try simp only [Act.put, List.setIfInBounds_toArray, List.set_cons_zero, List.set_cons_succ]
      refine ht_take 67 (v := ?vc_58) rfl (by kernel_rfl) (fun _ _ _ h => h) (Or.inl ⟨by rfl, ?hc_58⟩) hHeld ?rc_58
      case hc_58 => ((intro U hSw; have qd0 := (hSw.cell (p := ⟨gd, 0, none⟩) lgd).trans d0; have qd1 := (hSw.cell (p := ⟨gd, 1, none⟩) lgd).trans d1; have qxc0 := (hSw.cell (p := ⟨gc, 0, none⟩) lgc).trans xc0; have qxc1 := (hSw.cell (p := ⟨gc, 1, none⟩) lgc).trans xc1; have qxc2 := (hSw.cell (p := ⟨gc, 2, none⟩) lgc).trans xc2; have qxc3 := (hSw.cell (p := ⟨gc, 3, none⟩) lgc).trans xc3; have qxc4 := (hSw.cell (p := ⟨gc, 4, none⟩) lgc).trans xc4; have qeI := (hSw.cell (p := ⟨bI, i * 10 + 1, none⟩) lbI).trans eI; have qeP := (hSw.cell (p := ⟨bP, k * 2, none⟩) lbP).trans eP; have qeF := (hSw.cell (p := ⟨bF, f * 4, none⟩) lbF).trans eF; go_simp); (try (with_reducible rfl)))
      try simp only [Act.put, List.setIfInBounds_toArray, List.set_cons_zero, List.set_cons_succ]
      refine ht_take 68 (v := ?vc_59) rfl (by kernel_rfl) (fun _ _ _ h => h) (Or.inl ⟨by rfl, ?hc_59⟩) hHeld ?rc_59
      case hc_59 => ((intro U hSw; have qd0 := (hSw.cell (p := ⟨gd, 0, none⟩) lgd).trans d0; have qd1 := (hSw.cell (p := ⟨gd, 1, none⟩) lgd).trans d1; have qxc0 := (hSw.cell (p := ⟨gc, 0, none⟩) lgc).trans xc0; have qxc1 := (hSw.cell (p := ⟨gc, 1, none⟩) lgc).trans xc1; have qxc2 := (hSw.cell (p := ⟨gc, 2, none⟩) lgc).trans xc2; have qxc3 := (hSw.cell (p := ⟨gc, 3, none⟩) lgc).trans xc3; have qxc4 := (hSw.cell (p := ⟨gc, 4, none⟩) lgc).trans xc4; have qeI := (hSw.cell (p := ⟨bI, i * 10 + 1, none⟩) lbI).trans eI; have qeP := (hSw.cell (p := ⟨bP, k * 2, none⟩) lbP).trans eP; have qeF := (hSw.cell (p := ⟨bF, f * 4, none⟩) lbF).trans eF; go_simp); (try (with_reducible rfl)))
      try simp only [Act.put, List.setIfInBounds_toArray, List.set_cons_zero, List.set_cons_succ]
      refine ht_one 69 rfl (by kernel_rfl) (fun K hK => ?_)
      go_simp
      refine (HHS.out _ hHeld).mono ?_
      rintro e w6 ⟨rfl, rfl⟩
      go_wp2_with fail
      refine hK.out _ _ (hHeld) (fun hHeld => ?_)
      clear hK K
      try simp only [Act.put, List.setIfInBounds_toArray, List.set_cons_zero, List.set_cons_succ]
      refine ht_take 70 (v := ?vc_60) rfl (by kernel_rfl) (fun _ _ _ h => h) (Or.inl ⟨by rfl, ?hc_60⟩) hHeld ?rc_60
      case hc_60 => ((intro U hSw; have qd0 := (hSw.cell (p := ⟨gd, 0, none⟩) lgd).trans d0; have qd1 := (hSw.cell (p := ⟨gd, 1, none⟩) lgd).trans d1; have qxc0 := (hSw.cell (p := ⟨gc, 0, none⟩) lgc).trans xc0; have qxc1 := (hSw.cell (p := ⟨gc, 1, none⟩) lgc).trans xc1; have qxc2 := (hSw.cell (p := ⟨gc, 2, none⟩) lgc).trans xc2; have qxc3 := (hSw.cell (p := ⟨gc, 3, none⟩) lgc).trans xc3; have qxc4 := (hSw.cell (p := ⟨gc, 4, none⟩) lgc).trans xc4; have qeI := (hSw.cell (p := ⟨bI, i * 10 + 1, none⟩) lbI).trans eI; have qeP := (hSw.cell (p := ⟨bP, k * 2, none⟩) lbP).trans eP; have qeF := (hSw.cell (p := ⟨bF, f * 4, none⟩) lbF).trans eF; go_simp); (try (with_reducible rfl)))
      try simp only [Act.put, List.setIfInBounds_toArray, List.set_cons_zero, List.set_cons_succ]
      refine ht_take 71 (v := ?vc_61) rfl (by kernel_rfl) (fun _ _ _ h => h) (Or.inl ⟨by rfl, ?hc_61⟩) hHeld ?rc_61
      case hc_61 => ((intro U hSw; have qd0 := (hSw.cell (p := ⟨gd, 0, none⟩) lgd).trans d0; have qd1 := (hSw.cell (p := ⟨gd, 1, none⟩) lgd).trans d1; have qxc0 := (hSw.cell (p := ⟨gc, 0, none⟩) lgc).trans xc0; have qxc1 := (hSw.cell (p := ⟨gc, 1, none⟩) lgc).trans xc1; have qxc2 := (hSw.cell (p := ⟨gc, 2, none⟩) lgc).trans xc2; have qxc3 := (hSw.cell (p := ⟨gc, 3, none⟩) lgc).trans xc3; have qxc4 := (hSw.cell (p := ⟨gc, 4, none⟩) lgc).trans xc4; have qeI := (hSw.cell (p := ⟨bI, i * 10 + 1, none⟩) lbI).trans eI; have qeP := (hSw.cell (p := ⟨bP, k * 2, none⟩) lbP).trans eP; have qeF := (hSw.cell (p := ⟨bF, f * 4, none⟩) lbF).trans eF; go_simp); (try (with_reducible rfl)))
      try simp only [Act.put, List.setIfInBounds_toArray, List.set_cons_zero, List.set_cons_succ]
      refine ht_done (by kernel_rfl) rfl ?_
      go_wp2_with fail
      go_ret
      exact ⟨rfl, HEND.out.trans (hHeld.mono HEND.out.size)⟩
end Go.Proofs.Ytljmghaplnkohaa
