/- The walk of the law IdsBad. -/
import Derived.Test.YtljmghaplnkohaaChg
import Derived.Test.YtljmghaplnkohaaIdsV
import Derived.Test.YtljmghaplnkohaaIdsW
import Derived.Test.YtljmghaplnkohaaIdsY
import Derived.Test.YtljmghaplnkohaaArgs
import Derived.Deep.CutBlock
import Derived.Deep.DeepCutAuto
namespace Go.Proofs.Ytljmghaplnkohaa
open Go.RowKit
attribute [local go_sem ↓] Go.wp_at_zero Go.wp_at_succ

theorem item_setId {W : World} (t : ByteArray) (l : List ItemD) (j : Nat) (hj : j < l.length) (xs : List Value) (h : RdL W (l.flatMap itemC) xs) : RdL W ((l.set j (withId l[j] t)).flatMap itemC) (xs.set (j * 10 + 1) (.string t)) :=
  elem_set itemC_len (by decide) l j hj xs (fun vs hv => by
    obtain ⟨v3, v4, v7, v8, v9, rfl, hV⟩ := rd_itemC.1 hv
    exact rd_itemC.2 ⟨v3, v4, v7, v8, v9, rfl, hV⟩) h
/-- The document whose choreography has another row of items. -/
structure BadE (w1 : World) (gb gd gI : Nat) (n kI : Nat) (cs ds : Array Value) (xs : List Value) (W : World) : Prop where
  gr : w1.grownBy W (some gb)
  blk : Blk W gb 54 cs
  box : Blk W gd 42 ds
  own : W.ownsRow w1.heap.size 30 10 (.slice (some ⟨gI, 0, none⟩) n kI) n xs
theorem BadE.below {w1 W W' : World} {gb gd gI n kI : Nat} {cs ds : Array Value} {xs : List Value} (h : BadE w1 gb gd gI n kI cs ds xs W) (k : Below W.heap.size W W') : BadE w1 gb gd gI n kI cs ds xs W' :=
  ⟨gr_below h.gr k, h.blk.below k h.blk.lt, h.box.below k h.box.lt, own_below h.own k⟩
theorem BadE.put {w1 W : World} {gb gd gI n kI : Nat} {v0 v1 v2 v3 v4 u0 u1 : Value} {xs : List Value} (h : BadE w1 gb gd gI n kI #[v0, v1, v2, v3, v4] #[u0, u1] xs W) (i : Nat) (u : Value) : BadE w1 gb gd gI n kI #[v0, v1, v2, v3, v4] #[u0, u1] (xs.set i u) (W.setCell ⟨gI, i, none⟩ u) := by
  have hg : w1.heap.size ≤ gI := by
    rcases h.own.2 with ⟨h', _⟩ | ⟨g', cap, cur, h', hb, _⟩
    · cases h'
    · injection h' with e1
      injection e1 with e1
      injection e1 with e1
      omega
  have h1 : gb ≠ gI := fun e => blk_own_ne h.own h.blk (by decide) (by rw [e]; rfl)
  have h2 : gd ≠ gI := fun e => blk_own_ne h.own h.box (by decide) (by rw [e]; rfl)
  exact ⟨gr_set h.gr gI i u (.inr hg), h.blk.far (p := ⟨gI, i, none⟩) h1 u, h.box.far (p := ⟨gI, i, none⟩) h2 u, (h.own.stored i u).1⟩
def InvB (ids : List ByteArray) (t o : ByteArray) (w0 : Int) (k : Nat) (wn : Int) : Prop := (wn = 7 ∧ ∃ a ∈ ids.take k, a = t ∧ t ≠ o) ∨ (wn = w0 ∧ ∀ a ∈ ids.take k, ¬ (a = t ∧ t ≠ o))
theorem invB_step {ids : List ByteArray} {t o : ByteArray} {w0 wn : Int} {k : Nat} (hk : k < ids.length) (h : InvB ids t o w0 k wn) : (ids[k] = t ∧ t ≠ o → InvB ids t o w0 (k + 1) 7) ∧ (¬ (ids[k] = t ∧ t ≠ o) → InvB ids t o w0 (k + 1) wn) := by
  unfold InvB at *
  rw [List.take_succ_eq_append_getElem hk]
  refine ⟨fun e => .inl ⟨rfl, ids[k], List.mem_append_right _ (List.mem_singleton.2 rfl), e⟩, fun e => ?_⟩
  rcases h with ⟨h1, a, ha, hb⟩ | ⟨h1, h2⟩
  · exact .inl ⟨h1, a, List.mem_append_left _ ha, hb⟩
  · refine .inr ⟨h1, fun a ha => ?_⟩
    rcases List.mem_append.1 ha with ha | ha
    · exact h2 a ha
    · rw [List.mem_singleton.1 ha]; exact e
theorem ext6 (a : ByteArray) : (a.extract 0 (if (6 : Int) < (a.size : Int) then 6 else (a.size : Int)).toNat).size ≤ 6 := by
  rw [ByteArray.size_extract]
  split <;> omega
theorem adds_ok {d : DocD} {c : ChorD} (hD : DocI d c) {i : Nat} (iI : i < c.items.length) {t : ByteArray} {w0 w1 : Int} (h0 : (isName t = true ∧ w0 = 0) ∨ (isName t = false ∧ w0 = 8))
    (h : (w1 = 7 ∧ ∃ a ∈ idsD d, a = t ∧ t ≠ c.items[i].id) ∨ (w1 = w0 ∧ ∀ a ∈ idsD d, ¬ (a = t ∧ t ≠ c.items[i].id))) : (addsF [] (idsD ⟨gmsgsF, [chorId c i iI t]⟩)).1 = w1 := by
  obtain ⟨h1, h2, h3⟩ := adds_id hD i iI t
  rcases h with ⟨rfl, a, ha, rfl, hne⟩ | ⟨rfl, hn⟩
  · exact h1 ha hne
  · rcases h0 with ⟨hn1, rfl⟩ | ⟨hn1, rfl⟩
    · refine h2 ?_ hn1
      by_cases ht : t = c.items[i].id
      · exact .inr ht
      · exact .inl (fun hm => hn t hm ⟨rfl, ht⟩)
    · exact h3 hn1
theorem new_bad {w1 W : World} {gb gd gI i kI : Nat} {d : DocD} {c : ChorD} {cs : Array Value} {AP AF AS A1 : Option Addr} {cP cF cS c1 : Nat} {xsI : List Value} {t : ByteArray} (hD : DocI d c) (hi : i < c.items.length)
    (hb : Blk w1 gb 54 cs) (hM : Rd w1 (msgsD gmsgsF) (.slice A1 4 c1)) (hP : Rd w1 (partsD c.parts) (.slice AP c.parts.length cP)) (hF : Rd w1 (flowsD c.flows) (.slice AF c.flows.length cF)) (hS : Rd w1 (seqsD c.seqs) (.slice AS c.seqs.length cS)) (hI : RdL w1 (c.items.flatMap itemC) xsI)
    (hE : BadE w1 gb gd gI c.items.length kI #[.string ⟨#[99]⟩, .slice AP c.parts.length cP, .slice AF c.flows.length cF, .slice (some ⟨gI, 0, none⟩) c.items.length kI, .slice AS c.seqs.length cS] #[.slice A1 4 c1, .slice (some ⟨gb, 0, none⟩) 1 1] (xsI.set (i * 10 + 1) (.string t)) W) (ht : t.size ≤ 1000000) :
    Calls Try.prog 15 #[.agg #[.slice A1 4 c1, .slice (some ⟨gb, 0, none⟩) 1 1]] W (NewEnd W (addsF [] (idsD ⟨gmsgsF, [chorId c i hi t]⟩))) := by
  have e1 : idsL c.items = c.items.map (·.id) := idsL_plain hD.plain
  have hpl : ∀ x ∈ c.items.set i (withId c.items[i] t), x.items = [] ∧ x.seqs = [] := fun x hx => by
    rcases List.mem_or_eq_of_mem_set hx with hx | hx
    · exact ⟨(hD.plain x hx).items, (hD.plain x hx).seqs⟩
    · have hp := hD.plain c.items[i] (List.getElem_mem hi)
      rw [hx]
      exact ⟨hp.items, hp.seqs⟩
  have hfit : IdsFit [] (idsD ⟨gmsgsF, [chorId c i hi t]⟩) := by
    have s2 : (c.items.set i (withId c.items[i] t)).map (·.id) = (c.items.map (·.id)).set i t := by rw [List.map_set]; rfl
    have hl := hD.len
    have hn := hD.names
    rw [hD.eq] at hl hn
    unfold idsD idsCs at hl hn ⊢
    rw [List.flatMap_cons, List.flatMap_nil, List.append_nil] at hl hn ⊢
    unfold idsC chorId at *
    simp only at hl hn ⊢
    rw [idsL_flat hpl, s2]
    rw [e1] at hl hn
    refine ⟨fun a ha => ?_, ?_⟩
    · have key : a ∈ gmsgsF.map (·.id) ++ (c.id :: (c.parts.map (·.id) ++ (c.flows.map (·.id) ++ (c.items.map (·.id) ++ c.seqs.map (·.id))))) ∨ a = t := by
        simp only [List.mem_append, List.mem_cons] at ha ⊢
        rcases ha with h | h | h | h | h | h
        · exact .inl (.inl h)
        · exact .inl (.inr (.inl h))
        · exact .inl (.inr (.inr (.inl h)))
        · exact .inl (.inr (.inr (.inr (.inl h))))
        · rcases List.mem_or_eq_of_mem_set h with h | h
          · exact .inl (.inr (.inr (.inr (.inr (.inl h)))))
          · exact .inr h
        · exact .inl (.inr (.inr (.inr (.inr (.inr h)))))
      rcases key with h | h
      · have := (hn a h).2; omega
      · rw [h]; exact ht
    · simp only [List.length_append, List.length_cons, List.length_nil, List.length_map, List.length_set] at hl ⊢
      omega
  have hch : Rd W (chorsD [chorId c i hi t]) (.slice (some ⟨gb, 0, none⟩) 1 1) := by
    refine chors_blk (c := chorId c i hi t) (r := []) (xs := []) (by show Blk W gb _ (#[.string c.id, _, _, _, _] ++ #[]); rw [hD.cid]; exact hE.blk) rfl (by decide) (gr_parts hE.gr hb hP) (gr_flows hE.gr hb hF) ?_ (gr_seqs hE.gr hb hS) (rdl_nil.2 rfl)
    exact rd_ownR hE.own (item_setId t c.items i hi xsI (gr_itemL hE.gr hb hI)) (by simp [chorId])
  exact new_any ⟨gmsgsF, [chorId c i hi t]⟩ (gr_msgs hE.gr hb hM) hch hfit
set_option maxRecDepth 100000 in
set_option maxHeartbeats 16000000 in
theorem idsBad_walk (A0 : Option Addr) (c0 : Nat) (x0 : List Int) (a1 b1 : Int) (a2 : ByteArray) (w : World) (m0 : x0.length ≤ maxLen) (h0 : IntsAt w A0 x0) (_m2 : a2.size ≤ maxLen) :
    Calls Try.prog 5 #[.slice A0 x0.length c0, .agg #[.int .i64 a1, .int .i64 b1], .string a2] w fun e w' => e = .returned (.bool true) ∧ Below w.heap.size w w' := by
  obtain ⟨ii0, hii0, hiz0, hiz1, hiz2⟩ := info_parts Try.infoItemG
  obtain ⟨V0, hV0⟩ : ∃ V, V = w.alloc (.cells #[.int .i64 a1, .int .i64 b1] 31) := ⟨_, rfl⟩
  obtain ⟨gA, hgA⟩ : ∃ g, g = w.heap.size := ⟨_, rfl⟩
  have b00 : Below w.heap.size w V0 := by rw [hV0]; exact (Below.refl _ _).alloc (Nat.le_refl _) _
  have kA : Blk V0 gA 31 #[.int .i64 a1, .int .i64 b1] := by rw [hV0, hgA]; exact Blk.new _ _ _
  have hgen := doc_genN (cap := c0) (h0.below b00) m0
  obtain ⟨c, hD⟩ := doc_i x0 m0
  obtain ⟨d, hd⟩ : ∃ d, d = gdocF x0 := ⟨_, rfl⟩
  rw [← hd] at hD hgen
  have lI := hD.lI
  obtain ⟨m, hm⟩ : ∃ m : Nat, bits BinOp.and IntKind.i64 a1 65535 = (m : Int) := ⟨(bits BinOp.and IntKind.i64 a1 65535).toNat, (Int.toNat_of_nonneg (am65535 a1).1).symm⟩
  obtain ⟨i, hi⟩ : ∃ i, i = m % c.items.length := ⟨_, rfl⟩
  have iI : i < c.items.length := by rw [hi]; exact Nat.mod_lt _ lI.1
  have ti : (m : Int).tmod (c.items.length : Int) = (i : Int) := by rw [Int.tmod_eq_emod_of_nonneg (by omega), hi]; omega
  have hids2 : (idsD d).length ≤ 2000 := hD.len
  have hlen : (idsD d).length ≤ 1000000 := by omega
  have nI : c.items ≠ [] := List.ne_nil_of_length_pos lI.1
  have HM := Lib.hid hm
  have HTI := Lib.hid ti
  have HD := Lib.hid hD
  have HGEN := Lib.hid hgen
  have HB00 := Lib.hid b00
  have HKA := Lib.hid kA
  have HV0 := Lib.hid hV0.symm
  have HGA := Lib.hid hgA.symm
  clear hm ti hi hD hgen b00 kA hV0 hgA h0 m0 hd
  go_enter Try.func5, Try.ntmps5
  go_upto_region 1 with fail
  rw [HV0.out, HGA.out]
  clear HV0
  go_wp2_with fail
  refine HGEN.out.mono ?_
  clear HGEN
  rintro e w1 ⟨A1, c1, gb, rfl, hms, hch, hgb, hb1⟩
  have hdl : d.chors.length = 1 := by rw [HD.out.eq]; rfl
  have hdc : d.chors = [c] := by rw [HD.out.eq]
  have hdm : d.msgs = gmsgsF := by rw [HD.out.eq]
  have hml : d.msgs.length = 4 := by rw [hdm]; rfl
  rw [hml, hdm] at hms
  rw [hdl, hdc] at hch
  rw [hdl, hml]
  obtain ⟨_, _, xsC, hvC, hoC, hlC⟩ := rd_sl.1 hch
  injection hvC with e1 e2 e3
  clear e2
  subst e1
  subst e3
  have kb := blk_of_ownC hoC
  rw [List.flatMap_cons, List.flatMap_nil, List.append_nil] at hlC
  obtain ⟨vP, vF, vI, vS, rfl, hP, hF, hI, hS⟩ := rd_chorC.1 hlC
  obtain ⟨AP, cP, rfl⟩ := rd_form hP
  obtain ⟨AF, cF, rfl⟩ := rd_form hF
  obtain ⟨AI, cI, rfl⟩ := rd_form hI
  obtain ⟨AS, cS, rfl⟩ := rd_form hS
  rw [HD.out.cid] at kb
  change Blk w1 gb 54 #[.string ⟨#[99]⟩, .slice AP c.parts.length cP, .slice AF c.flows.length cF, .slice AI c.items.length cI, .slice AS c.seqs.length cS] at kb
  obtain ⟨xsI, hrI, hlI, h1I⟩ := rd_reads hI
  have b01 : Below w.heap.size w w1 := HB00.out.trans (hb1.mono HB00.out.size)
  have hgbw : w.heap.size ≤ gb := by have := HB00.out.size; omega
  have kA1 := HKA.out.below hb1 HKA.out.lt
  obtain ⟨gd, hgd⟩ : ∃ g, g = w1.heap.size := ⟨_, rfl⟩
  obtain ⟨V1, hV1⟩ : ∃ V, V = w1.alloc (.cells #[.slice A1 4 c1, .slice (some ⟨gb, 0, none⟩) 1 1] 42) := ⟨_, rfl⟩
  have b11 : Below w1.heap.size w1 V1 := by rw [hV1]; exact (Below.refl _ _).alloc (Nat.le_refl _) _
  have kd : Blk V1 gd 42 #[.slice A1 4 c1, .slice (some ⟨gb, 0, none⟩) 1 1] := by rw [hV1, hgd]; exact Blk.new _ _ _
  have kA2 := kA1.below b11 kA1.lt
  have kb2 := kb.below b11 kb.lt
  have hch1 : Rd V1.drew (chorsD [c]) (.slice (some ⟨gb, 0, none⟩) 1 1) := Rd.below b11.drew _ _ hch
  have hms1 : Rd V1.drew (msgsD gmsgsF) (.slice A1 4 c1) := Rd.below b11.drew _ _ hms
  obtain ⟨ids, hids⟩ : ∃ l, l = idsD d := ⟨_, rfl⟩
  rw [← hids] at hids2 hlen
  have hev : Calls Try.prog 16 #[.agg #[.slice A1 4 c1, .slice (some ⟨gb, 0, none⟩) 1 1]] V1.drew fun e w' => ∃ A c, e = .returned (.slice A ids.length c) ∧ StrRow V1.drew ids (.slice A ids.length c) w' ∧ Below V1.drew.heap.size V1.drew w' := by
    have t := every_any (w := V1.drew) ⟨gmsgsF, [c]⟩ hms1 hch1 (by have := HD.out.eq; rw [← this, ← hids]; exact hlen)
    rw [← HD.out.eq, ← hids, HD.out.eq] at t
    exact t
  have hidp : 0 < ids.length := by
    rw [hids, HD.out.eq]
    unfold idsD gmsgsF
    simp
  have HIDS := Lib.hid hids
  have HEV := Lib.hid hev
  have HMS := Lib.hid hms
  have HP := Lib.hid hP
  have HF := Lib.hid hF
  have HS := Lib.hid hS
  have HRI := Lib.hid hrI
  have HLI := Lib.hid hlI
  have H1I := Lib.hid h1I
  have HB01 := Lib.hid b01
  have HB11 := Lib.hid b11
  have HKB := Lib.hid kb
  have HKD := Lib.hid kd
  have HKA1 := Lib.hid kA1
  have HKA2 := Lib.hid kA2
  have HKB2 := Lib.hid kb2
  have HV1 := Lib.hid hV1.symm
  have HGD := Lib.hid hgd.symm
  have d0 : V1.cell? ⟨gd, 0, none⟩ = some (.slice A1 4 c1) := kd.cell 0
  have d1 : V1.cell? ⟨gd, 1, none⟩ = some (.slice (some ⟨gb, 0, none⟩) 1 1) := kd.cell 1
  have q0 : V1.cell? ⟨gb, 0, none⟩ = some (.string ⟨#[99]⟩) := kb2.cell 0
  have q1 : V1.cell? ⟨gb, 1, none⟩ = some (.slice AP c.parts.length cP) := kb2.cell 1
  have q2 : V1.cell? ⟨gb, 2, none⟩ = some (.slice AF c.flows.length cF) := kb2.cell 2
  have q3 : V1.cell? ⟨gb, 3, none⟩ = some (.slice AI c.items.length cI) := kb2.cell 3
  have q4 : V1.cell? ⟨gb, 4, none⟩ = some (.slice AS c.seqs.length cS) := kb2.cell 4
  have za0 : V1.cell? ⟨gA, 0, none⟩ = some (.int .i64 a1) := kA2.cell 0
  have za1 : V1.cell? ⟨gA, 1, none⟩ = some (.int .i64 b1) := kA2.cell 1
  have lgb1 := kb.lt
  have lgA1 := kA1.lt
  have lgb2 := kb2.lt
  have lgA2 := kA2.lt
  have lgd2 := kd.lt

  clear hms hch hoC hlC kb hP hF hI hS hrI hlI h1I b01 kA1 hV1 hgd b11 kd kA2 kb2 hch1 hms1 hev hids hb1 hdc hdm hml hdl HKA
  go_upto_region 3 with fail
  rw [HV1.out, HGD.out]
  clear HV1
  refine wp_region_HT 9 (fun U => Below V1.heap.size V1 U) (by kernel_rfl) (by decide) ((Below.refl _ _).drew) (fun hHeld => ?_)
  refine ht_take 0 (v := ?va_1) rfl (by kernel_rfl) (fun _ _ _ h => h) (Or.inl ⟨by rfl, ?ha_1⟩) hHeld ?ra_1
  case ha_1 => ((intro U hSw; have y3 : U.cell? ⟨gb, 3, none⟩ = some (.slice AI c.items.length cI) := (hSw.cell (p := ⟨gb, 3, none⟩) lgb2).trans q3; have ya : U.cell? ⟨gA, 0, none⟩ = some (.int .i64 a1) := (hSw.cell (p := ⟨gA, 0, none⟩) lgA2).trans za0; go_simp); (try (with_reducible rfl)))
  try simp only [Act.put, List.setIfInBounds_toArray, List.set_cons_zero, List.set_cons_succ]
  refine ht_take 1 (v := ?va_2) rfl (by kernel_rfl) (fun _ _ _ h => h) (Or.inl ⟨by rfl, ?ha_2⟩) hHeld ?ra_2
  case ha_2 => ((intro U hSw; have y3 : U.cell? ⟨gb, 3, none⟩ = some (.slice AI c.items.length cI) := (hSw.cell (p := ⟨gb, 3, none⟩) lgb2).trans q3; have ya : U.cell? ⟨gA, 0, none⟩ = some (.int .i64 a1) := (hSw.cell (p := ⟨gA, 0, none⟩) lgA2).trans za0; go_simp); (try (with_reducible rfl)))
  try simp only [Act.put, List.setIfInBounds_toArray, List.set_cons_zero, List.set_cons_succ]
  refine ht_take 2 (v := ?va_3) rfl (by kernel_rfl) (fun _ _ _ h => h) (Or.inl ⟨by rfl, ?ha_3⟩) hHeld ?ra_3
  case ha_3 => ((intro U hSw; have y3 : U.cell? ⟨gb, 3, none⟩ = some (.slice AI c.items.length cI) := (hSw.cell (p := ⟨gb, 3, none⟩) lgb2).trans q3; have ya : U.cell? ⟨gA, 0, none⟩ = some (.int .i64 a1) := (hSw.cell (p := ⟨gA, 0, none⟩) lgA2).trans za0; go_simp); (try (with_reducible rfl)))
  try simp only [Act.put, List.setIfInBounds_toArray, List.set_cons_zero, List.set_cons_succ]
  refine ht_take 3 (v := ?va_4) rfl (by kernel_rfl) (fun _ _ _ h => h) (Or.inl ⟨by rfl, ?ha_4⟩) hHeld ?ra_4
  case ha_4 => ((intro U hSw; have y3 : U.cell? ⟨gb, 3, none⟩ = some (.slice AI c.items.length cI) := (hSw.cell (p := ⟨gb, 3, none⟩) lgb2).trans q3; have ya : U.cell? ⟨gA, 0, none⟩ = some (.int .i64 a1) := (hSw.cell (p := ⟨gA, 0, none⟩) lgA2).trans za0; go_simp); (try (with_reducible rfl)))
  try simp only [Act.put, List.setIfInBounds_toArray, List.set_cons_zero, List.set_cons_succ]
  refine ht_take 4 (v := ?va_5) rfl (by kernel_rfl) (fun _ _ _ h => h) (Or.inl ⟨by rfl, ?ha_5⟩) hHeld ?ra_5
  case ha_5 => ((intro U hSw; have y3 : U.cell? ⟨gb, 3, none⟩ = some (.slice AI c.items.length cI) := (hSw.cell (p := ⟨gb, 3, none⟩) lgb2).trans q3; have ya : U.cell? ⟨gA, 0, none⟩ = some (.int .i64 a1) := (hSw.cell (p := ⟨gA, 0, none⟩) lgA2).trans za0; go_simp); (try (with_reducible rfl)))
  try simp only [Act.put, List.setIfInBounds_toArray, List.set_cons_zero, List.set_cons_succ]
  refine ht_take 5 (v := ?va_6) rfl (by kernel_rfl) (fun _ _ _ h => h) (Or.inl ⟨by rfl, ?ha_6⟩) hHeld ?ra_6
  case ha_6 => ((intro U hSw; have y3 : U.cell? ⟨gb, 3, none⟩ = some (.slice AI c.items.length cI) := (hSw.cell (p := ⟨gb, 3, none⟩) lgb2).trans q3; have ya : U.cell? ⟨gA, 0, none⟩ = some (.int .i64 a1) := (hSw.cell (p := ⟨gA, 0, none⟩) lgA2).trans za0; go_simp); (try (with_reducible rfl)))
  try simp only [Act.put, List.setIfInBounds_toArray, List.set_cons_zero, List.set_cons_succ]
  refine ht_take 6 (v := ?va_7) rfl (by kernel_rfl) (fun _ _ _ h => h) (Or.inl ⟨by rfl, ?ha_7⟩) hHeld ?ra_7
  case ha_7 => ((intro U hSw; have y3 : U.cell? ⟨gb, 3, none⟩ = some (.slice AI c.items.length cI) := (hSw.cell (p := ⟨gb, 3, none⟩) lgb2).trans q3; have ya : U.cell? ⟨gA, 0, none⟩ = some (.int .i64 a1) := (hSw.cell (p := ⟨gA, 0, none⟩) lgA2).trans za0; go_simp); (try (with_reducible rfl)))
  try simp only [Act.put, List.setIfInBounds_toArray, List.set_cons_zero, List.set_cons_succ]
  refine ht_take 7 (v := ?va_8) rfl (by kernel_rfl) (fun _ _ _ h => h) (Or.inl ⟨by rfl, ?ha_8⟩) hHeld ?ra_8
  case ha_8 => ((intro U hSw; have y3 : U.cell? ⟨gb, 3, none⟩ = some (.slice AI c.items.length cI) := (hSw.cell (p := ⟨gb, 3, none⟩) lgb2).trans q3; have ya : U.cell? ⟨gA, 0, none⟩ = some (.int .i64 a1) := (hSw.cell (p := ⟨gA, 0, none⟩) lgA2).trans za0; go_simp); (try (with_reducible rfl)))
  try simp only [Act.put, List.setIfInBounds_toArray, List.set_cons_zero, List.set_cons_succ]
  refine ht_take 8 (v := ?va_9) rfl (by kernel_rfl) (fun _ _ _ h => h) (Or.inl ⟨by rfl, ?ha_9⟩) hHeld ?ra_9
  case ha_9 => ((intro U hSw; have y3 : U.cell? ⟨gb, 3, none⟩ = some (.slice AI c.items.length cI) := (hSw.cell (p := ⟨gb, 3, none⟩) lgb2).trans q3; have ya : U.cell? ⟨gA, 0, none⟩ = some (.int .i64 a1) := (hSw.cell (p := ⟨gA, 0, none⟩) lgA2).trans za0; go_simp); (try (with_reducible rfl)))
  try simp only [Act.put, List.setIfInBounds_toArray, List.set_cons_zero, List.set_cons_succ]
  refine ht_done (by kernel_rfl) rfl ?_
  have hm := HM.out
  have hti := HTI.out
  go_upto_region 5 with fail
  rw [HM.out, HTI.out]
  have hts := ext6 a2
  generalize (if (6 : Int) < (a2.size : Int) then (6 : Int) else (a2.size : Int)) = mn at hts ⊢
  generalize a2.extract 0 mn.toNat = tt at hts ⊢
  clear hm hti HM HTI hHeld q0 q1 q2 q3 q4 za0 za1
  go_wp2_with fail
  refine HEV.out.mono ?_
  clear HEV
  rintro e w2 ⟨AE, cE, rfl, hO, hb2⟩
  have b12 : Below w1.heap.size w1 w2 := HB11.out.drew.trans (hb2.mono HB11.out.size)
  have hw12 := b12.size
  have kb3 := HKB.out.below b12 lgb1
  have y3 : w2.cell? ⟨gb, 3, none⟩ = some (.slice AI c.items.length cI) := kb3.cell 3
  have lgbw := kb3.lt
  have HB12 := Lib.hid b12
  have HKB3 := Lib.hid kb3
  have HO := Lib.hid hO
  have HB2 := Lib.hid hb2
  clear b12 kb3 hO hb2 d0 d1
  go_wp2_with (at_builtin; refine wpList_append_any _ rfl (.tmp 40) (.tmp 44) _ rfl w1.heap.size 30 ii0 _ 10 184 Try.underlying24 hii0 hiz0 hiz1 hiz2 rfl (by omega) (.slice (some ⟨w2.heap.size, 0, none⟩) 0 0) 0 [] rfl (World.ownsRow_lit (base := w1.heap.size) w2 #[] 0 hw12 (by decide) rfl) w1.heap.size AI c.items.length cI xsI rfl (HRI.out.below (HB12.out.alloc hw12 _)) H1I.out (by unfold maxLen; omega) (by omega) (by simp; omega) ?_)
  intro v3 w3 hown hgrow _
  try simp only [Nat.zero_add, List.nil_append] at hown
  obtain ⟨KI, kI, rfl, _, _⟩ := own_slice hown
  obtain ⟨gI, rfl, hgIl, hgIb, _⟩ := own_at hown lI.1
  have kb4 := (HKB3.out.alloc (.cells #[] 30)).grown hgrow (fun e => by simp [Value.ownBlock] at e; omega)
  have y3 : w3.cell? ⟨gb, 3, none⟩ = some (.slice AI c.items.length cI) := kb4.cell 3
  have f3 : w3.frozen? ⟨gb, 3, none⟩ = false := kb4.frozen 3
  have lb4 := kb4.lt
  obtain ⟨V3, hV3⟩ : ∃ V, V = w3.setCell ⟨gb, 3, none⟩ (.slice (some ⟨gI, 0, none⟩) c.items.length kI) := ⟨_, rfl⟩
  have gs : w2.grownBy V3 (some gb) := by rw [hV3]; exact gr_set (gr_more (gr_alloc (gr_refl w2 _) _) hgrow (fun q e => .inr (by simp [Value.ownBlock] at e; omega))) gb 3 _ (.inl rfl)
  have gw : w1.grownBy V3 (some gb) := gr_more (grown_of_below HB12.out _) gs (fun q e => by cases e; exact .inl rfl)
  have gv : V1.grownBy V3 (some gb) := gr_more (grown_of_below ((Below.refl _ _).drew.trans HB2.out) _) gs (fun q e => by cases e; exact .inl rfl)
  have hE : BadE w1 gb gd gI c.items.length kI #[.string ⟨#[99]⟩, .slice AP c.parts.length cP, .slice AF c.flows.length cF, .slice (some ⟨gI, 0, none⟩) c.items.length kI, .slice AS c.seqs.length cS] #[.slice A1 4 c1, .slice (some ⟨gb, 0, none⟩) 1 1] xsI V3 := by
    refine ⟨gw, by rw [hV3]; exact kb4.set_ 3 _, gr_blk gv HKD.out (fun e => blk_ne HKD.out HKB2.out (by decide) e), ?_⟩
    rw [hV3]
    exact ownsRow_setCell_other (a := ⟨gb, 3, none⟩) hown (blk_own_ne hown kb4 (by decide)) _
  have hO3 : V3.ownsRow V1.drew.heap.size 9 1 (.slice AE ids.length cE) ids.length (ids.map .string) := HO.out.kept gs (.inr (blk_own_ne HO.out HKB3.out (by decide)))
  have kA3 : Blk V3 gA 31 #[.int .i64 a1, .int .i64 b1] := gr_blk gw HKA1.out (fun e => blk_ne HKA1.out HKB.out (by decide) e)
  obtain ⟨gE, rfl, hgEl, _, hEat⟩ := own_at hO3 hidp
  have hEat : ∀ (k : Nat) (h : k < ids.length), V3.cell? ⟨gE, k, none⟩ = some (.string ids[k]) := fun k h => by rw [hEat k (by omega)]; simp [h]
  have hIo : V3.cell? ⟨gI, i * 10 + 1, none⟩ = some (.string c.items[i].id) := by
    obtain ⟨vs, hvl, hvs, hva⟩ := rdl_at itemC_len i iI HLI.out
    obtain ⟨_, _, _, _, _, rfl, _⟩ := rd_itemC.1 hvs
    rw [hE.own.cellAt _ (by omega), hva 1 (by omega)]
    rfl
  have HE := Lib.hid hE
  have HO3 := Lib.hid hO3
  have HEAT := Lib.hid hEat
  have HIO := Lib.hid hIo
  have HV3 := Lib.hid hV3.symm
  have z3 : V3.cell? ⟨gb, 3, none⟩ = some (.slice (some ⟨gI, 0, none⟩) c.items.length kI) := hE.blk.cell 3
  have zb : V3.cell? ⟨gA, 1, none⟩ = some (.int .i64 b1) := kA3.cell 1
  have lgb3 := hE.blk.lt
  have lgA3 := kA3.lt
  have hgI3 : gI < V3.heap.size := by rw [hV3]; simpa using hgIl
  clear hE hO3 hEat hIo hV3 gs gw gv kA3 kb4 hown hgrow hgIl
  go_upto_region 8 with fail
  rw [HV3.out]
  clear HV3 y3 f3 lb4
  go_upto_if 51 with fail
  go_cut [12] (fun v wx => ∃ (t : ByteArray) (want : Int), v = .int .i64 want ∧ t.size ≤ 1000000 ∧ Hid ((addsF [] (idsD ⟨gmsgsF, [chorId c i iI t]⟩)).1 = want) ∧ BadE w1 gb gd gI c.items.length kI #[.string ⟨#[99]⟩, .slice AP c.parts.length cP, .slice AF c.flows.length cF, .slice (some ⟨gI, 0, none⟩) c.items.length kI, .slice AS c.seqs.length cS] #[.slice A1 4 c1, .slice (some ⟨gb, 0, none⟩) 1 1] (xsI.set (i * 10 + 1) (.string t)) wx)
  case first =>
    cases hodd : (bits BinOp.and IntKind.i64 b1 1 == 0)
    · go_wp2_with fail
      refine (Nm.rname_any tt _ (by unfold maxLen; omega)).mono ?_
      rintro e w6 ⟨rfl, hb6⟩
      have hE6 := HE.out.below hb6
      have z36 : w6.cell? ⟨gb, 3, none⟩ = some (.slice (some ⟨gI, 0, none⟩) c.items.length kI) := hE6.blk.cell 3
      have io6 : w6.cell? ⟨gI, i * 10 + 1, none⟩ = some (.string c.items[i].id) := (hb6.cell (p := ⟨gI, i * 10 + 1, none⟩) hgI3).trans HIO.out
      have fi6 : w6.frozen? ⟨gI, i * 10 + 1, none⟩ = false := hE6.own.frozenAt _
      have eat6 : ∀ (k : Nat) (h : k < ids.length), w6.cell? ⟨gE, k, none⟩ = some (.string ids[k]) := fun k h => (hb6.cell (p := ⟨gE, k, none⟩) hgEl).trans (HEAT.out k h)
      have EAT6 := Lib.hid eat6
      have HE6 := Lib.hid hE6
      have hiI : (i : Int) < (c.items.length : Int) := by omega
      have HOK := Lib.hid (fun (w0 wn : Int) h0 h => adds_ok (w0 := w0) (w1 := wn) HD.out iI (t := tt) h0 h)
      rw [← HIDS.out] at HOK
      generalize c.items[i].id = o at io6 HOK
      obtain ⟨w0, hw0⟩ : ∃ w0 : Int, (isName tt = true ∧ w0 = 0) ∨ (isName tt = false ∧ w0 = 8) := by
        cases hn : isName tt
        · exact ⟨8, .inr ⟨rfl, rfl⟩⟩
        · exact ⟨0, .inl ⟨rfl, rfl⟩⟩
      have HW0 := Lib.hid hw0
      have hsz6 : w6.heap.size = w6.heap.size := rfl
      clear hb6 hE6 eat6 hw0 hodd z3 zb HEAT HIO HE hsz6
      go_upto_if 85 with fail
      go_cut [12] (fun v wx => v = .int .i64 w0 ∧ w6 = wx)
      case first =>
        cases hn : Nm.nameB tt.data.toList
        · obtain rfl : w0 = 8 := by
            rcases HW0.out with ⟨h, _⟩ | ⟨_, h⟩
            · unfold isName at h; rw [hn] at h; cases h
            · exact h
          clear HW0 HOK
          go_wp2_with fail
          go_meet
          case rel => exact ⟨rfl, rfl⟩
        · obtain rfl : w0 = 0 := by
            rcases HW0.out with ⟨_, h⟩ | ⟨h, _⟩
            · exact h
            · unfold isName at h; rw [hn] at h; cases h
          clear HW0 HOK
          go_wp2_with fail
          go_meet
          case rel => exact ⟨rfl, rfl⟩
      case rest =>
        obtain ⟨rfl, rfl⟩ := hcut
        go_wp2_with fail
        go_loop [12, 14] (fun wv kv => ∃ (k : Nat) (wn : Int), k ≤ ids.length ∧ kv = .int .i64 k ∧ wv = .int .i64 wn ∧ Hid (InvB ids tt o w0 k wn)) (fun _ kv => ids.length - (intOf kv).toNat)
        case atStart => exact ⟨0, w0, Nat.zero_le _, rfl, rfl, Lib.hid (.inr ⟨rfl, by simp⟩)⟩
        case round =>
          obtain ⟨k, wn, hk, rfl, rfl, hinv⟩ := hrel
          by_cases hlt : k < ids.length
          · have e0 := EAT6.out k hlt
            have hkI : (k : Int) < (ids.length : Int) := by omega
            have hst := invB_step hlt hinv.out
            generalize ids[k] = s at e0 hst
            have HST := Lib.hid hst
            clear hst hinv
            cases h1 : (s.toList == tt.toList)
            · have HN := Lib.hid (HST.out.2 (fun e => by rw [e.1] at h1; simp at h1))
              clear HST
              go_wp2_with fail
              go_round
              case rel => exact ⟨k + 1, wn, by omega, by go_num, rfl, HN⟩
              case measure => simp [intOf]; omega
            · cases h2 : (tt.toList == o.toList)
              · have HN := Lib.hid (HST.out.1 ⟨(eqS_iff s tt).1 h1, fun e => by rw [e] at h2; simp at h2⟩)
                clear HST
                go_wp2_with fail
                go_round
                case rel => exact ⟨k + 1, 7, by omega, by go_num, rfl, HN⟩
                case measure => simp [intOf]; omega
              · have HN := Lib.hid (HST.out.2 (fun e => e.2 ((eqS_iff tt o).1 h2)))
                clear HST
                go_wp2_with fail
                go_round
                case rel => exact ⟨k + 1, wn, by omega, by go_num, rfl, HN⟩
                case measure => simp [intOf]; omega
          · obtain rfl : k = ids.length := by omega
            have hfin := HOK.out w0 wn HW0.out (by
              have h := hinv.out
              unfold InvB at h
              rw [List.take_length] at h
              exact h)
            have hE7 := HE6.out.put (i * 10 + 1) (.string tt)
            have HE7 := Lib.hid hE7
            have HFIN := Lib.hid hfin
            clear hinv hfin hE7 HW0 HOK
            go_wp2_with fail
            go_meet
            case rel => exact ⟨tt, wn, rfl, by omega, HFIN, HE7.out⟩
    · go_upto_region 10 with fail
      obtain ⟨m9, hm9⟩ : ∃ m : Nat, bits BinOp.and IntKind.i64 (b1 / 2) 65535 = (m : Int) := ⟨_, (Int.toNat_of_nonneg (am65535 _).1).symm⟩
      obtain ⟨k, hk⟩ : ∃ k, k = m9 % ids.length := ⟨_, rfl⟩
      have kL : k < ids.length := by rw [hk]; exact Nat.mod_lt _ hidp
      have tk : (m9 : Int).tmod (ids.length : Int) = (k : Int) := by rw [Int.tmod_eq_emod_of_nonneg (by omega), hk]; omega
      rw [hm9, tk]
      clear hm9 hk tk zb
      have eK := HEAT.out k kL
      have eO := HIO.out
      have hmem : ids[k] ∈ ids := List.getElem_mem kL
      have hsz : ids[k].size ≤ 1000000 := by have := (HD.out.names ids[k] (by rw [← HIDS.out]; exact hmem)).2; omega
      have hEQ : ids[k] = c.items[i].id → (addsF [] (idsD ⟨gmsgsF, [chorId c i iI ids[k]]⟩)).1 = 0 := fun e => adds_ok HD.out iI (.inl ⟨(HD.out.names ids[k] (by rw [← HIDS.out]; exact hmem)).1, rfl⟩) (.inr ⟨rfl, fun a _ h => h.2 e⟩)
      have hNE : ids[k] ≠ c.items[i].id → (addsF [] (idsD ⟨gmsgsF, [chorId c i iI ids[k]]⟩)).1 = 7 := fun e => adds_ok HD.out iI (.inl ⟨(HD.out.names ids[k] (by rw [← HIDS.out]; exact hmem)).1, rfl⟩) (.inl ⟨rfl, ids[k], by rw [← HIDS.out]; exact hmem, rfl, e⟩)
      generalize ids[k] = s at eK hsz hEQ hNE
      generalize c.items[i].id = o at eO hEQ hNE
      have HEQ := Lib.hid hEQ
      have HNE := Lib.hid hNE
      have hiI : (i : Int) < (c.items.length : Int) := by omega
      have hkI : (k : Int) < (ids.length : Int) := by omega
      clear hEQ hNE hmem hodd HIDS HEAT HIO
      refine wp_region_HT 12 (fun U => Below V3.heap.size V3 U) (by kernel_rfl) (by decide) ((Below.refl _ _).drew) (fun hHeld => ?_)
      refine ht_take 0 (v := ?vb_1) rfl (by kernel_rfl) (fun _ _ _ h => h) (Or.inl ⟨by rfl, ?hb_1⟩) hHeld ?rb_1
      case hb_1 => ((intro U hSw; have y3 : U.cell? ⟨gb, 3, none⟩ = some (.slice (some ⟨gI, 0, none⟩) c.items.length kI) := (hSw.cell (p := ⟨gb, 3, none⟩) lgb3).trans z3; have yk : U.cell? ⟨gE, k, none⟩ = some (.string s) := (hSw.cell (p := ⟨gE, k, none⟩) hgEl).trans eK; have yo : U.cell? ⟨gI, i * 10 + 1, none⟩ = some (.string o) := (hSw.cell (p := ⟨gI, i * 10 + 1, none⟩) hgI3).trans eO; go_simp); (try (with_reducible rfl)))
      try simp only [Act.put, List.setIfInBounds_toArray, List.set_cons_zero, List.set_cons_succ]
      refine ht_take 1 (v := ?vb_2) rfl (by kernel_rfl) (fun _ _ _ h => h) (Or.inl ⟨by rfl, ?hb_2⟩) hHeld ?rb_2
      case hb_2 => ((intro U hSw; have y3 : U.cell? ⟨gb, 3, none⟩ = some (.slice (some ⟨gI, 0, none⟩) c.items.length kI) := (hSw.cell (p := ⟨gb, 3, none⟩) lgb3).trans z3; have yk : U.cell? ⟨gE, k, none⟩ = some (.string s) := (hSw.cell (p := ⟨gE, k, none⟩) hgEl).trans eK; have yo : U.cell? ⟨gI, i * 10 + 1, none⟩ = some (.string o) := (hSw.cell (p := ⟨gI, i * 10 + 1, none⟩) hgI3).trans eO; go_simp); (try (with_reducible rfl)))
      try simp only [Act.put, List.setIfInBounds_toArray, List.set_cons_zero, List.set_cons_succ]
      refine ht_take 2 (v := ?vb_3) rfl (by kernel_rfl) (fun _ _ _ h => h) (Or.inl ⟨by rfl, ?hb_3⟩) hHeld ?rb_3
      case hb_3 => ((intro U hSw; have y3 : U.cell? ⟨gb, 3, none⟩ = some (.slice (some ⟨gI, 0, none⟩) c.items.length kI) := (hSw.cell (p := ⟨gb, 3, none⟩) lgb3).trans z3; have yk : U.cell? ⟨gE, k, none⟩ = some (.string s) := (hSw.cell (p := ⟨gE, k, none⟩) hgEl).trans eK; have yo : U.cell? ⟨gI, i * 10 + 1, none⟩ = some (.string o) := (hSw.cell (p := ⟨gI, i * 10 + 1, none⟩) hgI3).trans eO; go_simp); (try (with_reducible rfl)))
      try simp only [Act.put, List.setIfInBounds_toArray, List.set_cons_zero, List.set_cons_succ]
      refine ht_take 3 (v := ?vb_4) rfl (by kernel_rfl) (fun _ _ _ h => h) (Or.inl ⟨by rfl, ?hb_4⟩) hHeld ?rb_4
      case hb_4 => ((intro U hSw; have y3 : U.cell? ⟨gb, 3, none⟩ = some (.slice (some ⟨gI, 0, none⟩) c.items.length kI) := (hSw.cell (p := ⟨gb, 3, none⟩) lgb3).trans z3; have yk : U.cell? ⟨gE, k, none⟩ = some (.string s) := (hSw.cell (p := ⟨gE, k, none⟩) hgEl).trans eK; have yo : U.cell? ⟨gI, i * 10 + 1, none⟩ = some (.string o) := (hSw.cell (p := ⟨gI, i * 10 + 1, none⟩) hgI3).trans eO; go_simp); (try (with_reducible rfl)))
      try simp only [Act.put, List.setIfInBounds_toArray, List.set_cons_zero, List.set_cons_succ]
      refine ht_take 4 (v := ?vb_5) rfl (by kernel_rfl) (fun _ _ _ h => h) (Or.inl ⟨by rfl, ?hb_5⟩) hHeld ?rb_5
      case hb_5 => ((intro U hSw; have y3 : U.cell? ⟨gb, 3, none⟩ = some (.slice (some ⟨gI, 0, none⟩) c.items.length kI) := (hSw.cell (p := ⟨gb, 3, none⟩) lgb3).trans z3; have yk : U.cell? ⟨gE, k, none⟩ = some (.string s) := (hSw.cell (p := ⟨gE, k, none⟩) hgEl).trans eK; have yo : U.cell? ⟨gI, i * 10 + 1, none⟩ = some (.string o) := (hSw.cell (p := ⟨gI, i * 10 + 1, none⟩) hgI3).trans eO; go_simp); (try (with_reducible rfl)))
      try simp only [Act.put, List.setIfInBounds_toArray, List.set_cons_zero, List.set_cons_succ]
      refine ht_take 5 (v := ?vb_6) rfl (by kernel_rfl) (fun _ _ _ h => h) (Or.inl ⟨by rfl, ?hb_6⟩) hHeld ?rb_6
      case hb_6 => ((intro U hSw; have y3 : U.cell? ⟨gb, 3, none⟩ = some (.slice (some ⟨gI, 0, none⟩) c.items.length kI) := (hSw.cell (p := ⟨gb, 3, none⟩) lgb3).trans z3; have yk : U.cell? ⟨gE, k, none⟩ = some (.string s) := (hSw.cell (p := ⟨gE, k, none⟩) hgEl).trans eK; have yo : U.cell? ⟨gI, i * 10 + 1, none⟩ = some (.string o) := (hSw.cell (p := ⟨gI, i * 10 + 1, none⟩) hgI3).trans eO; go_simp); (try (with_reducible rfl)))
      try simp only [Act.put, List.setIfInBounds_toArray, List.set_cons_zero, List.set_cons_succ]
      refine ht_take 6 (v := ?vb_7) rfl (by kernel_rfl) (fun _ _ _ h => h) (Or.inl ⟨by rfl, ?hb_7⟩) hHeld ?rb_7
      case hb_7 => ((intro U hSw; have y3 : U.cell? ⟨gb, 3, none⟩ = some (.slice (some ⟨gI, 0, none⟩) c.items.length kI) := (hSw.cell (p := ⟨gb, 3, none⟩) lgb3).trans z3; have yk : U.cell? ⟨gE, k, none⟩ = some (.string s) := (hSw.cell (p := ⟨gE, k, none⟩) hgEl).trans eK; have yo : U.cell? ⟨gI, i * 10 + 1, none⟩ = some (.string o) := (hSw.cell (p := ⟨gI, i * 10 + 1, none⟩) hgI3).trans eO; go_simp); (try (with_reducible rfl)))
      try simp only [Act.put, List.setIfInBounds_toArray, List.set_cons_zero, List.set_cons_succ]
      refine ht_take 7 (v := ?vb_8) rfl (by kernel_rfl) (fun _ _ _ h => h) (Or.inl ⟨by rfl, ?hb_8⟩) hHeld ?rb_8
      case hb_8 => ((intro U hSw; have y3 : U.cell? ⟨gb, 3, none⟩ = some (.slice (some ⟨gI, 0, none⟩) c.items.length kI) := (hSw.cell (p := ⟨gb, 3, none⟩) lgb3).trans z3; have yk : U.cell? ⟨gE, k, none⟩ = some (.string s) := (hSw.cell (p := ⟨gE, k, none⟩) hgEl).trans eK; have yo : U.cell? ⟨gI, i * 10 + 1, none⟩ = some (.string o) := (hSw.cell (p := ⟨gI, i * 10 + 1, none⟩) hgI3).trans eO; go_simp); (try (with_reducible rfl)))
      try simp only [Act.put, List.setIfInBounds_toArray, List.set_cons_zero, List.set_cons_succ]
      refine ht_take 8 (v := ?vb_9) rfl (by kernel_rfl) (fun _ _ _ h => h) (Or.inl ⟨by rfl, ?hb_9⟩) hHeld ?rb_9
      case hb_9 => ((intro U hSw; have y3 : U.cell? ⟨gb, 3, none⟩ = some (.slice (some ⟨gI, 0, none⟩) c.items.length kI) := (hSw.cell (p := ⟨gb, 3, none⟩) lgb3).trans z3; have yk : U.cell? ⟨gE, k, none⟩ = some (.string s) := (hSw.cell (p := ⟨gE, k, none⟩) hgEl).trans eK; have yo : U.cell? ⟨gI, i * 10 + 1, none⟩ = some (.string o) := (hSw.cell (p := ⟨gI, i * 10 + 1, none⟩) hgI3).trans eO; go_simp); (try (with_reducible rfl)))
      try simp only [Act.put, List.setIfInBounds_toArray, List.set_cons_zero, List.set_cons_succ]
      refine ht_take 9 (v := ?vb_10) rfl (by kernel_rfl) (fun _ _ _ h => h) (Or.inl ⟨by rfl, ?hb_10⟩) hHeld ?rb_10
      case hb_10 => ((intro U hSw; have y3 : U.cell? ⟨gb, 3, none⟩ = some (.slice (some ⟨gI, 0, none⟩) c.items.length kI) := (hSw.cell (p := ⟨gb, 3, none⟩) lgb3).trans z3; have yk : U.cell? ⟨gE, k, none⟩ = some (.string s) := (hSw.cell (p := ⟨gE, k, none⟩) hgEl).trans eK; have yo : U.cell? ⟨gI, i * 10 + 1, none⟩ = some (.string o) := (hSw.cell (p := ⟨gI, i * 10 + 1, none⟩) hgI3).trans eO; go_simp); (try (with_reducible rfl)))
      try simp only [Act.put, List.setIfInBounds_toArray, List.set_cons_zero, List.set_cons_succ]
      refine ht_take 10 (v := ?vb_11) rfl (by kernel_rfl) (fun _ _ _ h => h) (Or.inl ⟨by rfl, ?hb_11⟩) hHeld ?rb_11
      case hb_11 => ((intro U hSw; have y3 : U.cell? ⟨gb, 3, none⟩ = some (.slice (some ⟨gI, 0, none⟩) c.items.length kI) := (hSw.cell (p := ⟨gb, 3, none⟩) lgb3).trans z3; have yk : U.cell? ⟨gE, k, none⟩ = some (.string s) := (hSw.cell (p := ⟨gE, k, none⟩) hgEl).trans eK; have yo : U.cell? ⟨gI, i * 10 + 1, none⟩ = some (.string o) := (hSw.cell (p := ⟨gI, i * 10 + 1, none⟩) hgI3).trans eO; go_simp); (try (with_reducible rfl)))
      try simp only [Act.put, List.setIfInBounds_toArray, List.set_cons_zero, List.set_cons_succ]
      refine ht_take 11 (v := ?vb_12) rfl (by kernel_rfl) (fun _ _ _ h => h) (Or.inl ⟨by rfl, ?hb_12⟩) hHeld ?rb_12
      case hb_12 => ((intro U hSw; have y3 : U.cell? ⟨gb, 3, none⟩ = some (.slice (some ⟨gI, 0, none⟩) c.items.length kI) := (hSw.cell (p := ⟨gb, 3, none⟩) lgb3).trans z3; have yk : U.cell? ⟨gE, k, none⟩ = some (.string s) := (hSw.cell (p := ⟨gE, k, none⟩) hgEl).trans eK; have yo : U.cell? ⟨gI, i * 10 + 1, none⟩ = some (.string o) := (hSw.cell (p := ⟨gI, i * 10 + 1, none⟩) hgI3).trans eO; go_simp); (try (with_reducible rfl)))
      try simp only [Act.put, List.setIfInBounds_toArray, List.set_cons_zero, List.set_cons_succ]
      refine ht_done (by kernel_rfl) rfl ?_
      clear hHeld
      cases hne : (s.toList == o.toList)
      · go_upto_region 12 with fail
        refine wp_region_HT 11 (fun U => Below V3.heap.size V3 U) (by kernel_rfl) (by decide) ((Below.refl _ _).drew.drew) (fun hHeld => ?_)
        refine ht_take 0 (v := ?vca_1) rfl (by kernel_rfl) (fun _ _ _ h => h) (Or.inl ⟨by rfl, ?hca_1⟩) hHeld ?rca_1
        case hca_1 => ((intro U hSw; have y3 : U.cell? ⟨gb, 3, none⟩ = some (.slice (some ⟨gI, 0, none⟩) c.items.length kI) := (hSw.cell (p := ⟨gb, 3, none⟩) lgb3).trans z3; have yk : U.cell? ⟨gE, k, none⟩ = some (.string s) := (hSw.cell (p := ⟨gE, k, none⟩) hgEl).trans eK; have yo : U.cell? ⟨gI, i * 10 + 1, none⟩ = some (.string o) := (hSw.cell (p := ⟨gI, i * 10 + 1, none⟩) hgI3).trans eO; go_simp); (try (with_reducible rfl)))
        try simp only [Act.put, List.setIfInBounds_toArray, List.set_cons_zero, List.set_cons_succ]
        refine ht_take 1 (v := ?vca_2) rfl (by kernel_rfl) (fun _ _ _ h => h) (Or.inl ⟨by rfl, ?hca_2⟩) hHeld ?rca_2
        case hca_2 => ((intro U hSw; have y3 : U.cell? ⟨gb, 3, none⟩ = some (.slice (some ⟨gI, 0, none⟩) c.items.length kI) := (hSw.cell (p := ⟨gb, 3, none⟩) lgb3).trans z3; have yk : U.cell? ⟨gE, k, none⟩ = some (.string s) := (hSw.cell (p := ⟨gE, k, none⟩) hgEl).trans eK; have yo : U.cell? ⟨gI, i * 10 + 1, none⟩ = some (.string o) := (hSw.cell (p := ⟨gI, i * 10 + 1, none⟩) hgI3).trans eO; go_simp); (try (with_reducible rfl)))
        try simp only [Act.put, List.setIfInBounds_toArray, List.set_cons_zero, List.set_cons_succ]
        refine ht_take 2 (v := ?vca_3) rfl (by kernel_rfl) (fun _ _ _ h => h) (Or.inl ⟨by rfl, ?hca_3⟩) hHeld ?rca_3
        case hca_3 => ((intro U hSw; have y3 : U.cell? ⟨gb, 3, none⟩ = some (.slice (some ⟨gI, 0, none⟩) c.items.length kI) := (hSw.cell (p := ⟨gb, 3, none⟩) lgb3).trans z3; have yk : U.cell? ⟨gE, k, none⟩ = some (.string s) := (hSw.cell (p := ⟨gE, k, none⟩) hgEl).trans eK; have yo : U.cell? ⟨gI, i * 10 + 1, none⟩ = some (.string o) := (hSw.cell (p := ⟨gI, i * 10 + 1, none⟩) hgI3).trans eO; go_simp); (try (with_reducible rfl)))
        try simp only [Act.put, List.setIfInBounds_toArray, List.set_cons_zero, List.set_cons_succ]
        refine ht_take 3 (v := ?vca_4) rfl (by kernel_rfl) (fun _ _ _ h => h) (Or.inl ⟨by rfl, ?hca_4⟩) hHeld ?rca_4
        case hca_4 => ((intro U hSw; have y3 : U.cell? ⟨gb, 3, none⟩ = some (.slice (some ⟨gI, 0, none⟩) c.items.length kI) := (hSw.cell (p := ⟨gb, 3, none⟩) lgb3).trans z3; have yk : U.cell? ⟨gE, k, none⟩ = some (.string s) := (hSw.cell (p := ⟨gE, k, none⟩) hgEl).trans eK; have yo : U.cell? ⟨gI, i * 10 + 1, none⟩ = some (.string o) := (hSw.cell (p := ⟨gI, i * 10 + 1, none⟩) hgI3).trans eO; go_simp); (try (with_reducible rfl)))
        try simp only [Act.put, List.setIfInBounds_toArray, List.set_cons_zero, List.set_cons_succ]
        refine ht_take 4 (v := ?vca_5) rfl (by kernel_rfl) (fun _ _ _ h => h) (Or.inl ⟨by rfl, ?hca_5⟩) hHeld ?rca_5
        case hca_5 => ((intro U hSw; have y3 : U.cell? ⟨gb, 3, none⟩ = some (.slice (some ⟨gI, 0, none⟩) c.items.length kI) := (hSw.cell (p := ⟨gb, 3, none⟩) lgb3).trans z3; have yk : U.cell? ⟨gE, k, none⟩ = some (.string s) := (hSw.cell (p := ⟨gE, k, none⟩) hgEl).trans eK; have yo : U.cell? ⟨gI, i * 10 + 1, none⟩ = some (.string o) := (hSw.cell (p := ⟨gI, i * 10 + 1, none⟩) hgI3).trans eO; go_simp); (try (with_reducible rfl)))
        try simp only [Act.put, List.setIfInBounds_toArray, List.set_cons_zero, List.set_cons_succ]
        refine ht_take 5 (v := ?vca_6) rfl (by kernel_rfl) (fun _ _ _ h => h) (Or.inl ⟨by rfl, ?hca_6⟩) hHeld ?rca_6
        case hca_6 => ((intro U hSw; have y3 : U.cell? ⟨gb, 3, none⟩ = some (.slice (some ⟨gI, 0, none⟩) c.items.length kI) := (hSw.cell (p := ⟨gb, 3, none⟩) lgb3).trans z3; have yk : U.cell? ⟨gE, k, none⟩ = some (.string s) := (hSw.cell (p := ⟨gE, k, none⟩) hgEl).trans eK; have yo : U.cell? ⟨gI, i * 10 + 1, none⟩ = some (.string o) := (hSw.cell (p := ⟨gI, i * 10 + 1, none⟩) hgI3).trans eO; go_simp); (try (with_reducible rfl)))
        try simp only [Act.put, List.setIfInBounds_toArray, List.set_cons_zero, List.set_cons_succ]
        refine ht_take 6 (v := ?vca_7) rfl (by kernel_rfl) (fun _ _ _ h => h) (Or.inl ⟨by rfl, ?hca_7⟩) hHeld ?rca_7
        case hca_7 => ((intro U hSw; have y3 : U.cell? ⟨gb, 3, none⟩ = some (.slice (some ⟨gI, 0, none⟩) c.items.length kI) := (hSw.cell (p := ⟨gb, 3, none⟩) lgb3).trans z3; have yk : U.cell? ⟨gE, k, none⟩ = some (.string s) := (hSw.cell (p := ⟨gE, k, none⟩) hgEl).trans eK; have yo : U.cell? ⟨gI, i * 10 + 1, none⟩ = some (.string o) := (hSw.cell (p := ⟨gI, i * 10 + 1, none⟩) hgI3).trans eO; go_simp); (try (with_reducible rfl)))
        try simp only [Act.put, List.setIfInBounds_toArray, List.set_cons_zero, List.set_cons_succ]
        refine ht_take 7 (v := ?vca_8) rfl (by kernel_rfl) (fun _ _ _ h => h) (Or.inl ⟨by rfl, ?hca_8⟩) hHeld ?rca_8
        case hca_8 => ((intro U hSw; have y3 : U.cell? ⟨gb, 3, none⟩ = some (.slice (some ⟨gI, 0, none⟩) c.items.length kI) := (hSw.cell (p := ⟨gb, 3, none⟩) lgb3).trans z3; have yk : U.cell? ⟨gE, k, none⟩ = some (.string s) := (hSw.cell (p := ⟨gE, k, none⟩) hgEl).trans eK; have yo : U.cell? ⟨gI, i * 10 + 1, none⟩ = some (.string o) := (hSw.cell (p := ⟨gI, i * 10 + 1, none⟩) hgI3).trans eO; go_simp); (try (with_reducible rfl)))
        try simp only [Act.put, List.setIfInBounds_toArray, List.set_cons_zero, List.set_cons_succ]
        refine ht_take 8 (v := ?vca_9) rfl (by kernel_rfl) (fun _ _ _ h => h) (Or.inl ⟨by rfl, ?hca_9⟩) hHeld ?rca_9
        case hca_9 => ((intro U hSw; have y3 : U.cell? ⟨gb, 3, none⟩ = some (.slice (some ⟨gI, 0, none⟩) c.items.length kI) := (hSw.cell (p := ⟨gb, 3, none⟩) lgb3).trans z3; have yk : U.cell? ⟨gE, k, none⟩ = some (.string s) := (hSw.cell (p := ⟨gE, k, none⟩) hgEl).trans eK; have yo : U.cell? ⟨gI, i * 10 + 1, none⟩ = some (.string o) := (hSw.cell (p := ⟨gI, i * 10 + 1, none⟩) hgI3).trans eO; go_simp); (try (with_reducible rfl)))
        try simp only [Act.put, List.setIfInBounds_toArray, List.set_cons_zero, List.set_cons_succ]
        refine ht_take 9 (v := ?vca_10) rfl (by kernel_rfl) (fun _ _ _ h => h) (Or.inl ⟨by rfl, ?hca_10⟩) hHeld ?rca_10
        case hca_10 => ((intro U hSw; have y3 : U.cell? ⟨gb, 3, none⟩ = some (.slice (some ⟨gI, 0, none⟩) c.items.length kI) := (hSw.cell (p := ⟨gb, 3, none⟩) lgb3).trans z3; have yk : U.cell? ⟨gE, k, none⟩ = some (.string s) := (hSw.cell (p := ⟨gE, k, none⟩) hgEl).trans eK; have yo : U.cell? ⟨gI, i * 10 + 1, none⟩ = some (.string o) := (hSw.cell (p := ⟨gI, i * 10 + 1, none⟩) hgI3).trans eO; go_simp); (try (with_reducible rfl)))
        try simp only [Act.put, List.setIfInBounds_toArray, List.set_cons_zero, List.set_cons_succ]
        refine ht_take 10 (v := ?vca_11) rfl (by kernel_rfl) (fun _ _ _ h => h) (Or.inl ⟨by rfl, ?hca_11⟩) hHeld ?rca_11
        case hca_11 => ((intro U hSw; have y3 : U.cell? ⟨gb, 3, none⟩ = some (.slice (some ⟨gI, 0, none⟩) c.items.length kI) := (hSw.cell (p := ⟨gb, 3, none⟩) lgb3).trans z3; have yk : U.cell? ⟨gE, k, none⟩ = some (.string s) := (hSw.cell (p := ⟨gE, k, none⟩) hgEl).trans eK; have yo : U.cell? ⟨gI, i * 10 + 1, none⟩ = some (.string o) := (hSw.cell (p := ⟨gI, i * 10 + 1, none⟩) hgI3).trans eO; go_simp); (try (with_reducible rfl)))
        try simp only [Act.put, List.setIfInBounds_toArray, List.set_cons_zero, List.set_cons_succ]
        refine ht_done (by kernel_rfl) rfl ?_
        have fi : V3.drew.drew.frozen? ⟨gI, i * 10 + 1, none⟩ = false := HE.out.own.frozenAt _
        have hE5 := ((HE.out.below (Below.refl _ _).drew).below (Below.refl _ _).drew).put (i * 10 + 1) (.string s)
        have HE5 := Lib.hid hE5
        clear hE5 hHeld
        go_wp2_with fail
        go_meet
        case rel => exact ⟨s, 7, rfl, hsz, Lib.hid (HNE.out (fun e => by rw [e] at hne; simp at hne)), HE5.out⟩
      · go_upto_region 12 with fail
        refine wp_region_HT 11 (fun U => Below V3.heap.size V3 U) (by kernel_rfl) (by decide) ((Below.refl _ _).drew.drew) (fun hHeld => ?_)
        refine ht_take 0 (v := ?vcb_1) rfl (by kernel_rfl) (fun _ _ _ h => h) (Or.inl ⟨by rfl, ?hcb_1⟩) hHeld ?rcb_1
        case hcb_1 => ((intro U hSw; have y3 : U.cell? ⟨gb, 3, none⟩ = some (.slice (some ⟨gI, 0, none⟩) c.items.length kI) := (hSw.cell (p := ⟨gb, 3, none⟩) lgb3).trans z3; have yk : U.cell? ⟨gE, k, none⟩ = some (.string s) := (hSw.cell (p := ⟨gE, k, none⟩) hgEl).trans eK; have yo : U.cell? ⟨gI, i * 10 + 1, none⟩ = some (.string o) := (hSw.cell (p := ⟨gI, i * 10 + 1, none⟩) hgI3).trans eO; go_simp); (try (with_reducible rfl)))
        try simp only [Act.put, List.setIfInBounds_toArray, List.set_cons_zero, List.set_cons_succ]
        refine ht_take 1 (v := ?vcb_2) rfl (by kernel_rfl) (fun _ _ _ h => h) (Or.inl ⟨by rfl, ?hcb_2⟩) hHeld ?rcb_2
        case hcb_2 => ((intro U hSw; have y3 : U.cell? ⟨gb, 3, none⟩ = some (.slice (some ⟨gI, 0, none⟩) c.items.length kI) := (hSw.cell (p := ⟨gb, 3, none⟩) lgb3).trans z3; have yk : U.cell? ⟨gE, k, none⟩ = some (.string s) := (hSw.cell (p := ⟨gE, k, none⟩) hgEl).trans eK; have yo : U.cell? ⟨gI, i * 10 + 1, none⟩ = some (.string o) := (hSw.cell (p := ⟨gI, i * 10 + 1, none⟩) hgI3).trans eO; go_simp); (try (with_reducible rfl)))
        try simp only [Act.put, List.setIfInBounds_toArray, List.set_cons_zero, List.set_cons_succ]
        refine ht_take 2 (v := ?vcb_3) rfl (by kernel_rfl) (fun _ _ _ h => h) (Or.inl ⟨by rfl, ?hcb_3⟩) hHeld ?rcb_3
        case hcb_3 => ((intro U hSw; have y3 : U.cell? ⟨gb, 3, none⟩ = some (.slice (some ⟨gI, 0, none⟩) c.items.length kI) := (hSw.cell (p := ⟨gb, 3, none⟩) lgb3).trans z3; have yk : U.cell? ⟨gE, k, none⟩ = some (.string s) := (hSw.cell (p := ⟨gE, k, none⟩) hgEl).trans eK; have yo : U.cell? ⟨gI, i * 10 + 1, none⟩ = some (.string o) := (hSw.cell (p := ⟨gI, i * 10 + 1, none⟩) hgI3).trans eO; go_simp); (try (with_reducible rfl)))
        try simp only [Act.put, List.setIfInBounds_toArray, List.set_cons_zero, List.set_cons_succ]
        refine ht_take 3 (v := ?vcb_4) rfl (by kernel_rfl) (fun _ _ _ h => h) (Or.inl ⟨by rfl, ?hcb_4⟩) hHeld ?rcb_4
        case hcb_4 => ((intro U hSw; have y3 : U.cell? ⟨gb, 3, none⟩ = some (.slice (some ⟨gI, 0, none⟩) c.items.length kI) := (hSw.cell (p := ⟨gb, 3, none⟩) lgb3).trans z3; have yk : U.cell? ⟨gE, k, none⟩ = some (.string s) := (hSw.cell (p := ⟨gE, k, none⟩) hgEl).trans eK; have yo : U.cell? ⟨gI, i * 10 + 1, none⟩ = some (.string o) := (hSw.cell (p := ⟨gI, i * 10 + 1, none⟩) hgI3).trans eO; go_simp); (try (with_reducible rfl)))
        try simp only [Act.put, List.setIfInBounds_toArray, List.set_cons_zero, List.set_cons_succ]
        refine ht_take 4 (v := ?vcb_5) rfl (by kernel_rfl) (fun _ _ _ h => h) (Or.inl ⟨by rfl, ?hcb_5⟩) hHeld ?rcb_5
        case hcb_5 => ((intro U hSw; have y3 : U.cell? ⟨gb, 3, none⟩ = some (.slice (some ⟨gI, 0, none⟩) c.items.length kI) := (hSw.cell (p := ⟨gb, 3, none⟩) lgb3).trans z3; have yk : U.cell? ⟨gE, k, none⟩ = some (.string s) := (hSw.cell (p := ⟨gE, k, none⟩) hgEl).trans eK; have yo : U.cell? ⟨gI, i * 10 + 1, none⟩ = some (.string o) := (hSw.cell (p := ⟨gI, i * 10 + 1, none⟩) hgI3).trans eO; go_simp); (try (with_reducible rfl)))
        try simp only [Act.put, List.setIfInBounds_toArray, List.set_cons_zero, List.set_cons_succ]
        refine ht_take 5 (v := ?vcb_6) rfl (by kernel_rfl) (fun _ _ _ h => h) (Or.inl ⟨by rfl, ?hcb_6⟩) hHeld ?rcb_6
        case hcb_6 => ((intro U hSw; have y3 : U.cell? ⟨gb, 3, none⟩ = some (.slice (some ⟨gI, 0, none⟩) c.items.length kI) := (hSw.cell (p := ⟨gb, 3, none⟩) lgb3).trans z3; have yk : U.cell? ⟨gE, k, none⟩ = some (.string s) := (hSw.cell (p := ⟨gE, k, none⟩) hgEl).trans eK; have yo : U.cell? ⟨gI, i * 10 + 1, none⟩ = some (.string o) := (hSw.cell (p := ⟨gI, i * 10 + 1, none⟩) hgI3).trans eO; go_simp); (try (with_reducible rfl)))
        try simp only [Act.put, List.setIfInBounds_toArray, List.set_cons_zero, List.set_cons_succ]
        refine ht_take 6 (v := ?vcb_7) rfl (by kernel_rfl) (fun _ _ _ h => h) (Or.inl ⟨by rfl, ?hcb_7⟩) hHeld ?rcb_7
        case hcb_7 => ((intro U hSw; have y3 : U.cell? ⟨gb, 3, none⟩ = some (.slice (some ⟨gI, 0, none⟩) c.items.length kI) := (hSw.cell (p := ⟨gb, 3, none⟩) lgb3).trans z3; have yk : U.cell? ⟨gE, k, none⟩ = some (.string s) := (hSw.cell (p := ⟨gE, k, none⟩) hgEl).trans eK; have yo : U.cell? ⟨gI, i * 10 + 1, none⟩ = some (.string o) := (hSw.cell (p := ⟨gI, i * 10 + 1, none⟩) hgI3).trans eO; go_simp); (try (with_reducible rfl)))
        try simp only [Act.put, List.setIfInBounds_toArray, List.set_cons_zero, List.set_cons_succ]
        refine ht_take 7 (v := ?vcb_8) rfl (by kernel_rfl) (fun _ _ _ h => h) (Or.inl ⟨by rfl, ?hcb_8⟩) hHeld ?rcb_8
        case hcb_8 => ((intro U hSw; have y3 : U.cell? ⟨gb, 3, none⟩ = some (.slice (some ⟨gI, 0, none⟩) c.items.length kI) := (hSw.cell (p := ⟨gb, 3, none⟩) lgb3).trans z3; have yk : U.cell? ⟨gE, k, none⟩ = some (.string s) := (hSw.cell (p := ⟨gE, k, none⟩) hgEl).trans eK; have yo : U.cell? ⟨gI, i * 10 + 1, none⟩ = some (.string o) := (hSw.cell (p := ⟨gI, i * 10 + 1, none⟩) hgI3).trans eO; go_simp); (try (with_reducible rfl)))
        try simp only [Act.put, List.setIfInBounds_toArray, List.set_cons_zero, List.set_cons_succ]
        refine ht_take 8 (v := ?vcb_9) rfl (by kernel_rfl) (fun _ _ _ h => h) (Or.inl ⟨by rfl, ?hcb_9⟩) hHeld ?rcb_9
        case hcb_9 => ((intro U hSw; have y3 : U.cell? ⟨gb, 3, none⟩ = some (.slice (some ⟨gI, 0, none⟩) c.items.length kI) := (hSw.cell (p := ⟨gb, 3, none⟩) lgb3).trans z3; have yk : U.cell? ⟨gE, k, none⟩ = some (.string s) := (hSw.cell (p := ⟨gE, k, none⟩) hgEl).trans eK; have yo : U.cell? ⟨gI, i * 10 + 1, none⟩ = some (.string o) := (hSw.cell (p := ⟨gI, i * 10 + 1, none⟩) hgI3).trans eO; go_simp); (try (with_reducible rfl)))
        try simp only [Act.put, List.setIfInBounds_toArray, List.set_cons_zero, List.set_cons_succ]
        refine ht_take 9 (v := ?vcb_10) rfl (by kernel_rfl) (fun _ _ _ h => h) (Or.inl ⟨by rfl, ?hcb_10⟩) hHeld ?rcb_10
        case hcb_10 => ((intro U hSw; have y3 : U.cell? ⟨gb, 3, none⟩ = some (.slice (some ⟨gI, 0, none⟩) c.items.length kI) := (hSw.cell (p := ⟨gb, 3, none⟩) lgb3).trans z3; have yk : U.cell? ⟨gE, k, none⟩ = some (.string s) := (hSw.cell (p := ⟨gE, k, none⟩) hgEl).trans eK; have yo : U.cell? ⟨gI, i * 10 + 1, none⟩ = some (.string o) := (hSw.cell (p := ⟨gI, i * 10 + 1, none⟩) hgI3).trans eO; go_simp); (try (with_reducible rfl)))
        try simp only [Act.put, List.setIfInBounds_toArray, List.set_cons_zero, List.set_cons_succ]
        refine ht_take 10 (v := ?vcb_11) rfl (by kernel_rfl) (fun _ _ _ h => h) (Or.inl ⟨by rfl, ?hcb_11⟩) hHeld ?rcb_11
        case hcb_11 => ((intro U hSw; have y3 : U.cell? ⟨gb, 3, none⟩ = some (.slice (some ⟨gI, 0, none⟩) c.items.length kI) := (hSw.cell (p := ⟨gb, 3, none⟩) lgb3).trans z3; have yk : U.cell? ⟨gE, k, none⟩ = some (.string s) := (hSw.cell (p := ⟨gE, k, none⟩) hgEl).trans eK; have yo : U.cell? ⟨gI, i * 10 + 1, none⟩ = some (.string o) := (hSw.cell (p := ⟨gI, i * 10 + 1, none⟩) hgI3).trans eO; go_simp); (try (with_reducible rfl)))
        try simp only [Act.put, List.setIfInBounds_toArray, List.set_cons_zero, List.set_cons_succ]
        refine ht_done (by kernel_rfl) rfl ?_
        have fi : V3.drew.drew.frozen? ⟨gI, i * 10 + 1, none⟩ = false := HE.out.own.frozenAt _
        have hE5 := ((HE.out.below (Below.refl _ _).drew).below (Below.refl _ _).drew).put (i * 10 + 1) (.string s)
        have HE5 := Lib.hid hE5
        clear hE5 hHeld
        go_wp2_with fail
        go_meet
        case rel => exact ⟨s, 0, rfl, hsz, Lib.hid (HEQ.out ((eqS_iff s o).1 hne)), HE5.out⟩
  case rest =>
    obtain ⟨t, want, rfl, ht, HW, hE⟩ := hcut
    obtain ⟨V, rfl⟩ : ∃ V, V = wc := ⟨_, rfl⟩
    have hnew := new_bad HD.out iI HKB.out HMS.out HP.out HF.out HS.out HLI.out hE ht
    have d0 : V.cell? ⟨gd, 0, none⟩ = some (.slice A1 4 c1) := hE.box.cell 0
    have d1 : V.cell? ⟨gd, 1, none⟩ = some (.slice (some ⟨gb, 0, none⟩) 1 1) := hE.box.cell 1
    have hb9 : Below w.heap.size w V := gr_end HB01.out hE.gr hgbw HB01.out.size
    rw [show (addsF [] (idsD ⟨gmsgsF, [chorId c i iI t]⟩)) = (want, (addsF [] (idsD ⟨gmsgsF, [chorId c i iI t]⟩)).2) by rw [← HW.out]] at hnew
    have HNEW := Lib.hid hnew
    have HB9 := Lib.hid hb9
    have lgd := hE.box.lt
    clear hE hnew hb9 z3 HW
    go_wp2_with fail
    refine HNEW.out.mono ?_
    rintro e w6 (⟨hne, rfl, hb6⟩ | ⟨he, g, rfl, hT⟩)
    · have hwn : (want == 0) = false := by simpa using hne
      have HB6 := Lib.hid (HB9.out.trans (hb6.mono HB9.out.size))
      dsimp only at hne ⊢
      clear hne hb6 d0 d1
      go_wp2_with fail
      refine (ids_awake _).mono ?_
      rintro e w7 ⟨rfl, hb7⟩
      have HB7 := Lib.hid (HB6.out.trans (hb7.mono HB6.out.size))
      clear hb7
      go_wp2_with fail
      refine (has_none _ _).mono ?_
      rintro e w8 ⟨rfl, rfl⟩
      go_wp2_with fail
      refine (len_none _).mono ?_
      rintro e w8 ⟨rfl, rfl⟩
      go_wp2_with fail
      go_ret
      exact ⟨rfl, HB7.out⟩
    · dsimp only at he
      subst he
      have HB6 := Lib.hid (HB9.out.trans (hT.bel.mono HB9.out.size))
      clear hT d0 d1
      go_wp2_with fail
      refine (ids_awake _).mono ?_
      rintro e w7 ⟨rfl, hb7⟩
      have HB7 := Lib.hid (HB6.out.trans (hb7.mono HB6.out.size))
      clear hb7
      go_wp2_with fail
      refine (has_none _ _).mono ?_
      rintro e w8 ⟨rfl, rfl⟩
      go_wp2_with fail
      refine (len_none _).mono ?_
      rintro e w8 ⟨rfl, rfl⟩
      go_wp2_with fail
      go_ret
      exact ⟨rfl, HB7.out⟩

end Go.Proofs.Ytljmghaplnkohaa
