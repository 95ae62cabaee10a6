/- The walk of the law IdsRefs. -/
import Derived.Test.YtljmghaplnkohaaEdt
import Derived.Test.YtljmghaplnkohaaIdsRa
import Derived.Test.YtljmghaplnkohaaIdsW
import Derived.Test.YtljmghaplnkohaaArgs
import Derived.Deep.CutBlock
import Derived.Deep.DeepCutAuto
namespace Go.Proofs.Ytljmghaplnkohaa
open Go.RowKit
attribute [local go_sem ↓] Go.wp_at_zero Go.wp_at_succ

theorem refs_ed {w w1 W : World} {c x : ChorD} {gb gd gI gF gS kI kF kS nI nF nS : Nat} {A3 AP AF AI AS : Option Addr} {c3 cP cF cI cS : Nat} {xs xsI xsF xsS ysI ysF ysS : List Value} {ds : Array Value} {Is : List ItemD} {Fs : List FlowD} {Ss : List SeqD}
    (o : OpenD w w1 c [x] gb A3 AP AF AI AS c3 cP cF cI cS xs xsI xsF xsS)
    (h : Ed3 w1 gb gd gI gF gS nI kI nF kF nS kS (chCs c.id (.slice AP c.parts.length cP) (.slice (some ⟨gF, 0, none⟩) nF kF) (.slice (some ⟨gI, 0, none⟩) nI kI) (.slice (some ⟨gS, 0, none⟩) nS kS) xs) ds ysI ysF ysS W)
    (hI : RdL W (Is.flatMap itemC) ysI) (hF : RdL W (Fs.flatMap flowC) ysF) (hS : RdL W (Ss.flatMap seqC) ysS) (lI : Is.length = nI) (lF : Fs.length = nF) (lS : Ss.length = nS)
    (hfit : IdsFit [] (idsD ⟨gmsgsF, [⟨c.id, c.parts, Fs, Is, Ss⟩, x]⟩)) {rf : Bool} {ck : Int} (hrf : refsF ⟨gmsgsF, [⟨c.id, c.parts, Fs, Is, Ss⟩, x]⟩ = rf) (hck : checkF ⟨gmsgsF, [⟨c.id, c.parts, Fs, Is, Ss⟩, x]⟩ = ck) :
    ∀ U, Below W.heap.size W U → (Calls Try.prog 21 #[.agg #[.slice A3 4 c3, .slice (some ⟨gb, 0, none⟩) 2 2]] U fun e w' => e = .returned (.bool rf) ∧ Below U.heap.size U w') ∧ (Calls Try.prog 20 #[.agg #[.slice A3 4 c3, .slice (some ⟨gb, 0, none⟩) 2 2]] U fun e w' => e = .returned (.int .i64 ck) ∧ Below U.heap.size U w') := by
  intro U hU
  obtain ⟨h1, h2⟩ := ed_doc (n := 2) o rfl (by decide) h hI hF hS lI lF lS
  have r := refs_any (w := U) ⟨gmsgsF, [⟨c.id, c.parts, Fs, Is, Ss⟩, x]⟩ (Rd.below hU _ _ h1) (Rd.below hU _ _ h2)
  have k := check_any (w := U) ⟨gmsgsF, [⟨c.id, c.parts, Fs, Is, Ss⟩, x]⟩ (Rd.below hU _ _ h1) (Rd.below hU _ _ h2) hfit
  rw [hrf] at r
  rw [hck] at k
  exact ⟨r, k⟩
def KInv (l : List ItemD) (i : Nat) (kk : Int) : Prop := (kk = -1 ∧ ∀ x ∈ l.take i, x.kind ≠ 3) ∨ ∃ j, ∃ h : j < l.length, kk = (j : Int) ∧ l[j].kind = 3
theorem kinv_no {l : List ItemD} {i : Nat} {kk : Int} (hi : i < l.length) (h : KInv l i kk) (h3 : l[i].kind ≠ 3) : KInv l (i + 1) kk := by
  rcases h with ⟨h1, h2⟩ | h
  · refine .inl ⟨h1, fun x hx => ?_⟩
    rw [List.take_succ_eq_append_getElem hi] at hx
    rcases List.mem_append.1 hx with hx | hx
    · exact h2 x hx
    · rw [List.mem_singleton.1 hx]; exact h3
  · exact .inr h
theorem kinv_end {l : List ItemD} {kk : Int} (h : KInv l l.length kk) (ht : ∃ y ∈ l, y.kind = 3) : ∃ j, ∃ h : j < l.length, kk = (j : Int) ∧ l[j].kind = 3 := by
  rcases h with ⟨_, h2⟩ | h
  · rw [List.take_length] at h2
    obtain ⟨x, hx, h3⟩ := ht
    exact absurd h3 (h2 x hx)
  · exact h
set_option maxRecDepth 100000 in
set_option maxHeartbeats 32000000 in
theorem idsRefs_walk (A0 : Option Addr) (c0 : Nat) (x0 : List Int) (A1 : Option Addr) (c1 : Nat) (x1 : List Int) (a2 b2 : Int) (w : World) (m0 : x0.length ≤ maxLen) (h0 : IntsAt w A0 x0) (m1 : x1.length ≤ maxLen) (h1 : IntsAt w A1 x1) :
    Calls Try.prog 6 #[.slice A0 x0.length c0, .slice A1 x1.length c1, .agg #[.int .i64 a2, .int .i64 b2]] w fun e w' => e = .returned (.bool true) ∧ Below w.heap.size w w' := by
  obtain ⟨ii0, hii0, hiz0, hiz1, hiz2⟩ := info_parts Try.infoItemG
  obtain ⟨si0, hsi0, hsz0, hsz1, hsz2⟩ := info_parts Try.infoSeqG
  obtain ⟨fi0, hfi0, hfz0, hfz1, hfz2⟩ := info_parts Try.infoFlowE
  obtain ⟨V0, hV0⟩ : ∃ V, V = w.alloc (.cells #[.int .i64 a2, .int .i64 b2] 31) := ⟨_, rfl⟩
  obtain ⟨gA, hgA⟩ : ∃ g, g = w.heap.size := ⟨_, rfl⟩
  have b00 : Below w.heap.size w V0 := by rw [hV0]; exact (Below.refl _ _).alloc (Nat.le_refl _) _
  have kA : Blk V0 gA 31 #[.int .i64 a2, .int .i64 b2] := by rw [hV0, hgA]; exact Blk.new _ _ _
  have hgen := nested_genN (cap := c0) (capq := c1) (h0.below b00) m0 (h1.below b00) m1
  obtain ⟨d, c, x, l, call, sub, hd, hR⟩ := ref_n x0 x1 m0 m1
  rw [← hd] at hgen
  have lpI := hR.nest.lI.1
  have lpF := hR.nest.lF.1
  have lpS := hR.lS.1
  have lqI := hR.nest.lI.2
  have lqF := hR.nest.lF.2
  have lqS := hR.lS.2
  have hlc : c.items.length = l.length + 2 := (call_at hR).2.2
  obtain ⟨m, hm⟩ : ∃ m : Nat, bits BinOp.and IntKind.i64 b2 65535 = (m : Int) := ⟨(bits BinOp.and IntKind.i64 b2 65535).toNat, (Int.toNat_of_nonneg (am65535 b2).1).symm⟩
  obtain ⟨f, hf⟩ : ∃ f, f = m % c.flows.length := ⟨_, rfl⟩
  have fF : f < c.flows.length := by rw [hf]; exact Nat.mod_lt _ lpF
  have tf : (m : Int).tmod (c.flows.length : Int) = (f : Int) := by rw [Int.tmod_eq_emod_of_nonneg (by omega), hf]; omega
  obtain ⟨q, hq⟩ : ∃ q : Nat, (bits BinOp.and IntKind.i64 a2 15).tmod 10 = (q : Int) := ⟨((bits BinOp.and IntKind.i64 a2 15).tmod 10).toNat, (Int.toNat_of_nonneg (Int.tmod_nonneg _ (am15 a2).1)).symm⟩
  have hq10 : q < 10 := by
    have h15 := am15 a2
    rw [Int.tmod_eq_emod_of_nonneg h15.1] at hq
    omega
  have nnF : c.flows ≠ [] := List.ne_nil_of_length_pos lpF
  have HM := Lib.hid hm
  have HTF := Lib.hid tf
  have HQ := Lib.hid hq
  have HQ10 := Lib.hid hq10
  have HR := Lib.hid hR
  have HLC := Lib.hid hlc
  have HGEN := Lib.hid hgen
  have HB00 := Lib.hid b00
  have HKA := Lib.hid kA
  have HV0 := Lib.hid hV0.symm
  have HGA := Lib.hid hgA.symm
  clear hm tf hf hq hq10 hR hlc hgen b00 kA hV0 hgA h0 m0 h1 m1 hd
  go_enter Try.func6, Try.ntmps6
  go_upto_region 1 with fail
  rw [HV0.out, HGA.out]
  clear HV0
  go_wp2_with fail
  refine HGEN.out.mono ?_
  clear HGEN
  rintro e w1 hE
  obtain ⟨A3, c3, gb, AP, cP, AF, cF, AI, cI, AS, cS, xs, xsI, xsF, xsS, rfl, hO⟩ := doc_open (n := 2) (r := [x]) rfl HR.out.nest.eq hE
  have kA1 := HKA.out.below hO.bel HKA.out.lt
  have b01 : Below w.heap.size w w1 := HB00.out.trans (hO.bel.mono HB00.out.size)
  have hgbw : w.heap.size ≤ gb := by have := HB00.out.size; have := hO.ge; omega
  obtain ⟨gd, hgd⟩ : ∃ g, g = w1.heap.size := ⟨_, rfl⟩
  obtain ⟨V1, hV1⟩ : ∃ V, V = w1.alloc (.cells #[.slice A3 4 c3, .slice (some ⟨gb, 0, none⟩) 2 2] 42) := ⟨_, rfl⟩
  have b11 : Below w1.heap.size w1 V1 := by rw [hV1]; exact (Below.refl _ _).alloc (Nat.le_refl _) _
  have kd : Blk V1 gd 42 #[.slice A3 4 c3, .slice (some ⟨gb, 0, none⟩) 2 2] := by rw [hV1, hgd]; exact Blk.new _ _ _
  have kA2 := kA1.below b11 kA1.lt
  have kb2 := hO.blk.below b11 hO.blk.lt
  have HO := Lib.hid hO
  have HB01 := Lib.hid b01
  have HB11 := Lib.hid b11
  have HKD := Lib.hid kd
  have HKA1 := Lib.hid kA1
  have HV1 := Lib.hid hV1.symm
  have HGD := Lib.hid hgd.symm
  have d0 : V1.cell? ⟨gd, 0, none⟩ = some (.slice A3 4 c3) := kd.cell 0
  have d1 : V1.cell? ⟨gd, 1, none⟩ = some (.slice (some ⟨gb, 0, none⟩) 2 2) := kd.cell 1
  have q0 : V1.cell? ⟨gb, 0, none⟩ = some (.string c.id) := kb2.cell 0
  have q1 : V1.cell? ⟨gb, 1, none⟩ = some (.slice AP c.parts.length cP) := kb2.cell 1
  have q2 : V1.cell? ⟨gb, 2, none⟩ = some (.slice AF c.flows.length cF) := kb2.cell 2
  have q3 : V1.cell? ⟨gb, 3, none⟩ = some (.slice AI c.items.length cI) := kb2.cell 3
  have q4 : V1.cell? ⟨gb, 4, none⟩ = some (.slice AS c.seqs.length cS) := kb2.cell 4
  have za0 : V1.cell? ⟨gA, 0, none⟩ = some (.int .i64 a2) := kA2.cell 0
  have za1 : V1.cell? ⟨gA, 1, none⟩ = some (.int .i64 b2) := kA2.cell 1
  have lgb2 := kb2.lt
  have lgA2 := kA2.lt
  clear hO kA1 b01 b11 kd kA2 kb2 hV1 hgd hE HKA
  go_upto_region 3 with fail
  rw [HV1.out, HGD.out]
  clear HV1
  refine wp_region_HT 29 (fun _ => True) (by kernel_rfl) (by decide) trivial (fun hHeld => ?_)
  refine ht_take 0 (v := ?va_1) rfl (by kernel_rfl) (fun _ _ _ h => h) (Or.inl ⟨by rfl, ?ha_1⟩) hHeld ?ra_1
  case ha_1 => ((intro U _; go_simp); (try (with_reducible rfl)))
  try simp only [Act.put, List.setIfInBounds_toArray, List.set_cons_zero, List.set_cons_succ]
  refine ht_take 1 (v := ?va_2) rfl (by kernel_rfl) (fun _ _ _ h => h) (Or.inl ⟨by rfl, ?ha_2⟩) hHeld ?ra_2
  case ha_2 => ((intro U _; go_simp); (try (with_reducible rfl)))
  try simp only [Act.put, List.setIfInBounds_toArray, List.set_cons_zero, List.set_cons_succ]
  refine ht_take 2 (v := ?va_3) rfl (by kernel_rfl) (fun _ _ _ h => h) (Or.inl ⟨by rfl, ?ha_3⟩) hHeld ?ra_3
  case ha_3 => ((intro U _; go_simp); (try (with_reducible rfl)))
  try simp only [Act.put, List.setIfInBounds_toArray, List.set_cons_zero, List.set_cons_succ]
  refine ht_take 4 (v := ?va_4) rfl (by kernel_rfl) (fun _ _ _ h => h) (Or.inl ⟨by rfl, ?ha_4⟩) hHeld ?ra_4
  case ha_4 => ((intro U _; go_simp); (try (with_reducible rfl)))
  try simp only [Act.put, List.setIfInBounds_toArray, List.set_cons_zero, List.set_cons_succ]
  refine ht_take 5 (v := ?va_5) rfl (by kernel_rfl) (fun _ _ _ h => h) (Or.inl ⟨by rfl, ?ha_5⟩) hHeld ?ra_5
  case ha_5 => ((intro U _; go_simp); (try (with_reducible rfl)))
  try simp only [Act.put, List.setIfInBounds_toArray, List.set_cons_zero, List.set_cons_succ]
  refine ht_take 6 (v := ?va_6) rfl (by kernel_rfl) (fun _ _ _ h => h) (Or.inl ⟨by rfl, ?ha_6⟩) hHeld ?ra_6
  case ha_6 => ((intro U _; go_simp); (try (with_reducible rfl)))
  try simp only [Act.put, List.setIfInBounds_toArray, List.set_cons_zero, List.set_cons_succ]
  refine ht_take 10 (v := ?va_7) rfl (by kernel_rfl) (fun _ _ _ h => h) (Or.inl ⟨by rfl, ?ha_7⟩) hHeld ?ra_7
  case ha_7 => ((intro U _; go_simp); (try (with_reducible rfl)))
  try simp only [Act.put, List.setIfInBounds_toArray, List.set_cons_zero, List.set_cons_succ]
  refine ht_take 11 (v := ?va_8) rfl (by kernel_rfl) (fun _ _ _ h => h) (Or.inl ⟨by rfl, ?ha_8⟩) hHeld ?ra_8
  case ha_8 => ((intro U _; go_simp); (try (with_reducible rfl)))
  try simp only [Act.put, List.setIfInBounds_toArray, List.set_cons_zero, List.set_cons_succ]
  refine ht_take 12 (v := ?va_9) rfl (by kernel_rfl) (fun _ _ _ h => h) (Or.inl ⟨by rfl, ?ha_9⟩) hHeld ?ra_9
  case ha_9 => ((intro U _; go_simp); (try (with_reducible rfl)))
  try simp only [Act.put, List.setIfInBounds_toArray, List.set_cons_zero, List.set_cons_succ]
  refine ht_take 16 (v := ?va_10) rfl (by kernel_rfl) (fun _ _ _ h => h) (Or.inl ⟨by rfl, ?ha_10⟩) hHeld ?ra_10
  case ha_10 => ((intro U _; go_simp); (try (with_reducible rfl)))
  try simp only [Act.put, List.setIfInBounds_toArray, List.set_cons_zero, List.set_cons_succ]
  refine ht_take 17 (v := ?va_11) rfl (by kernel_rfl) (fun _ _ _ h => h) (Or.inl ⟨by rfl, ?ha_11⟩) hHeld ?ra_11
  case ha_11 => ((intro U _; go_simp); (try (with_reducible rfl)))
  try simp only [Act.put, List.setIfInBounds_toArray, List.set_cons_zero, List.set_cons_succ]
  refine ht_take 18 (v := ?va_12) rfl (by kernel_rfl) (fun _ _ _ h => h) (Or.inl ⟨by rfl, ?ha_12⟩) hHeld ?ra_12
  case ha_12 => ((intro U _; go_simp); (try (with_reducible rfl)))
  try simp only [Act.put, List.setIfInBounds_toArray, List.set_cons_zero, List.set_cons_succ]
  refine ht_copies (w0 := V1) (f0 := 8) [⟨7, 3, 8, 30, 10⟩, ⟨13, 9, 14, 62, 4⟩, ⟨19, 15, 20, 33, 3⟩] [(23, 3), (27, 7), (28, 8), (29, 9), (33, 13), (34, 14), (35, 15), (39, 19), (40, 20)] 21 (fun i => if i = 8 then .slice AI c.items.length cI else if i = 14 then .slice AF c.flows.length cF else if i = 20 then .slice AS c.seqs.length cS else undef) (fun i => if i = 8 then c.items.length else if i = 14 then c.flows.length else if i = 20 then c.seqs.length else 0) (fun i => if i = 8 then xsI else if i = 14 then xsF else if i = 20 then xsS else []) (by kernel_rfl) (by rfl) (by kernel_rfl) (by decide) (by decide) (by kernel_rfl) (by decide) (fun W _ => trivial) ((Below.refl _ _).drew) ?_ ?_ ?_ ?_
  · intro cc hcc vs W K hbW hK
    simp only [List.mem_cons, List.not_mem_nil, or_false] at hcc
    rcases hcc with rfl | rfl | rfl
    · refine wpOp_at rfl ?_
      have HK2 := hK.out
      clear hK
      simp only [putsV, List.foldl, Act.put, List.setIfInBounds_toArray, List.set_cons_zero, List.set_cons_succ] at HK2 ⊢
      simp only [updV, eq_self, Nat.reduceEqDiff, if_true, if_false] at HK2
      have y2 : W.cell? ⟨gb, 2, none⟩ = some (.slice AF c.flows.length cF) := (hbW.cell (p := ⟨gb, 2, none⟩) lgb2).trans q2
      have y3 : W.cell? ⟨gb, 3, none⟩ = some (.slice AI c.items.length cI) := (hbW.cell (p := ⟨gb, 3, none⟩) lgb2).trans q3
      have y4 : W.cell? ⟨gb, 4, none⟩ = some (.slice AS c.seqs.length cS) := (hbW.cell (p := ⟨gb, 4, none⟩) lgb2).trans q4
      go_simp
      exact HK2
    · refine wpOp_at rfl ?_
      have HK2 := hK.out
      clear hK
      simp only [putsV, List.foldl, Act.put, List.setIfInBounds_toArray, List.set_cons_zero, List.set_cons_succ] at HK2 ⊢
      simp only [updV, eq_self, Nat.reduceEqDiff, if_true, if_false] at HK2
      have y2 : W.cell? ⟨gb, 2, none⟩ = some (.slice AF c.flows.length cF) := (hbW.cell (p := ⟨gb, 2, none⟩) lgb2).trans q2
      have y3 : W.cell? ⟨gb, 3, none⟩ = some (.slice AI c.items.length cI) := (hbW.cell (p := ⟨gb, 3, none⟩) lgb2).trans q3
      have y4 : W.cell? ⟨gb, 4, none⟩ = some (.slice AS c.seqs.length cS) := (hbW.cell (p := ⟨gb, 4, none⟩) lgb2).trans q4
      go_simp
      exact HK2
    · refine wpOp_at rfl ?_
      have HK2 := hK.out
      clear hK
      simp only [putsV, List.foldl, Act.put, List.setIfInBounds_toArray, List.set_cons_zero, List.set_cons_succ] at HK2 ⊢
      simp only [updV, eq_self, Nat.reduceEqDiff, if_true, if_false] at HK2
      have y2 : W.cell? ⟨gb, 2, none⟩ = some (.slice AF c.flows.length cF) := (hbW.cell (p := ⟨gb, 2, none⟩) lgb2).trans q2
      have y3 : W.cell? ⟨gb, 3, none⟩ = some (.slice AI c.items.length cI) := (hbW.cell (p := ⟨gb, 3, none⟩) lgb2).trans q3
      have y4 : W.cell? ⟨gb, 4, none⟩ = some (.slice AS c.seqs.length cS) := (hbW.cell (p := ⟨gb, 4, none⟩) lgb2).trans q4
      go_simp
      exact HK2
  · intro cc hcc vs W K hK
    simp only [List.mem_cons, List.not_mem_nil, or_false] at hcc
    rcases hcc with rfl | rfl | rfl
    · refine wpOp_at rfl ?_
      have HK2 := hK.out
      clear hK
      simp only [putsV, List.foldl, Act.put, List.setIfInBounds_toArray, List.set_cons_zero, List.set_cons_succ] at HK2 ⊢
      simp only [updV, eq_self, Nat.reduceEqDiff, if_true, if_false] at HK2
      go_simp
      exact HK2
    · refine wpOp_at rfl ?_
      have HK2 := hK.out
      clear hK
      simp only [putsV, List.foldl, Act.put, List.setIfInBounds_toArray, List.set_cons_zero, List.set_cons_succ] at HK2 ⊢
      simp only [updV, eq_self, Nat.reduceEqDiff, if_true, if_false] at HK2
      go_simp
      exact HK2
    · refine wpOp_at rfl ?_
      have HK2 := hK.out
      clear hK
      simp only [putsV, List.foldl, Act.put, List.setIfInBounds_toArray, List.set_cons_zero, List.set_cons_succ] at HK2 ⊢
      simp only [updV, eq_self, Nat.reduceEqDiff, if_true, if_false] at HK2
      go_simp
      exact HK2
  · intro cc hcc vs W K hbW hsrc hoW hK
    simp only [List.mem_cons, List.not_mem_nil, or_false] at hcc
    rcases hcc with rfl | rfl | rfl
    · refine wpOp_at rfl ?_
      have HK2 := hK.out
      clear hK
      simp only [putsV, List.foldl, Act.put, List.setIfInBounds_toArray, List.set_cons_zero, List.set_cons_succ] at HK2 ⊢
      simp only [updV, eq_self, Nat.reduceEqDiff, if_true, if_false] at HK2
      have hoW2 : W.ownsRow V1.heap.size 30 10 (vs 3) 0 [] := hoW
      have hsrc2 : vs 7 = .slice AI c.items.length cI := hsrc
      have hw : ∀ o : Oper, o.guard = none → ∀ z, Region.wanted o z = true := fun o h z => by simp [Region.wanted, h]
      rw [if_pos (hw _ rfl _)]
      refine wp_append_any W (.tmp 23) (.tmp 27) _ rfl V1.heap.size 30 ii0 _ 10 184 Try.underlying24 hii0 hiz0 hiz1 hiz2 rfl (by omega) (vs 3) 0 [] rfl hoW2 w1.heap.size AI c.items.length cI xsI hsrc2 (HO.out.rI.below (HB11.out.trans (hbW.mono HB11.out.size))) HO.out.oI (by unfold maxLen; omega) (by omega) hbW.size ?_
      intro v3 W3 ho3 hg3 _
      try simp only [Nat.zero_add, List.nil_append] at ho3
      exact HK2 v3 W3 (by simpa only [eq_self, Nat.reduceEqDiff, if_true, if_false] using ho3) hg3
    · refine wpOp_at rfl ?_
      have HK2 := hK.out
      clear hK
      simp only [putsV, List.foldl, Act.put, List.setIfInBounds_toArray, List.set_cons_zero, List.set_cons_succ] at HK2 ⊢
      simp only [updV, eq_self, Nat.reduceEqDiff, if_true, if_false] at HK2
      have hoW2 : W.ownsRow V1.heap.size 62 4 (vs 9) 0 [] := hoW
      have hsrc2 : vs 13 = .slice AF c.flows.length cF := hsrc
      have hw : ∀ o : Oper, o.guard = none → ∀ z, Region.wanted o z = true := fun o h z => by simp [Region.wanted, h]
      rw [if_pos (hw _ rfl _)]
      refine wp_append_any W (.tmp 29) (.tmp 33) _ rfl V1.heap.size 62 fi0 _ 4 64 Try.underlying52 hfi0 hfz0 hfz1 hfz2 rfl (by omega) (vs 9) 0 [] rfl hoW2 w1.heap.size AF c.flows.length cF xsF hsrc2 (HO.out.rF.below (HB11.out.trans (hbW.mono HB11.out.size))) HO.out.oF (by unfold maxLen; omega) (by omega) hbW.size ?_
      intro v3 W3 ho3 hg3 _
      try simp only [Nat.zero_add, List.nil_append] at ho3
      exact HK2 v3 W3 (by simpa only [eq_self, Nat.reduceEqDiff, if_true, if_false] using ho3) hg3
    · refine wpOp_at rfl ?_
      have HK2 := hK.out
      clear hK
      simp only [putsV, List.foldl, Act.put, List.setIfInBounds_toArray, List.set_cons_zero, List.set_cons_succ] at HK2 ⊢
      simp only [updV, eq_self, Nat.reduceEqDiff, if_true, if_false] at HK2
      have hoW2 : W.ownsRow V1.heap.size 33 3 (vs 15) 0 [] := hoW
      have hsrc2 : vs 19 = .slice AS c.seqs.length cS := hsrc
      have hw : ∀ o : Oper, o.guard = none → ∀ z, Region.wanted o z = true := fun o h z => by simp [Region.wanted, h]
      rw [if_pos (hw _ rfl _)]
      refine wp_append_any W (.tmp 35) (.tmp 39) _ rfl V1.heap.size 33 si0 _ 3 48 Try.underlying25 hsi0 hsz0 hsz1 hsz2 rfl (by omega) (vs 15) 0 [] rfl hoW2 w1.heap.size AS c.seqs.length cS xsS hsrc2 (HO.out.rS.below (HB11.out.trans (hbW.mono HB11.out.size))) HO.out.oS (by unfold maxLen; omega) (by omega) hbW.size ?_
      intro v3 W3 ho3 hg3 _
      try simp only [Nat.zero_add, List.nil_append] at ho3
      exact HK2 v3 W3 (by simpa only [eq_self, Nat.reduceEqDiff, if_true, if_false] using ho3) hg3
  · intro vs W hbW hall
    have hownI := (hall ⟨7, 3, 8, 30, 10⟩ (by simp)).2
    have hownF := (hall ⟨13, 9, 14, 62, 4⟩ (by simp)).2
    have hownS := (hall ⟨19, 15, 20, 33, 3⟩ (by simp)).2
    simp only [eq_self, Nat.reduceEqDiff, if_true, if_false] at hownI hownF hownS
    simp only [putsV, List.foldl, Act.put, List.setIfInBounds_toArray, List.set_cons_zero, List.set_cons_succ]
    generalize vs 8 = wI at hownI ⊢
    generalize vs 14 = wF at hownF ⊢
    generalize vs 20 = wS at hownS ⊢
    generalize vs 3 = e3
    generalize vs 7 = e7
    generalize vs 9 = e9
    generalize vs 13 = e13
    generalize vs 15 = e15
    generalize vs 19 = e19
    clear hall
    obtain ⟨_, kI, rfl, _, _⟩ := own_slice hownI
    obtain ⟨gI, rfl, hgIl, _, _⟩ := own_at hownI lpI
    obtain ⟨_, kF, rfl, _, _⟩ := own_slice hownF
    obtain ⟨gF, rfl, hgFl, _, _⟩ := own_at hownF lpF
    obtain ⟨_, kS, rfl, _, _⟩ := own_slice hownS
    obtain ⟨gS, rfl, hgSl, _, _⟩ := own_at hownS lpS
    have kbW := HO.out.blk.below (HB11.out.trans (hbW.mono HB11.out.size)) HO.out.blk.lt
    have y2 : W.cell? ⟨gb, 2, none⟩ = some (.slice AF c.flows.length cF) := kbW.cell 2
    have y3 : W.cell? ⟨gb, 3, none⟩ = some (.slice AI c.items.length cI) := kbW.cell 3
    have y4 : W.cell? ⟨gb, 4, none⟩ = some (.slice AS c.seqs.length cS) := kbW.cell 4
    have f2 : W.frozen? ⟨gb, 2, none⟩ = false := kbW.frozen 2
    have f3 : W.frozen? ⟨gb, 3, none⟩ = false := kbW.frozen 3
    have f4 : W.frozen? ⟨gb, 4, none⟩ = false := kbW.frozen 4
    have lgbW := kbW.lt
    have hE := ed_start HO.out HB11.out HKD.out hbW hownI hownF hownS
    obtain ⟨V, hV⟩ : ∃ V, V = ((W.setCell ⟨gb, 3, none⟩ (.slice (some ⟨gI, 0, none⟩) c.items.length kI)).setCell ⟨gb, 2, none⟩ (.slice (some ⟨gF, 0, none⟩) c.flows.length kF)).setCell ⟨gb, 4, none⟩ (.slice (some ⟨gS, 0, none⟩) c.seqs.length kS) := ⟨_, rfl⟩
    rw [← hV] at hE
    have HE := Lib.hid hE
    have HV := Lib.hid hV.symm
    clear hE hV hownI hownF hownS kbW hgIl hgFl hgSl hbW d0 d1 q0 q1 q2 q3 q4 za0 za1
    refine ht_take 21 (v := ?va_13) rfl (by kernel_rfl) (fun _ _ _ h => h) (Or.inl ⟨by rfl, ?ha_13⟩) hHeld ?ra_13
    case ha_13 => ((intro U _; go_simp); (try (with_reducible rfl)))
    try simp only [Act.put, List.setIfInBounds_toArray, List.set_cons_zero, List.set_cons_succ]
    refine ht_take 22 (v := ?va_14) rfl (by kernel_rfl) (fun _ _ _ h => h) (Or.inl ⟨by rfl, ?ha_14⟩) hHeld ?ra_14
    case ha_14 => ((intro U _; go_simp); (try (with_reducible rfl)))
    try simp only [Act.put, List.setIfInBounds_toArray, List.set_cons_zero, List.set_cons_succ]
    refine ht_one 23 rfl (by kernel_rfl) (fun K hK => ?_)
    go_simp
    refine hK.out _ _ trivial (fun hHeld => ?_)
    clear hK K
    try simp only [Act.put, List.setIfInBounds_toArray, List.set_cons_zero, List.set_cons_succ]
    refine ht_take 24 (v := ?va_15) rfl (by kernel_rfl) (fun _ _ _ h => h) (Or.inl ⟨by rfl, ?ha_15⟩) hHeld ?ra_15
    case ha_15 => ((intro U _; go_simp); (try (with_reducible rfl)))
    try simp only [Act.put, List.setIfInBounds_toArray, List.set_cons_zero, List.set_cons_succ]
    refine ht_take 25 (v := ?va_16) rfl (by kernel_rfl) (fun _ _ _ h => h) (Or.inl ⟨by rfl, ?ha_16⟩) hHeld ?ra_16
    case ha_16 => ((intro U _; go_simp); (try (with_reducible rfl)))
    try simp only [Act.put, List.setIfInBounds_toArray, List.set_cons_zero, List.set_cons_succ]
    refine ht_one 26 rfl (by kernel_rfl) (fun K hK => ?_)
    go_simp
    refine hK.out _ _ trivial (fun hHeld => ?_)
    clear hK K
    try simp only [Act.put, List.setIfInBounds_toArray, List.set_cons_zero, List.set_cons_succ]
    refine ht_take 27 (v := ?va_17) rfl (by kernel_rfl) (fun _ _ _ h => h) (Or.inl ⟨by rfl, ?ha_17⟩) hHeld ?ra_17
    case ha_17 => ((intro U _; go_simp); (try (with_reducible rfl)))
    try simp only [Act.put, List.setIfInBounds_toArray, List.set_cons_zero, List.set_cons_succ]
    refine ht_take 28 (v := ?va_18) rfl (by kernel_rfl) (fun _ _ _ h => h) (Or.inl ⟨by rfl, ?ha_18⟩) hHeld ?ra_18
    case ha_18 => ((intro U _; go_simp); (try (with_reducible rfl)))
    try simp only [Act.put, List.setIfInBounds_toArray, List.set_cons_zero, List.set_cons_succ]
    refine ht_done (by kernel_rfl) rfl ?_
    go_upto_region 4 with fail
    rw [HV.out]
    clear HV y2 y3 y4 f2 f3 f4 lgbW
    have z2 : V.cell? ⟨gb, 2, none⟩ = some (.slice (some ⟨gF, 0, none⟩) c.flows.length kF) := HE.out.blk.cell 2
    have z3 : V.cell? ⟨gb, 3, none⟩ = some (.slice (some ⟨gI, 0, none⟩) c.items.length kI) := HE.out.blk.cell 3
    have lgbV := HE.out.blk.lt
    have kAV : Blk V gA 31 #[.int .i64 a2, .int .i64 b2] := gr_blk HE.out.gr HKA1.out (fun e => blk_ne HKA1.out HO.out.blk (by decide) e)
    have zb : V.cell? ⟨gA, 1, none⟩ = some (.int .i64 b2) := kAV.cell 1
    have lgAV := kAV.lt
    have lgIV := (own_base HE.out.oI).2
    clear kAV
    refine wp_region_HT 7 (fun U => Below V.heap.size V U) (by kernel_rfl) (by decide) ((Below.refl _ _).drew) (fun hHeld => ?_)
    refine ht_take 0 (v := ?vb_1) rfl (by kernel_rfl) (fun _ _ _ h => h) (Or.inl ⟨by rfl, ?hb_1⟩) hHeld ?rb_1
    case hb_1 => ((intro U hSw; have y3 : U.cell? ⟨gb, 3, none⟩ = some (.slice (some ⟨gI, 0, none⟩) c.items.length kI) := (hSw.cell (p := ⟨gb, 3, none⟩) lgbV).trans z3; go_simp); (try (with_reducible rfl)))
    try simp only [Act.put, List.setIfInBounds_toArray, List.set_cons_zero, List.set_cons_succ]
    refine ht_take 1 (v := ?vb_2) rfl (by kernel_rfl) (fun _ _ _ h => h) (Or.inl ⟨by rfl, ?hb_2⟩) hHeld ?rb_2
    case hb_2 => ((intro U hSw; have y3 : U.cell? ⟨gb, 3, none⟩ = some (.slice (some ⟨gI, 0, none⟩) c.items.length kI) := (hSw.cell (p := ⟨gb, 3, none⟩) lgbV).trans z3; go_simp); (try (with_reducible rfl)))
    try simp only [Act.put, List.setIfInBounds_toArray, List.set_cons_zero, List.set_cons_succ]
    refine ht_take 2 (v := ?vb_3) rfl (by kernel_rfl) (fun _ _ _ h => h) (Or.inl ⟨by rfl, ?hb_3⟩) hHeld ?rb_3
    case hb_3 => ((intro U hSw; have y3 : U.cell? ⟨gb, 3, none⟩ = some (.slice (some ⟨gI, 0, none⟩) c.items.length kI) := (hSw.cell (p := ⟨gb, 3, none⟩) lgbV).trans z3; go_simp); (try (with_reducible rfl)))
    try simp only [Act.put, List.setIfInBounds_toArray, List.set_cons_zero, List.set_cons_succ]
    refine ht_take 3 (v := ?vb_4) rfl (by kernel_rfl) (fun _ _ _ h => h) (Or.inl ⟨by rfl, ?hb_4⟩) hHeld ?rb_4
    case hb_4 => ((intro U hSw; have y3 : U.cell? ⟨gb, 3, none⟩ = some (.slice (some ⟨gI, 0, none⟩) c.items.length kI) := (hSw.cell (p := ⟨gb, 3, none⟩) lgbV).trans z3; go_simp); (try (with_reducible rfl)))
    try simp only [Act.put, List.setIfInBounds_toArray, List.set_cons_zero, List.set_cons_succ]
    refine ht_take 4 (v := ?vb_5) rfl (by kernel_rfl) (fun _ _ _ h => h) (Or.inl ⟨by rfl, ?hb_5⟩) hHeld ?rb_5
    case hb_5 => ((intro U hSw; have y3 : U.cell? ⟨gb, 3, none⟩ = some (.slice (some ⟨gI, 0, none⟩) c.items.length kI) := (hSw.cell (p := ⟨gb, 3, none⟩) lgbV).trans z3; go_simp); (try (with_reducible rfl)))
    try simp only [Act.put, List.setIfInBounds_toArray, List.set_cons_zero, List.set_cons_succ]
    refine ht_take 5 (v := ?vb_6) rfl (by kernel_rfl) (fun _ _ _ h => h) (Or.inl ⟨by rfl, ?hb_6⟩) hHeld ?rb_6
    case hb_6 => ((intro U hSw; have y3 : U.cell? ⟨gb, 3, none⟩ = some (.slice (some ⟨gI, 0, none⟩) c.items.length kI) := (hSw.cell (p := ⟨gb, 3, none⟩) lgbV).trans z3; go_simp); (try (with_reducible rfl)))
    try simp only [Act.put, List.setIfInBounds_toArray, List.set_cons_zero, List.set_cons_succ]
    refine ht_take 6 (v := ?vb_7) rfl (by kernel_rfl) (fun _ _ _ h => h) (Or.inl ⟨by rfl, ?hb_7⟩) hHeld ?rb_7
    case hb_7 => ((intro U hSw; have y3 : U.cell? ⟨gb, 3, none⟩ = some (.slice (some ⟨gI, 0, none⟩) c.items.length kI) := (hSw.cell (p := ⟨gb, 3, none⟩) lgbV).trans z3; go_simp); (try (with_reducible rfl)))
    try simp only [Act.put, List.setIfInBounds_toArray, List.set_cons_zero, List.set_cons_succ]
    refine ht_done (by kernel_rfl) rfl ?_
    clear hHeld
    have hca : (c.items.length : Int) - 2 = (l.length : Int) := by have := HLC.out; omega
    have hkind : ∀ (i : Nat) (hi : i < c.items.length), V.cell? ⟨gI, i * 10, none⟩ = some (.int .i64 c.items[i].kind) := fun i hi => by
      obtain ⟨vs, hvl, hvs, hva⟩ := rdl_at itemC_len i hi (HO.out.itemL HE.out.gr)
      obtain ⟨v3, v4, v7, v8, v9, rfl, _⟩ := rd_itemC.1 hvs
      rw [HE.out.oI.cellAt _ (by omega), ← Nat.add_zero (i * 10), hva 0 (by omega)]
      rfl
    have HKIND := Lib.hid hkind
    clear hkind
    go_upto_region 5 with fail
    rw [hca]
    clear hca
    go_wp2_with fail
    go_loop [9, 11] (fun kv iv => ∃ (i : Nat) (kk : Int), i ≤ c.items.length ∧ iv = .int .i64 i ∧ kv = .int .i64 kk ∧ Hid (KInv c.items i kk)) (fun _ iv => c.items.length - (intOf iv).toNat)
    case atStart => exact ⟨0, -1, Nat.zero_le _, rfl, rfl, Lib.hid (.inl ⟨rfl, by simp⟩)⟩
    case round =>
      obtain ⟨i, kk, hi, rfl, rfl, hinv⟩ := hrel
      by_cases hlt : i < c.items.length
      · have hk0 := HKIND.out i hlt
        have hiI : (i : Int) < (c.items.length : Int) := by omega
        by_cases h3 : c.items[i].kind = 3
        · have hkb : (c.items[i].kind == 3) = true := by simp [h3]
          have HN := Lib.hid (show KInv c.items (i + 1) (i : Int) from .inr ⟨i, hlt, rfl, h3⟩)
          have hinv2 : 0 ≤ kk → KInv c.items (i + 1) kk := fun h0 => by
            rcases hinv.out with ⟨h, _⟩ | h
            · omega
            · exact .inr h
          generalize c.items[i].kind = kd at hk0 hkb
          clear h3 hinv
          by_cases hneg : kk < 0
          · clear hinv2
            go_wp2_with fail
            go_round
            case rel => exact ⟨i + 1, (i : Int), by omega, by go_num, rfl, HN⟩
            case measure => simp [intOf]; omega
          · have HN2 := Lib.hid (hinv2 (by omega))
            have hnb : decide (kk < 0) = false := by simpa using hneg
            clear hinv2
            go_upto_if 84 with fail
            cases hbit : (bits BinOp.and IntKind.i64 (b2 / 2 ^ min (IntKind.u64.wrap (bits BinOp.and IntKind.i64 (i : Int) 15)).toNat 64) 1 == 1)
            · clear hbit HN
              go_wp2_with fail
              go_round
              case rel => exact ⟨i + 1, kk, by omega, by go_num, rfl, HN2⟩
              case measure => simp [intOf]; omega
            · clear hbit HN2
              go_wp2_with fail
              go_round
              case rel => exact ⟨i + 1, (i : Int), by omega, by go_num, rfl, HN⟩
              case measure => simp [intOf]; omega
        · have hkb : (c.items[i].kind == 3) = false := by simp [h3]
          have HN := Lib.hid (kinv_no hlt hinv.out h3)
          generalize c.items[i].kind = kd at hk0 hkb
          clear h3 hinv
          go_wp2_with fail
          go_round
          case rel => exact ⟨i + 1, kk, by omega, by go_num, rfl, HN⟩
          case measure => simp [intOf]; omega
      · have hil : i = c.items.length := by omega
        subst hil
        obtain ⟨j, hj, rfl, h3⟩ := kinv_end hinv.out HR.out.task
        have H3 := Lib.hid h3
        have hjI : (j : Int) < (c.items.length : Int) := by omega
        clear hinv h3 HKIND
        go_upto_region 13 with fail
        refine wp_region_HT 9 (fun U => Below V.heap.size V U) (by kernel_rfl) (by decide) ((Below.refl _ _).drew.drew) (fun hHeld => ?_)
        refine ht_take 0 (v := ?vc_1) rfl (by kernel_rfl) (fun _ _ _ h => h) (Or.inl ⟨by rfl, ?hc_1⟩) hHeld ?rc_1
        case hc_1 => ((intro U hSw; have y2 : U.cell? ⟨gb, 2, none⟩ = some (.slice (some ⟨gF, 0, none⟩) c.flows.length kF) := (hSw.cell (p := ⟨gb, 2, none⟩) lgbV).trans z2; have ya : U.cell? ⟨gA, 1, none⟩ = some (.int .i64 b2) := (hSw.cell (p := ⟨gA, 1, none⟩) lgAV).trans zb; go_simp); (try (with_reducible rfl)))
        try simp only [Act.put, List.setIfInBounds_toArray, List.set_cons_zero, List.set_cons_succ]
        refine ht_take 1 (v := ?vc_2) rfl (by kernel_rfl) (fun _ _ _ h => h) (Or.inl ⟨by rfl, ?hc_2⟩) hHeld ?rc_2
        case hc_2 => ((intro U hSw; have y2 : U.cell? ⟨gb, 2, none⟩ = some (.slice (some ⟨gF, 0, none⟩) c.flows.length kF) := (hSw.cell (p := ⟨gb, 2, none⟩) lgbV).trans z2; have ya : U.cell? ⟨gA, 1, none⟩ = some (.int .i64 b2) := (hSw.cell (p := ⟨gA, 1, none⟩) lgAV).trans zb; go_simp); (try (with_reducible rfl)))
        try simp only [Act.put, List.setIfInBounds_toArray, List.set_cons_zero, List.set_cons_succ]
        refine ht_take 2 (v := ?vc_3) rfl (by kernel_rfl) (fun _ _ _ h => h) (Or.inl ⟨by rfl, ?hc_3⟩) hHeld ?rc_3
        case hc_3 => ((intro U hSw; have y2 : U.cell? ⟨gb, 2, none⟩ = some (.slice (some ⟨gF, 0, none⟩) c.flows.length kF) := (hSw.cell (p := ⟨gb, 2, none⟩) lgbV).trans z2; have ya : U.cell? ⟨gA, 1, none⟩ = some (.int .i64 b2) := (hSw.cell (p := ⟨gA, 1, none⟩) lgAV).trans zb; go_simp); (try (with_reducible rfl)))
        try simp only [Act.put, List.setIfInBounds_toArray, List.set_cons_zero, List.set_cons_succ]
        refine ht_take 3 (v := ?vc_4) rfl (by kernel_rfl) (fun _ _ _ h => h) (Or.inl ⟨by rfl, ?hc_4⟩) hHeld ?rc_4
        case hc_4 => ((intro U hSw; have y2 : U.cell? ⟨gb, 2, none⟩ = some (.slice (some ⟨gF, 0, none⟩) c.flows.length kF) := (hSw.cell (p := ⟨gb, 2, none⟩) lgbV).trans z2; have ya : U.cell? ⟨gA, 1, none⟩ = some (.int .i64 b2) := (hSw.cell (p := ⟨gA, 1, none⟩) lgAV).trans zb; go_simp); (try (with_reducible rfl)))
        try simp only [Act.put, List.setIfInBounds_toArray, List.set_cons_zero, List.set_cons_succ]
        refine ht_take 4 (v := ?vc_5) rfl (by kernel_rfl) (fun _ _ _ h => h) (Or.inl ⟨by rfl, ?hc_5⟩) hHeld ?rc_5
        case hc_5 => ((intro U hSw; have y2 : U.cell? ⟨gb, 2, none⟩ = some (.slice (some ⟨gF, 0, none⟩) c.flows.length kF) := (hSw.cell (p := ⟨gb, 2, none⟩) lgbV).trans z2; have ya : U.cell? ⟨gA, 1, none⟩ = some (.int .i64 b2) := (hSw.cell (p := ⟨gA, 1, none⟩) lgAV).trans zb; go_simp); (try (with_reducible rfl)))
        try simp only [Act.put, List.setIfInBounds_toArray, List.set_cons_zero, List.set_cons_succ]
        refine ht_take 5 (v := ?vc_6) rfl (by kernel_rfl) (fun _ _ _ h => h) (Or.inl ⟨by rfl, ?hc_6⟩) hHeld ?rc_6
        case hc_6 => ((intro U hSw; have y2 : U.cell? ⟨gb, 2, none⟩ = some (.slice (some ⟨gF, 0, none⟩) c.flows.length kF) := (hSw.cell (p := ⟨gb, 2, none⟩) lgbV).trans z2; have ya : U.cell? ⟨gA, 1, none⟩ = some (.int .i64 b2) := (hSw.cell (p := ⟨gA, 1, none⟩) lgAV).trans zb; go_simp); (try (with_reducible rfl)))
        try simp only [Act.put, List.setIfInBounds_toArray, List.set_cons_zero, List.set_cons_succ]
        refine ht_take 6 (v := ?vc_7) rfl (by kernel_rfl) (fun _ _ _ h => h) (Or.inl ⟨by rfl, ?hc_7⟩) hHeld ?rc_7
        case hc_7 => ((intro U hSw; have y2 : U.cell? ⟨gb, 2, none⟩ = some (.slice (some ⟨gF, 0, none⟩) c.flows.length kF) := (hSw.cell (p := ⟨gb, 2, none⟩) lgbV).trans z2; have ya : U.cell? ⟨gA, 1, none⟩ = some (.int .i64 b2) := (hSw.cell (p := ⟨gA, 1, none⟩) lgAV).trans zb; go_simp); (try (with_reducible rfl)))
        try simp only [Act.put, List.setIfInBounds_toArray, List.set_cons_zero, List.set_cons_succ]
        refine ht_take 7 (v := ?vc_8) rfl (by kernel_rfl) (fun _ _ _ h => h) (Or.inl ⟨by rfl, ?hc_8⟩) hHeld ?rc_8
        case hc_8 => ((intro U hSw; have y2 : U.cell? ⟨gb, 2, none⟩ = some (.slice (some ⟨gF, 0, none⟩) c.flows.length kF) := (hSw.cell (p := ⟨gb, 2, none⟩) lgbV).trans z2; have ya : U.cell? ⟨gA, 1, none⟩ = some (.int .i64 b2) := (hSw.cell (p := ⟨gA, 1, none⟩) lgAV).trans zb; go_simp); (try (with_reducible rfl)))
        try simp only [Act.put, List.setIfInBounds_toArray, List.set_cons_zero, List.set_cons_succ]
        refine ht_take 8 (v := ?vc_9) rfl (by kernel_rfl) (fun _ _ _ h => h) (Or.inl ⟨by rfl, ?hc_9⟩) hHeld ?rc_9
        case hc_9 => ((intro U hSw; have y2 : U.cell? ⟨gb, 2, none⟩ = some (.slice (some ⟨gF, 0, none⟩) c.flows.length kF) := (hSw.cell (p := ⟨gb, 2, none⟩) lgbV).trans z2; have ya : U.cell? ⟨gA, 1, none⟩ = some (.int .i64 b2) := (hSw.cell (p := ⟨gA, 1, none⟩) lgAV).trans zb; go_simp); (try (with_reducible rfl)))
        try simp only [Act.put, List.setIfInBounds_toArray, List.set_cons_zero, List.set_cons_succ]
        refine ht_done (by kernel_rfl) rfl ?_
        rw [HM.out, HTF.out]
        clear hHeld HM HTF
        obtain ⟨T, hT⟩ : ∃ T, T = V.drew.drew := ⟨_, rfl⟩
        have hET : Ed3 w1 gb gd gI gF gS c.items.length kI c.flows.length kF c.seqs.length kS (chCs c.id (.slice AP c.parts.length cP) (.slice (some ⟨gF, 0, none⟩) c.flows.length kF) (.slice (some ⟨gI, 0, none⟩) c.items.length kI) (.slice (some ⟨gS, 0, none⟩) c.seqs.length kS) xs) #[.slice A3 4 c3, .slice (some ⟨gb, 0, none⟩) 2 2] xsI xsF xsS T := by rw [hT]; exact HE.out.drew.drew
        have kAT : Blk T gA 31 #[.int .i64 a2, .int .i64 b2] := gr_blk hET.gr HKA1.out (fun e => blk_ne HKA1.out HO.out.blk (by decide) e)
        have za : T.cell? ⟨gA, 0, none⟩ = some (.int .i64 a2) := kAT.cell 0
        have x2 : T.cell? ⟨gb, 2, none⟩ = some (.slice (some ⟨gF, 0, none⟩) c.flows.length kF) := hET.blk.cell 2
        have x3 : T.cell? ⟨gb, 3, none⟩ = some (.slice (some ⟨gI, 0, none⟩) c.items.length kI) := hET.blk.cell 3
        have x4 : T.cell? ⟨gb, 4, none⟩ = some (.slice (some ⟨gS, 0, none⟩) c.seqs.length kS) := hET.blk.cell 4
        obtain ⟨xx, hxx⟩ : ∃ y, y = c.items[j] := ⟨_, rfl⟩
        obtain ⟨vs, hvl, hvs, hva⟩ := rdl_at itemC_len j hj (HO.out.itemL hET.gr)
        rw [← hxx] at hvs
        obtain ⟨v3, v4, v7, v8, v9, rfl, hV3, hV4, hV7, _⟩ := rd_itemC.1 hvs
        have i2 : T.cell? ⟨gI, j * 10 + 2, none⟩ = some (.string xx.first) := by rw [hET.oI.cellAt _ (by omega), hva 2 (by omega)]; rfl
        have i3 : T.cell? ⟨gI, j * 10 + 3, none⟩ = some v3 := by rw [hET.oI.cellAt _ (by omega), hva 3 (by omega)]; rfl
        have i4 : T.cell? ⟨gI, j * 10 + 4, none⟩ = some v4 := by rw [hET.oI.cellAt _ (by omega), hva 4 (by omega)]; rfl
        have fI : ∀ k, T.frozen? ⟨gI, k, none⟩ = false := fun k => hET.oI.frozenAt _
        have fi2 := fI (j * 10 + 2)
        have fi3 := fI (j * 10 + 3)
        have fi4 := fI (j * 10 + 4)
        have fl6 := fI (l.length * 10 + 6)
        have fl7 := fI (l.length * 10 + 7)
        have ff1 : T.frozen? ⟨gF, f * 4 + 1, none⟩ = false := hET.oF.frozenAt _
        have ff3 : T.frozen? ⟨gF, f * 4 + 3, none⟩ = false := hET.oF.frozenAt _
        have fs2 : T.frozen? ⟨gS, 2, none⟩ = false := hET.oS.frozenAt _
        have jf1 : ∃ u, T.cell? ⟨gF, f * 4 + 1, none⟩ = some u := ⟨_, (hET.oF.cellAt _ (by omega)).trans (List.getElem?_eq_getElem (by have := hET.oF.1; omega))⟩
        have jf3 : ∃ u, T.cell? ⟨gF, f * 4 + 3, none⟩ = some u := ⟨_, (hET.oF.cellAt _ (by omega)).trans (List.getElem?_eq_getElem (by have := hET.oF.1; omega))⟩
        have js2 : ∃ u, T.cell? ⟨gS, 2, none⟩ = some u := ⟨_, (hET.oS.cellAt _ (by omega)).trans (List.getElem?_eq_getElem (by have := hET.oS.1; omega))⟩
        have jl6 : ∃ u, T.cell? ⟨gI, l.length * 10 + 6, none⟩ = some u := ⟨_, (hET.oI.cellAt _ (by have := HLC.out; omega)).trans (List.getElem?_eq_getElem (by have := hET.oI.1; have := HLC.out; omega))⟩
        have jl7 : ∃ u, T.cell? ⟨gI, l.length * 10 + 7, none⟩ = some u := ⟨_, (hET.oI.cellAt _ (by have := HLC.out; omega)).trans (List.getElem?_eq_getElem (by have := hET.oI.1; have := HLC.out; omega))⟩
        obtain ⟨uf1, jf1⟩ := jf1
        obtain ⟨uf3, jf3⟩ := jf3
        obtain ⟨us2, js2⟩ := js2
        obtain ⟨ul6, jl6⟩ := jl6
        obtain ⟨ul7, jl7⟩ := jl7
        have lgIT := (own_base hET.oI).2
        have lgFT := (own_base hET.oF).2
        have lgST := (own_base hET.oS).2
        have hllI : (l.length : Int) < (c.items.length : Int) := by have := HLC.out; omega
        have hsI : (0 : Int) < (c.seqs.length : Int) := by omega
        have hfI : (f : Int) < (c.flows.length : Int) := by omega
        have HET := Lib.hid hET
        have HX := Lib.hid hxx
        have HV3 := Lib.hid hV3
        rw [← hT]
        clear hT hET kAT hvs hva hvl hxx hV3 hV4 hV7 fI z2 z3 zb
        go_upto_region 16 with fail
        rw [HQ.out]
        clear za
        have hqs : q = 0 ∨ q = 1 ∨ q = 2 ∨ q = 3 ∨ q = 4 ∨ q = 5 ∨ q = 6 ∨ q = 7 ∨ q = 8 ∨ q = 9 := by have := HQ10.out; omega
        clear HQ10 HQ
        rcases hqs with rfl | rfl | rfl | rfl | rfl | rfl | rfl | rfl | rfl | rfl
        · obtain ⟨T2, hT2⟩ : ∃ T', T' = T.setCell ⟨gI, j * 10 + 2, none⟩ (.string ⟨#[120, 112, 97]⟩) := ⟨_, rfl⟩
          have hE2 := HET.out.putI (j * 10 + 2) (.string ⟨#[120, 112, 97]⟩)
          rw [← hT2] at hE2
          have hW := wrong0 HR.out hj H3.out
          have hRC := refs_ed (Is := c.items.set j (setFirst c.items[j] ⟨#[120, 112, 97]⟩)) (Fs := c.flows) (Ss := c.seqs) HO.out hE2 (elem_set (y := setFirst c.items[j] ⟨#[120, 112, 97]⟩) itemC_len (show 2 < 10 by decide) c.items j hj xsI (fun vs hv => by
            obtain ⟨v3, v4, v7, v8, v9, rfl, hV⟩ := rd_itemC.1 hv
            exact rd_itemC.2 ⟨v3, v4, v7, v8, v9, rfl, hV⟩) (HO.out.itemL hE2.gr)) (HO.out.flowL hE2.gr) (HO.out.seqL hE2.gr) (by simp) (by simp) (by simp) hW.fit hW.refs hW.chk
          clear hW
          have HRC := Lib.hid hRC
          have HE2 := Lib.hid hE2
          have HT2 := Lib.hid hT2.symm
          have hb9 : Below w.heap.size w T2 := gr_end HB01.out hE2.gr hgbw HB01.out.size
          have HB9 := Lib.hid hb9
          clear hRC hE2 hT2 hb9
          go_upto_region 34 with fail
          rw [HT2.out]
          clear HT2
          have d0 : T2.cell? ⟨gd, 0, none⟩ = some (.slice A3 4 c3) := HE2.out.box.cell 0
          have d1 : T2.cell? ⟨gd, 1, none⟩ = some (.slice (some ⟨gb, 0, none⟩) 2 2) := HE2.out.box.cell 1
          have lgdT := HE2.out.box.lt
          go_wp2_with fail
          refine (ids_awake _).mono ?_
          rintro e w5 ⟨rfl, hb5⟩
          have HB5 := Lib.hid hb5
          have d05 : w5.cell? ⟨gd, 0, none⟩ = some (.slice A3 4 c3) := (hb5.cell (p := ⟨gd, 0, none⟩) lgdT).trans d0
          have d15 : w5.cell? ⟨gd, 1, none⟩ = some (.slice (some ⟨gb, 0, none⟩) 2 2) := (hb5.cell (p := ⟨gd, 1, none⟩) lgdT).trans d1
          clear hb5 d0 d1
          go_wp2_with fail
          refine (HRC.out w5 HB5.out).1.mono ?_
          rintro e w6 ⟨rfl, hb6⟩
          have HB6 := Lib.hid (HB5.out.trans (hb6.mono HB5.out.size))
          have lgd5 : gd < w5.heap.size := Nat.lt_of_lt_of_le lgdT HB5.out.size
          have d06 : w6.cell? ⟨gd, 0, none⟩ = some (.slice A3 4 c3) := (hb6.cell (p := ⟨gd, 0, none⟩) lgd5).trans d05
          have d16 : w6.cell? ⟨gd, 1, none⟩ = some (.slice (some ⟨gb, 0, none⟩) 2 2) := (hb6.cell (p := ⟨gd, 1, none⟩) lgd5).trans d15
          clear hb6 d05 d15
          go_wp2_with fail
          refine (HRC.out w6 HB6.out).2.mono ?_
          rintro e w7 ⟨rfl, hb7⟩
          have hfi := HB9.out.trans ((HB6.out.trans (hb7.mono HB6.out.size)).mono HB9.out.size)
          have HFI := Lib.hid hfi
          clear hb7 hfi d06 d16
          go_wp2_with fail
          go_ret
          exact ⟨rfl, HFI.out⟩
        · have h2p := HR.out.two _ (List.getElem_mem hj) H3.out
          rw [← HX.out] at h2p
          obtain ⟨AQ, cQ, rfl⟩ := rd_form HV3.out
          obtain ⟨_, _, hvQ, _, _, hat⟩ := rd_at strC_len HV3.out
          injection hvQ with e1 e2 e3
          clear e2
          subst e1
          subst e3
          have hQ0 : 0 < xx.parts.length := by omega
          have hQI : (0 : Int) < (xx.parts.length : Int) := by omega
          obtain ⟨bQ, vs, rfl, hbQ, _, hvs, hcell⟩ := hat 0 hQ0
          obtain ⟨p0, hp0⟩ : ∃ p, p = xx.parts[0] := ⟨_, rfl⟩
          rw [← hp0] at hvs
          obtain rfl := rd_strC hvs
          have eQ : T.cell? ⟨bQ, 0, none⟩ = some (.string p0) := hcell 0 (by omega)
          clear hp0 hat hcell hvs h2p
          obtain ⟨T2, hT2⟩ : ∃ T', T' = (T.setCell ⟨gI, j * 10 + 3, none⟩ (.slice (some ⟨T.heap.size, 0, none⟩) 2 2)).alloc (.cells #[.string p0, .string ⟨#[109, 97]⟩] 9) := ⟨_, rfl⟩
          have hE2 := (HET.out.putI (j * 10 + 3) (.slice (some ⟨T.heap.size, 0, none⟩) 2 2)).alloc (.cells #[.string p0, .string ⟨#[109, 97]⟩] 9)
          rw [← hT2] at hE2
          have hW := wrong1 HR.out hj H3.out p0
          have hRC := refs_ed (Is := c.items.set j (setParts c.items[j] [p0, ⟨#[109, 97]⟩])) (Fs := c.flows) (Ss := c.seqs) HO.out hE2 (elem_set (y := setParts c.items[j] [p0, ⟨#[109, 97]⟩]) itemC_len (show 3 < 10 by decide) c.items j hj xsI (fun vs hv => by
            obtain ⟨v3, v4, v7, v8, v9, rfl, hV⟩ := rd_itemC.1 hv
            have hr : Rd ((T.setCell ⟨gI, j * 10 + 3, none⟩ (.slice (some ⟨T.heap.size, 0, none⟩) 2 2)).alloc (.cells #[.string p0, .string ⟨#[109, 97]⟩] 9)) (strsD [p0, ⟨#[109, 97]⟩]) _ := rd_litC (rdl_cons.2 ⟨_, _, rfl, rd_str.2 rfl, rdl_cons.2 ⟨_, _, rfl, rd_str.2 rfl, rdl_nil.2 rfl⟩⟩) (show 2 ≤ maxLen by decide) rfl
            rw [show ((T.setCell ⟨gI, j * 10 + 3, none⟩ (.slice (some ⟨T.heap.size, 0, none⟩) 2 2))).heap.size = T.heap.size by simp] at hr
            have hnew : Rd T2 (strsD [p0, ⟨#[109, 97]⟩]) (.slice (some ⟨T.heap.size, 0, none⟩) 2 2) := by rw [hT2]; exact hr
            exact rd_itemC.2 ⟨_, v4, v7, v8, v9, rfl, hnew, hV.2.1, hV.2.2.1, hV.2.2.2.1, hV.2.2.2.2⟩) (HO.out.itemL hE2.gr)) (HO.out.flowL hE2.gr) (HO.out.seqL hE2.gr) (by simp) (by simp) (by simp) hW.fit hW.refs hW.chk
          clear hW
          have HRC := Lib.hid hRC
          have HE2 := Lib.hid hE2
          have HT2 := Lib.hid hT2.symm
          have hb9 : Below w.heap.size w T2 := gr_end HB01.out hE2.gr hgbw HB01.out.size
          have HB9 := Lib.hid hb9
          clear hRC hE2 hT2 hb9
          go_upto_region 34 with fail
          rw [HT2.out]
          clear HT2
          have d0 : T2.cell? ⟨gd, 0, none⟩ = some (.slice A3 4 c3) := HE2.out.box.cell 0
          have d1 : T2.cell? ⟨gd, 1, none⟩ = some (.slice (some ⟨gb, 0, none⟩) 2 2) := HE2.out.box.cell 1
          have lgdT := HE2.out.box.lt
          go_wp2_with fail
          refine (ids_awake _).mono ?_
          rintro e w5 ⟨rfl, hb5⟩
          have HB5 := Lib.hid hb5
          have d05 : w5.cell? ⟨gd, 0, none⟩ = some (.slice A3 4 c3) := (hb5.cell (p := ⟨gd, 0, none⟩) lgdT).trans d0
          have d15 : w5.cell? ⟨gd, 1, none⟩ = some (.slice (some ⟨gb, 0, none⟩) 2 2) := (hb5.cell (p := ⟨gd, 1, none⟩) lgdT).trans d1
          clear hb5 d0 d1
          go_wp2_with fail
          refine (HRC.out w5 HB5.out).1.mono ?_
          rintro e w6 ⟨rfl, hb6⟩
          have HB6 := Lib.hid (HB5.out.trans (hb6.mono HB5.out.size))
          have lgd5 : gd < w5.heap.size := Nat.lt_of_lt_of_le lgdT HB5.out.size
          have d06 : w6.cell? ⟨gd, 0, none⟩ = some (.slice A3 4 c3) := (hb6.cell (p := ⟨gd, 0, none⟩) lgd5).trans d05
          have d16 : w6.cell? ⟨gd, 1, none⟩ = some (.slice (some ⟨gb, 0, none⟩) 2 2) := (hb6.cell (p := ⟨gd, 1, none⟩) lgd5).trans d15
          clear hb6 d05 d15
          go_wp2_with fail
          refine (HRC.out w6 HB6.out).2.mono ?_
          rintro e w7 ⟨rfl, hb7⟩
          have hfi := HB9.out.trans ((HB6.out.trans (hb7.mono HB6.out.size)).mono HB9.out.size)
          have HFI := Lib.hid hfi
          clear hb7 hfi d06 d16
          go_wp2_with fail
          go_ret
          exact ⟨rfl, HFI.out⟩
        · obtain ⟨T2, hT2⟩ : ∃ T', T' = (T.setCell ⟨gI, j * 10 + 4, none⟩ (.slice (some ⟨T.heap.size, 0, none⟩) 1 1)).alloc (.cells #[.string ⟨#[120, 102, 97]⟩] 9) := ⟨_, rfl⟩
          have hE2 := (HET.out.putI (j * 10 + 4) (.slice (some ⟨T.heap.size, 0, none⟩) 1 1)).alloc (.cells #[.string ⟨#[120, 102, 97]⟩] 9)
          rw [← hT2] at hE2
          have hW := wrong2 HR.out hj H3.out
          have hRC := refs_ed (Is := c.items.set j (setFlows c.items[j] [⟨#[120, 102, 97]⟩])) (Fs := c.flows) (Ss := c.seqs) HO.out hE2 (elem_set (y := setFlows c.items[j] [⟨#[120, 102, 97]⟩]) itemC_len (show 4 < 10 by decide) c.items j hj xsI (fun vs hv => by
            obtain ⟨v3, v4, v7, v8, v9, rfl, hV⟩ := rd_itemC.1 hv
            have hr : Rd ((T.setCell ⟨gI, j * 10 + 4, none⟩ (.slice (some ⟨T.heap.size, 0, none⟩) 1 1)).alloc (.cells #[.string ⟨#[120, 102, 97]⟩] 9)) (strsD [⟨#[120, 102, 97]⟩]) _ := rd_litC (rdl_cons.2 ⟨_, _, rfl, rd_str.2 rfl, rdl_nil.2 rfl⟩) (show 1 ≤ maxLen by decide) rfl
            rw [show ((T.setCell ⟨gI, j * 10 + 4, none⟩ (.slice (some ⟨T.heap.size, 0, none⟩) 1 1))).heap.size = T.heap.size by simp] at hr
            have hnew : Rd T2 (strsD [⟨#[120, 102, 97]⟩]) (.slice (some ⟨T.heap.size, 0, none⟩) 1 1) := by rw [hT2]; exact hr
            exact rd_itemC.2 ⟨v3, _, v7, v8, v9, rfl, hV.1, hnew, hV.2.2.1, hV.2.2.2.1, hV.2.2.2.2⟩) (HO.out.itemL hE2.gr)) (HO.out.flowL hE2.gr) (HO.out.seqL hE2.gr) (by simp) (by simp) (by simp) hW.fit hW.refs hW.chk
          clear hW
          have HRC := Lib.hid hRC
          have HE2 := Lib.hid hE2
          have HT2 := Lib.hid hT2.symm
          have hb9 : Below w.heap.size w T2 := gr_end HB01.out hE2.gr hgbw HB01.out.size
          have HB9 := Lib.hid hb9
          clear hRC hE2 hT2 hb9
          go_upto_region 34 with fail
          rw [HT2.out]
          clear HT2
          have d0 : T2.cell? ⟨gd, 0, none⟩ = some (.slice A3 4 c3) := HE2.out.box.cell 0
          have d1 : T2.cell? ⟨gd, 1, none⟩ = some (.slice (some ⟨gb, 0, none⟩) 2 2) := HE2.out.box.cell 1
          have lgdT := HE2.out.box.lt
          go_wp2_with fail
          refine (ids_awake _).mono ?_
          rintro e w5 ⟨rfl, hb5⟩
          have HB5 := Lib.hid hb5
          have d05 : w5.cell? ⟨gd, 0, none⟩ = some (.slice A3 4 c3) := (hb5.cell (p := ⟨gd, 0, none⟩) lgdT).trans d0
          have d15 : w5.cell? ⟨gd, 1, none⟩ = some (.slice (some ⟨gb, 0, none⟩) 2 2) := (hb5.cell (p := ⟨gd, 1, none⟩) lgdT).trans d1
          clear hb5 d0 d1
          go_wp2_with fail
          refine (HRC.out w5 HB5.out).1.mono ?_
          rintro e w6 ⟨rfl, hb6⟩
          have HB6 := Lib.hid (HB5.out.trans (hb6.mono HB5.out.size))
          have lgd5 : gd < w5.heap.size := Nat.lt_of_lt_of_le lgdT HB5.out.size
          have d06 : w6.cell? ⟨gd, 0, none⟩ = some (.slice A3 4 c3) := (hb6.cell (p := ⟨gd, 0, none⟩) lgd5).trans d05
          have d16 : w6.cell? ⟨gd, 1, none⟩ = some (.slice (some ⟨gb, 0, none⟩) 2 2) := (hb6.cell (p := ⟨gd, 1, none⟩) lgd5).trans d15
          clear hb6 d05 d15
          go_wp2_with fail
          refine (HRC.out w6 HB6.out).2.mono ?_
          rintro e w7 ⟨rfl, hb7⟩
          have hfi := HB9.out.trans ((HB6.out.trans (hb7.mono HB6.out.size)).mono HB9.out.size)
          have HFI := Lib.hid hfi
          clear hb7 hfi d06 d16
          go_wp2_with fail
          go_ret
          exact ⟨rfl, HFI.out⟩
        · obtain ⟨T2, hT2⟩ : ∃ T', T' = T.setCell ⟨gF, f * 4 + 1, none⟩ (.string ⟨#[110, 111]⟩) := ⟨_, rfl⟩
          have hE2 := HET.out.putF (f * 4 + 1) (.string ⟨#[110, 111]⟩)
          rw [← hT2] at hE2
          have hW := wrong3 HR.out fF
          have hRC := refs_ed (Is := c.items) (Fs := c.flows.set f ⟨c.flows[f].id, ⟨#[110, 111]⟩, c.flows[f].dst, c.flows[f].msg⟩) (Ss := c.seqs) HO.out hE2 (HO.out.itemL hE2.gr) (elem_set (y := ⟨c.flows[f].id, ⟨#[110, 111]⟩, c.flows[f].dst, c.flows[f].msg⟩) flowC_len (show 1 < 4 by decide) c.flows f fF xsF (fun vs hv => by
            obtain rfl := rd_flowC hv
            exact rdl_cons.2 ⟨_, _, rfl, rd_str.2 rfl, rdl_cons.2 ⟨_, _, rfl, rd_str.2 rfl, rdl_cons.2 ⟨_, _, rfl, rd_str.2 rfl, rdl_cons.2 ⟨_, _, rfl, rd_str.2 rfl, rdl_nil.2 rfl⟩⟩⟩⟩) (HO.out.flowL hE2.gr)) (HO.out.seqL hE2.gr) (by simp) (by simp) (by simp) hW.fit hW.refs hW.chk
          clear hW
          have HRC := Lib.hid hRC
          have HE2 := Lib.hid hE2
          have HT2 := Lib.hid hT2.symm
          have hb9 : Below w.heap.size w T2 := gr_end HB01.out hE2.gr hgbw HB01.out.size
          have HB9 := Lib.hid hb9
          clear hRC hE2 hT2 hb9
          go_upto_region 34 with fail
          rw [HT2.out]
          clear HT2
          have d0 : T2.cell? ⟨gd, 0, none⟩ = some (.slice A3 4 c3) := HE2.out.box.cell 0
          have d1 : T2.cell? ⟨gd, 1, none⟩ = some (.slice (some ⟨gb, 0, none⟩) 2 2) := HE2.out.box.cell 1
          have lgdT := HE2.out.box.lt
          go_wp2_with fail
          refine (ids_awake _).mono ?_
          rintro e w5 ⟨rfl, hb5⟩
          have HB5 := Lib.hid hb5
          have d05 : w5.cell? ⟨gd, 0, none⟩ = some (.slice A3 4 c3) := (hb5.cell (p := ⟨gd, 0, none⟩) lgdT).trans d0
          have d15 : w5.cell? ⟨gd, 1, none⟩ = some (.slice (some ⟨gb, 0, none⟩) 2 2) := (hb5.cell (p := ⟨gd, 1, none⟩) lgdT).trans d1
          clear hb5 d0 d1
          go_wp2_with fail
          refine (HRC.out w5 HB5.out).1.mono ?_
          rintro e w6 ⟨rfl, hb6⟩
          have HB6 := Lib.hid (HB5.out.trans (hb6.mono HB5.out.size))
          have lgd5 : gd < w5.heap.size := Nat.lt_of_lt_of_le lgdT HB5.out.size
          have d06 : w6.cell? ⟨gd, 0, none⟩ = some (.slice A3 4 c3) := (hb6.cell (p := ⟨gd, 0, none⟩) lgd5).trans d05
          have d16 : w6.cell? ⟨gd, 1, none⟩ = some (.slice (some ⟨gb, 0, none⟩) 2 2) := (hb6.cell (p := ⟨gd, 1, none⟩) lgd5).trans d15
          clear hb6 d05 d15
          go_wp2_with fail
          refine (HRC.out w6 HB6.out).2.mono ?_
          rintro e w7 ⟨rfl, hb7⟩
          have hfi := HB9.out.trans ((HB6.out.trans (hb7.mono HB6.out.size)).mono HB9.out.size)
          have HFI := Lib.hid hfi
          clear hb7 hfi d06 d16
          go_wp2_with fail
          go_ret
          exact ⟨rfl, HFI.out⟩
        · obtain ⟨T2, hT2⟩ : ∃ T', T' = T.setCell ⟨gF, f * 4 + 3, none⟩ (.string ⟨#[99]⟩) := ⟨_, rfl⟩
          have hE2 := HET.out.putF (f * 4 + 3) (.string ⟨#[99]⟩)
          rw [← hT2] at hE2
          have hW := wrong4 HR.out fF
          have hRC := refs_ed (Is := c.items) (Fs := c.flows.set f ⟨c.flows[f].id, c.flows[f].src, c.flows[f].dst, ⟨#[99]⟩⟩) (Ss := c.seqs) HO.out hE2 (HO.out.itemL hE2.gr) (elem_set (y := ⟨c.flows[f].id, c.flows[f].src, c.flows[f].dst, ⟨#[99]⟩⟩) flowC_len (show 3 < 4 by decide) c.flows f fF xsF (fun vs hv => by
            obtain rfl := rd_flowC hv
            exact rdl_cons.2 ⟨_, _, rfl, rd_str.2 rfl, rdl_cons.2 ⟨_, _, rfl, rd_str.2 rfl, rdl_cons.2 ⟨_, _, rfl, rd_str.2 rfl, rdl_cons.2 ⟨_, _, rfl, rd_str.2 rfl, rdl_nil.2 rfl⟩⟩⟩⟩) (HO.out.flowL hE2.gr)) (HO.out.seqL hE2.gr) (by simp) (by simp) (by simp) hW.fit hW.refs hW.chk
          clear hW
          have HRC := Lib.hid hRC
          have HE2 := Lib.hid hE2
          have HT2 := Lib.hid hT2.symm
          have hb9 : Below w.heap.size w T2 := gr_end HB01.out hE2.gr hgbw HB01.out.size
          have HB9 := Lib.hid hb9
          clear hRC hE2 hT2 hb9
          go_upto_region 34 with fail
          rw [HT2.out]
          clear HT2
          have d0 : T2.cell? ⟨gd, 0, none⟩ = some (.slice A3 4 c3) := HE2.out.box.cell 0
          have d1 : T2.cell? ⟨gd, 1, none⟩ = some (.slice (some ⟨gb, 0, none⟩) 2 2) := HE2.out.box.cell 1
          have lgdT := HE2.out.box.lt
          go_wp2_with fail
          refine (ids_awake _).mono ?_
          rintro e w5 ⟨rfl, hb5⟩
          have HB5 := Lib.hid hb5
          have d05 : w5.cell? ⟨gd, 0, none⟩ = some (.slice A3 4 c3) := (hb5.cell (p := ⟨gd, 0, none⟩) lgdT).trans d0
          have d15 : w5.cell? ⟨gd, 1, none⟩ = some (.slice (some ⟨gb, 0, none⟩) 2 2) := (hb5.cell (p := ⟨gd, 1, none⟩) lgdT).trans d1
          clear hb5 d0 d1
          go_wp2_with fail
          refine (HRC.out w5 HB5.out).1.mono ?_
          rintro e w6 ⟨rfl, hb6⟩
          have HB6 := Lib.hid (HB5.out.trans (hb6.mono HB5.out.size))
          have lgd5 : gd < w5.heap.size := Nat.lt_of_lt_of_le lgdT HB5.out.size
          have d06 : w6.cell? ⟨gd, 0, none⟩ = some (.slice A3 4 c3) := (hb6.cell (p := ⟨gd, 0, none⟩) lgd5).trans d05
          have d16 : w6.cell? ⟨gd, 1, none⟩ = some (.slice (some ⟨gb, 0, none⟩) 2 2) := (hb6.cell (p := ⟨gd, 1, none⟩) lgd5).trans d15
          clear hb6 d05 d15
          go_wp2_with fail
          refine (HRC.out w6 HB6.out).2.mono ?_
          rintro e w7 ⟨rfl, hb7⟩
          have hfi := HB9.out.trans ((HB6.out.trans (hb7.mono HB6.out.size)).mono HB9.out.size)
          have HFI := Lib.hid hfi
          clear hb7 hfi d06 d16
          go_wp2_with fail
          go_ret
          exact ⟨rfl, HFI.out⟩
        · obtain ⟨T2, hT2⟩ : ∃ T', T' = T.setCell ⟨gS, 2, none⟩ (.string ⟨#[115, 117, 98, 46, 101]⟩) := ⟨_, rfl⟩
          have hE2 := HET.out.putS (0 * 3 + 2) (.string ⟨#[115, 117, 98, 46, 101]⟩)
          rw [← hT2] at hE2
          have hW := wrong5 HR.out
          have hRC := refs_ed (Is := c.items) (Fs := c.flows) (Ss := c.seqs.set 0 ⟨c.seqs[0].id, c.seqs[0].src, ⟨#[115, 117, 98, 46, 101]⟩⟩) HO.out hE2 (HO.out.itemL hE2.gr) (HO.out.flowL hE2.gr) (elem_set (y := ⟨c.seqs[0].id, c.seqs[0].src, ⟨#[115, 117, 98, 46, 101]⟩⟩) seqC_len (show 2 < 3 by decide) c.seqs 0 lpS xsS (fun vs hv => by
            obtain rfl := rd_seqC hv
            exact rdl_cons.2 ⟨_, _, rfl, rd_str.2 rfl, rdl_cons.2 ⟨_, _, rfl, rd_str.2 rfl, rdl_cons.2 ⟨_, _, rfl, rd_str.2 rfl, rdl_nil.2 rfl⟩⟩⟩) (HO.out.seqL hE2.gr)) (by simp) (by simp) (by simp) hW.fit hW.refs hW.chk
          clear hW
          have HRC := Lib.hid hRC
          have HE2 := Lib.hid hE2
          have HT2 := Lib.hid hT2.symm
          have hb9 : Below w.heap.size w T2 := gr_end HB01.out hE2.gr hgbw HB01.out.size
          have HB9 := Lib.hid hb9
          clear hRC hE2 hT2 hb9
          go_upto_region 34 with fail
          rw [HT2.out]
          clear HT2
          have d0 : T2.cell? ⟨gd, 0, none⟩ = some (.slice A3 4 c3) := HE2.out.box.cell 0
          have d1 : T2.cell? ⟨gd, 1, none⟩ = some (.slice (some ⟨gb, 0, none⟩) 2 2) := HE2.out.box.cell 1
          have lgdT := HE2.out.box.lt
          go_wp2_with fail
          refine (ids_awake _).mono ?_
          rintro e w5 ⟨rfl, hb5⟩
          have HB5 := Lib.hid hb5
          have d05 : w5.cell? ⟨gd, 0, none⟩ = some (.slice A3 4 c3) := (hb5.cell (p := ⟨gd, 0, none⟩) lgdT).trans d0
          have d15 : w5.cell? ⟨gd, 1, none⟩ = some (.slice (some ⟨gb, 0, none⟩) 2 2) := (hb5.cell (p := ⟨gd, 1, none⟩) lgdT).trans d1
          clear hb5 d0 d1
          go_wp2_with fail
          refine (HRC.out w5 HB5.out).1.mono ?_
          rintro e w6 ⟨rfl, hb6⟩
          have HB6 := Lib.hid (HB5.out.trans (hb6.mono HB5.out.size))
          have lgd5 : gd < w5.heap.size := Nat.lt_of_lt_of_le lgdT HB5.out.size
          have d06 : w6.cell? ⟨gd, 0, none⟩ = some (.slice A3 4 c3) := (hb6.cell (p := ⟨gd, 0, none⟩) lgd5).trans d05
          have d16 : w6.cell? ⟨gd, 1, none⟩ = some (.slice (some ⟨gb, 0, none⟩) 2 2) := (hb6.cell (p := ⟨gd, 1, none⟩) lgd5).trans d15
          clear hb6 d05 d15
          go_wp2_with fail
          refine (HRC.out w6 HB6.out).2.mono ?_
          rintro e w7 ⟨rfl, hb7⟩
          have hfi := HB9.out.trans ((HB6.out.trans (hb7.mono HB6.out.size)).mono HB9.out.size)
          have HFI := Lib.hid hfi
          clear hb7 hfi d06 d16
          go_wp2_with fail
          go_ret
          exact ⟨rfl, HFI.out⟩
        · have hlk : l.length < c.items.length := by have := HLC.out; omega
          have hcl : c.items[l.length] = call := by obtain ⟨_, h, _⟩ := call_at HR.out; exact h
          obtain ⟨T2, hT2⟩ : ∃ T', T' = T.setCell ⟨gI, l.length * 10 + 6, none⟩ (.string ⟨#[120]⟩) := ⟨_, rfl⟩
          have hE2 := HET.out.putI (l.length * 10 + 6) (.string ⟨#[120]⟩)
          rw [← hT2] at hE2
          have hW := wrong6 HR.out
          have hRC := refs_ed (Is := c.items.set l.length (setCalled call ⟨#[120]⟩)) (Fs := c.flows) (Ss := c.seqs) HO.out hE2 (elem_set (y := setCalled call ⟨#[120]⟩) itemC_len (show 6 < 10 by decide) c.items l.length hlk xsI (fun vs hv => by
            rw [hcl] at hv
            obtain ⟨v3, v4, v7, v8, v9, rfl, hV⟩ := rd_itemC.1 hv
            exact rd_itemC.2 ⟨v3, v4, v7, v8, v9, rfl, hV⟩) (HO.out.itemL hE2.gr)) (HO.out.flowL hE2.gr) (HO.out.seqL hE2.gr) (by simp) (by simp) (by simp) hW.fit hW.refs hW.chk
          clear hW
          have HRC := Lib.hid hRC
          have HE2 := Lib.hid hE2
          have HT2 := Lib.hid hT2.symm
          have hb9 : Below w.heap.size w T2 := gr_end HB01.out hE2.gr hgbw HB01.out.size
          have HB9 := Lib.hid hb9
          clear hRC hE2 hT2 hb9
          go_upto_region 34 with fail
          rw [HT2.out]
          clear HT2
          have d0 : T2.cell? ⟨gd, 0, none⟩ = some (.slice A3 4 c3) := HE2.out.box.cell 0
          have d1 : T2.cell? ⟨gd, 1, none⟩ = some (.slice (some ⟨gb, 0, none⟩) 2 2) := HE2.out.box.cell 1
          have lgdT := HE2.out.box.lt
          go_wp2_with fail
          refine (ids_awake _).mono ?_
          rintro e w5 ⟨rfl, hb5⟩
          have HB5 := Lib.hid hb5
          have d05 : w5.cell? ⟨gd, 0, none⟩ = some (.slice A3 4 c3) := (hb5.cell (p := ⟨gd, 0, none⟩) lgdT).trans d0
          have d15 : w5.cell? ⟨gd, 1, none⟩ = some (.slice (some ⟨gb, 0, none⟩) 2 2) := (hb5.cell (p := ⟨gd, 1, none⟩) lgdT).trans d1
          clear hb5 d0 d1
          go_wp2_with fail
          refine (HRC.out w5 HB5.out).1.mono ?_
          rintro e w6 ⟨rfl, hb6⟩
          have HB6 := Lib.hid (HB5.out.trans (hb6.mono HB5.out.size))
          have lgd5 : gd < w5.heap.size := Nat.lt_of_lt_of_le lgdT HB5.out.size
          have d06 : w6.cell? ⟨gd, 0, none⟩ = some (.slice A3 4 c3) := (hb6.cell (p := ⟨gd, 0, none⟩) lgd5).trans d05
          have d16 : w6.cell? ⟨gd, 1, none⟩ = some (.slice (some ⟨gb, 0, none⟩) 2 2) := (hb6.cell (p := ⟨gd, 1, none⟩) lgd5).trans d15
          clear hb6 d05 d15
          go_wp2_with fail
          refine (HRC.out w6 HB6.out).2.mono ?_
          rintro e w7 ⟨rfl, hb7⟩
          have hfi := HB9.out.trans ((HB6.out.trans (hb7.mono HB6.out.size)).mono HB9.out.size)
          have HFI := Lib.hid hfi
          clear hb7 hfi d06 d16
          go_wp2_with fail
          go_ret
          exact ⟨rfl, HFI.out⟩
        · have hlk : l.length < c.items.length := by have := HLC.out; omega
          have hcl : c.items[l.length] = call := by obtain ⟨_, h, _⟩ := call_at HR.out; exact h
          obtain ⟨T2, hT2⟩ : ∃ T', T' = (T.setCell ⟨gI, l.length * 10 + 7, none⟩ (.slice (some ⟨T.heap.size, 0, none⟩) 1 1)).alloc (.cells #[.string ⟨#[112, 97]⟩, .string ⟨#[112, 97]⟩] 71) := ⟨_, rfl⟩
          have hE2 := (HET.out.putI (l.length * 10 + 7) (.slice (some ⟨T.heap.size, 0, none⟩) 1 1)).alloc (.cells #[.string ⟨#[112, 97]⟩, .string ⟨#[112, 97]⟩] 71)
          rw [← hT2] at hE2
          have hW := wrong7 HR.out ⟨#[112, 97]⟩ ⟨#[112, 97]⟩ (by simp)
          have hRC := refs_ed (Is := c.items.set l.length (setMaps call [⟨⟨#[112, 97]⟩, ⟨#[112, 97]⟩⟩])) (Fs := c.flows) (Ss := c.seqs) HO.out hE2 (elem_set (y := setMaps call [⟨⟨#[112, 97]⟩, ⟨#[112, 97]⟩⟩]) itemC_len (show 7 < 10 by decide) c.items l.length hlk xsI (fun vs hv => by
            rw [hcl] at hv
            obtain ⟨v3, v4, v7, v8, v9, rfl, hV⟩ := rd_itemC.1 hv
            have hr : Rd ((T.setCell ⟨gI, l.length * 10 + 7, none⟩ (.slice (some ⟨T.heap.size, 0, none⟩) 1 1)).alloc (.cells #[.string ⟨#[112, 97]⟩, .string ⟨#[112, 97]⟩] 71)) (mapsD [⟨⟨#[112, 97]⟩, ⟨#[112, 97]⟩⟩]) _ := rd_litC (rdl_cons.2 ⟨_, _, rfl, rd_str.2 rfl, rdl_cons.2 ⟨_, _, rfl, rd_str.2 rfl, rdl_nil.2 rfl⟩⟩) (show 1 ≤ maxLen by decide) rfl
            rw [show ((T.setCell ⟨gI, l.length * 10 + 7, none⟩ (.slice (some ⟨T.heap.size, 0, none⟩) 1 1))).heap.size = T.heap.size by simp] at hr
            have hnew : Rd T2 (mapsD [⟨⟨#[112, 97]⟩, ⟨#[112, 97]⟩⟩]) (.slice (some ⟨T.heap.size, 0, none⟩) 1 1) := by rw [hT2]; exact hr
            exact rd_itemC.2 ⟨v3, v4, _, v8, v9, rfl, hV.1, hV.2.1, hnew, hV.2.2.2.1, hV.2.2.2.2⟩) (HO.out.itemL hE2.gr)) (HO.out.flowL hE2.gr) (HO.out.seqL hE2.gr) (by simp) (by simp) (by simp) hW.fit hW.refs hW.chk
          clear hW
          have HRC := Lib.hid hRC
          have HE2 := Lib.hid hE2
          have HT2 := Lib.hid hT2.symm
          have hb9 : Below w.heap.size w T2 := gr_end HB01.out hE2.gr hgbw HB01.out.size
          have HB9 := Lib.hid hb9
          clear hRC hE2 hT2 hb9
          go_upto_region 34 with fail
          rw [HT2.out]
          clear HT2
          have d0 : T2.cell? ⟨gd, 0, none⟩ = some (.slice A3 4 c3) := HE2.out.box.cell 0
          have d1 : T2.cell? ⟨gd, 1, none⟩ = some (.slice (some ⟨gb, 0, none⟩) 2 2) := HE2.out.box.cell 1
          have lgdT := HE2.out.box.lt
          go_wp2_with fail
          refine (ids_awake _).mono ?_
          rintro e w5 ⟨rfl, hb5⟩
          have HB5 := Lib.hid hb5
          have d05 : w5.cell? ⟨gd, 0, none⟩ = some (.slice A3 4 c3) := (hb5.cell (p := ⟨gd, 0, none⟩) lgdT).trans d0
          have d15 : w5.cell? ⟨gd, 1, none⟩ = some (.slice (some ⟨gb, 0, none⟩) 2 2) := (hb5.cell (p := ⟨gd, 1, none⟩) lgdT).trans d1
          clear hb5 d0 d1
          go_wp2_with fail
          refine (HRC.out w5 HB5.out).1.mono ?_
          rintro e w6 ⟨rfl, hb6⟩
          have HB6 := Lib.hid (HB5.out.trans (hb6.mono HB5.out.size))
          have lgd5 : gd < w5.heap.size := Nat.lt_of_lt_of_le lgdT HB5.out.size
          have d06 : w6.cell? ⟨gd, 0, none⟩ = some (.slice A3 4 c3) := (hb6.cell (p := ⟨gd, 0, none⟩) lgd5).trans d05
          have d16 : w6.cell? ⟨gd, 1, none⟩ = some (.slice (some ⟨gb, 0, none⟩) 2 2) := (hb6.cell (p := ⟨gd, 1, none⟩) lgd5).trans d15
          clear hb6 d05 d15
          go_wp2_with fail
          refine (HRC.out w6 HB6.out).2.mono ?_
          rintro e w7 ⟨rfl, hb7⟩
          have hfi := HB9.out.trans ((HB6.out.trans (hb7.mono HB6.out.size)).mono HB9.out.size)
          have HFI := Lib.hid hfi
          clear hb7 hfi d06 d16
          go_wp2_with fail
          go_ret
          exact ⟨rfl, HFI.out⟩
        · have hlk : l.length < c.items.length := by have := HLC.out; omega
          have hcl : c.items[l.length] = call := by obtain ⟨_, h, _⟩ := call_at HR.out; exact h
          obtain ⟨T2, hT2⟩ : ∃ T', T' = (T.setCell ⟨gI, l.length * 10 + 7, none⟩ (.slice (some ⟨T.heap.size, 0, none⟩) 1 1)).alloc (.cells #[.string ⟨#[120, 112, 97]⟩, .string ⟨#[120, 112, 97]⟩] 71) := ⟨_, rfl⟩
          have hE2 := (HET.out.putI (l.length * 10 + 7) (.slice (some ⟨T.heap.size, 0, none⟩) 1 1)).alloc (.cells #[.string ⟨#[120, 112, 97]⟩, .string ⟨#[120, 112, 97]⟩] 71)
          rw [← hT2] at hE2
          have hW := wrong7 HR.out ⟨#[120, 112, 97]⟩ ⟨#[120, 112, 97]⟩ (by simp)
          have hRC := refs_ed (Is := c.items.set l.length (setMaps call [⟨⟨#[120, 112, 97]⟩, ⟨#[120, 112, 97]⟩⟩])) (Fs := c.flows) (Ss := c.seqs) HO.out hE2 (elem_set (y := setMaps call [⟨⟨#[120, 112, 97]⟩, ⟨#[120, 112, 97]⟩⟩]) itemC_len (show 7 < 10 by decide) c.items l.length hlk xsI (fun vs hv => by
            rw [hcl] at hv
            obtain ⟨v3, v4, v7, v8, v9, rfl, hV⟩ := rd_itemC.1 hv
            have hr : Rd ((T.setCell ⟨gI, l.length * 10 + 7, none⟩ (.slice (some ⟨T.heap.size, 0, none⟩) 1 1)).alloc (.cells #[.string ⟨#[120, 112, 97]⟩, .string ⟨#[120, 112, 97]⟩] 71)) (mapsD [⟨⟨#[120, 112, 97]⟩, ⟨#[120, 112, 97]⟩⟩]) _ := rd_litC (rdl_cons.2 ⟨_, _, rfl, rd_str.2 rfl, rdl_cons.2 ⟨_, _, rfl, rd_str.2 rfl, rdl_nil.2 rfl⟩⟩) (show 1 ≤ maxLen by decide) rfl
            rw [show ((T.setCell ⟨gI, l.length * 10 + 7, none⟩ (.slice (some ⟨T.heap.size, 0, none⟩) 1 1))).heap.size = T.heap.size by simp] at hr
            have hnew : Rd T2 (mapsD [⟨⟨#[120, 112, 97]⟩, ⟨#[120, 112, 97]⟩⟩]) (.slice (some ⟨T.heap.size, 0, none⟩) 1 1) := by rw [hT2]; exact hr
            exact rd_itemC.2 ⟨v3, v4, _, v8, v9, rfl, hV.1, hV.2.1, hnew, hV.2.2.2.1, hV.2.2.2.2⟩) (HO.out.itemL hE2.gr)) (HO.out.flowL hE2.gr) (HO.out.seqL hE2.gr) (by simp) (by simp) (by simp) hW.fit hW.refs hW.chk
          clear hW
          have HRC := Lib.hid hRC
          have HE2 := Lib.hid hE2
          have HT2 := Lib.hid hT2.symm
          have hb9 : Below w.heap.size w T2 := gr_end HB01.out hE2.gr hgbw HB01.out.size
          have HB9 := Lib.hid hb9
          clear hRC hE2 hT2 hb9
          go_upto_region 34 with fail
          rw [HT2.out]
          clear HT2
          have d0 : T2.cell? ⟨gd, 0, none⟩ = some (.slice A3 4 c3) := HE2.out.box.cell 0
          have d1 : T2.cell? ⟨gd, 1, none⟩ = some (.slice (some ⟨gb, 0, none⟩) 2 2) := HE2.out.box.cell 1
          have lgdT := HE2.out.box.lt
          go_wp2_with fail
          refine (ids_awake _).mono ?_
          rintro e w5 ⟨rfl, hb5⟩
          have HB5 := Lib.hid hb5
          have d05 : w5.cell? ⟨gd, 0, none⟩ = some (.slice A3 4 c3) := (hb5.cell (p := ⟨gd, 0, none⟩) lgdT).trans d0
          have d15 : w5.cell? ⟨gd, 1, none⟩ = some (.slice (some ⟨gb, 0, none⟩) 2 2) := (hb5.cell (p := ⟨gd, 1, none⟩) lgdT).trans d1
          clear hb5 d0 d1
          go_wp2_with fail
          refine (HRC.out w5 HB5.out).1.mono ?_
          rintro e w6 ⟨rfl, hb6⟩
          have HB6 := Lib.hid (HB5.out.trans (hb6.mono HB5.out.size))
          have lgd5 : gd < w5.heap.size := Nat.lt_of_lt_of_le lgdT HB5.out.size
          have d06 : w6.cell? ⟨gd, 0, none⟩ = some (.slice A3 4 c3) := (hb6.cell (p := ⟨gd, 0, none⟩) lgd5).trans d05
          have d16 : w6.cell? ⟨gd, 1, none⟩ = some (.slice (some ⟨gb, 0, none⟩) 2 2) := (hb6.cell (p := ⟨gd, 1, none⟩) lgd5).trans d15
          clear hb6 d05 d15
          go_wp2_with fail
          refine (HRC.out w6 HB6.out).2.mono ?_
          rintro e w7 ⟨rfl, hb7⟩
          have hfi := HB9.out.trans ((HB6.out.trans (hb7.mono HB6.out.size)).mono HB9.out.size)
          have HFI := Lib.hid hfi
          clear hb7 hfi d06 d16
          go_wp2_with fail
          go_ret
          exact ⟨rfl, HFI.out⟩
        · obtain ⟨T2, hT2⟩ : ∃ T', T' = T := ⟨_, rfl⟩
          have hE2 := HET.out
          rw [← hT2] at hE2
          have hW := right9 HR.out.nest
          have hRC := refs_ed (Is := c.items) (Fs := c.flows) (Ss := c.seqs) HO.out hE2 (HO.out.itemL hE2.gr) (HO.out.flowL hE2.gr) (HO.out.seqL hE2.gr) rfl rfl rfl hW.2.2 hW.1 hW.2.1
          clear hW
          have HRC := Lib.hid hRC
          have HE2 := Lib.hid hE2
          have HT2 := Lib.hid hT2.symm
          have hb9 : Below w.heap.size w T2 := gr_end HB01.out hE2.gr hgbw HB01.out.size
          have HB9 := Lib.hid hb9
          clear hRC hE2 hT2 hb9
          go_upto_region 15 with fail
          rw [HT2.out]
          clear HT2
          have d0 : T2.cell? ⟨gd, 0, none⟩ = some (.slice A3 4 c3) := HE2.out.box.cell 0
          have d1 : T2.cell? ⟨gd, 1, none⟩ = some (.slice (some ⟨gb, 0, none⟩) 2 2) := HE2.out.box.cell 1
          have lgdT := HE2.out.box.lt
          go_wp2_with fail
          refine (ids_awake _).mono ?_
          rintro e w5 ⟨rfl, hb5⟩
          have HB5 := Lib.hid hb5
          have d05 : w5.cell? ⟨gd, 0, none⟩ = some (.slice A3 4 c3) := (hb5.cell (p := ⟨gd, 0, none⟩) lgdT).trans d0
          have d15 : w5.cell? ⟨gd, 1, none⟩ = some (.slice (some ⟨gb, 0, none⟩) 2 2) := (hb5.cell (p := ⟨gd, 1, none⟩) lgdT).trans d1
          clear hb5 d0 d1
          go_wp2_with fail
          refine (HRC.out w5 HB5.out).1.mono ?_
          rintro e w6 ⟨rfl, hb6⟩
          have HB6 := Lib.hid (HB5.out.trans (hb6.mono HB5.out.size))
          have lgd5 : gd < w5.heap.size := Nat.lt_of_lt_of_le lgdT HB5.out.size
          have d06 : w6.cell? ⟨gd, 0, none⟩ = some (.slice A3 4 c3) := (hb6.cell (p := ⟨gd, 0, none⟩) lgd5).trans d05
          have d16 : w6.cell? ⟨gd, 1, none⟩ = some (.slice (some ⟨gb, 0, none⟩) 2 2) := (hb6.cell (p := ⟨gd, 1, none⟩) lgd5).trans d15
          clear hb6 d05 d15
          go_wp2_with fail
          refine (HRC.out w6 HB6.out).2.mono ?_
          rintro e w7 ⟨rfl, hb7⟩
          have hfi := HB9.out.trans ((HB6.out.trans (hb7.mono HB6.out.size)).mono HB9.out.size)
          have HFI := Lib.hid hfi
          clear hb7 hfi d06 d16
          go_wp2_with fail
          go_ret
          exact ⟨rfl, HFI.out⟩
end Go.Proofs.Ytljmghaplnkohaa
