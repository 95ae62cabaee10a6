/- The walk of the law RulesBad. -/
import Derived.Test.YtljmghaplnkohaaRulZ
import Derived.Test.YtljmghaplnkohaaRulXY

import Derived.Test.YtljmghaplnkohaaArgs
import Derived.Deep.CutBlock
import Derived.Deep.DeepCutAuto
namespace Go.Proofs.Ytljmghaplnkohaa
open Go.RowKit
attribute [local go_sem ↓] Go.wp_at_zero Go.wp_at_succ

set_option maxRecDepth 100000 in
set_option maxHeartbeats 32000000 in
theorem rulesBad_wayc (A0 : Option Addr) (c0 : Nat) (x0 : List Int) (a1 a2 : Int) (w : World) (m0 : x0.length ≤ maxLen) (h0 : IntsAt w A0 x0) (q : Nat) (hq : (bits BinOp.and IntKind.i64 a1 15).tmod 12 = (q : Int)) (hq12 : q = 7 ∨ q = 11) :
    Calls Try.prog 8 #[.slice A0 x0.length c0, .int .i64 a1, .int .i64 a2] w fun e w' => e = .returned (.bool true) ∧ Below w.heap.size w w' := by
  obtain ⟨ii0, hii0, hiz0, hiz1, hiz2⟩ := info_parts Try.infoItemG
  obtain ⟨si0, hsi0, hsz0, hsz1, hsz2⟩ := info_parts Try.infoSeqG
  obtain ⟨fi0, hfi0, hfz0, hfz1, hfz2⟩ := info_parts Try.infoFlowE
  have hgen := doc_genN (cap := c0) h0 m0
  obtain ⟨d, c, y0, ye, rest, init, hd, hc, hR⟩ := doc_w x0 m0
  rw [← hd] at hgen
  clear hc
  obtain ⟨lpI3, ⟨lqI, lqF, lpS, lqS, lpF⟩⟩ := (⟨hR.three, hR.lens⟩ : _ ∧ _)
  have lpI : 0 < c.items.length := by omega
  obtain ⟨lm, hlm⟩ : ∃ lm, lm = c.items.length - 1 := ⟨_, rfl⟩
  have hlmI : (c.items.length : Int) - 1 = (lm : Int) := by omega
  have hlml : (lm : Int) < (c.items.length : Int) := by omega
  have hlmn : lm < c.items.length := by omega
  have HLM := Lib.hid hlm
  have HQ := Lib.hid hq
  have HQ12 := Lib.hid hq12
  have HR := Lib.hid hR
  have HGEN := Lib.hid hgen
  clear hq hq12 hR hgen h0 m0 hd hlm
  go_enter Try.func8, Try.ntmps8
  go_upto_region 1 with fail
  go_wp2_with fail
  refine HGEN.out.mono ?_
  clear HGEN
  rintro e w1 hE
  obtain ⟨A3, c3, gb, AP, cP, AF, cF, AI, cI, AS, cS, xs, xsI, xsF, xsS, rfl, hO⟩ := doc_open (n := 1) (r := []) rfl HR.out.doc.eq hE
  obtain ⟨gd, hgd⟩ : ∃ g, g = w1.heap.size := ⟨_, rfl⟩
  obtain ⟨V1, hV1⟩ : ∃ V, V = w1.alloc (.cells #[.slice A3 4 c3, .slice (some ⟨gb, 0, none⟩) 1 1] 42) := ⟨_, rfl⟩
  have b11 : Below w1.heap.size w1 V1 := by rw [hV1]; exact (Below.refl _ _).alloc (Nat.le_refl _) _
  have kd : Blk V1 gd 42 #[.slice A3 4 c3, .slice (some ⟨gb, 0, none⟩) 1 1] := by rw [hV1, hgd]; exact Blk.new _ _ _
  have kb2 := hO.blk.below b11 hO.blk.lt
  have HO := Lib.hid hO
  have HB11 := Lib.hid b11
  have HKD := Lib.hid kd
  have HV1 := Lib.hid hV1.symm
  have HGD := Lib.hid hgd.symm
  have d0 : V1.cell? ⟨gd, 0, none⟩ = some (.slice A3 4 c3) := kd.cell 0
  have d1 : V1.cell? ⟨gd, 1, none⟩ = some (.slice (some ⟨gb, 0, none⟩) 1 1) := kd.cell 1
  have q0 : V1.cell? ⟨gb, 0, none⟩ = some (.string c.id) := kb2.cell 0
  have q1 : V1.cell? ⟨gb, 1, none⟩ = some (.slice AP c.parts.length cP) := kb2.cell 1
  have q2 : V1.cell? ⟨gb, 2, none⟩ = some (.slice AF c.flows.length cF) := kb2.cell 2
  have q3 : V1.cell? ⟨gb, 3, none⟩ = some (.slice AI c.items.length cI) := kb2.cell 3
  have q4 : V1.cell? ⟨gb, 4, none⟩ = some (.slice AS c.seqs.length cS) := kb2.cell 4
  have lgb2 := kb2.lt
  clear hO b11 kd kb2 hV1 hgd hE
  go_upto_region 3 with fail
  rw [HV1.out, HGD.out]
  clear HV1
  refine wp_region_HT 29 (fun _ => True) (by kernel_rfl) (by decide) trivial (fun hHeld => ?_)
  refine ht_take 0 (v := ?va_1) rfl (by kernel_rfl) (fun _ _ _ h => h) (Or.inl ⟨by rfl, ?ha_1⟩) hHeld ?ra_1
  case ha_1 => ((intro U _; go_simp); (try (with_reducible rfl)))
  try simp only [Act.put, List.setIfInBounds_toArray, List.set_cons_zero, List.set_cons_succ]
  refine ht_take 1 (v := ?va_2) rfl (by kernel_rfl) (fun _ _ _ h => h) (Or.inl ⟨by rfl, ?ha_2⟩) hHeld ?ra_2
  case ha_2 => ((intro U _; go_simp); (try (with_reducible rfl)))
  try simp only [Act.put, List.setIfInBounds_toArray, List.set_cons_zero, List.set_cons_succ]
  refine ht_take 2 (v := ?va_3) rfl (by kernel_rfl) (fun _ _ _ h => h) (Or.inl ⟨by rfl, ?ha_3⟩) hHeld ?ra_3
  case ha_3 => ((intro U _; go_simp); (try (with_reducible rfl)))
  try simp only [Act.put, List.setIfInBounds_toArray, List.set_cons_zero, List.set_cons_succ]
  refine ht_take 4 (v := ?va_4) rfl (by kernel_rfl) (fun _ _ _ h => h) (Or.inl ⟨by rfl, ?ha_4⟩) hHeld ?ra_4
  case ha_4 => ((intro U _; go_simp); (try (with_reducible rfl)))
  try simp only [Act.put, List.setIfInBounds_toArray, List.set_cons_zero, List.set_cons_succ]
  refine ht_take 5 (v := ?va_5) rfl (by kernel_rfl) (fun _ _ _ h => h) (Or.inl ⟨by rfl, ?ha_5⟩) hHeld ?ra_5
  case ha_5 => ((intro U _; go_simp); (try (with_reducible rfl)))
  try simp only [Act.put, List.setIfInBounds_toArray, List.set_cons_zero, List.set_cons_succ]
  refine ht_take 6 (v := ?va_6) rfl (by kernel_rfl) (fun _ _ _ h => h) (Or.inl ⟨by rfl, ?ha_6⟩) hHeld ?ra_6
  case ha_6 => ((intro U _; go_simp); (try (with_reducible rfl)))
  try simp only [Act.put, List.setIfInBounds_toArray, List.set_cons_zero, List.set_cons_succ]
  refine ht_take 10 (v := ?va_7) rfl (by kernel_rfl) (fun _ _ _ h => h) (Or.inl ⟨by rfl, ?ha_7⟩) hHeld ?ra_7
  case ha_7 => ((intro U _; go_simp); (try (with_reducible rfl)))
  try simp only [Act.put, List.setIfInBounds_toArray, List.set_cons_zero, List.set_cons_succ]
  refine ht_take 11 (v := ?va_8) rfl (by kernel_rfl) (fun _ _ _ h => h) (Or.inl ⟨by rfl, ?ha_8⟩) hHeld ?ra_8
  case ha_8 => ((intro U _; go_simp); (try (with_reducible rfl)))
  try simp only [Act.put, List.setIfInBounds_toArray, List.set_cons_zero, List.set_cons_succ]
  refine ht_take 12 (v := ?va_9) rfl (by kernel_rfl) (fun _ _ _ h => h) (Or.inl ⟨by rfl, ?ha_9⟩) hHeld ?ra_9
  case ha_9 => ((intro U _; go_simp); (try (with_reducible rfl)))
  try simp only [Act.put, List.setIfInBounds_toArray, List.set_cons_zero, List.set_cons_succ]
  refine ht_take 16 (v := ?va_10) rfl (by kernel_rfl) (fun _ _ _ h => h) (Or.inl ⟨by rfl, ?ha_10⟩) hHeld ?ra_10
  case ha_10 => ((intro U _; go_simp); (try (with_reducible rfl)))
  try simp only [Act.put, List.setIfInBounds_toArray, List.set_cons_zero, List.set_cons_succ]
  refine ht_take 17 (v := ?va_11) rfl (by kernel_rfl) (fun _ _ _ h => h) (Or.inl ⟨by rfl, ?ha_11⟩) hHeld ?ra_11
  case ha_11 => ((intro U _; go_simp); (try (with_reducible rfl)))
  try simp only [Act.put, List.setIfInBounds_toArray, List.set_cons_zero, List.set_cons_succ]
  refine ht_take 18 (v := ?va_12) rfl (by kernel_rfl) (fun _ _ _ h => h) (Or.inl ⟨by rfl, ?ha_12⟩) hHeld ?ra_12
  case ha_12 => ((intro U _; go_simp); (try (with_reducible rfl)))
  try simp only [Act.put, List.setIfInBounds_toArray, List.set_cons_zero, List.set_cons_succ]
  refine ht_copies (w0 := V1) (f0 := 8) [⟨7, 3, 8, 30, 10⟩, ⟨13, 9, 14, 33, 3⟩, ⟨19, 15, 20, 62, 4⟩] [(29, 3), (33, 7), (34, 8), (35, 9), (39, 13), (40, 14), (41, 15), (45, 19), (46, 20)] 21 (fun i => if i = 8 then .slice AI c.items.length cI else if i = 14 then .slice AS c.seqs.length cS else if i = 20 then .slice AF c.flows.length cF else undef) (fun i => if i = 8 then c.items.length else if i = 14 then c.seqs.length else if i = 20 then c.flows.length else 0) (fun i => if i = 8 then xsI else if i = 14 then xsS else if i = 20 then xsF else []) (by kernel_rfl) (by rfl) (by kernel_rfl) (by decide) (by decide) (by kernel_rfl) (by decide) (fun W _ => trivial) ((Below.refl _ _).drew) ?_ ?_ ?_ ?_
  · intro cc hcc vs W K hbW hK
    simp only [List.mem_cons, List.not_mem_nil, or_false] at hcc
    rcases hcc with rfl | rfl | rfl
    · refine wpOp_at rfl ?_
      have HK2 := hK.out
      clear hK
      simp only [putsV, List.foldl, Act.put, List.setIfInBounds_toArray, List.set_cons_zero, List.set_cons_succ] at HK2 ⊢
      simp only [updV, eq_self, Nat.reduceEqDiff, if_true, if_false] at HK2
      have y2 : W.cell? ⟨gb, 2, none⟩ = some (.slice AF c.flows.length cF) := (hbW.cell (p := ⟨gb, 2, none⟩) lgb2).trans q2
      have y3 : W.cell? ⟨gb, 3, none⟩ = some (.slice AI c.items.length cI) := (hbW.cell (p := ⟨gb, 3, none⟩) lgb2).trans q3
      have y4 : W.cell? ⟨gb, 4, none⟩ = some (.slice AS c.seqs.length cS) := (hbW.cell (p := ⟨gb, 4, none⟩) lgb2).trans q4
      go_simp
      exact HK2
    · refine wpOp_at rfl ?_
      have HK2 := hK.out
      clear hK
      simp only [putsV, List.foldl, Act.put, List.setIfInBounds_toArray, List.set_cons_zero, List.set_cons_succ] at HK2 ⊢
      simp only [updV, eq_self, Nat.reduceEqDiff, if_true, if_false] at HK2
      have y2 : W.cell? ⟨gb, 2, none⟩ = some (.slice AF c.flows.length cF) := (hbW.cell (p := ⟨gb, 2, none⟩) lgb2).trans q2
      have y3 : W.cell? ⟨gb, 3, none⟩ = some (.slice AI c.items.length cI) := (hbW.cell (p := ⟨gb, 3, none⟩) lgb2).trans q3
      have y4 : W.cell? ⟨gb, 4, none⟩ = some (.slice AS c.seqs.length cS) := (hbW.cell (p := ⟨gb, 4, none⟩) lgb2).trans q4
      go_simp
      exact HK2
    · refine wpOp_at rfl ?_
      have HK2 := hK.out
      clear hK
      simp only [putsV, List.foldl, Act.put, List.setIfInBounds_toArray, List.set_cons_zero, List.set_cons_succ] at HK2 ⊢
      simp only [updV, eq_self, Nat.reduceEqDiff, if_true, if_false] at HK2
      have y2 : W.cell? ⟨gb, 2, none⟩ = some (.slice AF c.flows.length cF) := (hbW.cell (p := ⟨gb, 2, none⟩) lgb2).trans q2
      have y3 : W.cell? ⟨gb, 3, none⟩ = some (.slice AI c.items.length cI) := (hbW.cell (p := ⟨gb, 3, none⟩) lgb2).trans q3
      have y4 : W.cell? ⟨gb, 4, none⟩ = some (.slice AS c.seqs.length cS) := (hbW.cell (p := ⟨gb, 4, none⟩) lgb2).trans q4
      go_simp
      exact HK2
  · intro cc hcc vs W K hK
    simp only [List.mem_cons, List.not_mem_nil, or_false] at hcc
    rcases hcc with rfl | rfl | rfl
    · refine wpOp_at rfl ?_
      have HK2 := hK.out
      clear hK
      simp only [putsV, List.foldl, Act.put, List.setIfInBounds_toArray, List.set_cons_zero, List.set_cons_succ] at HK2 ⊢
      simp only [updV, eq_self, Nat.reduceEqDiff, if_true, if_false] at HK2
      go_simp
      exact HK2
    · refine wpOp_at rfl ?_
      have HK2 := hK.out
      clear hK
      simp only [putsV, List.foldl, Act.put, List.setIfInBounds_toArray, List.set_cons_zero, List.set_cons_succ] at HK2 ⊢
      simp only [updV, eq_self, Nat.reduceEqDiff, if_true, if_false] at HK2
      go_simp
      exact HK2
    · refine wpOp_at rfl ?_
      have HK2 := hK.out
      clear hK
      simp only [putsV, List.foldl, Act.put, List.setIfInBounds_toArray, List.set_cons_zero, List.set_cons_succ] at HK2 ⊢
      simp only [updV, eq_self, Nat.reduceEqDiff, if_true, if_false] at HK2
      go_simp
      exact HK2
  · intro cc hcc vs W K hbW hsrc hoW hK
    simp only [List.mem_cons, List.not_mem_nil, or_false] at hcc
    rcases hcc with rfl | rfl | rfl
    · refine wpOp_at rfl ?_
      have HK2 := hK.out
      clear hK
      simp only [putsV, List.foldl, Act.put, List.setIfInBounds_toArray, List.set_cons_zero, List.set_cons_succ] at HK2 ⊢
      simp only [updV, eq_self, Nat.reduceEqDiff, if_true, if_false] at HK2
      have hoW2 : W.ownsRow V1.heap.size 30 10 (vs 3) 0 [] := hoW
      have hsrc2 : vs 7 = .slice AI c.items.length cI := hsrc
      have hw : ∀ o : Oper, o.guard = none → ∀ z, Region.wanted o z = true := fun o h z => by simp [Region.wanted, h]
      rw [if_pos (hw _ rfl _)]
      refine wp_append_any W (.tmp 29) (.tmp 33) _ rfl V1.heap.size 30 ii0 _ 10 184 Try.underlying24 hii0 hiz0 hiz1 hiz2 rfl (by omega) (vs 3) 0 [] rfl hoW2 w1.heap.size AI c.items.length cI xsI hsrc2 (HO.out.rI.below (HB11.out.trans (hbW.mono HB11.out.size))) HO.out.oI (by unfold maxLen; omega) (by omega) hbW.size ?_
      intro v3 W3 ho3 hg3 _
      try simp only [Nat.zero_add, List.nil_append] at ho3
      exact HK2 v3 W3 (by simpa only [eq_self, Nat.reduceEqDiff, if_true, if_false] using ho3) hg3
    · refine wpOp_at rfl ?_
      have HK2 := hK.out
      clear hK
      simp only [putsV, List.foldl, Act.put, List.setIfInBounds_toArray, List.set_cons_zero, List.set_cons_succ] at HK2 ⊢
      simp only [updV, eq_self, Nat.reduceEqDiff, if_true, if_false] at HK2
      have hoW2 : W.ownsRow V1.heap.size 33 3 (vs 9) 0 [] := hoW
      have hsrc2 : vs 13 = .slice AS c.seqs.length cS := hsrc
      have hw : ∀ o : Oper, o.guard = none → ∀ z, Region.wanted o z = true := fun o h z => by simp [Region.wanted, h]
      rw [if_pos (hw _ rfl _)]
      refine wp_append_any W (.tmp 35) (.tmp 39) _ rfl V1.heap.size 33 si0 _ 3 48 Try.underlying25 hsi0 hsz0 hsz1 hsz2 rfl (by omega) (vs 9) 0 [] rfl hoW2 w1.heap.size AS c.seqs.length cS xsS hsrc2 (HO.out.rS.below (HB11.out.trans (hbW.mono HB11.out.size))) HO.out.oS (by unfold maxLen; omega) (by omega) hbW.size ?_
      intro v3 W3 ho3 hg3 _
      try simp only [Nat.zero_add, List.nil_append] at ho3
      exact HK2 v3 W3 (by simpa only [eq_self, Nat.reduceEqDiff, if_true, if_false] using ho3) hg3
    · refine wpOp_at rfl ?_
      have HK2 := hK.out
      clear hK
      simp only [putsV, List.foldl, Act.put, List.setIfInBounds_toArray, List.set_cons_zero, List.set_cons_succ] at HK2 ⊢
      simp only [updV, eq_self, Nat.reduceEqDiff, if_true, if_false] at HK2
      have hoW2 : W.ownsRow V1.heap.size 62 4 (vs 15) 0 [] := hoW
      have hsrc2 : vs 19 = .slice AF c.flows.length cF := hsrc
      have hw : ∀ o : Oper, o.guard = none → ∀ z, Region.wanted o z = true := fun o h z => by simp [Region.wanted, h]
      rw [if_pos (hw _ rfl _)]
      refine wp_append_any W (.tmp 41) (.tmp 45) _ rfl V1.heap.size 62 fi0 _ 4 64 Try.underlying52 hfi0 hfz0 hfz1 hfz2 rfl (by omega) (vs 15) 0 [] rfl hoW2 w1.heap.size AF c.flows.length cF xsF hsrc2 (HO.out.rF.below (HB11.out.trans (hbW.mono HB11.out.size))) HO.out.oF (by unfold maxLen; omega) (by omega) hbW.size ?_
      intro v3 W3 ho3 hg3 _
      try simp only [Nat.zero_add, List.nil_append] at ho3
      exact HK2 v3 W3 (by simpa only [eq_self, Nat.reduceEqDiff, if_true, if_false] using ho3) hg3
  · intro vs W hbW hall
    have hownI := (hall ⟨7, 3, 8, 30, 10⟩ (by simp)).2
    have hownS := (hall ⟨13, 9, 14, 33, 3⟩ (by simp)).2
    have hownF := (hall ⟨19, 15, 20, 62, 4⟩ (by simp)).2
    simp only [eq_self, Nat.reduceEqDiff, if_true, if_false] at hownI hownS hownF
    simp only [putsV, List.foldl, Act.put, List.setIfInBounds_toArray, List.set_cons_zero, List.set_cons_succ]
    generalize vs 8 = wI at hownI ⊢
    generalize vs 14 = wS at hownS ⊢
    generalize vs 20 = wF at hownF ⊢
    generalize vs 3 = e3
    generalize vs 7 = e7
    generalize vs 9 = e9
    generalize vs 13 = e13
    generalize vs 15 = e15
    generalize vs 19 = e19
    clear hall
    obtain ⟨_, kI, rfl, _, _⟩ := own_slice hownI
    obtain ⟨gI, rfl, hgIl, _, _⟩ := own_at hownI lpI
    obtain ⟨_, kS, rfl, _, _⟩ := own_slice hownS
    obtain ⟨gS, rfl, hgSl, _, _⟩ := own_at hownS lpS
    obtain ⟨_, kF, rfl, _, _⟩ := own_slice hownF
    obtain ⟨gF, rfl, hgFl, _, _⟩ := own_at hownF lpF
    have kbW := HO.out.blk.below (HB11.out.trans (hbW.mono HB11.out.size)) HO.out.blk.lt
    have y2 : W.cell? ⟨gb, 2, none⟩ = some (.slice AF c.flows.length cF) := kbW.cell 2
    have y3 : W.cell? ⟨gb, 3, none⟩ = some (.slice AI c.items.length cI) := kbW.cell 3
    have y4 : W.cell? ⟨gb, 4, none⟩ = some (.slice AS c.seqs.length cS) := kbW.cell 4
    have f2 : W.frozen? ⟨gb, 2, none⟩ = false := kbW.frozen 2
    have f3 : W.frozen? ⟨gb, 3, none⟩ = false := kbW.frozen 3
    have f4 : W.frozen? ⟨gb, 4, none⟩ = false := kbW.frozen 4
    have lgbW := kbW.lt
    have hE := ed_startB HO.out HB11.out HKD.out hbW hownI hownF hownS
    obtain ⟨T, hT⟩ : ∃ T, T = ((W.setCell ⟨gb, 3, none⟩ (.slice (some ⟨gI, 0, none⟩) c.items.length kI)).setCell ⟨gb, 4, none⟩ (.slice (some ⟨gS, 0, none⟩) c.seqs.length kS)).setCell ⟨gb, 2, none⟩ (.slice (some ⟨gF, 0, none⟩) c.flows.length kF) := ⟨_, rfl⟩
    rw [← hT] at hE
    have HET := Lib.hid hE
    have HT := Lib.hid hT.symm
    clear hE hT hownI hownF hownS kbW hgIl hgFl hgSl hbW d0 d1 q0 q1 q2 q3 q4
    refine ht_take 21 (v := ?va_13) rfl (by kernel_rfl) (fun _ _ _ h => h) (Or.inl ⟨by rfl, ?ha_13⟩) hHeld ?ra_13
    case ha_13 => ((intro U _; go_simp); (try (with_reducible rfl)))
    try simp only [Act.put, List.setIfInBounds_toArray, List.set_cons_zero, List.set_cons_succ]
    refine ht_take 22 (v := ?va_14) rfl (by kernel_rfl) (fun _ _ _ h => h) (Or.inl ⟨by rfl, ?ha_14⟩) hHeld ?ra_14
    case ha_14 => ((intro U _; go_simp); (try (with_reducible rfl)))
    try simp only [Act.put, List.setIfInBounds_toArray, List.set_cons_zero, List.set_cons_succ]
    refine ht_one 23 rfl (by kernel_rfl) (fun K hK => ?_)
    go_simp
    refine hK.out _ _ trivial (fun hHeld => ?_)
    clear hK K
    try simp only [Act.put, List.setIfInBounds_toArray, List.set_cons_zero, List.set_cons_succ]
    refine ht_take 24 (v := ?va_15) rfl (by kernel_rfl) (fun _ _ _ h => h) (Or.inl ⟨by rfl, ?ha_15⟩) hHeld ?ra_15
    case ha_15 => ((intro U _; go_simp); (try (with_reducible rfl)))
    try simp only [Act.put, List.setIfInBounds_toArray, List.set_cons_zero, List.set_cons_succ]
    refine ht_take 25 (v := ?va_16) rfl (by kernel_rfl) (fun _ _ _ h => h) (Or.inl ⟨by rfl, ?ha_16⟩) hHeld ?ra_16
    case ha_16 => ((intro U _; go_simp); (try (with_reducible rfl)))
    try simp only [Act.put, List.setIfInBounds_toArray, List.set_cons_zero, List.set_cons_succ]
    refine ht_one 26 rfl (by kernel_rfl) (fun K hK => ?_)
    go_simp
    refine hK.out _ _ trivial (fun hHeld => ?_)
    clear hK K
    try simp only [Act.put, List.setIfInBounds_toArray, List.set_cons_zero, List.set_cons_succ]
    refine ht_take 27 (v := ?va_17) rfl (by kernel_rfl) (fun _ _ _ h => h) (Or.inl ⟨by rfl, ?ha_17⟩) hHeld ?ra_17
    case ha_17 => ((intro U _; go_simp); (try (with_reducible rfl)))
    try simp only [Act.put, List.setIfInBounds_toArray, List.set_cons_zero, List.set_cons_succ]
    refine ht_take 28 (v := ?va_18) rfl (by kernel_rfl) (fun _ _ _ h => h) (Or.inl ⟨by rfl, ?ha_18⟩) hHeld ?ra_18
    case ha_18 => ((intro U _; go_simp); (try (with_reducible rfl)))
    try simp only [Act.put, List.setIfInBounds_toArray, List.set_cons_zero, List.set_cons_succ]
    refine ht_done (by kernel_rfl) rfl ?_
    go_upto_region 4 with fail
    rw [HT.out]
    clear HT y2 y3 y4 f2 f3 f4 lgbW
    have z2 : T.cell? ⟨gb, 2, none⟩ = some (.slice (some ⟨gF, 0, none⟩) c.flows.length kF) := HET.out.blk.cell 2
    have z3 : T.cell? ⟨gb, 3, none⟩ = some (.slice (some ⟨gI, 0, none⟩) c.items.length kI) := HET.out.blk.cell 3
    have z4 : T.cell? ⟨gb, 4, none⟩ = some (.slice (some ⟨gS, 0, none⟩) c.seqs.length kS) := HET.out.blk.cell 4
    have lgbV := HET.out.blk.lt
    have hkind : ∀ (i : Nat) (hi : i < c.items.length), T.cell? ⟨gI, i * 10, none⟩ = some (.int .i64 c.items[i].kind) := fun i hi => by
      obtain ⟨vs, hvl, hvs, hva⟩ := rdl_at itemC_len i hi (HO.out.itemL HET.out.gr)
      obtain ⟨v3, v4, v7, v8, v9, rfl, _⟩ := rd_itemC.1 hvs
      rw [HET.out.oI.cellAt _ (by omega), ← Nat.add_zero (i * 10), hva 0 (by omega)]
      rfl
    have HKIND := Lib.hid hkind
    clear hkind
    go_upto_region 6 with fail
    go_wp2_with fail
    go_loop [12, 13] (fun kv iv => ∃ (i : Nat) (kk : Int), i ≤ c.items.length ∧ iv = .int .i64 i ∧ kv = .int .i64 kk ∧ Hid (KInv c.items i kk)) (fun _ iv => c.items.length - (intOf iv).toNat)
    case atStart => exact ⟨0, -1, Nat.zero_le _, rfl, rfl, Lib.hid (.inl ⟨rfl, by simp⟩)⟩
    case round =>
      obtain ⟨i, kk, hi, rfl, rfl, hinv⟩ := hrel
      by_cases hlt : i < c.items.length
      · have hk0 := HKIND.out i hlt
        have hiI : (i : Int) < (c.items.length : Int) := by omega
        by_cases h3 : c.items[i].kind = 3
        · have hkb : (c.items[i].kind == 3) = true := by simp [h3]
          have HN := Lib.hid (show KInv c.items (i + 1) (i : Int) from .inr ⟨i, hlt, rfl, h3⟩)
          have hinv2 : 0 ≤ kk → KInv c.items (i + 1) kk := fun h0 => by
            rcases hinv.out with ⟨h, _⟩ | h
            · omega
            · exact .inr h
          generalize c.items[i].kind = kd at hk0 hkb
          clear h3 hinv
          by_cases hneg : kk < 0
          · clear hinv2
            go_wp2_with fail
            go_round
            case rel => exact ⟨i + 1, (i : Int), by omega, by go_num, rfl, HN⟩
            case measure => simp [intOf]; omega
          · have HN2 := Lib.hid (hinv2 (by omega))
            have hnb : decide (kk < 0) = false := by simpa using hneg
            clear hinv2
            go_upto_if 84 with fail
            cases hbit : (bits BinOp.and IntKind.i64 (a2 / 2 ^ min (IntKind.u64.wrap (bits BinOp.and IntKind.i64 (i : Int) 15)).toNat 64) 1 == 1)
            · clear hbit HN
              go_wp2_with fail
              go_round
              case rel => exact ⟨i + 1, kk, by omega, by go_num, rfl, HN2⟩
              case measure => simp [intOf]; omega
            · clear hbit HN2
              go_wp2_with fail
              go_round
              case rel => exact ⟨i + 1, (i : Int), by omega, by go_num, rfl, HN⟩
              case measure => simp [intOf]; omega
        · have hkb : (c.items[i].kind == 3) = false := by simp [h3]
          have HN := Lib.hid (kinv_no hlt hinv.out h3)
          generalize c.items[i].kind = kd at hk0 hkb
          clear h3 hinv
          go_wp2_with fail
          go_round
          case rel => exact ⟨i + 1, kk, by omega, by go_num, rfl, HN⟩
          case measure => simp [intOf]; omega
      · have hil : i = c.items.length := by omega
        subst hil
        obtain ⟨j, hj, rfl, h3⟩ := kinv_end hinv.out HR.out.task
        have H3 := Lib.hid h3
        have hjI : (j : Int) < (c.items.length : Int) := by omega
        clear hinv h3 HKIND
        have hj3 : ¬ (c.items.length : Int) < 3 := by omega
        have hjn : ¬ (j : Int) < 0 := by omega
        obtain ⟨xx, hxx⟩ : ∃ y, y = c.items[j] := ⟨_, rfl⟩
        obtain ⟨vs, hvl, hvs, hva⟩ := rdl_at itemC_len j hj (HO.out.itemL HET.out.gr)
        rw [← hxx] at hvs
        obtain ⟨v3, v4, v7, v8, v9, rfl, hV3, hV4, hV7, _⟩ := rd_itemC.1 hvs
        have i1 : T.cell? ⟨gI, j * 10 + 1, none⟩ = some (.string xx.id) := by rw [HET.out.oI.cellAt _ (by omega), hva 1 (by omega)]; rfl
        have i2 : T.cell? ⟨gI, j * 10 + 2, none⟩ = some (.string xx.first) := by rw [HET.out.oI.cellAt _ (by omega), hva 2 (by omega)]; rfl
        have i3 : T.cell? ⟨gI, j * 10 + 3, none⟩ = some v3 := by rw [HET.out.oI.cellAt _ (by omega), hva 3 (by omega)]; rfl
        have i4 : T.cell? ⟨gI, j * 10 + 4, none⟩ = some v4 := by rw [HET.out.oI.cellAt _ (by omega), hva 4 (by omega)]; rfl
        have hkid : ∀ (i : Nat) (hi : i < c.items.length), T.cell? ⟨gI, i * 10, none⟩ = some (.int .i64 c.items[i].kind) ∧ T.cell? ⟨gI, i * 10 + 1, none⟩ = some (.string c.items[i].id) := fun i hi => by
          obtain ⟨vs, hvl, hvs, hva⟩ := rdl_at itemC_len i hi (HO.out.itemL HET.out.gr)
          obtain ⟨v3, v4, v7, v8, v9, rfl, _⟩ := rd_itemC.1 hvs
          refine ⟨?_, ?_⟩
          · rw [HET.out.oI.cellAt _ (by omega), ← Nat.add_zero (i * 10), hva 0 (by omega)]
            rfl
          · rw [HET.out.oI.cellAt _ (by omega), hva 1 (by omega)]
            rfl
        have e0 : c.items[0] = y0 := by simp [HR.out.head]
        have el : c.items[lm] = ye := by
          obtain ⟨_, h⟩ := HR.out.lastAt
          simpa only [HLM.out] using h
        obtain ⟨k0, k1⟩ := hkid 0 lpI
        obtain ⟨kl0, kl1⟩ := hkid lm hlmn
        rw [e0] at k0 k1
        rw [el] at kl0 kl1
        simp only [Nat.zero_mul, Nat.zero_add] at k0 k1
        obtain ⟨qq, hqq⟩ : ∃ y, y = c.seqs[0] := ⟨_, rfl⟩
        have ⟨s1, s2⟩ : T.cell? ⟨gS, 1, none⟩ = some (.string qq.src) ∧ T.cell? ⟨gS, 2, none⟩ = some (.string qq.dst) := by
          obtain ⟨vs, hvl, hvs, hva⟩ := rdl_at seqC_len 0 lpS (HO.out.seqL HET.out.gr)
          rw [← hqq] at hvs
          obtain rfl := rd_seqC hvs
          exact ⟨(HET.out.oS.cellAt _ (by omega)).trans (hva 1 (by omega)), (HET.out.oS.cellAt _ (by omega)).trans (hva 2 (by omega))⟩
        have fI : ∀ k, T.frozen? ⟨gI, k, none⟩ = false := fun k => HET.out.oI.frozenAt _
        have fi2 := fI (j * 10 + 2)
        have fi3 := fI (j * 10 + 3)
        have fi4 := fI (j * 10 + 4)
        have fk0 := fI 0
        have fkl := fI (lm * 10)
        have lgIT := (own_base HET.out.oI).2
        have lgST := (own_base HET.out.oS).2
        have hsI : (0 : Int) < (c.seqs.length : Int) := by omega
        have hiI : (0 : Int) < (c.items.length : Int) := by omega
        have HX := Lib.hid hxx
        have HQQ := Lib.hid hqq
        have HV3 := Lib.hid hV3
        have HV4 := Lib.hid hV4
        have HE0 := Lib.hid e0
        have HEL := Lib.hid el
        have f3 : T.frozen? ⟨gb, 3, none⟩ = false := HET.out.blk.frozen 3
        have f4 : T.frozen? ⟨gb, 4, none⟩ = false := HET.out.blk.frozen 4
        clear hvs hva hvl hxx hV3 hV4 hV7 fI hkid e0 el hqq z2
        go_upto_region 15 with fail
        go_upto_region 19 with fail
        rw [HQ.out]
        have hqs := HQ12.out
        clear HQ HQ12
        rcases hqs with rfl | rfl
        · go_upto_region 39 with fail
          go_cut [] (fun wx => ∃ gA capA, Ed3 w1 gb gd gA gF gS (c.items.length + 2) capA c.flows.length kF c.seqs.length kS (chCs c.id (.slice AP c.parts.length cP) (.slice (some ⟨gF, 0, none⟩) c.flows.length kF) (.slice (some ⟨gA, 0, none⟩) (c.items.length + 2) capA) (.slice (some ⟨gS, 0, none⟩) c.seqs.length kS) xs) #[.slice A3 4 c3, .slice (some ⟨gb, 0, none⟩) 1 1] (xsI ++ (itV 6 122 ++ itV 4 120)) xsF xsS wx)
          case first =>
            refine hs_region 17 8 (fun U => Blk U gb 54 (chCs c.id (.slice AP c.parts.length cP) (.slice (some ⟨gF, 0, none⟩) c.flows.length kF) (.slice (some ⟨gI, 0, none⟩) c.items.length kI) (.slice (some ⟨gS, 0, none⟩) c.seqs.length kS) xs)) (by kernel_rfl) rfl (HET.out.blk) (fun hHeld => ?_)
            refine hs_take 0 (v := ?vw7_1) rfl (by kernel_rfl) (fun _ _ _ h => h) (Or.inl ⟨by rfl, ?hw7_1⟩) hHeld ?rw7_1
            case hw7_1 => ((intro U hSw; have z3 : U.cell? ⟨gb, 3, none⟩ = some (.slice (some ⟨gI, 0, none⟩) c.items.length kI) := hSw.cell 3; go_simp); (try (with_reducible rfl)))
            try simp only [Act.put, List.setIfInBounds_toArray, List.set_cons_zero, List.set_cons_succ]
            refine hs_take 1 (v := ?vw7_2) rfl (by kernel_rfl) (fun _ _ _ h => h) (Or.inl ⟨by rfl, ?hw7_2⟩) hHeld ?rw7_2
            case hw7_2 => ((intro U hSw; have z3 : U.cell? ⟨gb, 3, none⟩ = some (.slice (some ⟨gI, 0, none⟩) c.items.length kI) := hSw.cell 3; go_simp); (try (with_reducible rfl)))
            try simp only [Act.put, List.setIfInBounds_toArray, List.set_cons_zero, List.set_cons_succ]
            refine hs_take 2 (v := ?vw7_3) rfl (by kernel_rfl) (fun _ _ _ h => h) (Or.inl ⟨by rfl, ?hw7_3⟩) hHeld ?rw7_3
            case hw7_3 => ((intro U hSw; have z3 : U.cell? ⟨gb, 3, none⟩ = some (.slice (some ⟨gI, 0, none⟩) c.items.length kI) := hSw.cell 3; go_simp); (try (with_reducible rfl)))
            try simp only [Act.put, List.setIfInBounds_toArray, List.set_cons_zero, List.set_cons_succ]
            refine hs_take 3 (v := ?vw7_4) rfl (by kernel_rfl) (fun _ _ _ h => h) (Or.inl ⟨by rfl, ?hw7_4⟩) hHeld ?rw7_4
            case hw7_4 => ((intro U hSw; have z3 : U.cell? ⟨gb, 3, none⟩ = some (.slice (some ⟨gI, 0, none⟩) c.items.length kI) := hSw.cell 3; go_simp); (try (with_reducible rfl)))
            try simp only [Act.put, List.setIfInBounds_toArray, List.set_cons_zero, List.set_cons_succ]
            refine hs_take 4 (v := ?vw7_5) rfl (by kernel_rfl) (fun _ _ _ h => h) (Or.inl ⟨by rfl, ?hw7_5⟩) hHeld ?rw7_5
            case hw7_5 => ((intro U hSw; have z3 : U.cell? ⟨gb, 3, none⟩ = some (.slice (some ⟨gI, 0, none⟩) c.items.length kI) := hSw.cell 3; go_simp); (try (with_reducible rfl)))
            try simp only [Act.put, List.setIfInBounds_toArray, List.set_cons_zero, List.set_cons_succ]
            refine hs_take 5 (v := ?vw7_6) rfl (by kernel_rfl) (fun _ _ _ h => h) (Or.inl ⟨by rfl, ?hw7_6⟩) hHeld ?rw7_6
            case hw7_6 => ((intro U hSw; have z3 : U.cell? ⟨gb, 3, none⟩ = some (.slice (some ⟨gI, 0, none⟩) c.items.length kI) := hSw.cell 3; go_simp); (try (with_reducible rfl)))
            try simp only [Act.put, List.setIfInBounds_toArray, List.set_cons_zero, List.set_cons_succ]
            refine hs_take 6 (v := ?vw7_7) rfl (by kernel_rfl) (fun _ _ _ h => h) (Or.inl ⟨by rfl, ?hw7_7⟩) hHeld ?rw7_7
            case hw7_7 => ((intro U hSw; have z3 : U.cell? ⟨gb, 3, none⟩ = some (.slice (some ⟨gI, 0, none⟩) c.items.length kI) := hSw.cell 3; go_simp); (try (with_reducible rfl)))
            try simp only [Act.put, List.setIfInBounds_toArray, List.set_cons_zero, List.set_cons_succ]
            refine hs_free 11 (v := ?vw7_8) rfl (by kernel_rfl) (fun _ _ _ h => h) (Or.inl ⟨by rfl, ?hw7_8⟩) hHeld ?rw7_8
            case hw7_8 => (intro U _; go_simp; (try (with_reducible rfl)))
            try simp only [Act.put, List.setIfInBounds_toArray, List.set_cons_zero, List.set_cons_succ]
            refine hs_one 7 rfl (by kernel_rfl) (fun K hK => ?_)
            go_simp
            refine hK.out _ _ (hHeld.alloc _) (fun hHeld => ?_)
            clear hK K
            try simp only [Act.put, List.setIfInBounds_toArray, List.set_cons_zero, List.set_cons_succ]
            refine hs_end rfl (by kernel_rfl) (fun K hK => ?_)
            refine step_append_lies _ (by rfl) (.tmp 271) (.tmp 275) _ (by rfl) w1.heap.size 30 ii0 _ 10 184 Try.underlying24 hii0 hiz0 hiz1 hiz2 rfl (by omega) (.slice (some ⟨gI, 0, none⟩) c.items.length kI) c.items.length xsI (by rfl) ((HET.out.drew.alloc _).oI) ⟨T.drew.heap.size, 0, none⟩ 2 2 [.int .i64 0, .string ⟨#[]⟩, .string ⟨#[]⟩, .slice none 0 0, .slice none 0 0, .bool false, .string ⟨#[]⟩, .slice none 0 0, .slice none 0 0, .slice none 0 0, .int .i64 0, .string ⟨#[]⟩, .string ⟨#[]⟩, .slice none 0 0, .slice none 0 0, .bool false, .string ⟨#[]⟩, .slice none 0 0, .slice none 0 0, .slice none 0 0] (by rfl) (by rfl) (World.news_of_block (cs := #[.int .i64 0, .string ⟨#[]⟩, .string ⟨#[]⟩, .slice none 0 0, .slice none 0 0, .bool false, .string ⟨#[]⟩, .slice none 0 0, .slice none 0 0, .slice none 0 0, .int .i64 0, .string ⟨#[]⟩, .string ⟨#[]⟩, .slice none 0 0, .slice none 0 0, .bool false, .string ⟨#[]⟩, .slice none 0 0, .slice none 0 0, .slice none 0 0]) (t := 30) (fr := (0, 0)) (heap_alloc_new T.drew _)) (by simp [Value.oneCell']) (by omega) (by unfold maxLen; omega) (by omega) (by have := HET.out.gr.size; simp at this ⊢; omega) (T.drew.heap.size + 1) (by simp) ?_
            intro gA capA W0 hownI hgrow _ _
            have hxl : xsI.length = c.items.length * 10 := HET.out.oI.1
            have HXL := Lib.hid hxl
            have hEA := (HET.out.drew.alloc (.cells #[.int .i64 0, .string ⟨#[]⟩, .string ⟨#[]⟩, .slice none 0 0, .slice none 0 0, .bool false, .string ⟨#[]⟩, .slice none 0 0, .slice none 0 0, .slice none 0 0, .int .i64 0, .string ⟨#[]⟩, .string ⟨#[]⟩, .slice none 0 0, .slice none 0 0, .bool false, .string ⟨#[]⟩, .slice none 0 0, .slice none 0 0, .slice none 0 0] 30)).appI hgrow hownI
            have HE0 := Lib.hid hEA
            have hin0 : (c.items.length : Int) < (c.items.length : Int) + 2 := by omega
            clear hEA hgrow hownI hxl
            have hwa : IntKind.i64.wrap ((c.items.length : Int) + 1) = (c.items.length : Int) + 1 := by rw [IntKind.wrap_i64]; omega
            have hin1 : (c.items.length : Int) + 1 < (c.items.length : Int) + 2 := by omega
            have hin2 : (0 : Int) ≤ (c.items.length : Int) + 1 := by omega
            have hin3 : ((c.items.length : Int) + 1).toNat = c.items.length + 1 := by omega
            refine hK.out _ _ ?_
            clear hK K
            try simp only [Act.put, List.setIfInBounds_toArray, List.set_cons_zero, List.set_cons_succ]
            refine hd_take 9 (v := ?vw7_9) rfl (by kernel_rfl) (fun _ _ _ h => h) (Or.inl ⟨by rfl, ?hw7_9⟩) ?rw7_9
            case hw7_9 => (intro U _; go_simp; (try (with_reducible rfl)))
            try simp only [Act.put, List.setIfInBounds_toArray, List.set_cons_zero, List.set_cons_succ]
            refine hd_take 14 (v := ?vw7_10) rfl (by kernel_rfl) (fun _ _ _ h => h) (Or.inl ⟨by rfl, ?hw7_10⟩) ?rw7_10
            case hw7_10 => (intro U _; go_simp; (try (with_reducible rfl)))
            try simp only [Act.put, List.setIfInBounds_toArray, List.set_cons_zero, List.set_cons_succ]
            refine hd_take 15 (v := ?vw7_11) rfl (by kernel_rfl) (fun _ _ _ h => h) (Or.inl ⟨by rfl, ?hw7_11⟩) ?rw7_11
            case hw7_11 => (intro U _; go_simp; (try (with_reducible rfl)))
            try simp only [Act.put, List.setIfInBounds_toArray, List.set_cons_zero, List.set_cons_succ]
            refine hd_all [10, 16] (by kernel_rfl) ?_
            refine hd_cons (i := 10) rfl (fun K hK => ?_) (hd_cons (i := 16) rfl (fun K hK => ?_) (allHd.nil))
            · as_aux_lemma =>
              rw [if_pos (wantedB _ rfl _)]
              have hth := there_row HE0.out.oI (o := c.items.length * 10) (m := 10) (by omega)
              have hE := Ed3.writeI (o := c.items.length * 10) (xs := xsI) (a := []) (z := zIt) (t := (zIt)) (vs := itV 6 122) HE0.out (by have := HXL.out; show c.items.length * 10 = xsI.length + 0; omega) rfl
              obtain ⟨W1, hW⟩ : ∃ W', W' = W0.setCells gA (c.items.length * 10) (itV 6 122) := ⟨_, rfl⟩
              rw [← hW] at hE
              have HE1 := Lib.hid hE
              clear hE
              refine wp_store_mid 30 (.tmp 277) (.tmp 272) (by rfl) gA (c.items.length * 10) #[.int .i64 6, .string ⟨#[122, 122]⟩, .string ⟨#[]⟩, .slice none 0 0, .slice none 0 0, .bool false, .string ⟨#[]⟩, .slice none 0 0, .slice none 0 0, .slice none 0 0] (by rfl) (by rfl) hth (by rw [hii0]; simp [hiz1]) (by simp [Value.oneCell']) ?_
              clear hth
              change K _ (W0.setCells gA (c.items.length * 10) (itV 6 122))
              rw [← hW]
              clear hW
              refine hK.out _ _ ?_
              clear hK K
              try simp only [Act.put]
              refine hd_take 12 (v := ?vw7_12) rfl (by kernel_rfl) (fun _ _ _ h => h) (Or.inl ⟨by rfl, ?hw7_12⟩) ?rw7_12
              case hw7_12 => (intro U _; go_simp; (try (with_reducible rfl)))
              try simp only [Act.put, List.setIfInBounds_toArray, List.set_cons_zero, List.set_cons_succ]
              refine hd_all [13, 16] (by kernel_rfl) ?_
              refine hd_cons (i := 13) rfl (fun K hK => ?_) (hd_cons (i := 16) rfl (fun K hK => ?_) (allHd.nil))
              · as_aux_lemma =>
                rw [if_pos (wantedB _ rfl _)]
                have hth := there_row HE1.out.oI (o := (c.items.length + 1) * 10) (m := 10) (by omega)
                have hE := Ed3.writeI (o := (c.items.length + 1) * 10) (xs := xsI) (a := (itV 6 122)) (z := zIt) (t := []) (vs := itV 4 120) HE1.out (by have := HXL.out; show (c.items.length + 1) * 10 = xsI.length + 10; omega) rfl
                obtain ⟨W2, hW⟩ : ∃ W', W' = W1.setCells gA ((c.items.length + 1) * 10) (itV 4 120) := ⟨_, rfl⟩
                rw [← hW] at hE
                have HE2 := Lib.hid hE
                clear hE
                refine wp_store_mid 30 (.tmp 279) (.tmp 273) (by rfl) gA ((c.items.length + 1) * 10) #[.int .i64 4, .string ⟨#[122, 120]⟩, .string ⟨#[]⟩, .slice none 0 0, .slice none 0 0, .bool false, .string ⟨#[]⟩, .slice none 0 0, .slice none 0 0, .slice none 0 0] (by rfl) (by rfl) hth (by rw [hii0]; simp [hiz1]) (by simp [Value.oneCell']) ?_
                clear hth
                change K _ (W1.setCells gA ((c.items.length + 1) * 10) (itV 4 120))
                rw [← hW]
                clear hW
                refine hK.out _ _ ?_
                clear hK K
                try simp only [Act.put]
                refine hd_all [16] (by kernel_rfl) ?_
                refine hd_cons (i := 16) rfl (fun K hK => ?_) (allHd.nil)
                · as_aux_lemma =>
                  have y3 : W2.cell? ⟨gb, 3, none⟩ = some (.slice (some ⟨gI, 0, none⟩) c.items.length kI) := HE2.out.blk.cell 3
                  have y3f : W2.frozen? ⟨gb, 3, none⟩ = false := HE2.out.blk.frozen 3
                  have y3l := HE2.out.blk.lt
                  go_simp
                  obtain ⟨W3, hW⟩ : ∃ W', W' = W2.setCell ⟨gb, 3, none⟩ (.slice (some ⟨gA, 0, none⟩) (c.items.length + 2) capA) := ⟨_, rfl⟩
                  have hE := HE2.out.putB3 (.slice (some ⟨gA, 0, none⟩) (c.items.length + 2) capA)
                  rw [← hW] at hE ⊢
                  have HE3 := Lib.hid hE
                  clear hE hW y3 y3f y3l
                  refine hK.out _ _ ?_
                  clear hK K
                  try simp only [Act.put]
                  refine hd_done (by kernel_rfl) ?_
                  go_wp2_with fail
                  go_meet
                  case rel => exact ⟨gA, capA, by simpa only [List.append_assoc, List.append_nil, List.nil_append] using HE3.out⟩
              · as_aux_lemma =>
                have y3 : W1.cell? ⟨gb, 3, none⟩ = some (.slice (some ⟨gI, 0, none⟩) c.items.length kI) := HE1.out.blk.cell 3
                have y3f : W1.frozen? ⟨gb, 3, none⟩ = false := HE1.out.blk.frozen 3
                have y3l := HE1.out.blk.lt
                go_simp
                obtain ⟨W2, hW⟩ : ∃ W', W' = W1.setCell ⟨gb, 3, none⟩ (.slice (some ⟨gA, 0, none⟩) (c.items.length + 2) capA) := ⟨_, rfl⟩
                have hE := HE1.out.putB3 (.slice (some ⟨gA, 0, none⟩) (c.items.length + 2) capA)
                rw [← hW] at hE ⊢
                have HE2 := Lib.hid hE
                clear hE hW y3 y3f y3l
                refine hK.out _ _ ?_
                clear hK K
                try simp only [Act.put]
                refine hd_all [13] (by kernel_rfl) ?_
                refine hd_cons (i := 13) rfl (fun K hK => ?_) (allHd.nil)
                · as_aux_lemma =>
                  rw [if_pos (wantedB _ rfl _)]
                  have hth := there_row HE2.out.oI (o := (c.items.length + 1) * 10) (m := 10) (by omega)
                  have hE := Ed3.writeI (o := (c.items.length + 1) * 10) (xs := xsI) (a := (itV 6 122)) (z := zIt) (t := []) (vs := itV 4 120) HE2.out (by have := HXL.out; show (c.items.length + 1) * 10 = xsI.length + 10; omega) rfl
                  obtain ⟨W3, hW⟩ : ∃ W', W' = W2.setCells gA ((c.items.length + 1) * 10) (itV 4 120) := ⟨_, rfl⟩
                  rw [← hW] at hE
                  have HE3 := Lib.hid hE
                  clear hE
                  refine wp_store_mid 30 (.tmp 279) (.tmp 273) (by rfl) gA ((c.items.length + 1) * 10) #[.int .i64 4, .string ⟨#[122, 120]⟩, .string ⟨#[]⟩, .slice none 0 0, .slice none 0 0, .bool false, .string ⟨#[]⟩, .slice none 0 0, .slice none 0 0, .slice none 0 0] (by rfl) (by rfl) hth (by rw [hii0]; simp [hiz1]) (by simp [Value.oneCell']) ?_
                  clear hth
                  change K _ (W2.setCells gA ((c.items.length + 1) * 10) (itV 4 120))
                  rw [← hW]
                  clear hW
                  refine hK.out _ _ ?_
                  clear hK K
                  try simp only [Act.put]
                  refine hd_done (by kernel_rfl) ?_
                  go_wp2_with fail
                  go_meet
                  case rel => exact ⟨gA, capA, by simpa only [List.append_assoc, List.append_nil, List.nil_append] using HE3.out⟩
            · as_aux_lemma =>
              have y3 : W0.cell? ⟨gb, 3, none⟩ = some (.slice (some ⟨gI, 0, none⟩) c.items.length kI) := HE0.out.blk.cell 3
              have y3f : W0.frozen? ⟨gb, 3, none⟩ = false := HE0.out.blk.frozen 3
              have y3l := HE0.out.blk.lt
              go_simp
              obtain ⟨W1, hW⟩ : ∃ W', W' = W0.setCell ⟨gb, 3, none⟩ (.slice (some ⟨gA, 0, none⟩) (c.items.length + 2) capA) := ⟨_, rfl⟩
              have hE := HE0.out.putB3 (.slice (some ⟨gA, 0, none⟩) (c.items.length + 2) capA)
              rw [← hW] at hE ⊢
              have HE1 := Lib.hid hE
              clear hE hW y3 y3f y3l
              refine hK.out _ _ ?_
              clear hK K
              try simp only [Act.put]
              refine hd_all [10] (by kernel_rfl) ?_
              refine hd_cons (i := 10) rfl (fun K hK => ?_) (allHd.nil)
              · as_aux_lemma =>
                rw [if_pos (wantedB _ rfl _)]
                have hth := there_row HE1.out.oI (o := c.items.length * 10) (m := 10) (by omega)
                have hE := Ed3.writeI (o := c.items.length * 10) (xs := xsI) (a := []) (z := zIt) (t := (zIt)) (vs := itV 6 122) HE1.out (by have := HXL.out; show c.items.length * 10 = xsI.length + 0; omega) rfl
                obtain ⟨W2, hW⟩ : ∃ W', W' = W1.setCells gA (c.items.length * 10) (itV 6 122) := ⟨_, rfl⟩
                rw [← hW] at hE
                have HE2 := Lib.hid hE
                clear hE
                refine wp_store_mid 30 (.tmp 277) (.tmp 272) (by rfl) gA (c.items.length * 10) #[.int .i64 6, .string ⟨#[122, 122]⟩, .string ⟨#[]⟩, .slice none 0 0, .slice none 0 0, .bool false, .string ⟨#[]⟩, .slice none 0 0, .slice none 0 0, .slice none 0 0] (by rfl) (by rfl) hth (by rw [hii0]; simp [hiz1]) (by simp [Value.oneCell']) ?_
                clear hth
                change K _ (W1.setCells gA (c.items.length * 10) (itV 6 122))
                rw [← hW]
                clear hW
                refine hK.out _ _ ?_
                clear hK K
                try simp only [Act.put]
                refine hd_take 12 (v := ?vw7_13) rfl (by kernel_rfl) (fun _ _ _ h => h) (Or.inl ⟨by rfl, ?hw7_13⟩) ?rw7_13
                case hw7_13 => (intro U _; go_simp; (try (with_reducible rfl)))
                try simp only [Act.put, List.setIfInBounds_toArray, List.set_cons_zero, List.set_cons_succ]
                refine hd_all [13] (by kernel_rfl) ?_
                refine hd_cons (i := 13) rfl (fun K hK => ?_) (allHd.nil)
                · as_aux_lemma =>
                  rw [if_pos (wantedB _ rfl _)]
                  have hth := there_row HE2.out.oI (o := (c.items.length + 1) * 10) (m := 10) (by omega)
                  have hE := Ed3.writeI (o := (c.items.length + 1) * 10) (xs := xsI) (a := (itV 6 122)) (z := zIt) (t := []) (vs := itV 4 120) HE2.out (by have := HXL.out; show (c.items.length + 1) * 10 = xsI.length + 10; omega) rfl
                  obtain ⟨W3, hW⟩ : ∃ W', W' = W2.setCells gA ((c.items.length + 1) * 10) (itV 4 120) := ⟨_, rfl⟩
                  rw [← hW] at hE
                  have HE3 := Lib.hid hE
                  clear hE
                  refine wp_store_mid 30 (.tmp 279) (.tmp 273) (by rfl) gA ((c.items.length + 1) * 10) #[.int .i64 4, .string ⟨#[122, 120]⟩, .string ⟨#[]⟩, .slice none 0 0, .slice none 0 0, .bool false, .string ⟨#[]⟩, .slice none 0 0, .slice none 0 0, .slice none 0 0] (by rfl) (by rfl) hth (by rw [hii0]; simp [hiz1]) (by simp [Value.oneCell']) ?_
                  clear hth
                  change K _ (W2.setCells gA ((c.items.length + 1) * 10) (itV 4 120))
                  rw [← hW]
                  clear hW
                  refine hK.out _ _ ?_
                  clear hK K
                  try simp only [Act.put]
                  refine hd_done (by kernel_rfl) ?_
                  go_wp2_with fail
                  go_meet
                  case rel => exact ⟨gA, capA, by simpa only [List.append_assoc, List.append_nil, List.nil_append] using HE3.out⟩
          case rest =>
            obtain ⟨gA, capA, hE⟩ := hcut
            obtain ⟨V, rfl⟩ : ∃ V, V = wc := ⟨_, rfl⟩
            have HEV := Lib.hid hE
            clear hE
            have x4 : V.cell? ⟨gb, 4, none⟩ = some (.slice (some ⟨gS, 0, none⟩) c.seqs.length kS) := HEV.out.blk.cell 4
            have lgbW := HEV.out.blk.lt
            go_upto_region 40 with fail
            go_wp2_with (at_builtin; refine wpList_append_lies _ rfl (.tmp 286) (.tmp 291) _ rfl w1.heap.size 33 si0 _ 3 48 Try.underlying25 hsi0 hsz0 hsz1 hsz2 rfl (by omega) (.slice (some ⟨gS, 0, none⟩) c.seqs.length kS) c.seqs.length xsS rfl ((HEV.out.alloc _).oS) ⟨V.heap.size, 0, none⟩ 3 3 [.string ⟨#[122, 121]⟩, .string ⟨#[122, 122]⟩, .string ⟨#[122, 120]⟩, .string ⟨#[122, 119]⟩, .string ⟨#[122, 122]⟩, .string ye.id, .string ⟨#[122, 118]⟩, .string ⟨#[122, 120]⟩, .string ⟨#[122, 122]⟩] rfl rfl (World.news_of_block (cs := #[.string ⟨#[122, 121]⟩, .string ⟨#[122, 122]⟩, .string ⟨#[122, 120]⟩, .string ⟨#[122, 119]⟩, .string ⟨#[122, 122]⟩, .string ye.id, .string ⟨#[122, 118]⟩, .string ⟨#[122, 120]⟩, .string ⟨#[122, 122]⟩]) (t := 33) (fr := (0, 0)) (heap_alloc_new V _)) (by simp [Value.oneCell']) (by omega) (by unfold maxLen; omega) (by omega) (by have := HEV.out.gr.size; simp at this ⊢; omega) (V.heap.size + 1) (by simp) ?_)
            intro gB capB w2 hownS hgrow _ _
            have hEA := (HEV.out.alloc (.cells #[.string ⟨#[122, 121]⟩, .string ⟨#[122, 122]⟩, .string ⟨#[122, 120]⟩, .string ⟨#[122, 119]⟩, .string ⟨#[122, 122]⟩, .string ye.id, .string ⟨#[122, 118]⟩, .string ⟨#[122, 120]⟩, .string ⟨#[122, 122]⟩] 33)).appS hgrow hownS
            have HEA := Lib.hid hEA
            clear hEA hgrow hownS
            have y4 : w2.cell? ⟨gb, 4, none⟩ = some (.slice (some ⟨gS, 0, none⟩) c.seqs.length kS) := HEA.out.blk.cell 4
            have y4f : w2.frozen? ⟨gb, 4, none⟩ = false := HEA.out.blk.frozen 4
            have y4l := HEA.out.blk.lt
            obtain ⟨T2, hT2⟩ : ∃ T', T' = w2.setCell ⟨gb, 4, none⟩ (.slice (some ⟨gB, 0, none⟩) (c.seqs.length + 3) capB) := ⟨_, rfl⟩
            have hE2 := HEA.out.putB4 (.slice (some ⟨gB, 0, none⟩) (c.seqs.length + 3) capB)
            rw [← hT2] at hE2
            have hBad := (show BadR (withI c (c.items ++ [newI 6 122, newI 4 120]) (c.seqs ++ [newQ 121 (zB 122) (zB 120), newQ 119 (zB 122) ye.id, newQ 118 (zB 120) (zB 122)])) 5 ⟨#[122, 122]⟩ from bad7 HR.out)
            have HRC := Lib.hid (bad_end (Is := c.items ++ [newI 6 122, newI 4 120]) (Ss := c.seqs ++ [newQ 121 (zB 122) (zB 120), newQ 119 (zB 122) ye.id, newQ 118 (zB 120) (zB 122)]) HO.out hE2 (by rw [List.flatMap_append]; refine RdL.append (HO.out.itemL hE2.gr) ?_; rw [List.flatMap_cons, List.flatMap_cons, List.flatMap_nil, List.append_nil]; exact RdL.append (xs := itV 6 122) (rd_itemC.2 ⟨_, _, _, _, _, rfl, rd_nilC, rd_nilC, rd_nilC, rd_nilC, rd_nilC⟩) (rd_itemC.2 ⟨_, _, _, _, _, rfl, rd_nilC, rd_nilC, rd_nilC, rd_nilC, rd_nilC⟩)) (by rw [List.flatMap_append]; exact RdL.append (HO.out.seqL hE2.gr) (rdl_cons.2 ⟨_, _, rfl, rd_str.2 rfl, rdl_cons.2 ⟨_, _, rfl, rd_str.2 rfl, rdl_cons.2 ⟨_, _, rfl, rd_str.2 rfl, rdl_cons.2 ⟨_, _, rfl, rd_str.2 rfl, rdl_cons.2 ⟨_, _, rfl, rd_str.2 rfl, rdl_cons.2 ⟨_, _, rfl, rd_str.2 rfl, rdl_cons.2 ⟨_, _, rfl, rd_str.2 rfl, rdl_cons.2 ⟨_, _, rfl, rd_str.2 rfl, rdl_cons.2 ⟨_, _, rfl, rd_str.2 rfl, rdl_nil.2 rfl⟩⟩⟩⟩⟩⟩⟩⟩⟩)) (by simp) (by simp) hBad)
            have HB9 := Lib.hid (gr_end HO.out.bel hE2.gr HO.out.ge HO.out.bel.size)
            have HT2 := Lib.hid hT2.symm
            clear hBad hE2 hT2
            go_upto_region 51 with fail
            rw [HT2.out]
            exact bad_tail HRC HB9 (by rfl) (by rfl) (by assumption)
        
        · go_upto_region 16 with fail
          go_cut [] (fun wx => ∃ gA capA, Ed3 w1 gb gd gA gF gS (c.items.length + 2) capA c.flows.length kF c.seqs.length kS (chCs c.id (.slice AP c.parts.length cP) (.slice (some ⟨gF, 0, none⟩) c.flows.length kF) (.slice (some ⟨gA, 0, none⟩) (c.items.length + 2) capA) (.slice (some ⟨gS, 0, none⟩) c.seqs.length kS) xs) #[.slice A3 4 c3, .slice (some ⟨gb, 0, none⟩) 1 1] (xsI ++ (itV 5 122 ++ itV 5 120)) xsF xsS wx)
          case first =>
            refine hs_region 17 8 (fun U => Blk U gb 54 (chCs c.id (.slice AP c.parts.length cP) (.slice (some ⟨gF, 0, none⟩) c.flows.length kF) (.slice (some ⟨gI, 0, none⟩) c.items.length kI) (.slice (some ⟨gS, 0, none⟩) c.seqs.length kS) xs)) (by kernel_rfl) rfl (HET.out.blk) (fun hHeld => ?_)
            refine hs_take 0 (v := ?vw11_1) rfl (by kernel_rfl) (fun _ _ _ h => h) (Or.inl ⟨by rfl, ?hw11_1⟩) hHeld ?rw11_1
            case hw11_1 => ((intro U hSw; have z3 : U.cell? ⟨gb, 3, none⟩ = some (.slice (some ⟨gI, 0, none⟩) c.items.length kI) := hSw.cell 3; go_simp); (try (with_reducible rfl)))
            try simp only [Act.put, List.setIfInBounds_toArray, List.set_cons_zero, List.set_cons_succ]
            refine hs_take 1 (v := ?vw11_2) rfl (by kernel_rfl) (fun _ _ _ h => h) (Or.inl ⟨by rfl, ?hw11_2⟩) hHeld ?rw11_2
            case hw11_2 => ((intro U hSw; have z3 : U.cell? ⟨gb, 3, none⟩ = some (.slice (some ⟨gI, 0, none⟩) c.items.length kI) := hSw.cell 3; go_simp); (try (with_reducible rfl)))
            try simp only [Act.put, List.setIfInBounds_toArray, List.set_cons_zero, List.set_cons_succ]
            refine hs_take 2 (v := ?vw11_3) rfl (by kernel_rfl) (fun _ _ _ h => h) (Or.inl ⟨by rfl, ?hw11_3⟩) hHeld ?rw11_3
            case hw11_3 => ((intro U hSw; have z3 : U.cell? ⟨gb, 3, none⟩ = some (.slice (some ⟨gI, 0, none⟩) c.items.length kI) := hSw.cell 3; go_simp); (try (with_reducible rfl)))
            try simp only [Act.put, List.setIfInBounds_toArray, List.set_cons_zero, List.set_cons_succ]
            refine hs_take 3 (v := ?vw11_4) rfl (by kernel_rfl) (fun _ _ _ h => h) (Or.inl ⟨by rfl, ?hw11_4⟩) hHeld ?rw11_4
            case hw11_4 => ((intro U hSw; have z3 : U.cell? ⟨gb, 3, none⟩ = some (.slice (some ⟨gI, 0, none⟩) c.items.length kI) := hSw.cell 3; go_simp); (try (with_reducible rfl)))
            try simp only [Act.put, List.setIfInBounds_toArray, List.set_cons_zero, List.set_cons_succ]
            refine hs_take 4 (v := ?vw11_5) rfl (by kernel_rfl) (fun _ _ _ h => h) (Or.inl ⟨by rfl, ?hw11_5⟩) hHeld ?rw11_5
            case hw11_5 => ((intro U hSw; have z3 : U.cell? ⟨gb, 3, none⟩ = some (.slice (some ⟨gI, 0, none⟩) c.items.length kI) := hSw.cell 3; go_simp); (try (with_reducible rfl)))
            try simp only [Act.put, List.setIfInBounds_toArray, List.set_cons_zero, List.set_cons_succ]
            refine hs_take 5 (v := ?vw11_6) rfl (by kernel_rfl) (fun _ _ _ h => h) (Or.inl ⟨by rfl, ?hw11_6⟩) hHeld ?rw11_6
            case hw11_6 => ((intro U hSw; have z3 : U.cell? ⟨gb, 3, none⟩ = some (.slice (some ⟨gI, 0, none⟩) c.items.length kI) := hSw.cell 3; go_simp); (try (with_reducible rfl)))
            try simp only [Act.put, List.setIfInBounds_toArray, List.set_cons_zero, List.set_cons_succ]
            refine hs_take 6 (v := ?vw11_7) rfl (by kernel_rfl) (fun _ _ _ h => h) (Or.inl ⟨by rfl, ?hw11_7⟩) hHeld ?rw11_7
            case hw11_7 => ((intro U hSw; have z3 : U.cell? ⟨gb, 3, none⟩ = some (.slice (some ⟨gI, 0, none⟩) c.items.length kI) := hSw.cell 3; go_simp); (try (with_reducible rfl)))
            try simp only [Act.put, List.setIfInBounds_toArray, List.set_cons_zero, List.set_cons_succ]
            refine hs_free 11 (v := ?vw11_8) rfl (by kernel_rfl) (fun _ _ _ h => h) (Or.inl ⟨by rfl, ?hw11_8⟩) hHeld ?rw11_8
            case hw11_8 => (intro U _; go_simp; (try (with_reducible rfl)))
            try simp only [Act.put, List.setIfInBounds_toArray, List.set_cons_zero, List.set_cons_succ]
            refine hs_one 7 rfl (by kernel_rfl) (fun K hK => ?_)
            go_simp
            refine hK.out _ _ (hHeld.alloc _) (fun hHeld => ?_)
            clear hK K
            try simp only [Act.put, List.setIfInBounds_toArray, List.set_cons_zero, List.set_cons_succ]
            refine hs_end rfl (by kernel_rfl) (fun K hK => ?_)
            refine step_append_lies _ (by rfl) (.tmp 113) (.tmp 117) _ (by rfl) w1.heap.size 30 ii0 _ 10 184 Try.underlying24 hii0 hiz0 hiz1 hiz2 rfl (by omega) (.slice (some ⟨gI, 0, none⟩) c.items.length kI) c.items.length xsI (by rfl) ((HET.out.drew.alloc _).oI) ⟨T.drew.heap.size, 0, none⟩ 2 2 [.int .i64 0, .string ⟨#[]⟩, .string ⟨#[]⟩, .slice none 0 0, .slice none 0 0, .bool false, .string ⟨#[]⟩, .slice none 0 0, .slice none 0 0, .slice none 0 0, .int .i64 0, .string ⟨#[]⟩, .string ⟨#[]⟩, .slice none 0 0, .slice none 0 0, .bool false, .string ⟨#[]⟩, .slice none 0 0, .slice none 0 0, .slice none 0 0] (by rfl) (by rfl) (World.news_of_block (cs := #[.int .i64 0, .string ⟨#[]⟩, .string ⟨#[]⟩, .slice none 0 0, .slice none 0 0, .bool false, .string ⟨#[]⟩, .slice none 0 0, .slice none 0 0, .slice none 0 0, .int .i64 0, .string ⟨#[]⟩, .string ⟨#[]⟩, .slice none 0 0, .slice none 0 0, .bool false, .string ⟨#[]⟩, .slice none 0 0, .slice none 0 0, .slice none 0 0]) (t := 30) (fr := (0, 0)) (heap_alloc_new T.drew _)) (by simp [Value.oneCell']) (by omega) (by unfold maxLen; omega) (by omega) (by have := HET.out.gr.size; simp at this ⊢; omega) (T.drew.heap.size + 1) (by simp) ?_
            intro gA capA W0 hownI hgrow _ _
            have hxl : xsI.length = c.items.length * 10 := HET.out.oI.1
            have HXL := Lib.hid hxl
            have hEA := (HET.out.drew.alloc (.cells #[.int .i64 0, .string ⟨#[]⟩, .string ⟨#[]⟩, .slice none 0 0, .slice none 0 0, .bool false, .string ⟨#[]⟩, .slice none 0 0, .slice none 0 0, .slice none 0 0, .int .i64 0, .string ⟨#[]⟩, .string ⟨#[]⟩, .slice none 0 0, .slice none 0 0, .bool false, .string ⟨#[]⟩, .slice none 0 0, .slice none 0 0, .slice none 0 0] 30)).appI hgrow hownI
            have HE0 := Lib.hid hEA
            have hin0 : (c.items.length : Int) < (c.items.length : Int) + 2 := by omega
            clear hEA hgrow hownI hxl
            have hwa : IntKind.i64.wrap ((c.items.length : Int) + 1) = (c.items.length : Int) + 1 := by rw [IntKind.wrap_i64]; omega
            have hin1 : (c.items.length : Int) + 1 < (c.items.length : Int) + 2 := by omega
            have hin2 : (0 : Int) ≤ (c.items.length : Int) + 1 := by omega
            have hin3 : ((c.items.length : Int) + 1).toNat = c.items.length + 1 := by omega
            refine hK.out _ _ ?_
            clear hK K
            try simp only [Act.put, List.setIfInBounds_toArray, List.set_cons_zero, List.set_cons_succ]
            refine hd_take 9 (v := ?vw11_9) rfl (by kernel_rfl) (fun _ _ _ h => h) (Or.inl ⟨by rfl, ?hw11_9⟩) ?rw11_9
            case hw11_9 => (intro U _; go_simp; (try (with_reducible rfl)))
            try simp only [Act.put, List.setIfInBounds_toArray, List.set_cons_zero, List.set_cons_succ]
            refine hd_take 14 (v := ?vw11_10) rfl (by kernel_rfl) (fun _ _ _ h => h) (Or.inl ⟨by rfl, ?hw11_10⟩) ?rw11_10
            case hw11_10 => (intro U _; go_simp; (try (with_reducible rfl)))
            try simp only [Act.put, List.setIfInBounds_toArray, List.set_cons_zero, List.set_cons_succ]
            refine hd_take 15 (v := ?vw11_11) rfl (by kernel_rfl) (fun _ _ _ h => h) (Or.inl ⟨by rfl, ?hw11_11⟩) ?rw11_11
            case hw11_11 => (intro U _; go_simp; (try (with_reducible rfl)))
            try simp only [Act.put, List.setIfInBounds_toArray, List.set_cons_zero, List.set_cons_succ]
            refine hd_all [10, 16] (by kernel_rfl) ?_
            refine hd_cons (i := 10) rfl (fun K hK => ?_) (hd_cons (i := 16) rfl (fun K hK => ?_) (allHd.nil))
            · as_aux_lemma =>
              rw [if_pos (wantedB _ rfl _)]
              have hth := there_row HE0.out.oI (o := c.items.length * 10) (m := 10) (by omega)
              have hE := Ed3.writeI (o := c.items.length * 10) (xs := xsI) (a := []) (z := zIt) (t := (zIt)) (vs := itV 5 122) HE0.out (by have := HXL.out; show c.items.length * 10 = xsI.length + 0; omega) rfl
              obtain ⟨W1, hW⟩ : ∃ W', W' = W0.setCells gA (c.items.length * 10) (itV 5 122) := ⟨_, rfl⟩
              rw [← hW] at hE
              have HE1 := Lib.hid hE
              clear hE
              refine wp_store_mid 30 (.tmp 119) (.tmp 114) (by rfl) gA (c.items.length * 10) #[.int .i64 5, .string ⟨#[122, 122]⟩, .string ⟨#[]⟩, .slice none 0 0, .slice none 0 0, .bool false, .string ⟨#[]⟩, .slice none 0 0, .slice none 0 0, .slice none 0 0] (by rfl) (by rfl) hth (by rw [hii0]; simp [hiz1]) (by simp [Value.oneCell']) ?_
              clear hth
              change K _ (W0.setCells gA (c.items.length * 10) (itV 5 122))
              rw [← hW]
              clear hW
              refine hK.out _ _ ?_
              clear hK K
              try simp only [Act.put]
              refine hd_take 12 (v := ?vw11_12) rfl (by kernel_rfl) (fun _ _ _ h => h) (Or.inl ⟨by rfl, ?hw11_12⟩) ?rw11_12
              case hw11_12 => (intro U _; go_simp; (try (with_reducible rfl)))
              try simp only [Act.put, List.setIfInBounds_toArray, List.set_cons_zero, List.set_cons_succ]
              refine hd_all [13, 16] (by kernel_rfl) ?_
              refine hd_cons (i := 13) rfl (fun K hK => ?_) (hd_cons (i := 16) rfl (fun K hK => ?_) (allHd.nil))
              · as_aux_lemma =>
                rw [if_pos (wantedB _ rfl _)]
                have hth := there_row HE1.out.oI (o := (c.items.length + 1) * 10) (m := 10) (by omega)
                have hE := Ed3.writeI (o := (c.items.length + 1) * 10) (xs := xsI) (a := (itV 5 122)) (z := zIt) (t := []) (vs := itV 5 120) HE1.out (by have := HXL.out; show (c.items.length + 1) * 10 = xsI.length + 10; omega) rfl
                obtain ⟨W2, hW⟩ : ∃ W', W' = W1.setCells gA ((c.items.length + 1) * 10) (itV 5 120) := ⟨_, rfl⟩
                rw [← hW] at hE
                have HE2 := Lib.hid hE
                clear hE
                refine wp_store_mid 30 (.tmp 121) (.tmp 115) (by rfl) gA ((c.items.length + 1) * 10) #[.int .i64 5, .string ⟨#[122, 120]⟩, .string ⟨#[]⟩, .slice none 0 0, .slice none 0 0, .bool false, .string ⟨#[]⟩, .slice none 0 0, .slice none 0 0, .slice none 0 0] (by rfl) (by rfl) hth (by rw [hii0]; simp [hiz1]) (by simp [Value.oneCell']) ?_
                clear hth
                change K _ (W1.setCells gA ((c.items.length + 1) * 10) (itV 5 120))
                rw [← hW]
                clear hW
                refine hK.out _ _ ?_
                clear hK K
                try simp only [Act.put]
                refine hd_all [16] (by kernel_rfl) ?_
                refine hd_cons (i := 16) rfl (fun K hK => ?_) (allHd.nil)
                · as_aux_lemma =>
                  have y3 : W2.cell? ⟨gb, 3, none⟩ = some (.slice (some ⟨gI, 0, none⟩) c.items.length kI) := HE2.out.blk.cell 3
                  have y3f : W2.frozen? ⟨gb, 3, none⟩ = false := HE2.out.blk.frozen 3
                  have y3l := HE2.out.blk.lt
                  go_simp
                  obtain ⟨W3, hW⟩ : ∃ W', W' = W2.setCell ⟨gb, 3, none⟩ (.slice (some ⟨gA, 0, none⟩) (c.items.length + 2) capA) := ⟨_, rfl⟩
                  have hE := HE2.out.putB3 (.slice (some ⟨gA, 0, none⟩) (c.items.length + 2) capA)
                  rw [← hW] at hE ⊢
                  have HE3 := Lib.hid hE
                  clear hE hW y3 y3f y3l
                  refine hK.out _ _ ?_
                  clear hK K
                  try simp only [Act.put]
                  refine hd_done (by kernel_rfl) ?_
                  go_wp2_with fail
                  go_meet
                  case rel => exact ⟨gA, capA, by simpa only [List.append_assoc, List.append_nil, List.nil_append] using HE3.out⟩
              · as_aux_lemma =>
                have y3 : W1.cell? ⟨gb, 3, none⟩ = some (.slice (some ⟨gI, 0, none⟩) c.items.length kI) := HE1.out.blk.cell 3
                have y3f : W1.frozen? ⟨gb, 3, none⟩ = false := HE1.out.blk.frozen 3
                have y3l := HE1.out.blk.lt
                go_simp
                obtain ⟨W2, hW⟩ : ∃ W', W' = W1.setCell ⟨gb, 3, none⟩ (.slice (some ⟨gA, 0, none⟩) (c.items.length + 2) capA) := ⟨_, rfl⟩
                have hE := HE1.out.putB3 (.slice (some ⟨gA, 0, none⟩) (c.items.length + 2) capA)
                rw [← hW] at hE ⊢
                have HE2 := Lib.hid hE
                clear hE hW y3 y3f y3l
                refine hK.out _ _ ?_
                clear hK K
                try simp only [Act.put]
                refine hd_all [13] (by kernel_rfl) ?_
                refine hd_cons (i := 13) rfl (fun K hK => ?_) (allHd.nil)
                · as_aux_lemma =>
                  rw [if_pos (wantedB _ rfl _)]
                  have hth := there_row HE2.out.oI (o := (c.items.length + 1) * 10) (m := 10) (by omega)
                  have hE := Ed3.writeI (o := (c.items.length + 1) * 10) (xs := xsI) (a := (itV 5 122)) (z := zIt) (t := []) (vs := itV 5 120) HE2.out (by have := HXL.out; show (c.items.length + 1) * 10 = xsI.length + 10; omega) rfl
                  obtain ⟨W3, hW⟩ : ∃ W', W' = W2.setCells gA ((c.items.length + 1) * 10) (itV 5 120) := ⟨_, rfl⟩
                  rw [← hW] at hE
                  have HE3 := Lib.hid hE
                  clear hE
                  refine wp_store_mid 30 (.tmp 121) (.tmp 115) (by rfl) gA ((c.items.length + 1) * 10) #[.int .i64 5, .string ⟨#[122, 120]⟩, .string ⟨#[]⟩, .slice none 0 0, .slice none 0 0, .bool false, .string ⟨#[]⟩, .slice none 0 0, .slice none 0 0, .slice none 0 0] (by rfl) (by rfl) hth (by rw [hii0]; simp [hiz1]) (by simp [Value.oneCell']) ?_
                  clear hth
                  change K _ (W2.setCells gA ((c.items.length + 1) * 10) (itV 5 120))
                  rw [← hW]
                  clear hW
                  refine hK.out _ _ ?_
                  clear hK K
                  try simp only [Act.put]
                  refine hd_done (by kernel_rfl) ?_
                  go_wp2_with fail
                  go_meet
                  case rel => exact ⟨gA, capA, by simpa only [List.append_assoc, List.append_nil, List.nil_append] using HE3.out⟩
            · as_aux_lemma =>
              have y3 : W0.cell? ⟨gb, 3, none⟩ = some (.slice (some ⟨gI, 0, none⟩) c.items.length kI) := HE0.out.blk.cell 3
              have y3f : W0.frozen? ⟨gb, 3, none⟩ = false := HE0.out.blk.frozen 3
              have y3l := HE0.out.blk.lt
              go_simp
              obtain ⟨W1, hW⟩ : ∃ W', W' = W0.setCell ⟨gb, 3, none⟩ (.slice (some ⟨gA, 0, none⟩) (c.items.length + 2) capA) := ⟨_, rfl⟩
              have hE := HE0.out.putB3 (.slice (some ⟨gA, 0, none⟩) (c.items.length + 2) capA)
              rw [← hW] at hE ⊢
              have HE1 := Lib.hid hE
              clear hE hW y3 y3f y3l
              refine hK.out _ _ ?_
              clear hK K
              try simp only [Act.put]
              refine hd_all [10] (by kernel_rfl) ?_
              refine hd_cons (i := 10) rfl (fun K hK => ?_) (allHd.nil)
              · as_aux_lemma =>
                rw [if_pos (wantedB _ rfl _)]
                have hth := there_row HE1.out.oI (o := c.items.length * 10) (m := 10) (by omega)
                have hE := Ed3.writeI (o := c.items.length * 10) (xs := xsI) (a := []) (z := zIt) (t := (zIt)) (vs := itV 5 122) HE1.out (by have := HXL.out; show c.items.length * 10 = xsI.length + 0; omega) rfl
                obtain ⟨W2, hW⟩ : ∃ W', W' = W1.setCells gA (c.items.length * 10) (itV 5 122) := ⟨_, rfl⟩
                rw [← hW] at hE
                have HE2 := Lib.hid hE
                clear hE
                refine wp_store_mid 30 (.tmp 119) (.tmp 114) (by rfl) gA (c.items.length * 10) #[.int .i64 5, .string ⟨#[122, 122]⟩, .string ⟨#[]⟩, .slice none 0 0, .slice none 0 0, .bool false, .string ⟨#[]⟩, .slice none 0 0, .slice none 0 0, .slice none 0 0] (by rfl) (by rfl) hth (by rw [hii0]; simp [hiz1]) (by simp [Value.oneCell']) ?_
                clear hth
                change K _ (W1.setCells gA (c.items.length * 10) (itV 5 122))
                rw [← hW]
                clear hW
                refine hK.out _ _ ?_
                clear hK K
                try simp only [Act.put]
                refine hd_take 12 (v := ?vw11_13) rfl (by kernel_rfl) (fun _ _ _ h => h) (Or.inl ⟨by rfl, ?hw11_13⟩) ?rw11_13
                case hw11_13 => (intro U _; go_simp; (try (with_reducible rfl)))
                try simp only [Act.put, List.setIfInBounds_toArray, List.set_cons_zero, List.set_cons_succ]
                refine hd_all [13] (by kernel_rfl) ?_
                refine hd_cons (i := 13) rfl (fun K hK => ?_) (allHd.nil)
                · as_aux_lemma =>
                  rw [if_pos (wantedB _ rfl _)]
                  have hth := there_row HE2.out.oI (o := (c.items.length + 1) * 10) (m := 10) (by omega)
                  have hE := Ed3.writeI (o := (c.items.length + 1) * 10) (xs := xsI) (a := (itV 5 122)) (z := zIt) (t := []) (vs := itV 5 120) HE2.out (by have := HXL.out; show (c.items.length + 1) * 10 = xsI.length + 10; omega) rfl
                  obtain ⟨W3, hW⟩ : ∃ W', W' = W2.setCells gA ((c.items.length + 1) * 10) (itV 5 120) := ⟨_, rfl⟩
                  rw [← hW] at hE
                  have HE3 := Lib.hid hE
                  clear hE
                  refine wp_store_mid 30 (.tmp 121) (.tmp 115) (by rfl) gA ((c.items.length + 1) * 10) #[.int .i64 5, .string ⟨#[122, 120]⟩, .string ⟨#[]⟩, .slice none 0 0, .slice none 0 0, .bool false, .string ⟨#[]⟩, .slice none 0 0, .slice none 0 0, .slice none 0 0] (by rfl) (by rfl) hth (by rw [hii0]; simp [hiz1]) (by simp [Value.oneCell']) ?_
                  clear hth
                  change K _ (W2.setCells gA ((c.items.length + 1) * 10) (itV 5 120))
                  rw [← hW]
                  clear hW
                  refine hK.out _ _ ?_
                  clear hK K
                  try simp only [Act.put]
                  refine hd_done (by kernel_rfl) ?_
                  go_wp2_with fail
                  go_meet
                  case rel => exact ⟨gA, capA, by simpa only [List.append_assoc, List.append_nil, List.nil_append] using HE3.out⟩
          case rest =>
            obtain ⟨gA, capA, hE⟩ := hcut
            obtain ⟨V, rfl⟩ : ∃ V, V = wc := ⟨_, rfl⟩
            have HEV := Lib.hid hE
            clear hE
            have x4 : V.cell? ⟨gb, 4, none⟩ = some (.slice (some ⟨gS, 0, none⟩) c.seqs.length kS) := HEV.out.blk.cell 4
            have lgbW := HEV.out.blk.lt
            go_upto_region 17 with fail
            go_wp2_with (at_builtin; refine wpList_append_lies _ rfl (.tmp 128) (.tmp 131) _ rfl w1.heap.size 33 si0 _ 3 48 Try.underlying25 hsi0 hsz0 hsz1 hsz2 rfl (by omega) (.slice (some ⟨gS, 0, none⟩) c.seqs.length kS) c.seqs.length xsS rfl ((HEV.out.alloc _).oS) ⟨V.heap.size, 0, none⟩ 2 2 [.string ⟨#[122, 121]⟩, .string ⟨#[122, 122]⟩, .string ⟨#[122, 120]⟩, .string ⟨#[122, 119]⟩, .string ⟨#[122, 120]⟩, .string ⟨#[122, 122]⟩] rfl rfl (World.news_of_block (cs := #[.string ⟨#[122, 121]⟩, .string ⟨#[122, 122]⟩, .string ⟨#[122, 120]⟩, .string ⟨#[122, 119]⟩, .string ⟨#[122, 120]⟩, .string ⟨#[122, 122]⟩]) (t := 33) (fr := (0, 0)) (heap_alloc_new V _)) (by simp [Value.oneCell']) (by omega) (by unfold maxLen; omega) (by omega) (by have := HEV.out.gr.size; simp at this ⊢; omega) (V.heap.size + 1) (by simp) ?_)
            intro gB capB w2 hownS hgrow _ _
            have hEA := (HEV.out.alloc (.cells #[.string ⟨#[122, 121]⟩, .string ⟨#[122, 122]⟩, .string ⟨#[122, 120]⟩, .string ⟨#[122, 119]⟩, .string ⟨#[122, 120]⟩, .string ⟨#[122, 122]⟩] 33)).appS hgrow hownS
            have HEA := Lib.hid hEA
            clear hEA hgrow hownS
            have y4 : w2.cell? ⟨gb, 4, none⟩ = some (.slice (some ⟨gS, 0, none⟩) c.seqs.length kS) := HEA.out.blk.cell 4
            have y4f : w2.frozen? ⟨gb, 4, none⟩ = false := HEA.out.blk.frozen 4
            have y4l := HEA.out.blk.lt
            obtain ⟨T2, hT2⟩ : ∃ T', T' = w2.setCell ⟨gb, 4, none⟩ (.slice (some ⟨gB, 0, none⟩) (c.seqs.length + 2) capB) := ⟨_, rfl⟩
            have hE2 := HEA.out.putB4 (.slice (some ⟨gB, 0, none⟩) (c.seqs.length + 2) capB)
            rw [← hT2] at hE2
            have hBad := bad11 HR.out
            have HRC := Lib.hid (bad_end (Is := c.items ++ [newI 5 122, newI 5 120]) (Ss := c.seqs ++ [newQ 121 (zB 122) (zB 120), newQ 119 (zB 120) (zB 122)]) HO.out hE2 (by rw [List.flatMap_append]; refine RdL.append (HO.out.itemL hE2.gr) ?_; rw [List.flatMap_cons, List.flatMap_cons, List.flatMap_nil, List.append_nil]; exact RdL.append (xs := itV 5 122) (rd_itemC.2 ⟨_, _, _, _, _, rfl, rd_nilC, rd_nilC, rd_nilC, rd_nilC, rd_nilC⟩) (rd_itemC.2 ⟨_, _, _, _, _, rfl, rd_nilC, rd_nilC, rd_nilC, rd_nilC, rd_nilC⟩)) (by rw [List.flatMap_append]; exact RdL.append (HO.out.seqL hE2.gr) (rdl_cons.2 ⟨_, _, rfl, rd_str.2 rfl, rdl_cons.2 ⟨_, _, rfl, rd_str.2 rfl, rdl_cons.2 ⟨_, _, rfl, rd_str.2 rfl, rdl_cons.2 ⟨_, _, rfl, rd_str.2 rfl, rdl_cons.2 ⟨_, _, rfl, rd_str.2 rfl, rdl_cons.2 ⟨_, _, rfl, rd_str.2 rfl, rdl_nil.2 rfl⟩⟩⟩⟩⟩⟩)) (by simp) (by simp) hBad)
            have HB9 := Lib.hid (gr_end HO.out.bel hE2.gr HO.out.ge HO.out.bel.size)
            have HT2 := Lib.hid hT2.symm
            clear hBad hE2 hT2
            go_upto_region 51 with fail
            rw [HT2.out]
            exact bad_tail HRC HB9 (by rfl) (by rfl) (by assumption)
        
end Go.Proofs.Ytljmghaplnkohaa
