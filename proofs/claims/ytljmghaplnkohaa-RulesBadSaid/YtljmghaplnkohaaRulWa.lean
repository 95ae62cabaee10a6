/- The walk of the law RulesBad. -/
import Derived.Test.YtljmghaplnkohaaRulZ
import Derived.Test.YtljmghaplnkohaaRulXY

import Derived.Test.YtljmghaplnkohaaArgs
import Derived.Deep.CutBlock
import Derived.Deep.DeepCutAuto
namespace Go.Proofs.Ytljmghaplnkohaa
open Go.RowKit
attribute [local go_sem ↓] Go.wp_at_zero Go.wp_at_succ

set_option maxRecDepth 100000 in
set_option maxHeartbeats 32000000 in
theorem rulesBad_waya (A0 : Option Addr) (c0 : Nat) (x0 : List Int) (a1 a2 : Int) (w : World) (m0 : x0.length ≤ maxLen) (h0 : IntsAt w A0 x0) (q : Nat) (hq : (bits BinOp.and IntKind.i64 a1 15).tmod 12 = (q : Int)) (hq12 : q = 0 ∨ q = 1 ∨ q = 2 ∨ q = 3 ∨ q = 10 ∨ q = 4) :
    Calls Try.prog 8 #[.slice A0 x0.length c0, .int .i64 a1, .int .i64 a2] w fun e w' => e = .returned (.bool true) ∧ Below w.heap.size w w' := by
  obtain ⟨ii0, hii0, hiz0, hiz1, hiz2⟩ := info_parts Try.infoItemG
  obtain ⟨si0, hsi0, hsz0, hsz1, hsz2⟩ := info_parts Try.infoSeqG
  obtain ⟨fi0, hfi0, hfz0, hfz1, hfz2⟩ := info_parts Try.infoFlowE
  have hgen := doc_genN (cap := c0) h0 m0
  obtain ⟨d, c, y0, ye, rest, init, hd, hc, hR⟩ := doc_w x0 m0
  rw [← hd] at hgen
  clear hc
  obtain ⟨lpI3, ⟨lqI, lqF, lpS, lqS, lpF⟩⟩ := (⟨hR.three, hR.lens⟩ : _ ∧ _)
  have lpI : 0 < c.items.length := by omega
  obtain ⟨lm, hlm⟩ : ∃ lm, lm = c.items.length - 1 := ⟨_, rfl⟩
  have hlmI : (c.items.length : Int) - 1 = (lm : Int) := by omega
  have hlml : (lm : Int) < (c.items.length : Int) := by omega
  have hlmn : lm < c.items.length := by omega
  have HLM := Lib.hid hlm
  have HQ := Lib.hid hq
  have HQ12 := Lib.hid hq12
  have HR := Lib.hid hR
  have HGEN := Lib.hid hgen
  clear hq hq12 hR hgen h0 m0 hd hlm
  go_enter Try.func8, Try.ntmps8
  go_upto_region 1 with fail
  go_wp2_with fail
  refine HGEN.out.mono ?_
  clear HGEN
  rintro e w1 hE
  obtain ⟨A3, c3, gb, AP, cP, AF, cF, AI, cI, AS, cS, xs, xsI, xsF, xsS, rfl, hO⟩ := doc_open (n := 1) (r := []) rfl HR.out.doc.eq hE
  obtain ⟨gd, hgd⟩ : ∃ g, g = w1.heap.size := ⟨_, rfl⟩
  obtain ⟨V1, hV1⟩ : ∃ V, V = w1.alloc (.cells #[.slice A3 4 c3, .slice (some ⟨gb, 0, none⟩) 1 1] 42) := ⟨_, rfl⟩
  have b11 : Below w1.heap.size w1 V1 := by rw [hV1]; exact (Below.refl _ _).alloc (Nat.le_refl _) _
  have kd : Blk V1 gd 42 #[.slice A3 4 c3, .slice (some ⟨gb, 0, none⟩) 1 1] := by rw [hV1, hgd]; exact Blk.new _ _ _
  have kb2 := hO.blk.below b11 hO.blk.lt
  have HO := Lib.hid hO
  have HB11 := Lib.hid b11
  have HKD := Lib.hid kd
  have HV1 := Lib.hid hV1.symm
  have HGD := Lib.hid hgd.symm
  have d0 : V1.cell? ⟨gd, 0, none⟩ = some (.slice A3 4 c3) := kd.cell 0
  have d1 : V1.cell? ⟨gd, 1, none⟩ = some (.slice (some ⟨gb, 0, none⟩) 1 1) := kd.cell 1
  have q0 : V1.cell? ⟨gb, 0, none⟩ = some (.string c.id) := kb2.cell 0
  have q1 : V1.cell? ⟨gb, 1, none⟩ = some (.slice AP c.parts.length cP) := kb2.cell 1
  have q2 : V1.cell? ⟨gb, 2, none⟩ = some (.slice AF c.flows.length cF) := kb2.cell 2
  have q3 : V1.cell? ⟨gb, 3, none⟩ = some (.slice AI c.items.length cI) := kb2.cell 3
  have q4 : V1.cell? ⟨gb, 4, none⟩ = some (.slice AS c.seqs.length cS) := kb2.cell 4
  have lgb2 := kb2.lt
  clear hO b11 kd kb2 hV1 hgd hE
  go_upto_region 3 with fail
  rw [HV1.out, HGD.out]
  clear HV1
  refine wp_region_HT 29 (fun _ => True) (by kernel_rfl) (by decide) trivial (fun hHeld => ?_)
  refine ht_take 0 (v := ?va_1) rfl (by kernel_rfl) (fun _ _ _ h => h) (Or.inl ⟨by rfl, ?ha_1⟩) hHeld ?ra_1
  case ha_1 => ((intro U _; go_simp); (try (with_reducible rfl)))
  try simp only [Act.put, List.setIfInBounds_toArray, List.set_cons_zero, List.set_cons_succ]
  refine ht_take 1 (v := ?va_2) rfl (by kernel_rfl) (fun _ _ _ h => h) (Or.inl ⟨by rfl, ?ha_2⟩) hHeld ?ra_2
  case ha_2 => ((intro U _; go_simp); (try (with_reducible rfl)))
  try simp only [Act.put, List.setIfInBounds_toArray, List.set_cons_zero, List.set_cons_succ]
  refine ht_take 2 (v := ?va_3) rfl (by kernel_rfl) (fun _ _ _ h => h) (Or.inl ⟨by rfl, ?ha_3⟩) hHeld ?ra_3
  case ha_3 => ((intro U _; go_simp); (try (with_reducible rfl)))
  try simp only [Act.put, List.setIfInBounds_toArray, List.set_cons_zero, List.set_cons_succ]
  refine ht_take 4 (v := ?va_4) rfl (by kernel_rfl) (fun _ _ _ h => h) (Or.inl ⟨by rfl, ?ha_4⟩) hHeld ?ra_4
  case ha_4 => ((intro U _; go_simp); (try (with_reducible rfl)))
  try simp only [Act.put, List.setIfInBounds_toArray, List.set_cons_zero, List.set_cons_succ]
  refine ht_take 5 (v := ?va_5) rfl (by kernel_rfl) (fun _ _ _ h => h) (Or.inl ⟨by rfl, ?ha_5⟩) hHeld ?ra_5
  case ha_5 => ((intro U _; go_simp); (try (with_reducible rfl)))
  try simp only [Act.put, List.setIfInBounds_toArray, List.set_cons_zero, List.set_cons_succ]
  refine ht_take 6 (v := ?va_6) rfl (by kernel_rfl) (fun _ _ _ h => h) (Or.inl ⟨by rfl, ?ha_6⟩) hHeld ?ra_6
  case ha_6 => ((intro U _; go_simp); (try (with_reducible rfl)))
  try simp only [Act.put, List.setIfInBounds_toArray, List.set_cons_zero, List.set_cons_succ]
  refine ht_take 10 (v := ?va_7) rfl (by kernel_rfl) (fun _ _ _ h => h) (Or.inl ⟨by rfl, ?ha_7⟩) hHeld ?ra_7
  case ha_7 => ((intro U _; go_simp); (try (with_reducible rfl)))
  try simp only [Act.put, List.setIfInBounds_toArray, List.set_cons_zero, List.set_cons_succ]
  refine ht_take 11 (v := ?va_8) rfl (by kernel_rfl) (fun _ _ _ h => h) (Or.inl ⟨by rfl, ?ha_8⟩) hHeld ?ra_8
  case ha_8 => ((intro U _; go_simp); (try (with_reducible rfl)))
  try simp only [Act.put, List.setIfInBounds_toArray, List.set_cons_zero, List.set_cons_succ]
  refine ht_take 12 (v := ?va_9) rfl (by kernel_rfl) (fun _ _ _ h => h) (Or.inl ⟨by rfl, ?ha_9⟩) hHeld ?ra_9
  case ha_9 => ((intro U _; go_simp); (try (with_reducible rfl)))
  try simp only [Act.put, List.setIfInBounds_toArray, List.set_cons_zero, List.set_cons_succ]
  refine ht_take 16 (v := ?va_10) rfl (by kernel_rfl) (fun _ _ _ h => h) (Or.inl ⟨by rfl, ?ha_10⟩) hHeld ?ra_10
  case ha_10 => ((intro U _; go_simp); (try (with_reducible rfl)))
  try simp only [Act.put, List.setIfInBounds_toArray, List.set_cons_zero, List.set_cons_succ]
  refine ht_take 17 (v := ?va_11) rfl (by kernel_rfl) (fun _ _ _ h => h) (Or.inl ⟨by rfl, ?ha_11⟩) hHeld ?ra_11
  case ha_11 => ((intro U _; go_simp); (try (with_reducible rfl)))
  try simp only [Act.put, List.setIfInBounds_toArray, List.set_cons_zero, List.set_cons_succ]
  refine ht_take 18 (v := ?va_12) rfl (by kernel_rfl) (fun _ _ _ h => h) (Or.inl ⟨by rfl, ?ha_12⟩) hHeld ?ra_12
  case ha_12 => ((intro U _; go_simp); (try (with_reducible rfl)))
  try simp only [Act.put, List.setIfInBounds_toArray, List.set_cons_zero, List.set_cons_succ]
  refine ht_copies (w0 := V1) (f0 := 8) [⟨7, 3, 8, 30, 10⟩, ⟨13, 9, 14, 33, 3⟩, ⟨19, 15, 20, 62, 4⟩] [(29, 3), (33, 7), (34, 8), (35, 9), (39, 13), (40, 14), (41, 15), (45, 19), (46, 20)] 21 (fun i => if i = 8 then .slice AI c.items.length cI else if i = 14 then .slice AS c.seqs.length cS else if i = 20 then .slice AF c.flows.length cF else undef) (fun i => if i = 8 then c.items.length else if i = 14 then c.seqs.length else if i = 20 then c.flows.length else 0) (fun i => if i = 8 then xsI else if i = 14 then xsS else if i = 20 then xsF else []) (by kernel_rfl) (by rfl) (by kernel_rfl) (by decide) (by decide) (by kernel_rfl) (by decide) (fun W _ => trivial) ((Below.refl _ _).drew) ?_ ?_ ?_ ?_
  · intro cc hcc vs W K hbW hK
    simp only [List.mem_cons, List.not_mem_nil, or_false] at hcc
    rcases hcc with rfl | rfl | rfl
    · refine wpOp_at rfl ?_
      have HK2 := hK.out
      clear hK
      simp only [putsV, List.foldl, Act.put, List.setIfInBounds_toArray, List.set_cons_zero, List.set_cons_succ] at HK2 ⊢
      simp only [updV, eq_self, Nat.reduceEqDiff, if_true, if_false] at HK2
      have y2 : W.cell? ⟨gb, 2, none⟩ = some (.slice AF c.flows.length cF) := (hbW.cell (p := ⟨gb, 2, none⟩) lgb2).trans q2
      have y3 : W.cell? ⟨gb, 3, none⟩ = some (.slice AI c.items.length cI) := (hbW.cell (p := ⟨gb, 3, none⟩) lgb2).trans q3
      have y4 : W.cell? ⟨gb, 4, none⟩ = some (.slice AS c.seqs.length cS) := (hbW.cell (p := ⟨gb, 4, none⟩) lgb2).trans q4
      go_simp
      exact HK2
    · refine wpOp_at rfl ?_
      have HK2 := hK.out
      clear hK
      simp only [putsV, List.foldl, Act.put, List.setIfInBounds_toArray, List.set_cons_zero, List.set_cons_succ] at HK2 ⊢
      simp only [updV, eq_self, Nat.reduceEqDiff, if_true, if_false] at HK2
      have y2 : W.cell? ⟨gb, 2, none⟩ = some (.slice AF c.flows.length cF) := (hbW.cell (p := ⟨gb, 2, none⟩) lgb2).trans q2
      have y3 : W.cell? ⟨gb, 3, none⟩ = some (.slice AI c.items.length cI) := (hbW.cell (p := ⟨gb, 3, none⟩) lgb2).trans q3
      have y4 : W.cell? ⟨gb, 4, none⟩ = some (.slice AS c.seqs.length cS) := (hbW.cell (p := ⟨gb, 4, none⟩) lgb2).trans q4
      go_simp
      exact HK2
    · refine wpOp_at rfl ?_
      have HK2 := hK.out
      clear hK
      simp only [putsV, List.foldl, Act.put, List.setIfInBounds_toArray, List.set_cons_zero, List.set_cons_succ] at HK2 ⊢
      simp only [updV, eq_self, Nat.reduceEqDiff, if_true, if_false] at HK2
      have y2 : W.cell? ⟨gb, 2, none⟩ = some (.slice AF c.flows.length cF) := (hbW.cell (p := ⟨gb, 2, none⟩) lgb2).trans q2
      have y3 : W.cell? ⟨gb, 3, none⟩ = some (.slice AI c.items.length cI) := (hbW.cell (p := ⟨gb, 3, none⟩) lgb2).trans q3
      have y4 : W.cell? ⟨gb, 4, none⟩ = some (.slice AS c.seqs.length cS) := (hbW.cell (p := ⟨gb, 4, none⟩) lgb2).trans q4
      go_simp
      exact HK2
  · intro cc hcc vs W K hK
    simp only [List.mem_cons, List.not_mem_nil, or_false] at hcc
    rcases hcc with rfl | rfl | rfl
    · refine wpOp_at rfl ?_
      have HK2 := hK.out
      clear hK
      simp only [putsV, List.foldl, Act.put, List.setIfInBounds_toArray, List.set_cons_zero, List.set_cons_succ] at HK2 ⊢
      simp only [updV, eq_self, Nat.reduceEqDiff, if_true, if_false] at HK2
      go_simp
      exact HK2
    · refine wpOp_at rfl ?_
      have HK2 := hK.out
      clear hK
      simp only [putsV, List.foldl, Act.put, List.setIfInBounds_toArray, List.set_cons_zero, List.set_cons_succ] at HK2 ⊢
      simp only [updV, eq_self, Nat.reduceEqDiff, if_true, if_false] at HK2
      go_simp
      exact HK2
    · refine wpOp_at rfl ?_
      have HK2 := hK.out
      clear hK
      simp only [putsV, List.foldl, Act.put, List.setIfInBounds_toArray, List.set_cons_zero, List.set_cons_succ] at HK2 ⊢
      simp only [updV, eq_self, Nat.reduceEqDiff, if_true, if_false] at HK2
      go_simp
      exact HK2
  · intro cc hcc vs W K hbW hsrc hoW hK
    simp only [List.mem_cons, List.not_mem_nil, or_false] at hcc
    rcases hcc with rfl | rfl | rfl
    · refine wpOp_at rfl ?_
      have HK2 := hK.out
      clear hK
      simp only [putsV, List.foldl, Act.put, List.setIfInBounds_toArray, List.set_cons_zero, List.set_cons_succ] at HK2 ⊢
      simp only [updV, eq_self, Nat.reduceEqDiff, if_true, if_false] at HK2
      have hoW2 : W.ownsRow V1.heap.size 30 10 (vs 3) 0 [] := hoW
      have hsrc2 : vs 7 = .slice AI c.items.length cI := hsrc
      have hw : ∀ o : Oper, o.guard = none → ∀ z, Region.wanted o z = true := fun o h z => by simp [Region.wanted, h]
      rw [if_pos (hw _ rfl _)]
      refine wp_append_any W (.tmp 29) (.tmp 33) _ rfl V1.heap.size 30 ii0 _ 10 184 Try.underlying24 hii0 hiz0 hiz1 hiz2 rfl (by omega) (vs 3) 0 [] rfl hoW2 w1.heap.size AI c.items.length cI xsI hsrc2 (HO.out.rI.below (HB11.out.trans (hbW.mono HB11.out.size))) HO.out.oI (by unfold maxLen; omega) (by omega) hbW.size ?_
      intro v3 W3 ho3 hg3 _
      try simp only [Nat.zero_add, List.nil_append] at ho3
      exact HK2 v3 W3 (by simpa only [eq_self, Nat.reduceEqDiff, if_true, if_false] using ho3) hg3
    · refine wpOp_at rfl ?_
      have HK2 := hK.out
      clear hK
      simp only [putsV, List.foldl, Act.put, List.setIfInBounds_toArray, List.set_cons_zero, List.set_cons_succ] at HK2 ⊢
      simp only [updV, eq_self, Nat.reduceEqDiff, if_true, if_false] at HK2
      have hoW2 : W.ownsRow V1.heap.size 33 3 (vs 9) 0 [] := hoW
      have hsrc2 : vs 13 = .slice AS c.seqs.length cS := hsrc
      have hw : ∀ o : Oper, o.guard = none → ∀ z, Region.wanted o z = true := fun o h z => by simp [Region.wanted, h]
      rw [if_pos (hw _ rfl _)]
      refine wp_append_any W (.tmp 35) (.tmp 39) _ rfl V1.heap.size 33 si0 _ 3 48 Try.underlying25 hsi0 hsz0 hsz1 hsz2 rfl (by omega) (vs 9) 0 [] rfl hoW2 w1.heap.size AS c.seqs.length cS xsS hsrc2 (HO.out.rS.below (HB11.out.trans (hbW.mono HB11.out.size))) HO.out.oS (by unfold maxLen; omega) (by omega) hbW.size ?_
      intro v3 W3 ho3 hg3 _
      try simp only [Nat.zero_add, List.nil_append] at ho3
      exact HK2 v3 W3 (by simpa only [eq_self, Nat.reduceEqDiff, if_true, if_false] using ho3) hg3
    · refine wpOp_at rfl ?_
      have HK2 := hK.out
      clear hK
      simp only [putsV, List.foldl, Act.put, List.setIfInBounds_toArray, List.set_cons_zero, List.set_cons_succ] at HK2 ⊢
      simp only [updV, eq_self, Nat.reduceEqDiff, if_true, if_false] at HK2
      have hoW2 : W.ownsRow V1.heap.size 62 4 (vs 15) 0 [] := hoW
      have hsrc2 : vs 19 = .slice AF c.flows.length cF := hsrc
      have hw : ∀ o : Oper, o.guard = none → ∀ z, Region.wanted o z = true := fun o h z => by simp [Region.wanted, h]
      rw [if_pos (hw _ rfl _)]
      refine wp_append_any W (.tmp 41) (.tmp 45) _ rfl V1.heap.size 62 fi0 _ 4 64 Try.underlying52 hfi0 hfz0 hfz1 hfz2 rfl (by omega) (vs 15) 0 [] rfl hoW2 w1.heap.size AF c.flows.length cF xsF hsrc2 (HO.out.rF.below (HB11.out.trans (hbW.mono HB11.out.size))) HO.out.oF (by unfold maxLen; omega) (by omega) hbW.size ?_
      intro v3 W3 ho3 hg3 _
      try simp only [Nat.zero_add, List.nil_append] at ho3
      exact HK2 v3 W3 (by simpa only [eq_self, Nat.reduceEqDiff, if_true, if_false] using ho3) hg3
  · intro vs W hbW hall
    have hownI := (hall ⟨7, 3, 8, 30, 10⟩ (by simp)).2
    have hownS := (hall ⟨13, 9, 14, 33, 3⟩ (by simp)).2
    have hownF := (hall ⟨19, 15, 20, 62, 4⟩ (by simp)).2
    simp only [eq_self, Nat.reduceEqDiff, if_true, if_false] at hownI hownS hownF
    simp only [putsV, List.foldl, Act.put, List.setIfInBounds_toArray, List.set_cons_zero, List.set_cons_succ]
    generalize vs 8 = wI at hownI ⊢
    generalize vs 14 = wS at hownS ⊢
    generalize vs 20 = wF at hownF ⊢
    generalize vs 3 = e3
    generalize vs 7 = e7
    generalize vs 9 = e9
    generalize vs 13 = e13
    generalize vs 15 = e15
    generalize vs 19 = e19
    clear hall
    obtain ⟨_, kI, rfl, _, _⟩ := own_slice hownI
    obtain ⟨gI, rfl, hgIl, _, _⟩ := own_at hownI lpI
    obtain ⟨_, kS, rfl, _, _⟩ := own_slice hownS
    obtain ⟨gS, rfl, hgSl, _, _⟩ := own_at hownS lpS
    obtain ⟨_, kF, rfl, _, _⟩ := own_slice hownF
    obtain ⟨gF, rfl, hgFl, _, _⟩ := own_at hownF lpF
    have kbW := HO.out.blk.below (HB11.out.trans (hbW.mono HB11.out.size)) HO.out.blk.lt
    have y2 : W.cell? ⟨gb, 2, none⟩ = some (.slice AF c.flows.length cF) := kbW.cell 2
    have y3 : W.cell? ⟨gb, 3, none⟩ = some (.slice AI c.items.length cI) := kbW.cell 3
    have y4 : W.cell? ⟨gb, 4, none⟩ = some (.slice AS c.seqs.length cS) := kbW.cell 4
    have f2 : W.frozen? ⟨gb, 2, none⟩ = false := kbW.frozen 2
    have f3 : W.frozen? ⟨gb, 3, none⟩ = false := kbW.frozen 3
    have f4 : W.frozen? ⟨gb, 4, none⟩ = false := kbW.frozen 4
    have lgbW := kbW.lt
    have hE := ed_startB HO.out HB11.out HKD.out hbW hownI hownF hownS
    obtain ⟨T, hT⟩ : ∃ T, T = ((W.setCell ⟨gb, 3, none⟩ (.slice (some ⟨gI, 0, none⟩) c.items.length kI)).setCell ⟨gb, 4, none⟩ (.slice (some ⟨gS, 0, none⟩) c.seqs.length kS)).setCell ⟨gb, 2, none⟩ (.slice (some ⟨gF, 0, none⟩) c.flows.length kF) := ⟨_, rfl⟩
    rw [← hT] at hE
    have HET := Lib.hid hE
    have HT := Lib.hid hT.symm
    clear hE hT hownI hownF hownS kbW hgIl hgFl hgSl hbW d0 d1 q0 q1 q2 q3 q4
    refine ht_take 21 (v := ?va_13) rfl (by kernel_rfl) (fun _ _ _ h => h) (Or.inl ⟨by rfl, ?ha_13⟩) hHeld ?ra_13
    case ha_13 => ((intro U _; go_simp); (try (with_reducible rfl)))
    try simp only [Act.put, List.setIfInBounds_toArray, List.set_cons_zero, List.set_cons_succ]
    refine ht_take 22 (v := ?va_14) rfl (by kernel_rfl) (fun _ _ _ h => h) (Or.inl ⟨by rfl, ?ha_14⟩) hHeld ?ra_14
    case ha_14 => ((intro U _; go_simp); (try (with_reducible rfl)))
    try simp only [Act.put, List.setIfInBounds_toArray, List.set_cons_zero, List.set_cons_succ]
    refine ht_one 23 rfl (by kernel_rfl) (fun K hK => ?_)
    go_simp
    refine hK.out _ _ trivial (fun hHeld => ?_)
    clear hK K
    try simp only [Act.put, List.setIfInBounds_toArray, List.set_cons_zero, List.set_cons_succ]
    refine ht_take 24 (v := ?va_15) rfl (by kernel_rfl) (fun _ _ _ h => h) (Or.inl ⟨by rfl, ?ha_15⟩) hHeld ?ra_15
    case ha_15 => ((intro U _; go_simp); (try (with_reducible rfl)))
    try simp only [Act.put, List.setIfInBounds_toArray, List.set_cons_zero, List.set_cons_succ]
    refine ht_take 25 (v := ?va_16) rfl (by kernel_rfl) (fun _ _ _ h => h) (Or.inl ⟨by rfl, ?ha_16⟩) hHeld ?ra_16
    case ha_16 => ((intro U _; go_simp); (try (with_reducible rfl)))
    try simp only [Act.put, List.setIfInBounds_toArray, List.set_cons_zero, List.set_cons_succ]
    refine ht_one 26 rfl (by kernel_rfl) (fun K hK => ?_)
    go_simp
    refine hK.out _ _ trivial (fun hHeld => ?_)
    clear hK K
    try simp only [Act.put, List.setIfInBounds_toArray, List.set_cons_zero, List.set_cons_succ]
    refine ht_take 27 (v := ?va_17) rfl (by kernel_rfl) (fun _ _ _ h => h) (Or.inl ⟨by rfl, ?ha_17⟩) hHeld ?ra_17
    case ha_17 => ((intro U _; go_simp); (try (with_reducible rfl)))
    try simp only [Act.put, List.setIfInBounds_toArray, List.set_cons_zero, List.set_cons_succ]
    refine ht_take 28 (v := ?va_18) rfl (by kernel_rfl) (fun _ _ _ h => h) (Or.inl ⟨by rfl, ?ha_18⟩) hHeld ?ra_18
    case ha_18 => ((intro U _; go_simp); (try (with_reducible rfl)))
    try simp only [Act.put, List.setIfInBounds_toArray, List.set_cons_zero, List.set_cons_succ]
    refine ht_done (by kernel_rfl) rfl ?_
    go_upto_region 4 with fail
    rw [HT.out]
    clear HT y2 y3 y4 f2 f3 f4 lgbW
    have z2 : T.cell? ⟨gb, 2, none⟩ = some (.slice (some ⟨gF, 0, none⟩) c.flows.length kF) := HET.out.blk.cell 2
    have z3 : T.cell? ⟨gb, 3, none⟩ = some (.slice (some ⟨gI, 0, none⟩) c.items.length kI) := HET.out.blk.cell 3
    have z4 : T.cell? ⟨gb, 4, none⟩ = some (.slice (some ⟨gS, 0, none⟩) c.seqs.length kS) := HET.out.blk.cell 4
    have lgbV := HET.out.blk.lt
    have hkind : ∀ (i : Nat) (hi : i < c.items.length), T.cell? ⟨gI, i * 10, none⟩ = some (.int .i64 c.items[i].kind) := fun i hi => by
      obtain ⟨vs, hvl, hvs, hva⟩ := rdl_at itemC_len i hi (HO.out.itemL HET.out.gr)
      obtain ⟨v3, v4, v7, v8, v9, rfl, _⟩ := rd_itemC.1 hvs
      rw [HET.out.oI.cellAt _ (by omega), ← Nat.add_zero (i * 10), hva 0 (by omega)]
      rfl
    have HKIND := Lib.hid hkind
    clear hkind
    go_upto_region 6 with fail
    go_wp2_with fail
    go_loop [12, 13] (fun kv iv => ∃ (i : Nat) (kk : Int), i ≤ c.items.length ∧ iv = .int .i64 i ∧ kv = .int .i64 kk ∧ Hid (KInv c.items i kk)) (fun _ iv => c.items.length - (intOf iv).toNat)
    case atStart => exact ⟨0, -1, Nat.zero_le _, rfl, rfl, Lib.hid (.inl ⟨rfl, by simp⟩)⟩
    case round =>
      obtain ⟨i, kk, hi, rfl, rfl, hinv⟩ := hrel
      by_cases hlt : i < c.items.length
      · have hk0 := HKIND.out i hlt
        have hiI : (i : Int) < (c.items.length : Int) := by omega
        by_cases h3 : c.items[i].kind = 3
        · have hkb : (c.items[i].kind == 3) = true := by simp [h3]
          have HN := Lib.hid (show KInv c.items (i + 1) (i : Int) from .inr ⟨i, hlt, rfl, h3⟩)
          have hinv2 : 0 ≤ kk → KInv c.items (i + 1) kk := fun h0 => by
            rcases hinv.out with ⟨h, _⟩ | h
            · omega
            · exact .inr h
          generalize c.items[i].kind = kd at hk0 hkb
          clear h3 hinv
          by_cases hneg : kk < 0
          · clear hinv2
            go_wp2_with fail
            go_round
            case rel => exact ⟨i + 1, (i : Int), by omega, by go_num, rfl, HN⟩
            case measure => simp [intOf]; omega
          · have HN2 := Lib.hid (hinv2 (by omega))
            have hnb : decide (kk < 0) = false := by simpa using hneg
            clear hinv2
            go_upto_if 84 with fail
            cases hbit : (bits BinOp.and IntKind.i64 (a2 / 2 ^ min (IntKind.u64.wrap (bits BinOp.and IntKind.i64 (i : Int) 15)).toNat 64) 1 == 1)
            · clear hbit HN
              go_wp2_with fail
              go_round
              case rel => exact ⟨i + 1, kk, by omega, by go_num, rfl, HN2⟩
              case measure => simp [intOf]; omega
            · clear hbit HN2
              go_wp2_with fail
              go_round
              case rel => exact ⟨i + 1, (i : Int), by omega, by go_num, rfl, HN⟩
              case measure => simp [intOf]; omega
        · have hkb : (c.items[i].kind == 3) = false := by simp [h3]
          have HN := Lib.hid (kinv_no hlt hinv.out h3)
          generalize c.items[i].kind = kd at hk0 hkb
          clear h3 hinv
          go_wp2_with fail
          go_round
          case rel => exact ⟨i + 1, kk, by omega, by go_num, rfl, HN⟩
          case measure => simp [intOf]; omega
      · have hil : i = c.items.length := by omega
        subst hil
        obtain ⟨j, hj, rfl, h3⟩ := kinv_end hinv.out HR.out.task
        have H3 := Lib.hid h3
        have hjI : (j : Int) < (c.items.length : Int) := by omega
        clear hinv h3 HKIND
        have hj3 : ¬ (c.items.length : Int) < 3 := by omega
        have hjn : ¬ (j : Int) < 0 := by omega
        obtain ⟨xx, hxx⟩ : ∃ y, y = c.items[j] := ⟨_, rfl⟩
        obtain ⟨vs, hvl, hvs, hva⟩ := rdl_at itemC_len j hj (HO.out.itemL HET.out.gr)
        rw [← hxx] at hvs
        obtain ⟨v3, v4, v7, v8, v9, rfl, hV3, hV4, hV7, _⟩ := rd_itemC.1 hvs
        have i1 : T.cell? ⟨gI, j * 10 + 1, none⟩ = some (.string xx.id) := by rw [HET.out.oI.cellAt _ (by omega), hva 1 (by omega)]; rfl
        have i2 : T.cell? ⟨gI, j * 10 + 2, none⟩ = some (.string xx.first) := by rw [HET.out.oI.cellAt _ (by omega), hva 2 (by omega)]; rfl
        have i3 : T.cell? ⟨gI, j * 10 + 3, none⟩ = some v3 := by rw [HET.out.oI.cellAt _ (by omega), hva 3 (by omega)]; rfl
        have i4 : T.cell? ⟨gI, j * 10 + 4, none⟩ = some v4 := by rw [HET.out.oI.cellAt _ (by omega), hva 4 (by omega)]; rfl
        have hkid : ∀ (i : Nat) (hi : i < c.items.length), T.cell? ⟨gI, i * 10, none⟩ = some (.int .i64 c.items[i].kind) ∧ T.cell? ⟨gI, i * 10 + 1, none⟩ = some (.string c.items[i].id) := fun i hi => by
          obtain ⟨vs, hvl, hvs, hva⟩ := rdl_at itemC_len i hi (HO.out.itemL HET.out.gr)
          obtain ⟨v3, v4, v7, v8, v9, rfl, _⟩ := rd_itemC.1 hvs
          refine ⟨?_, ?_⟩
          · rw [HET.out.oI.cellAt _ (by omega), ← Nat.add_zero (i * 10), hva 0 (by omega)]
            rfl
          · rw [HET.out.oI.cellAt _ (by omega), hva 1 (by omega)]
            rfl
        have e0 : c.items[0] = y0 := by simp [HR.out.head]
        have el : c.items[lm] = ye := by
          obtain ⟨_, h⟩ := HR.out.lastAt
          simpa only [HLM.out] using h
        obtain ⟨k0, k1⟩ := hkid 0 lpI
        obtain ⟨kl0, kl1⟩ := hkid lm hlmn
        rw [e0] at k0 k1
        rw [el] at kl0 kl1
        simp only [Nat.zero_mul, Nat.zero_add] at k0 k1
        obtain ⟨qq, hqq⟩ : ∃ y, y = c.seqs[0] := ⟨_, rfl⟩
        have ⟨s1, s2⟩ : T.cell? ⟨gS, 1, none⟩ = some (.string qq.src) ∧ T.cell? ⟨gS, 2, none⟩ = some (.string qq.dst) := by
          obtain ⟨vs, hvl, hvs, hva⟩ := rdl_at seqC_len 0 lpS (HO.out.seqL HET.out.gr)
          rw [← hqq] at hvs
          obtain rfl := rd_seqC hvs
          exact ⟨(HET.out.oS.cellAt _ (by omega)).trans (hva 1 (by omega)), (HET.out.oS.cellAt _ (by omega)).trans (hva 2 (by omega))⟩
        have fI : ∀ k, T.frozen? ⟨gI, k, none⟩ = false := fun k => HET.out.oI.frozenAt _
        have fi2 := fI (j * 10 + 2)
        have fi3 := fI (j * 10 + 3)
        have fi4 := fI (j * 10 + 4)
        have fk0 := fI 0
        have fkl := fI (lm * 10)
        have lgIT := (own_base HET.out.oI).2
        have lgST := (own_base HET.out.oS).2
        have hsI : (0 : Int) < (c.seqs.length : Int) := by omega
        have hiI : (0 : Int) < (c.items.length : Int) := by omega
        have HX := Lib.hid hxx
        have HQQ := Lib.hid hqq
        have HV3 := Lib.hid hV3
        have HV4 := Lib.hid hV4
        have HE0 := Lib.hid e0
        have HEL := Lib.hid el
        have f3 : T.frozen? ⟨gb, 3, none⟩ = false := HET.out.blk.frozen 3
        have f4 : T.frozen? ⟨gb, 4, none⟩ = false := HET.out.blk.frozen 4
        clear hvs hva hvl hxx hV3 hV4 hV7 fI hkid e0 el hqq z2
        go_upto_region 15 with fail
        go_upto_region 19 with fail
        rw [HQ.out]
        have hqs := HQ12.out
        clear HQ HQ12
        rcases hqs with rfl | rfl | rfl | rfl | rfl | rfl
        · obtain ⟨T2, hT2⟩ : ∃ T', T' = T.setCell ⟨gI, 0, none⟩ (.int .i64 4) := ⟨_, rfl⟩
          have hE2 := HET.out.putI (0 * 10 + 0) (.int .i64 4)
          rw [← hT2] at hE2
          have hBad := bad0 HR.out
          have HRC := Lib.hid (bad_end (Is := c.items.set 0 (setKind y0 4)) (Ss := c.seqs) HO.out hE2 (elem_set (y := setKind y0 4) itemC_len (show 0 < 10 by decide) c.items 0 lpI xsI (fun vs hv => by
            rw [HE0.out] at hv
            obtain ⟨v3, v4, v7, v8, v9, rfl, hV⟩ := rd_itemC.1 hv
            exact rd_itemC.2 ⟨v3, v4, v7, v8, v9, rfl, hV⟩) (HO.out.itemL hE2.gr)) (HO.out.seqL hE2.gr) (by simp) (by simp) hBad)
          have HB9 := Lib.hid (gr_end HO.out.bel hE2.gr HO.out.ge HO.out.bel.size)
          have HT2 := Lib.hid hT2.symm
          clear hBad hE2 hT2
          go_upto_region 51 with fail
          rw [HT2.out]
          exact bad_tail HRC HB9 (by rfl) (by rfl) (by assumption)
        
        · go_upto_region 22 with fail
          go_wp2_with (at_builtin; refine wpList_append_lies _ rfl (.tmp 149) (.tmp 151) _ rfl w1.heap.size 30 ii0 _ 10 184 Try.underlying24 hii0 hiz0 hiz1 hiz2 rfl (by omega) (.slice (some ⟨gI, 0, none⟩) c.items.length kI) c.items.length xsI rfl ((HET.out.alloc _).oI) ⟨T.heap.size, 0, none⟩ 1 1 [.int .i64 1, .string ⟨#[122, 122]⟩, .string ⟨#[]⟩, .slice none 0 0, .slice none 0 0, .bool false, .string ⟨#[]⟩, .slice none 0 0, .slice none 0 0, .slice none 0 0] rfl rfl (World.news_of_block (cs := #[.int .i64 1, .string ⟨#[122, 122]⟩, .string ⟨#[]⟩, .slice none 0 0, .slice none 0 0, .bool false, .string ⟨#[]⟩, .slice none 0 0, .slice none 0 0, .slice none 0 0]) (t := 30) (fr := (0, 0)) (heap_alloc_new T _)) (by simp [Value.oneCell']) (by omega) (by unfold maxLen; omega) (by omega) (by have := HET.out.gr.size; simp at this ⊢; omega) (T.heap.size + 1) (by simp) ?_)
          intro gA capA w2 hownI hgrow _ _
          have hEA := (HET.out.alloc (.cells #[.int .i64 1, .string ⟨#[122, 122]⟩, .string ⟨#[]⟩, .slice none 0 0, .slice none 0 0, .bool false, .string ⟨#[]⟩, .slice none 0 0, .slice none 0 0, .slice none 0 0] 30)).appI hgrow hownI
          have HEA := Lib.hid hEA
          clear hEA hgrow hownI
          have y3 : w2.cell? ⟨gb, 3, none⟩ = some (.slice (some ⟨gI, 0, none⟩) c.items.length kI) := HEA.out.blk.cell 3
          have y3f : w2.frozen? ⟨gb, 3, none⟩ = false := HEA.out.blk.frozen 3
          have y3l := HEA.out.blk.lt
          obtain ⟨T2, hT2⟩ : ∃ T', T' = w2.setCell ⟨gb, 3, none⟩ (.slice (some ⟨gA, 0, none⟩) (c.items.length + 1) capA) := ⟨_, rfl⟩
          have hE2 := HEA.out.putB3 (.slice (some ⟨gA, 0, none⟩) (c.items.length + 1) capA)
          rw [← hT2] at hE2
          have hBad := bad1 HR.out
          have HRC := Lib.hid (bad_end (Is := c.items ++ [newI 1 122]) (Ss := c.seqs) HO.out hE2 (by rw [List.flatMap_append, List.flatMap_cons, List.flatMap_nil, List.append_nil]; exact RdL.append (HO.out.itemL hE2.gr) (rd_itemC.2 ⟨_, _, _, _, _, rfl, rd_nilC, rd_nilC, rd_nilC, rd_nilC, rd_nilC⟩)) (HO.out.seqL hE2.gr) (by simp) (by simp) hBad)
          have HB9 := Lib.hid (gr_end HO.out.bel hE2.gr HO.out.ge HO.out.bel.size)
          have HT2 := Lib.hid hT2.symm
          clear hBad hE2 hT2
          go_upto_region 51 with fail
          rw [HT2.out]
          exact bad_tail HRC HB9 (by rfl) (by rfl) (by assumption)
        
        · obtain ⟨T2, hT2⟩ : ∃ T', T' = T.setCell ⟨gI, lm * 10, none⟩ (.int .i64 4) := ⟨_, rfl⟩
          have hE2 := HET.out.putI (lm * 10) (.int .i64 4)
          rw [← hT2] at hE2
          have hBad := bad2 HR.out
          rw [← HLM.out] at hBad
          have HRC := Lib.hid (bad_end (Is := c.items.set lm (setKind ye 4)) (Ss := c.seqs) HO.out hE2 (elem_set (y := setKind ye 4) itemC_len (show 0 < 10 by decide) c.items lm hlmn xsI (fun vs hv => by
            rw [HEL.out] at hv
            obtain ⟨v3, v4, v7, v8, v9, rfl, hV⟩ := rd_itemC.1 hv
            exact rd_itemC.2 ⟨v3, v4, v7, v8, v9, rfl, hV⟩) (HO.out.itemL hE2.gr)) (HO.out.seqL hE2.gr) (by simp) (by simp) hBad)
          have HB9 := Lib.hid (gr_end HO.out.bel hE2.gr HO.out.ge HO.out.bel.size)
          have HT2 := Lib.hid hT2.symm
          clear hBad hE2 hT2
          go_upto_region 51 with fail
          rw [HT2.out]
          exact bad_tail HRC HB9 (by rfl) (by rfl) (by assumption)
        
        · have HYS : ∀ U, (fun U => Blk U gb 54 (chCs c.id (.slice AP c.parts.length cP) (.slice (some ⟨gF, 0, none⟩) c.flows.length kF) (.slice (some ⟨gI, 0, none⟩) c.items.length kI) (.slice (some ⟨gS, 0, none⟩) c.seqs.length kS) xs) ∧ U.ownsRow w1.heap.size 30 10 (.slice (some ⟨gI, 0, none⟩) c.items.length kI) c.items.length xsI) U → U.cell? ⟨gb, 4, none⟩ = some (.slice (some ⟨gS, 0, none⟩) c.seqs.length kS) ∧ U.cell? ⟨gb, 3, none⟩ = some (.slice (some ⟨gI, 0, none⟩) c.items.length kI) ∧ U.cell? ⟨gI, j * 10 + 1, none⟩ = some (.string xx.id) ∧ U.cell? ⟨gI, 1, none⟩ = some (.string y0.id) := fun U hSw => ⟨hSw.1.cell 4, hSw.1.cell 3, (hSw.2.cellAt _ (by omega)).trans ((HET.out.oI.cellAt _ (by omega)).symm.trans i1), (hSw.2.cellAt _ (by omega)).trans ((HET.out.oI.cellAt _ (by omega)).symm.trans k1)⟩
          have HYS := Lib.hid HYS
          go_upto_region 26 with fail
          refine wp_region_HT 18 (fun U => Blk U gb 54 (chCs c.id (.slice AP c.parts.length cP) (.slice (some ⟨gF, 0, none⟩) c.flows.length kF) (.slice (some ⟨gI, 0, none⟩) c.items.length kI) (.slice (some ⟨gS, 0, none⟩) c.seqs.length kS) xs) ∧ U.ownsRow w1.heap.size 30 10 (.slice (some ⟨gI, 0, none⟩) c.items.length kI) c.items.length xsI) (by kernel_rfl) (by decide) (⟨HET.out.blk, HET.out.oI⟩) (fun hHeld => ?_)
          refine ht_take 0 (v := ?vw3_1) rfl (by kernel_rfl) (fun _ _ _ h => h) (Or.inl ⟨by rfl, ?hw3_1⟩) hHeld ?rw3_1
          case hw3_1 => ((intro U hS; obtain ⟨z4, z3, zx, z0⟩ := HYS.out U hS; go_simp); (try (with_reducible rfl)))
          try simp only [Act.put, List.setIfInBounds_toArray, List.set_cons_zero, List.set_cons_succ]
          refine ht_take 1 (v := ?vw3_2) rfl (by kernel_rfl) (fun _ _ _ h => h) (Or.inl ⟨by rfl, ?hw3_2⟩) hHeld ?rw3_2
          case hw3_2 => ((intro U hS; obtain ⟨z4, z3, zx, z0⟩ := HYS.out U hS; go_simp); (try (with_reducible rfl)))
          try simp only [Act.put, List.setIfInBounds_toArray, List.set_cons_zero, List.set_cons_succ]
          refine ht_take 2 (v := ?vw3_3) rfl (by kernel_rfl) (fun _ _ _ h => h) (Or.inl ⟨by rfl, ?hw3_3⟩) hHeld ?rw3_3
          case hw3_3 => ((intro U hS; obtain ⟨z4, z3, zx, z0⟩ := HYS.out U hS; go_simp); (try (with_reducible rfl)))
          try simp only [Act.put, List.setIfInBounds_toArray, List.set_cons_zero, List.set_cons_succ]
          refine ht_take 3 (v := ?vw3_4) rfl (by kernel_rfl) (fun _ _ _ h => h) (Or.inl ⟨by rfl, ?hw3_4⟩) hHeld ?rw3_4
          case hw3_4 => ((intro U hS; obtain ⟨z4, z3, zx, z0⟩ := HYS.out U hS; go_simp); (try (with_reducible rfl)))
          try simp only [Act.put, List.setIfInBounds_toArray, List.set_cons_zero, List.set_cons_succ]
          refine ht_take 4 (v := ?vw3_5) rfl (by kernel_rfl) (fun _ _ _ h => h) (Or.inl ⟨by rfl, ?hw3_5⟩) hHeld ?rw3_5
          case hw3_5 => ((intro U hS; obtain ⟨z4, z3, zx, z0⟩ := HYS.out U hS; go_simp); (try (with_reducible rfl)))
          try simp only [Act.put, List.setIfInBounds_toArray, List.set_cons_zero, List.set_cons_succ]
          refine ht_take 5 (v := ?vw3_6) rfl (by kernel_rfl) (fun _ _ _ h => h) (Or.inl ⟨by rfl, ?hw3_6⟩) hHeld ?rw3_6
          case hw3_6 => ((intro U hS; obtain ⟨z4, z3, zx, z0⟩ := HYS.out U hS; go_simp); (try (with_reducible rfl)))
          try simp only [Act.put, List.setIfInBounds_toArray, List.set_cons_zero, List.set_cons_succ]
          refine ht_take 6 (v := ?vw3_7) rfl (by kernel_rfl) (fun _ _ _ h => h) (Or.inl ⟨by rfl, ?hw3_7⟩) hHeld ?rw3_7
          case hw3_7 => ((intro U hS; obtain ⟨z4, z3, zx, z0⟩ := HYS.out U hS; go_simp); (try (with_reducible rfl)))
          try simp only [Act.put, List.setIfInBounds_toArray, List.set_cons_zero, List.set_cons_succ]
          refine ht_take 7 (v := ?vw3_8) rfl (by kernel_rfl) (fun _ _ _ h => h) (Or.inl ⟨by rfl, ?hw3_8⟩) hHeld ?rw3_8
          case hw3_8 => ((intro U hS; obtain ⟨z4, z3, zx, z0⟩ := HYS.out U hS; go_simp); (try (with_reducible rfl)))
          try simp only [Act.put, List.setIfInBounds_toArray, List.set_cons_zero, List.set_cons_succ]
          refine ht_take 8 (v := ?vw3_9) rfl (by kernel_rfl) (fun _ _ _ h => h) (Or.inl ⟨by rfl, ?hw3_9⟩) hHeld ?rw3_9
          case hw3_9 => ((intro U hS; obtain ⟨z4, z3, zx, z0⟩ := HYS.out U hS; go_simp); (try (with_reducible rfl)))
          try simp only [Act.put, List.setIfInBounds_toArray, List.set_cons_zero, List.set_cons_succ]
          refine ht_take 9 (v := ?vw3_10) rfl (by kernel_rfl) (fun _ _ _ h => h) (Or.inl ⟨by rfl, ?hw3_10⟩) hHeld ?rw3_10
          case hw3_10 => ((intro U hS; obtain ⟨z4, z3, zx, z0⟩ := HYS.out U hS; go_simp); (try (with_reducible rfl)))
          try simp only [Act.put, List.setIfInBounds_toArray, List.set_cons_zero, List.set_cons_succ]
          refine ht_take 10 (v := ?vw3_11) rfl (by kernel_rfl) (fun _ _ _ h => h) (Or.inl ⟨by rfl, ?hw3_11⟩) hHeld ?rw3_11
          case hw3_11 => ((intro U hS; obtain ⟨z4, z3, zx, z0⟩ := HYS.out U hS; go_simp); (try (with_reducible rfl)))
          try simp only [Act.put, List.setIfInBounds_toArray, List.set_cons_zero, List.set_cons_succ]
          refine ht_take 11 (v := ?vw3_12) rfl (by kernel_rfl) (fun _ _ _ h => h) (Or.inl ⟨by rfl, ?hw3_12⟩) hHeld ?rw3_12
          case hw3_12 => ((intro U hS; obtain ⟨z4, z3, zx, z0⟩ := HYS.out U hS; go_simp); (try (with_reducible rfl)))
          try simp only [Act.put, List.setIfInBounds_toArray, List.set_cons_zero, List.set_cons_succ]
          refine ht_take 12 (v := ?vw3_13) rfl (by kernel_rfl) (fun _ _ _ h => h) (Or.inl ⟨by rfl, ?hw3_13⟩) hHeld ?rw3_13
          case hw3_13 => ((intro U hS; obtain ⟨z4, z3, zx, z0⟩ := HYS.out U hS; go_simp); (try (with_reducible rfl)))
          try simp only [Act.put, List.setIfInBounds_toArray, List.set_cons_zero, List.set_cons_succ]
          refine ht_take 13 (v := ?vw3_14) rfl (by kernel_rfl) (fun _ _ _ h => h) (Or.inl ⟨by rfl, ?hw3_14⟩) hHeld ?rw3_14
          case hw3_14 => ((intro U hS; obtain ⟨z4, z3, zx, z0⟩ := HYS.out U hS; go_simp); (try (with_reducible rfl)))
          try simp only [Act.put, List.setIfInBounds_toArray, List.set_cons_zero, List.set_cons_succ]
          refine ht_one 14 rfl (by kernel_rfl) (fun K hK => ?_)
          go_simp
          refine hK.out _ _ (⟨hHeld.1.alloc _, hHeld.2.alloc _⟩) (fun hHeld => ?_)
          clear hK K
          try simp only [Act.put, List.setIfInBounds_toArray, List.set_cons_zero, List.set_cons_succ]
          refine ht_one 15 rfl (by kernel_rfl) (fun K hK => ?_)
          refine step_append_lies _ (by rfl) (.tmp 171) (.tmp 181) _ (by rfl) w1.heap.size 33 si0 _ 3 48 Try.underlying25 hsi0 hsz0 hsz1 hsz2 rfl (by omega) (.slice (some ⟨gS, 0, none⟩) c.seqs.length kS) c.seqs.length xsS (by rfl) ((HET.out.drew.alloc _).oS) ⟨T.drew.heap.size, 0, none⟩ 1 1 [.string ⟨#[122, 122]⟩, .string xx.id, .string xx.id] (by rfl) (by rfl) (World.news_of_block (cs := #[.string ⟨#[122, 122]⟩, .string xx.id, .string xx.id]) (t := 33) (fr := (0, 0)) (heap_alloc_new T.drew _)) (by simp [Value.oneCell']) (by omega) (by unfold maxLen; omega) (by omega) (by have := HET.out.gr.size; simp at this ⊢; omega) (T.drew.heap.size + 1) (by simp) ?_
          intro gA capA w2 hownS hgrow _ _
          refine hK.out _ _ (⟨hHeld.1.grown hgrow (Ne.symm (blk_own_ne HET.out.oS HET.out.blk (by decide))), hHeld.2.kept hgrow (own_own_ne hHeld.2 (HET.out.drew.alloc (.cells #[.string ⟨#[122, 122]⟩, .string xx.id, .string xx.id] 33)).oS (by decide))⟩) (fun hHeld => ?_)
          clear hK K
          try simp only [Act.put, List.setIfInBounds_toArray, List.set_cons_zero, List.set_cons_succ]
          refine ht_take 16 (v := ?vw3_15) rfl (by kernel_rfl) (fun _ _ _ h => h) (Or.inl ⟨by rfl, ?hw3_15⟩) hHeld ?rw3_15
          case hw3_15 => ((intro U hS; obtain ⟨z4, z3, zx, z0⟩ := HYS.out U hS; go_simp); (try (with_reducible rfl)))
          try simp only [Act.put, List.setIfInBounds_toArray, List.set_cons_zero, List.set_cons_succ]
          refine ht_take 17 (v := ?vw3_16) rfl (by kernel_rfl) (fun _ _ _ h => h) (Or.inl ⟨by rfl, ?hw3_16⟩) hHeld ?rw3_16
          case hw3_16 => ((intro U hS; obtain ⟨z4, z3, zx, z0⟩ := HYS.out U hS; go_simp); (try (with_reducible rfl)))
          try simp only [Act.put, List.setIfInBounds_toArray, List.set_cons_zero, List.set_cons_succ]
          refine ht_done (by kernel_rfl) rfl ?_
          have hEA := (HET.out.drew.alloc (.cells #[.string ⟨#[122, 122]⟩, .string xx.id, .string xx.id] 33)).appS hgrow hownS
          have HEA := Lib.hid hEA
          clear hEA hHeld hgrow hownS
          have y4 : w2.cell? ⟨gb, 4, none⟩ = some (.slice (some ⟨gS, 0, none⟩) c.seqs.length kS) := HEA.out.blk.cell 4
          have y4f : w2.frozen? ⟨gb, 4, none⟩ = false := HEA.out.blk.frozen 4
          have y4l := HEA.out.blk.lt
          obtain ⟨T2, hT2⟩ : ∃ T', T' = w2.setCell ⟨gb, 4, none⟩ (.slice (some ⟨gA, 0, none⟩) (c.seqs.length + 1) capA) := ⟨_, rfl⟩
          have hE2 := HEA.out.putB4 (.slice (some ⟨gA, 0, none⟩) (c.seqs.length + 1) capA)
          rw [← hT2] at hE2
          have hBad := (show BadR (withI c c.items (c.seqs ++ [newQ 122 xx.id xx.id])) 7 ⟨#[122, 122]⟩ from bad_seq HR.out xx.id xx.id ⟨xx, by rw [HX.out]; exact List.getElem_mem hj, rfl⟩ ⟨xx, by rw [HX.out]; exact List.getElem_mem hj, rfl⟩ (.inl rfl))
          have HRC := Lib.hid (bad_end (Is := c.items) (Ss := c.seqs ++ [newQ 122 xx.id xx.id]) HO.out hE2 (HO.out.itemL hE2.gr) (by rw [List.flatMap_append]; exact RdL.append (HO.out.seqL hE2.gr) (rdl_cons.2 ⟨_, _, rfl, rd_str.2 rfl, rdl_cons.2 ⟨_, _, rfl, rd_str.2 rfl, rdl_cons.2 ⟨_, _, rfl, rd_str.2 rfl, rdl_nil.2 rfl⟩⟩⟩)) (by simp) (by simp) hBad)
          have HB9 := Lib.hid (gr_end HO.out.bel hE2.gr HO.out.ge HO.out.bel.size)
          have HT2 := Lib.hid hT2.symm
          clear hBad hE2 hT2
          go_upto_region 51 with fail
          rw [HT2.out]
          exact bad_tail HRC HB9 (by rfl) (by rfl) (by assumption)
        · obtain ⟨aS, bS_, fS, hTS, _⟩ := HR.out.at_ hj H3.out
          rw [← HX.out] at hTS
        
          obtain ⟨AQ, cQ, rfl⟩ := rd_form HV3.out
          obtain ⟨_, _, hvQ, _, _, hat⟩ := rd_at strC_len HV3.out
          injection hvQ with e1 e2 e3
          clear e2
          subst e1
          subst e3
          have hQ0 : 1 < xx.parts.length := by rw [hTS.parts]; simp
          have hQI : (1 : Int) < (xx.parts.length : Int) := by omega
          obtain ⟨bQ, vs, rfl, hbQ, _, hvs, hcell⟩ := hat 1 hQ0
          obtain ⟨p0, hp0⟩ : ∃ p, p = part1 xx := ⟨_, rfl⟩
          have hp1 : xx.parts[1] = p0 := by rw [hp0]; unfold part1; simp [List.getD_eq_getElem?_getD, List.getElem?_eq_getElem hQ0]
          rw [hp1] at hvs
          obtain rfl := rd_strC hvs
          have eQ : T.cell? ⟨bQ, 1, none⟩ = some (.string p0) := hcell 0 (by omega)
          have HP0 := Lib.hid hp0
          clear hp0 hat hcell hvs hp1 hTS
          obtain ⟨T1, hT1⟩ : ∃ T', T' = T.setCell ⟨gI, j * 10 + 2, none⟩ (.string p0) := ⟨_, rfl⟩
          have hE1 := HET.out.putI (j * 10 + 2) (.string p0)
          rw [← hT1] at hE1
          have i1b : T1.cell? ⟨gI, j * 10 + 1, none⟩ = some (.string xx.id) := by
            rw [hE1.oI.cellAt _ (by omega), List.getElem?_set_ne (by omega), ← HET.out.oI.cellAt _ (by omega)]; exact i1
          have lgI1 := (own_base hE1.oI).2
          have HE1 := Lib.hid hE1
          have HT1 := Lib.hid hT1.symm
          clear hE1 hT1
          go_upto_region 50 with fail
          rw [HT1.out]
          clear HT1
          refine wp_region_HT 5 (fun U => Below T1.heap.size T1 U) (by kernel_rfl) (by decide) ((Below.refl _ _).drew) (fun hHeld => ?_)
          refine ht_take 0 (v := ?vw10_1) rfl (by kernel_rfl) (fun _ _ _ h => h) (Or.inl ⟨by rfl, ?hw10_1⟩) hHeld ?rw10_1
          case hw10_1 => ((intro U hSw; have z1 : U.cell? ⟨gI, j * 10 + 1, none⟩ = some (.string xx.id) := (hSw.cell (p := ⟨gI, j * 10 + 1, none⟩) lgI1).trans i1b; go_simp); (try (with_reducible rfl)))
          try simp only [Act.put, List.setIfInBounds_toArray, List.set_cons_zero, List.set_cons_succ]
          refine ht_take 1 (v := ?vw10_2) rfl (by kernel_rfl) (fun _ _ _ h => h) (Or.inl ⟨by rfl, ?hw10_2⟩) hHeld ?rw10_2
          case hw10_2 => ((intro U hSw; have z1 : U.cell? ⟨gI, j * 10 + 1, none⟩ = some (.string xx.id) := (hSw.cell (p := ⟨gI, j * 10 + 1, none⟩) lgI1).trans i1b; go_simp); (try (with_reducible rfl)))
          try simp only [Act.put, List.setIfInBounds_toArray, List.set_cons_zero, List.set_cons_succ]
          refine ht_take 2 (v := ?vw10_3) rfl (by kernel_rfl) (fun _ _ _ h => h) (Or.inl ⟨by rfl, ?hw10_3⟩) hHeld ?rw10_3
          case hw10_3 => ((intro U hSw; have z1 : U.cell? ⟨gI, j * 10 + 1, none⟩ = some (.string xx.id) := (hSw.cell (p := ⟨gI, j * 10 + 1, none⟩) lgI1).trans i1b; go_simp); (try (with_reducible rfl)))
          try simp only [Act.put, List.setIfInBounds_toArray, List.set_cons_zero, List.set_cons_succ]
          refine ht_take 3 (v := ?vw10_4) rfl (by kernel_rfl) (fun _ _ _ h => h) (Or.inl ⟨by rfl, ?hw10_4⟩) hHeld ?rw10_4
          case hw10_4 => ((intro U hSw; have z1 : U.cell? ⟨gI, j * 10 + 1, none⟩ = some (.string xx.id) := (hSw.cell (p := ⟨gI, j * 10 + 1, none⟩) lgI1).trans i1b; go_simp); (try (with_reducible rfl)))
          try simp only [Act.put, List.setIfInBounds_toArray, List.set_cons_zero, List.set_cons_succ]
          refine ht_take 4 (v := ?vw10_5) rfl (by kernel_rfl) (fun _ _ _ h => h) (Or.inl ⟨by rfl, ?hw10_5⟩) hHeld ?rw10_5
          case hw10_5 => ((intro U hSw; have z1 : U.cell? ⟨gI, j * 10 + 1, none⟩ = some (.string xx.id) := (hSw.cell (p := ⟨gI, j * 10 + 1, none⟩) lgI1).trans i1b; go_simp); (try (with_reducible rfl)))
          try simp only [Act.put, List.setIfInBounds_toArray, List.set_cons_zero, List.set_cons_succ]
          refine ht_done (by kernel_rfl) rfl ?_
          clear hHeld
          obtain ⟨T2, hT2⟩ : ∃ T', T' = T1.drew := ⟨_, rfl⟩
          have hE2 := HE1.out.drew
          rw [← hT2] at hE2
          have hBad := bad10 HR.out hj H3.out
          rw [← HX.out, ← HP0.out] at hBad
          have HRC := Lib.hid (bad_end (Is := c.items.set j (setFirst xx p0)) (Ss := c.seqs) HO.out hE2 (elem_set (y := setFirst xx p0) itemC_len (show 2 < 10 by decide) c.items j hj xsI (fun vs hv => by
            rw [← HX.out] at hv
            obtain ⟨v3, v4, v7, v8, v9, rfl, hV⟩ := rd_itemC.1 hv
            exact rd_itemC.2 ⟨v3, v4, v7, v8, v9, rfl, hV⟩) (HO.out.itemL hE2.gr)) (HO.out.seqL hE2.gr) (by simp) (by simp) hBad)
          have HB9 := Lib.hid (gr_end HO.out.bel hE2.gr HO.out.ge HO.out.bel.size)
          have HT2 := Lib.hid hT2.symm
          clear hBad hE2 hT2
          go_upto_region 51 with fail
          rw [HT2.out]
          exact bad_tail HRC HB9 (by rfl) (by rfl) (by assumption)
        · have hqm : qq ∈ c.seqs := by rw [HQQ.out]; exact List.getElem_mem lpS
          have HQM := Lib.hid hqm
          clear hqm
          have HYS : ∀ U, (fun U => Blk U gb 54 (chCs c.id (.slice AP c.parts.length cP) (.slice (some ⟨gF, 0, none⟩) c.flows.length kF) (.slice (some ⟨gI, 0, none⟩) c.items.length kI) (.slice (some ⟨gS, 0, none⟩) c.seqs.length kS) xs) ∧ U.ownsRow w1.heap.size 30 10 (.slice (some ⟨gI, 0, none⟩) c.items.length kI) c.items.length xsI) U → U.cell? ⟨gb, 4, none⟩ = some (.slice (some ⟨gS, 0, none⟩) c.seqs.length kS) ∧ U.cell? ⟨gb, 3, none⟩ = some (.slice (some ⟨gI, 0, none⟩) c.items.length kI) ∧ U.cell? ⟨gI, j * 10 + 1, none⟩ = some (.string xx.id) ∧ U.cell? ⟨gI, 1, none⟩ = some (.string y0.id) := fun U hSw => ⟨hSw.1.cell 4, hSw.1.cell 3, (hSw.2.cellAt _ (by omega)).trans ((HET.out.oI.cellAt _ (by omega)).symm.trans i1), (hSw.2.cellAt _ (by omega)).trans ((HET.out.oI.cellAt _ (by omega)).symm.trans k1)⟩
          have HYS := Lib.hid HYS
          go_upto_region 29 with fail
          refine wp_region_HT 24 (fun U => Blk U gb 54 (chCs c.id (.slice AP c.parts.length cP) (.slice (some ⟨gF, 0, none⟩) c.flows.length kF) (.slice (some ⟨gI, 0, none⟩) c.items.length kI) (.slice (some ⟨gS, 0, none⟩) c.seqs.length kS) xs) ∧ U.ownsRow w1.heap.size 30 10 (.slice (some ⟨gI, 0, none⟩) c.items.length kI) c.items.length xsI) (by kernel_rfl) (by decide) (⟨HET.out.blk, HET.out.oI⟩) (fun hHeld => ?_)
          refine ht_take 0 (v := ?vw4_1) rfl (by kernel_rfl) (fun _ _ _ h => h) (Or.inl ⟨by rfl, ?hw4_1⟩) hHeld ?rw4_1
          case hw4_1 => ((intro U hS; obtain ⟨z4, z3, zx, z0⟩ := HYS.out U hS; go_simp); (try (with_reducible rfl)))
          try simp only [Act.put, List.setIfInBounds_toArray, List.set_cons_zero, List.set_cons_succ]
          refine ht_take 1 (v := ?vw4_2) rfl (by kernel_rfl) (fun _ _ _ h => h) (Or.inl ⟨by rfl, ?hw4_2⟩) hHeld ?rw4_2
          case hw4_2 => ((intro U hS; obtain ⟨z4, z3, zx, z0⟩ := HYS.out U hS; go_simp); (try (with_reducible rfl)))
          try simp only [Act.put, List.setIfInBounds_toArray, List.set_cons_zero, List.set_cons_succ]
          refine ht_take 2 (v := ?vw4_3) rfl (by kernel_rfl) (fun _ _ _ h => h) (Or.inl ⟨by rfl, ?hw4_3⟩) hHeld ?rw4_3
          case hw4_3 => ((intro U hS; obtain ⟨z4, z3, zx, z0⟩ := HYS.out U hS; go_simp); (try (with_reducible rfl)))
          try simp only [Act.put, List.setIfInBounds_toArray, List.set_cons_zero, List.set_cons_succ]
          refine ht_take 3 (v := ?vw4_4) rfl (by kernel_rfl) (fun _ _ _ h => h) (Or.inl ⟨by rfl, ?hw4_4⟩) hHeld ?rw4_4
          case hw4_4 => ((intro U hS; obtain ⟨z4, z3, zx, z0⟩ := HYS.out U hS; go_simp); (try (with_reducible rfl)))
          try simp only [Act.put, List.setIfInBounds_toArray, List.set_cons_zero, List.set_cons_succ]
          refine ht_take 4 (v := ?vw4_5) rfl (by kernel_rfl) (fun _ _ _ h => h) (Or.inl ⟨by rfl, ?hw4_5⟩) hHeld ?rw4_5
          case hw4_5 => ((intro U hS; obtain ⟨z4, z3, zx, z0⟩ := HYS.out U hS; go_simp); (try (with_reducible rfl)))
          try simp only [Act.put, List.setIfInBounds_toArray, List.set_cons_zero, List.set_cons_succ]
          refine ht_take 5 (v := ?vw4_6) rfl (by kernel_rfl) (fun _ _ _ h => h) (Or.inl ⟨by rfl, ?hw4_6⟩) hHeld ?rw4_6
          case hw4_6 => ((intro U hS; obtain ⟨z4, z3, zx, z0⟩ := HYS.out U hS; go_simp); (try (with_reducible rfl)))
          try simp only [Act.put, List.setIfInBounds_toArray, List.set_cons_zero, List.set_cons_succ]
          refine ht_take 6 (v := ?vw4_7) rfl (by kernel_rfl) (fun _ _ _ h => h) (Or.inl ⟨by rfl, ?hw4_7⟩) hHeld ?rw4_7
          case hw4_7 => ((intro U hS; obtain ⟨z4, z3, zx, z0⟩ := HYS.out U hS; go_simp); (try (with_reducible rfl)))
          try simp only [Act.put, List.setIfInBounds_toArray, List.set_cons_zero, List.set_cons_succ]
          refine ht_take 7 (v := ?vw4_8) rfl (by kernel_rfl) (fun _ _ _ h => h) (Or.inl ⟨by rfl, ?hw4_8⟩) hHeld ?rw4_8
          case hw4_8 => ((intro U hS; obtain ⟨z4, z3, zx, z0⟩ := HYS.out U hS; go_simp); (try (with_reducible rfl)))
          try simp only [Act.put, List.setIfInBounds_toArray, List.set_cons_zero, List.set_cons_succ]
          refine ht_take 8 (v := ?vw4_9) rfl (by kernel_rfl) (fun _ _ _ h => h) (Or.inl ⟨by rfl, ?hw4_9⟩) hHeld ?rw4_9
          case hw4_9 => ((intro U hS; obtain ⟨z4, z3, zx, z0⟩ := HYS.out U hS; go_simp); (try (with_reducible rfl)))
          try simp only [Act.put, List.setIfInBounds_toArray, List.set_cons_zero, List.set_cons_succ]
          refine ht_take 9 (v := ?vw4_10) rfl (by kernel_rfl) (fun _ _ _ h => h) (Or.inl ⟨by rfl, ?hw4_10⟩) hHeld ?rw4_10
          case hw4_10 => ((intro U hS; obtain ⟨z4, z3, zx, z0⟩ := HYS.out U hS; go_simp); (try (with_reducible rfl)))
          try simp only [Act.put, List.setIfInBounds_toArray, List.set_cons_zero, List.set_cons_succ]
          refine ht_take 10 (v := ?vw4_11) rfl (by kernel_rfl) (fun _ _ _ h => h) (Or.inl ⟨by rfl, ?hw4_11⟩) hHeld ?rw4_11
          case hw4_11 => ((intro U hS; obtain ⟨z4, z3, zx, z0⟩ := HYS.out U hS; go_simp); (try (with_reducible rfl)))
          try simp only [Act.put, List.setIfInBounds_toArray, List.set_cons_zero, List.set_cons_succ]
          refine ht_take 12 (v := ?vw4_12) rfl (by kernel_rfl) (fun _ _ _ h => h) (Or.inl ⟨by rfl, ?hw4_12⟩) hHeld ?rw4_12
          case hw4_12 => ((intro U hS; obtain ⟨z4, z3, zx, z0⟩ := HYS.out U hS; go_simp); (try (with_reducible rfl)))
          try simp only [Act.put, List.setIfInBounds_toArray, List.set_cons_zero, List.set_cons_succ]
          refine ht_take 13 (v := ?vw4_13) rfl (by kernel_rfl) (fun _ _ _ h => h) (Or.inl ⟨by rfl, ?hw4_13⟩) hHeld ?rw4_13
          case hw4_13 => ((intro U hS; obtain ⟨z4, z3, zx, z0⟩ := HYS.out U hS; go_simp); (try (with_reducible rfl)))
          try simp only [Act.put, List.setIfInBounds_toArray, List.set_cons_zero, List.set_cons_succ]
          refine ht_take 14 (v := ?vw4_14) rfl (by kernel_rfl) (fun _ _ _ h => h) (Or.inl ⟨by rfl, ?hw4_14⟩) hHeld ?rw4_14
          case hw4_14 => ((intro U hS; obtain ⟨z4, z3, zx, z0⟩ := HYS.out U hS; go_simp); (try (with_reducible rfl)))
          try simp only [Act.put, List.setIfInBounds_toArray, List.set_cons_zero, List.set_cons_succ]
          refine ht_take 15 (v := ?vw4_15) rfl (by kernel_rfl) (fun _ _ _ h => h) (Or.inl ⟨by rfl, ?hw4_15⟩) hHeld ?rw4_15
          case hw4_15 => ((intro U hS; obtain ⟨z4, z3, zx, z0⟩ := HYS.out U hS; go_simp); (try (with_reducible rfl)))
          try simp only [Act.put, List.setIfInBounds_toArray, List.set_cons_zero, List.set_cons_succ]
          refine ht_take 16 (v := ?vw4_16) rfl (by kernel_rfl) (fun _ _ _ h => h) (Or.inl ⟨by rfl, ?hw4_16⟩) hHeld ?rw4_16
          case hw4_16 => ((intro U hS; obtain ⟨z4, z3, zx, z0⟩ := HYS.out U hS; go_simp); (try (with_reducible rfl)))
          try simp only [Act.put, List.setIfInBounds_toArray, List.set_cons_zero, List.set_cons_succ]
          refine ht_take 17 (v := ?vw4_17) rfl (by kernel_rfl) (fun _ _ _ h => h) (Or.inl ⟨by rfl, ?hw4_17⟩) hHeld ?rw4_17
          case hw4_17 => ((intro U hS; obtain ⟨z4, z3, zx, z0⟩ := HYS.out U hS; go_simp); (try (with_reducible rfl)))
          try simp only [Act.put, List.setIfInBounds_toArray, List.set_cons_zero, List.set_cons_succ]
          refine wpHT_all [11, 18] (by kernel_rfl) ?_
          refine ht_cons (i := 11) rfl (fun K hK => ?_) (ht_cons (i := 18) rfl (fun K hK => ?_) (allHT.nil))
          · go_simp
            refine hK.out _ _ (by assumption) (fun hHeld => ?_)
            clear hK K
            try simp only [Act.put, List.setIfInBounds_toArray, List.set_cons_zero, List.set_cons_succ]
            refine ht_one 18 rfl (by kernel_rfl) (fun K hK => ?_)
            go_simp
            refine hK.out _ _ (by assumption) (fun hHeld => ?_)
            clear hK K
            try simp only [Act.put, List.setIfInBounds_toArray, List.set_cons_zero, List.set_cons_succ]
            refine ht_take 19 (v := ?vw4_18) rfl (by kernel_rfl) (fun _ _ _ h => h) (Or.inl ⟨by rfl, ?hw4_18⟩) hHeld ?rw4_18
            case hw4_18 => ((intro U hS; obtain ⟨z4, z3, zx, z0⟩ := HYS.out U hS; go_simp); (try (with_reducible rfl)))
            try simp only [Act.put, List.setIfInBounds_toArray, List.set_cons_zero, List.set_cons_succ]
            refine ht_one 20 rfl (by kernel_rfl) (fun K hK => ?_)
            go_simp
            refine hK.out _ _ (⟨hHeld.1.alloc _, hHeld.2.alloc _⟩) (fun hHeld => ?_)
            clear hK K
            try simp only [Act.put, List.setIfInBounds_toArray, List.set_cons_zero, List.set_cons_succ]
            refine ht_one 21 rfl (by kernel_rfl) (fun K hK => ?_)
            refine step_append_lies _ (by rfl) (.tmp 191) (.tmp 207) _ (by rfl) w1.heap.size 33 si0 _ 3 48 Try.underlying25 hsi0 hsz0 hsz1 hsz2 rfl (by omega) (.slice (some ⟨gS, 0, none⟩) c.seqs.length kS) c.seqs.length xsS (by rfl) ((HET.out.drew.alloc _).oS) ⟨T.drew.heap.size, 0, none⟩ 1 1 [.string ⟨#[122, 122]⟩, .string qq.src, .string qq.dst] (by rfl) (by rfl) (World.news_of_block (cs := #[.string ⟨#[122, 122]⟩, .string qq.src, .string qq.dst]) (t := 33) (fr := (0, 0)) (heap_alloc_new T.drew _)) (by simp [Value.oneCell']) (by omega) (by unfold maxLen; omega) (by omega) (by have := HET.out.gr.size; simp at this ⊢; omega) (T.drew.heap.size + 1) (by simp) ?_
            intro gA capA w2 hownS hgrow _ _
            refine hK.out _ _ (⟨hHeld.1.grown hgrow (Ne.symm (blk_own_ne HET.out.oS HET.out.blk (by decide))), hHeld.2.kept hgrow (own_own_ne hHeld.2 (HET.out.drew.alloc (.cells #[.string ⟨#[122, 122]⟩, .string qq.src, .string qq.dst] 33)).oS (by decide))⟩) (fun hHeld => ?_)
            clear hK K
            try simp only [Act.put, List.setIfInBounds_toArray, List.set_cons_zero, List.set_cons_succ]
            refine ht_take 22 (v := ?vw4_19) rfl (by kernel_rfl) (fun _ _ _ h => h) (Or.inl ⟨by rfl, ?hw4_19⟩) hHeld ?rw4_19
            case hw4_19 => ((intro U hS; obtain ⟨z4, z3, zx, z0⟩ := HYS.out U hS; go_simp); (try (with_reducible rfl)))
            try simp only [Act.put, List.setIfInBounds_toArray, List.set_cons_zero, List.set_cons_succ]
            refine ht_take 23 (v := ?vw4_20) rfl (by kernel_rfl) (fun _ _ _ h => h) (Or.inl ⟨by rfl, ?hw4_20⟩) hHeld ?rw4_20
            case hw4_20 => ((intro U hS; obtain ⟨z4, z3, zx, z0⟩ := HYS.out U hS; go_simp); (try (with_reducible rfl)))
            try simp only [Act.put, List.setIfInBounds_toArray, List.set_cons_zero, List.set_cons_succ]
            refine ht_done (by kernel_rfl) rfl ?_
            have hEA := (HET.out.drew.alloc (.cells #[.string ⟨#[122, 122]⟩, .string qq.src, .string qq.dst] 33)).appS hgrow hownS
            have HEA := Lib.hid hEA
            clear hEA hHeld hgrow hownS
            have y4 : w2.cell? ⟨gb, 4, none⟩ = some (.slice (some ⟨gS, 0, none⟩) c.seqs.length kS) := HEA.out.blk.cell 4
            have y4f : w2.frozen? ⟨gb, 4, none⟩ = false := HEA.out.blk.frozen 4
            have y4l := HEA.out.blk.lt
            obtain ⟨T2, hT2⟩ : ∃ T', T' = w2.setCell ⟨gb, 4, none⟩ (.slice (some ⟨gA, 0, none⟩) (c.seqs.length + 1) capA) := ⟨_, rfl⟩
            have hE2 := HEA.out.putB4 (.slice (some ⟨gA, 0, none⟩) (c.seqs.length + 1) capA)
            rw [← hT2] at hE2
            have hBad := (show BadR (withI c c.items (c.seqs ++ [newQ 122 qq.src qq.dst])) 7 ⟨#[122, 122]⟩ from bad_seq HR.out qq.src qq.dst (HR.out.seqs qq HQM.out).1 (HR.out.seqs qq HQM.out).2 (.inr ⟨qq, HQM.out, rfl, rfl⟩))
            have HRC := Lib.hid (bad_end (Is := c.items) (Ss := c.seqs ++ [newQ 122 qq.src qq.dst]) HO.out hE2 (HO.out.itemL hE2.gr) (by rw [List.flatMap_append]; exact RdL.append (HO.out.seqL hE2.gr) (rdl_cons.2 ⟨_, _, rfl, rd_str.2 rfl, rdl_cons.2 ⟨_, _, rfl, rd_str.2 rfl, rdl_cons.2 ⟨_, _, rfl, rd_str.2 rfl, rdl_nil.2 rfl⟩⟩⟩)) (by simp) (by simp) hBad)
            have HB9 := Lib.hid (gr_end HO.out.bel hE2.gr HO.out.ge HO.out.bel.size)
            have HT2 := Lib.hid hT2.symm
            clear hBad hE2 hT2
            go_upto_region 51 with fail
            rw [HT2.out]
            exact bad_tail HRC HB9 (by rfl) (by rfl) (by assumption)
          · go_simp
            refine hK.out _ _ (by assumption) (fun hHeld => ?_)
            clear hK K
            try simp only [Act.put, List.setIfInBounds_toArray, List.set_cons_zero, List.set_cons_succ]
            refine ht_one 11 rfl (by kernel_rfl) (fun K hK => ?_)
            go_simp
            refine hK.out _ _ (by assumption) (fun hHeld => ?_)
            clear hK K
            try simp only [Act.put, List.setIfInBounds_toArray, List.set_cons_zero, List.set_cons_succ]
            refine ht_take 19 (v := ?vw4_21) rfl (by kernel_rfl) (fun _ _ _ h => h) (Or.inl ⟨by rfl, ?hw4_21⟩) hHeld ?rw4_21
            case hw4_21 => ((intro U hS; obtain ⟨z4, z3, zx, z0⟩ := HYS.out U hS; go_simp); (try (with_reducible rfl)))
            try simp only [Act.put, List.setIfInBounds_toArray, List.set_cons_zero, List.set_cons_succ]
            refine ht_one 20 rfl (by kernel_rfl) (fun K hK => ?_)
            go_simp
            refine hK.out _ _ (⟨hHeld.1.alloc _, hHeld.2.alloc _⟩) (fun hHeld => ?_)
            clear hK K
            try simp only [Act.put, List.setIfInBounds_toArray, List.set_cons_zero, List.set_cons_succ]
            refine ht_one 21 rfl (by kernel_rfl) (fun K hK => ?_)
            refine step_append_lies _ (by rfl) (.tmp 191) (.tmp 207) _ (by rfl) w1.heap.size 33 si0 _ 3 48 Try.underlying25 hsi0 hsz0 hsz1 hsz2 rfl (by omega) (.slice (some ⟨gS, 0, none⟩) c.seqs.length kS) c.seqs.length xsS (by rfl) ((HET.out.drew.alloc _).oS) ⟨T.drew.heap.size, 0, none⟩ 1 1 [.string ⟨#[122, 122]⟩, .string qq.src, .string qq.dst] (by rfl) (by rfl) (World.news_of_block (cs := #[.string ⟨#[122, 122]⟩, .string qq.src, .string qq.dst]) (t := 33) (fr := (0, 0)) (heap_alloc_new T.drew _)) (by simp [Value.oneCell']) (by omega) (by unfold maxLen; omega) (by omega) (by have := HET.out.gr.size; simp at this ⊢; omega) (T.drew.heap.size + 1) (by simp) ?_
            intro gA capA w2 hownS hgrow _ _
            refine hK.out _ _ (⟨hHeld.1.grown hgrow (Ne.symm (blk_own_ne HET.out.oS HET.out.blk (by decide))), hHeld.2.kept hgrow (own_own_ne hHeld.2 (HET.out.drew.alloc (.cells #[.string ⟨#[122, 122]⟩, .string qq.src, .string qq.dst] 33)).oS (by decide))⟩) (fun hHeld => ?_)
            clear hK K
            try simp only [Act.put, List.setIfInBounds_toArray, List.set_cons_zero, List.set_cons_succ]
            refine ht_take 22 (v := ?vw4_22) rfl (by kernel_rfl) (fun _ _ _ h => h) (Or.inl ⟨by rfl, ?hw4_22⟩) hHeld ?rw4_22
            case hw4_22 => ((intro U hS; obtain ⟨z4, z3, zx, z0⟩ := HYS.out U hS; go_simp); (try (with_reducible rfl)))
            try simp only [Act.put, List.setIfInBounds_toArray, List.set_cons_zero, List.set_cons_succ]
            refine ht_take 23 (v := ?vw4_23) rfl (by kernel_rfl) (fun _ _ _ h => h) (Or.inl ⟨by rfl, ?hw4_23⟩) hHeld ?rw4_23
            case hw4_23 => ((intro U hS; obtain ⟨z4, z3, zx, z0⟩ := HYS.out U hS; go_simp); (try (with_reducible rfl)))
            try simp only [Act.put, List.setIfInBounds_toArray, List.set_cons_zero, List.set_cons_succ]
            refine ht_done (by kernel_rfl) rfl ?_
            have hEA := (HET.out.drew.alloc (.cells #[.string ⟨#[122, 122]⟩, .string qq.src, .string qq.dst] 33)).appS hgrow hownS
            have HEA := Lib.hid hEA
            clear hEA hHeld hgrow hownS
            have y4 : w2.cell? ⟨gb, 4, none⟩ = some (.slice (some ⟨gS, 0, none⟩) c.seqs.length kS) := HEA.out.blk.cell 4
            have y4f : w2.frozen? ⟨gb, 4, none⟩ = false := HEA.out.blk.frozen 4
            have y4l := HEA.out.blk.lt
            obtain ⟨T2, hT2⟩ : ∃ T', T' = w2.setCell ⟨gb, 4, none⟩ (.slice (some ⟨gA, 0, none⟩) (c.seqs.length + 1) capA) := ⟨_, rfl⟩
            have hE2 := HEA.out.putB4 (.slice (some ⟨gA, 0, none⟩) (c.seqs.length + 1) capA)
            rw [← hT2] at hE2
            have hBad := (show BadR (withI c c.items (c.seqs ++ [newQ 122 qq.src qq.dst])) 7 ⟨#[122, 122]⟩ from bad_seq HR.out qq.src qq.dst (HR.out.seqs qq HQM.out).1 (HR.out.seqs qq HQM.out).2 (.inr ⟨qq, HQM.out, rfl, rfl⟩))
            have HRC := Lib.hid (bad_end (Is := c.items) (Ss := c.seqs ++ [newQ 122 qq.src qq.dst]) HO.out hE2 (HO.out.itemL hE2.gr) (by rw [List.flatMap_append]; exact RdL.append (HO.out.seqL hE2.gr) (rdl_cons.2 ⟨_, _, rfl, rd_str.2 rfl, rdl_cons.2 ⟨_, _, rfl, rd_str.2 rfl, rdl_cons.2 ⟨_, _, rfl, rd_str.2 rfl, rdl_nil.2 rfl⟩⟩⟩)) (by simp) (by simp) hBad)
            have HB9 := Lib.hid (gr_end HO.out.bel hE2.gr HO.out.ge HO.out.bel.size)
            have HT2 := Lib.hid hT2.symm
            clear hBad hE2 hT2
            go_upto_region 51 with fail
            rw [HT2.out]
            exact bad_tail HRC HB9 (by rfl) (by rfl) (by assumption)
end Go.Proofs.Ytljmghaplnkohaa
