/- The walk of the law RulesBad. -/
import Derived.Test.YtljmghaplnkohaaRulZ
import Derived.Test.YtljmghaplnkohaaRulXY

import Derived.Test.YtljmghaplnkohaaArgs
import Derived.Deep.CutBlock
import Derived.Deep.DeepCutAuto
namespace Go.Proofs.Ytljmghaplnkohaa
open Go.RowKit
attribute [local go_sem ↓] Go.wp_at_zero Go.wp_at_succ

set_option maxRecDepth 100000 in
set_option maxHeartbeats 32000000 in
theorem rulesBad_wayb (A0 : Option Addr) (c0 : Nat) (x0 : List Int) (a1 a2 : Int) (w : World) (m0 : x0.length ≤ maxLen) (h0 : IntsAt w A0 x0) (q : Nat) (hq : (bits BinOp.and IntKind.i64 a1 15).tmod 12 = (q : Int)) (hq12 : q = 8 ∨ q = 9 ∨ q = 5 ∨ q = 6) :
    Calls Try.prog 8 #[.slice A0 x0.length c0, .int .i64 a1, .int .i64 a2] w fun e w' => e = .returned (.bool true) ∧ Below w.heap.size w w' := by
  obtain ⟨ii0, hii0, hiz0, hiz1, hiz2⟩ := info_parts Try.infoItemG
  obtain ⟨si0, hsi0, hsz0, hsz1, hsz2⟩ := info_parts Try.infoSeqG
  obtain ⟨fi0, hfi0, hfz0, hfz1, hfz2⟩ := info_parts Try.infoFlowE
  have hgen := doc_genN (cap := c0) h0 m0
  obtain ⟨d, c, y0, ye, rest, init, hd, hc, hR⟩ := doc_w x0 m0
  rw [← hd] at hgen
  clear hc
  obtain ⟨lpI3, ⟨lqI, lqF, lpS, lqS, lpF⟩⟩ := (⟨hR.three, hR.lens⟩ : _ ∧ _)
  have lpI : 0 < c.items.length := by omega
  obtain ⟨lm, hlm⟩ : ∃ lm, lm = c.items.length - 1 := ⟨_, rfl⟩
  have hlmI : (c.items.length : Int) - 1 = (lm : Int) := by omega
  have hlml : (lm : Int) < (c.items.length : Int) := by omega
  have hlmn : lm < c.items.length := by omega
  have HLM := Lib.hid hlm
  have HQ := Lib.hid hq
  have HQ12 := Lib.hid hq12
  have HR := Lib.hid hR
  have HGEN := Lib.hid hgen
  clear hq hq12 hR hgen h0 m0 hd hlm
  go_enter Try.func8, Try.ntmps8
  go_upto_region 1 with fail
  go_wp2_with fail
  refine HGEN.out.mono ?_
  clear HGEN
  rintro e w1 hE
  obtain ⟨A3, c3, gb, AP, cP, AF, cF, AI, cI, AS, cS, xs, xsI, xsF, xsS, rfl, hO⟩ := doc_open (n := 1) (r := []) rfl HR.out.doc.eq hE
  obtain ⟨gd, hgd⟩ : ∃ g, g = w1.heap.size := ⟨_, rfl⟩
  obtain ⟨V1, hV1⟩ : ∃ V, V = w1.alloc (.cells #[.slice A3 4 c3, .slice (some ⟨gb, 0, none⟩) 1 1] 42) := ⟨_, rfl⟩
  have b11 : Below w1.heap.size w1 V1 := by rw [hV1]; exact (Below.refl _ _).alloc (Nat.le_refl _) _
  have kd : Blk V1 gd 42 #[.slice A3 4 c3, .slice (some ⟨gb, 0, none⟩) 1 1] := by rw [hV1, hgd]; exact Blk.new _ _ _
  have kb2 := hO.blk.below b11 hO.blk.lt
  have HO := Lib.hid hO
  have HB11 := Lib.hid b11
  have HKD := Lib.hid kd
  have HV1 := Lib.hid hV1.symm
  have HGD := Lib.hid hgd.symm
  have d0 : V1.cell? ⟨gd, 0, none⟩ = some (.slice A3 4 c3) := kd.cell 0
  have d1 : V1.cell? ⟨gd, 1, none⟩ = some (.slice (some ⟨gb, 0, none⟩) 1 1) := kd.cell 1
  have q0 : V1.cell? ⟨gb, 0, none⟩ = some (.string c.id) := kb2.cell 0
  have q1 : V1.cell? ⟨gb, 1, none⟩ = some (.slice AP c.parts.length cP) := kb2.cell 1
  have q2 : V1.cell? ⟨gb, 2, none⟩ = some (.slice AF c.flows.length cF) := kb2.cell 2
  have q3 : V1.cell? ⟨gb, 3, none⟩ = some (.slice AI c.items.length cI) := kb2.cell 3
  have q4 : V1.cell? ⟨gb, 4, none⟩ = some (.slice AS c.seqs.length cS) := kb2.cell 4
  have lgb2 := kb2.lt
  clear hO b11 kd kb2 hV1 hgd hE
  go_upto_region 3 with fail
  rw [HV1.out, HGD.out]
  clear HV1
  refine wp_region_HT 29 (fun _ => True) (by kernel_rfl) (by decide) trivial (fun hHeld => ?_)
  refine ht_take 0 (v := ?va_1) rfl (by kernel_rfl) (fun _ _ _ h => h) (Or.inl ⟨by rfl, ?ha_1⟩) hHeld ?ra_1
  case ha_1 => ((intro U _; go_simp); (try (with_reducible rfl)))
  try simp only [Act.put, List.setIfInBounds_toArray, List.set_cons_zero, List.set_cons_succ]
  refine ht_take 1 (v := ?va_2) rfl (by kernel_rfl) (fun _ _ _ h => h) (Or.inl ⟨by rfl, ?ha_2⟩) hHeld ?ra_2
  case ha_2 => ((intro U _; go_simp); (try (with_reducible rfl)))
  try simp only [Act.put, List.setIfInBounds_toArray, List.set_cons_zero, List.set_cons_succ]
  refine ht_take 2 (v := ?va_3) rfl (by kernel_rfl) (fun _ _ _ h => h) (Or.inl ⟨by rfl, ?ha_3⟩) hHeld ?ra_3
  case ha_3 => ((intro U _; go_simp); (try (with_reducible rfl)))
  try simp only [Act.put, List.setIfInBounds_toArray, List.set_cons_zero, List.set_cons_succ]
  refine ht_take 4 (v := ?va_4) rfl (by kernel_rfl) (fun _ _ _ h => h) (Or.inl ⟨by rfl, ?ha_4⟩) hHeld ?ra_4
  case ha_4 => ((intro U _; go_simp); (try (with_reducible rfl)))
  try simp only [Act.put, List.setIfInBounds_toArray, List.set_cons_zero, List.set_cons_succ]
  refine ht_take 5 (v := ?va_5) rfl (by kernel_rfl) (fun _ _ _ h => h) (Or.inl ⟨by rfl, ?ha_5⟩) hHeld ?ra_5
  case ha_5 => ((intro U _; go_simp); (try (with_reducible rfl)))
  try simp only [Act.put, List.setIfInBounds_toArray, List.set_cons_zero, List.set_cons_succ]
  refine ht_take 6 (v := ?va_6) rfl (by kernel_rfl) (fun _ _ _ h => h) (Or.inl ⟨by rfl, ?ha_6⟩) hHeld ?ra_6
  case ha_6 => ((intro U _; go_simp); (try (with_reducible rfl)))
  try simp only [Act.put, List.setIfInBounds_toArray, List.set_cons_zero, List.set_cons_succ]
  refine ht_take 10 (v := ?va_7) rfl (by kernel_rfl) (fun _ _ _ h => h) (Or.inl ⟨by rfl, ?ha_7⟩) hHeld ?ra_7
  case ha_7 => ((intro U _; go_simp); (try (with_reducible rfl)))
  try simp only [Act.put, List.setIfInBounds_toArray, List.set_cons_zero, List.set_cons_succ]
  refine ht_take 11 (v := ?va_8) rfl (by kernel_rfl) (fun _ _ _ h => h) (Or.inl ⟨by rfl, ?ha_8⟩) hHeld ?ra_8
  case ha_8 => ((intro U _; go_simp); (try (with_reducible rfl)))
  try simp only [Act.put, List.setIfInBounds_toArray, List.set_cons_zero, List.set_cons_succ]
  refine ht_take 12 (v := ?va_9) rfl (by kernel_rfl) (fun _ _ _ h => h) (Or.inl ⟨by rfl, ?ha_9⟩) hHeld ?ra_9
  case ha_9 => ((intro U _; go_simp); (try (with_reducible rfl)))
  try simp only [Act.put, List.setIfInBounds_toArray, List.set_cons_zero, List.set_cons_succ]
  refine ht_take 16 (v := ?va_10) rfl (by kernel_rfl) (fun _ _ _ h => h) (Or.inl ⟨by rfl, ?ha_10⟩) hHeld ?ra_10
  case ha_10 => ((intro U _; go_simp); (try (with_reducible rfl)))
  try simp only [Act.put, List.setIfInBounds_toArray, List.set_cons_zero, List.set_cons_succ]
  refine ht_take 17 (v := ?va_11) rfl (by kernel_rfl) (fun _ _ _ h => h) (Or.inl ⟨by rfl, ?ha_11⟩) hHeld ?ra_11
  case ha_11 => ((intro U _; go_simp); (try (with_reducible rfl)))
  try simp only [Act.put, List.setIfInBounds_toArray, List.set_cons_zero, List.set_cons_succ]
  refine ht_take 18 (v := ?va_12) rfl (by kernel_rfl) (fun _ _ _ h => h) (Or.inl ⟨by rfl, ?ha_12⟩) hHeld ?ra_12
  case ha_12 => ((intro U _; go_simp); (try (with_reducible rfl)))
  try simp only [Act.put, List.setIfInBounds_toArray, List.set_cons_zero, List.set_cons_succ]
  refine ht_copies (w0 := V1) (f0 := 8) [⟨7, 3, 8, 30, 10⟩, ⟨13, 9, 14, 33, 3⟩, ⟨19, 15, 20, 62, 4⟩] [(29, 3), (33, 7), (34, 8), (35, 9), (39, 13), (40, 14), (41, 15), (45, 19), (46, 20)] 21 (fun i => if i = 8 then .slice AI c.items.length cI else if i = 14 then .slice AS c.seqs.length cS else if i = 20 then .slice AF c.flows.length cF else undef) (fun i => if i = 8 then c.items.length else if i = 14 then c.seqs.length else if i = 20 then c.flows.length else 0) (fun i => if i = 8 then xsI else if i = 14 then xsS else if i = 20 then xsF else []) (by kernel_rfl) (by rfl) (by kernel_rfl) (by decide) (by decide) (by kernel_rfl) (by decide) (fun W _ => trivial) ((Below.refl _ _).drew) ?_ ?_ ?_ ?_
  · intro cc hcc vs W K hbW hK
    simp only [List.mem_cons, List.not_mem_nil, or_false] at hcc
    rcases hcc with rfl | rfl | rfl
    · refine wpOp_at rfl ?_
      have HK2 := hK.out
      clear hK
      simp only [putsV, List.foldl, Act.put, List.setIfInBounds_toArray, List.set_cons_zero, List.set_cons_succ] at HK2 ⊢
      simp only [updV, eq_self, Nat.reduceEqDiff, if_true, if_false] at HK2
      have y2 : W.cell? ⟨gb, 2, none⟩ = some (.slice AF c.flows.length cF) := (hbW.cell (p := ⟨gb, 2, none⟩) lgb2).trans q2
      have y3 : W.cell? ⟨gb, 3, none⟩ = some (.slice AI c.items.length cI) := (hbW.cell (p := ⟨gb, 3, none⟩) lgb2).trans q3
      have y4 : W.cell? ⟨gb, 4, none⟩ = some (.slice AS c.seqs.length cS) := (hbW.cell (p := ⟨gb, 4, none⟩) lgb2).trans q4
      go_simp
      exact HK2
    · refine wpOp_at rfl ?_
      have HK2 := hK.out
      clear hK
      simp only [putsV, List.foldl, Act.put, List.setIfInBounds_toArray, List.set_cons_zero, List.set_cons_succ] at HK2 ⊢
      simp only [updV, eq_self, Nat.reduceEqDiff, if_true, if_false] at HK2
      have y2 : W.cell? ⟨gb, 2, none⟩ = some (.slice AF c.flows.length cF) := (hbW.cell (p := ⟨gb, 2, none⟩) lgb2).trans q2
      have y3 : W.cell? ⟨gb, 3, none⟩ = some (.slice AI c.items.length cI) := (hbW.cell (p := ⟨gb, 3, none⟩) lgb2).trans q3
      have y4 : W.cell? ⟨gb, 4, none⟩ = some (.slice AS c.seqs.length cS) := (hbW.cell (p := ⟨gb, 4, none⟩) lgb2).trans q4
      go_simp
      exact HK2
    · refine wpOp_at rfl ?_
      have HK2 := hK.out
      clear hK
      simp only [putsV, List.foldl, Act.put, List.setIfInBounds_toArray, List.set_cons_zero, List.set_cons_succ] at HK2 ⊢
      simp only [updV, eq_self, Nat.reduceEqDiff, if_true, if_false] at HK2
      have y2 : W.cell? ⟨gb, 2, none⟩ = some (.slice AF c.flows.length cF) := (hbW.cell (p := ⟨gb, 2, none⟩) lgb2).trans q2
      have y3 : W.cell? ⟨gb, 3, none⟩ = some (.slice AI c.items.length cI) := (hbW.cell (p := ⟨gb, 3, none⟩) lgb2).trans q3
      have y4 : W.cell? ⟨gb, 4, none⟩ = some (.slice AS c.seqs.length cS) := (hbW.cell (p := ⟨gb, 4, none⟩) lgb2).trans q4
      go_simp
      exact HK2
  · intro cc hcc vs W K hK
    simp only [List.mem_cons, List.not_mem_nil, or_false] at hcc
    rcases hcc with rfl | rfl | rfl
    · refine wpOp_at rfl ?_
      have HK2 := hK.out
      clear hK
      simp only [putsV, List.foldl, Act.put, List.setIfInBounds_toArray, List.set_cons_zero, List.set_cons_succ] at HK2 ⊢
      simp only [updV, eq_self, Nat.reduceEqDiff, if_true, if_false] at HK2
      go_simp
      exact HK2
    · refine wpOp_at rfl ?_
      have HK2 := hK.out
      clear hK
      simp only [putsV, List.foldl, Act.put, List.setIfInBounds_toArray, List.set_cons_zero, List.set_cons_succ] at HK2 ⊢
      simp only [updV, eq_self, Nat.reduceEqDiff, if_true, if_false] at HK2
      go_simp
      exact HK2
    · refine wpOp_at rfl ?_
      have HK2 := hK.out
      clear hK
      simp only [putsV, List.foldl, Act.put, List.setIfInBounds_toArray, List.set_cons_zero, List.set_cons_succ] at HK2 ⊢
      simp only [updV, eq_self, Nat.reduceEqDiff, if_true, if_false] at HK2
      go_simp
      exact HK2
  · intro cc hcc vs W K hbW hsrc hoW hK
    simp only [List.mem_cons, List.not_mem_nil, or_false] at hcc
    rcases hcc with rfl | rfl | rfl
    · refine wpOp_at rfl ?_
      have HK2 := hK.out
      clear hK
      simp only [putsV, List.foldl, Act.put, List.setIfInBounds_toArray, List.set_cons_zero, List.set_cons_succ] at HK2 ⊢
      simp only [updV, eq_self, Nat.reduceEqDiff, if_true, if_false] at HK2
      have hoW2 : W.ownsRow V1.heap.size 30 10 (vs 3) 0 [] := hoW
      have hsrc2 : vs 7 = .slice AI c.items.length cI := hsrc
      have hw : ∀ o : Oper, o.guard = none → ∀ z, Region.wanted o z = true := fun o h z => by simp [Region.wanted, h]
      rw [if_pos (hw _ rfl _)]
      refine wp_append_any W (.tmp 29) (.tmp 33) _ rfl V1.heap.size 30 ii0 _ 10 184 Try.underlying24 hii0 hiz0 hiz1 hiz2 rfl (by omega) (vs 3) 0 [] rfl hoW2 w1.heap.size AI c.items.length cI xsI hsrc2 (HO.out.rI.below (HB11.out.trans (hbW.mono HB11.out.size))) HO.out.oI (by unfold maxLen; omega) (by omega) hbW.size ?_
      intro v3 W3 ho3 hg3 _
      try simp only [Nat.zero_add, List.nil_append] at ho3
      exact HK2 v3 W3 (by simpa only [eq_self, Nat.reduceEqDiff, if_true, if_false] using ho3) hg3
    · refine wpOp_at rfl ?_
      have HK2 := hK.out
      clear hK
      simp only [putsV, List.foldl, Act.put, List.setIfInBounds_toArray, List.set_cons_zero, List.set_cons_succ] at HK2 ⊢
      simp only [updV, eq_self, Nat.reduceEqDiff, if_true, if_false] at HK2
      have hoW2 : W.ownsRow V1.heap.size 33 3 (vs 9) 0 [] := hoW
      have hsrc2 : vs 13 = .slice AS c.seqs.length cS := hsrc
      have hw : ∀ o : Oper, o.guard = none → ∀ z, Region.wanted o z = true := fun o h z => by simp [Region.wanted, h]
      rw [if_pos (hw _ rfl _)]
      refine wp_append_any W (.tmp 35) (.tmp 39) _ rfl V1.heap.size 33 si0 _ 3 48 Try.underlying25 hsi0 hsz0 hsz1 hsz2 rfl (by omega) (vs 9) 0 [] rfl hoW2 w1.heap.size AS c.seqs.length cS xsS hsrc2 (HO.out.rS.below (HB11.out.trans (hbW.mono HB11.out.size))) HO.out.oS (by unfold maxLen; omega) (by omega) hbW.size ?_
      intro v3 W3 ho3 hg3 _
      try simp only [Nat.zero_add, List.nil_append] at ho3
      exact HK2 v3 W3 (by simpa only [eq_self, Nat.reduceEqDiff, if_true, if_false] using ho3) hg3
    · refine wpOp_at rfl ?_
      have HK2 := hK.out
      clear hK
      simp only [putsV, List.foldl, Act.put, List.setIfInBounds_toArray, List.set_cons_zero, List.set_cons_succ] at HK2 ⊢
      simp only [updV, eq_self, Nat.reduceEqDiff, if_true, if_false] at HK2
      have hoW2 : W.ownsRow V1.heap.size 62 4 (vs 15) 0 [] := hoW
      have hsrc2 : vs 19 = .slice AF c.flows.length cF := hsrc
      have hw : ∀ o : Oper, o.guard = none → ∀ z, Region.wanted o z = true := fun o h z => by simp [Region.wanted, h]
      rw [if_pos (hw _ rfl _)]
      refine wp_append_any W (.tmp 41) (.tmp 45) _ rfl V1.heap.size 62 fi0 _ 4 64 Try.underlying52 hfi0 hfz0 hfz1 hfz2 rfl (by omega) (vs 15) 0 [] rfl hoW2 w1.heap.size AF c.flows.length cF xsF hsrc2 (HO.out.rF.below (HB11.out.trans (hbW.mono HB11.out.size))) HO.out.oF (by unfold maxLen; omega) (by omega) hbW.size ?_
      intro v3 W3 ho3 hg3 _
      try simp only [Nat.zero_add, List.nil_append] at ho3
      exact HK2 v3 W3 (by simpa only [eq_self, Nat.reduceEqDiff, if_true, if_false] using ho3) hg3
  · intro vs W hbW hall
    have hownI := (hall ⟨7, 3, 8, 30, 10⟩ (by simp)).2
    have hownS := (hall ⟨13, 9, 14, 33, 3⟩ (by simp)).2
    have hownF := (hall ⟨19, 15, 20, 62, 4⟩ (by simp)).2
    simp only [eq_self, Nat.reduceEqDiff, if_true, if_false] at hownI hownS hownF
    simp only [putsV, List.foldl, Act.put, List.setIfInBounds_toArray, List.set_cons_zero, List.set_cons_succ]
    generalize vs 8 = wI at hownI ⊢
    generalize vs 14 = wS at hownS ⊢
    generalize vs 20 = wF at hownF ⊢
    generalize vs 3 = e3
    generalize vs 7 = e7
    generalize vs 9 = e9
    generalize vs 13 = e13
    generalize vs 15 = e15
    generalize vs 19 = e19
    clear hall
    obtain ⟨_, kI, rfl, _, _⟩ := own_slice hownI
    obtain ⟨gI, rfl, hgIl, _, _⟩ := own_at hownI lpI
    obtain ⟨_, kS, rfl, _, _⟩ := own_slice hownS
    obtain ⟨gS, rfl, hgSl, _, _⟩ := own_at hownS lpS
    obtain ⟨_, kF, rfl, _, _⟩ := own_slice hownF
    obtain ⟨gF, rfl, hgFl, _, _⟩ := own_at hownF lpF
    have kbW := HO.out.blk.below (HB11.out.trans (hbW.mono HB11.out.size)) HO.out.blk.lt
    have y2 : W.cell? ⟨gb, 2, none⟩ = some (.slice AF c.flows.length cF) := kbW.cell 2
    have y3 : W.cell? ⟨gb, 3, none⟩ = some (.slice AI c.items.length cI) := kbW.cell 3
    have y4 : W.cell? ⟨gb, 4, none⟩ = some (.slice AS c.seqs.length cS) := kbW.cell 4
    have f2 : W.frozen? ⟨gb, 2, none⟩ = false := kbW.frozen 2
    have f3 : W.frozen? ⟨gb, 3, none⟩ = false := kbW.frozen 3
    have f4 : W.frozen? ⟨gb, 4, none⟩ = false := kbW.frozen 4
    have lgbW := kbW.lt
    have hE := ed_startB HO.out HB11.out HKD.out hbW hownI hownF hownS
    obtain ⟨T, hT⟩ : ∃ T, T = ((W.setCell ⟨gb, 3, none⟩ (.slice (some ⟨gI, 0, none⟩) c.items.length kI)).setCell ⟨gb, 4, none⟩ (.slice (some ⟨gS, 0, none⟩) c.seqs.length kS)).setCell ⟨gb, 2, none⟩ (.slice (some ⟨gF, 0, none⟩) c.flows.length kF) := ⟨_, rfl⟩
    rw [← hT] at hE
    have HET := Lib.hid hE
    have HT := Lib.hid hT.symm
    clear hE hT hownI hownF hownS kbW hgIl hgFl hgSl hbW d0 d1 q0 q1 q2 q3 q4
    refine ht_take 21 (v := ?va_13) rfl (by kernel_rfl) (fun _ _ _ h => h) (Or.inl ⟨by rfl, ?ha_13⟩) hHeld ?ra_13
    case ha_13 => ((intro U _; go_simp); (try (with_reducible rfl)))
    try simp only [Act.put, List.setIfInBounds_toArray, List.set_cons_zero, List.set_cons_succ]
    refine ht_take 22 (v := ?va_14) rfl (by kernel_rfl) (fun _ _ _ h => h) (Or.inl ⟨by rfl, ?ha_14⟩) hHeld ?ra_14
    case ha_14 => ((intro U _; go_simp); (try (with_reducible rfl)))
    try simp only [Act.put, List.setIfInBounds_toArray, List.set_cons_zero, List.set_cons_succ]
    refine ht_one 23 rfl (by kernel_rfl) (fun K hK => ?_)
    go_simp
    refine hK.out _ _ trivial (fun hHeld => ?_)
    clear hK K
    try simp only [Act.put, List.setIfInBounds_toArray, List.set_cons_zero, List.set_cons_succ]
    refine ht_take 24 (v := ?va_15) rfl (by kernel_rfl) (fun _ _ _ h => h) (Or.inl ⟨by rfl, ?ha_15⟩) hHeld ?ra_15
    case ha_15 => ((intro U _; go_simp); (try (with_reducible rfl)))
    try simp only [Act.put, List.setIfInBounds_toArray, List.set_cons_zero, List.set_cons_succ]
    refine ht_take 25 (v := ?va_16) rfl (by kernel_rfl) (fun _ _ _ h => h) (Or.inl ⟨by rfl, ?ha_16⟩) hHeld ?ra_16
    case ha_16 => ((intro U _; go_simp); (try (with_reducible rfl)))
    try simp only [Act.put, List.setIfInBounds_toArray, List.set_cons_zero, List.set_cons_succ]
    refine ht_one 26 rfl (by kernel_rfl) (fun K hK => ?_)
    go_simp
    refine hK.out _ _ trivial (fun hHeld => ?_)
    clear hK K
    try simp only [Act.put, List.setIfInBounds_toArray, List.set_cons_zero, List.set_cons_succ]
    refine ht_take 27 (v := ?va_17) rfl (by kernel_rfl) (fun _ _ _ h => h) (Or.inl ⟨by rfl, ?ha_17⟩) hHeld ?ra_17
    case ha_17 => ((intro U _; go_simp); (try (with_reducible rfl)))
    try simp only [Act.put, List.setIfInBounds_toArray, List.set_cons_zero, List.set_cons_succ]
    refine ht_take 28 (v := ?va_18) rfl (by kernel_rfl) (fun _ _ _ h => h) (Or.inl ⟨by rfl, ?ha_18⟩) hHeld ?ra_18
    case ha_18 => ((intro U _; go_simp); (try (with_reducible rfl)))
    try simp only [Act.put, List.setIfInBounds_toArray, List.set_cons_zero, List.set_cons_succ]
    refine ht_done (by kernel_rfl) rfl ?_
    go_upto_region 4 with fail
    rw [HT.out]
    clear HT y2 y3 y4 f2 f3 f4 lgbW
    have z2 : T.cell? ⟨gb, 2, none⟩ = some (.slice (some ⟨gF, 0, none⟩) c.flows.length kF) := HET.out.blk.cell 2
    have z3 : T.cell? ⟨gb, 3, none⟩ = some (.slice (some ⟨gI, 0, none⟩) c.items.length kI) := HET.out.blk.cell 3
    have z4 : T.cell? ⟨gb, 4, none⟩ = some (.slice (some ⟨gS, 0, none⟩) c.seqs.length kS) := HET.out.blk.cell 4
    have lgbV := HET.out.blk.lt
    have hkind : ∀ (i : Nat) (hi : i < c.items.length), T.cell? ⟨gI, i * 10, none⟩ = some (.int .i64 c.items[i].kind) := fun i hi => by
      obtain ⟨vs, hvl, hvs, hva⟩ := rdl_at itemC_len i hi (HO.out.itemL HET.out.gr)
      obtain ⟨v3, v4, v7, v8, v9, rfl, _⟩ := rd_itemC.1 hvs
      rw [HET.out.oI.cellAt _ (by omega), ← Nat.add_zero (i * 10), hva 0 (by omega)]
      rfl
    have HKIND := Lib.hid hkind
    clear hkind
    go_upto_region 6 with fail
    go_wp2_with fail
    go_loop [12, 13] (fun kv iv => ∃ (i : Nat) (kk : Int), i ≤ c.items.length ∧ iv = .int .i64 i ∧ kv = .int .i64 kk ∧ Hid (KInv c.items i kk)) (fun _ iv => c.items.length - (intOf iv).toNat)
    case atStart => exact ⟨0, -1, Nat.zero_le _, rfl, rfl, Lib.hid (.inl ⟨rfl, by simp⟩)⟩
    case round =>
      obtain ⟨i, kk, hi, rfl, rfl, hinv⟩ := hrel
      by_cases hlt : i < c.items.length
      · have hk0 := HKIND.out i hlt
        have hiI : (i : Int) < (c.items.length : Int) := by omega
        by_cases h3 : c.items[i].kind = 3
        · have hkb : (c.items[i].kind == 3) = true := by simp [h3]
          have HN := Lib.hid (show KInv c.items (i + 1) (i : Int) from .inr ⟨i, hlt, rfl, h3⟩)
          have hinv2 : 0 ≤ kk → KInv c.items (i + 1) kk := fun h0 => by
            rcases hinv.out with ⟨h, _⟩ | h
            · omega
            · exact .inr h
          generalize c.items[i].kind = kd at hk0 hkb
          clear h3 hinv
          by_cases hneg : kk < 0
          · clear hinv2
            go_wp2_with fail
            go_round
            case rel => exact ⟨i + 1, (i : Int), by omega, by go_num, rfl, HN⟩
            case measure => simp [intOf]; omega
          · have HN2 := Lib.hid (hinv2 (by omega))
            have hnb : decide (kk < 0) = false := by simpa using hneg
            clear hinv2
            go_upto_if 84 with fail
            cases hbit : (bits BinOp.and IntKind.i64 (a2 / 2 ^ min (IntKind.u64.wrap (bits BinOp.and IntKind.i64 (i : Int) 15)).toNat 64) 1 == 1)
            · clear hbit HN
              go_wp2_with fail
              go_round
              case rel => exact ⟨i + 1, kk, by omega, by go_num, rfl, HN2⟩
              case measure => simp [intOf]; omega
            · clear hbit HN2
              go_wp2_with fail
              go_round
              case rel => exact ⟨i + 1, (i : Int), by omega, by go_num, rfl, HN⟩
              case measure => simp [intOf]; omega
        · have hkb : (c.items[i].kind == 3) = false := by simp [h3]
          have HN := Lib.hid (kinv_no hlt hinv.out h3)
          generalize c.items[i].kind = kd at hk0 hkb
          clear h3 hinv
          go_wp2_with fail
          go_round
          case rel => exact ⟨i + 1, kk, by omega, by go_num, rfl, HN⟩
          case measure => simp [intOf]; omega
      · have hil : i = c.items.length := by omega
        subst hil
        obtain ⟨j, hj, rfl, h3⟩ := kinv_end hinv.out HR.out.task
        have H3 := Lib.hid h3
        have hjI : (j : Int) < (c.items.length : Int) := by omega
        clear hinv h3 HKIND
        have hj3 : ¬ (c.items.length : Int) < 3 := by omega
        have hjn : ¬ (j : Int) < 0 := by omega
        obtain ⟨xx, hxx⟩ : ∃ y, y = c.items[j] := ⟨_, rfl⟩
        obtain ⟨vs, hvl, hvs, hva⟩ := rdl_at itemC_len j hj (HO.out.itemL HET.out.gr)
        rw [← hxx] at hvs
        obtain ⟨v3, v4, v7, v8, v9, rfl, hV3, hV4, hV7, _⟩ := rd_itemC.1 hvs
        have i1 : T.cell? ⟨gI, j * 10 + 1, none⟩ = some (.string xx.id) := by rw [HET.out.oI.cellAt _ (by omega), hva 1 (by omega)]; rfl
        have i2 : T.cell? ⟨gI, j * 10 + 2, none⟩ = some (.string xx.first) := by rw [HET.out.oI.cellAt _ (by omega), hva 2 (by omega)]; rfl
        have i3 : T.cell? ⟨gI, j * 10 + 3, none⟩ = some v3 := by rw [HET.out.oI.cellAt _ (by omega), hva 3 (by omega)]; rfl
        have i4 : T.cell? ⟨gI, j * 10 + 4, none⟩ = some v4 := by rw [HET.out.oI.cellAt _ (by omega), hva 4 (by omega)]; rfl
        have hkid : ∀ (i : Nat) (hi : i < c.items.length), T.cell? ⟨gI, i * 10, none⟩ = some (.int .i64 c.items[i].kind) ∧ T.cell? ⟨gI, i * 10 + 1, none⟩ = some (.string c.items[i].id) := fun i hi => by
          obtain ⟨vs, hvl, hvs, hva⟩ := rdl_at itemC_len i hi (HO.out.itemL HET.out.gr)
          obtain ⟨v3, v4, v7, v8, v9, rfl, _⟩ := rd_itemC.1 hvs
          refine ⟨?_, ?_⟩
          · rw [HET.out.oI.cellAt _ (by omega), ← Nat.add_zero (i * 10), hva 0 (by omega)]
            rfl
          · rw [HET.out.oI.cellAt _ (by omega), hva 1 (by omega)]
            rfl
        have e0 : c.items[0] = y0 := by simp [HR.out.head]
        have el : c.items[lm] = ye := by
          obtain ⟨_, h⟩ := HR.out.lastAt
          simpa only [HLM.out] using h
        obtain ⟨k0, k1⟩ := hkid 0 lpI
        obtain ⟨kl0, kl1⟩ := hkid lm hlmn
        rw [e0] at k0 k1
        rw [el] at kl0 kl1
        simp only [Nat.zero_mul, Nat.zero_add] at k0 k1
        obtain ⟨qq, hqq⟩ : ∃ y, y = c.seqs[0] := ⟨_, rfl⟩
        have ⟨s1, s2⟩ : T.cell? ⟨gS, 1, none⟩ = some (.string qq.src) ∧ T.cell? ⟨gS, 2, none⟩ = some (.string qq.dst) := by
          obtain ⟨vs, hvl, hvs, hva⟩ := rdl_at seqC_len 0 lpS (HO.out.seqL HET.out.gr)
          rw [← hqq] at hvs
          obtain rfl := rd_seqC hvs
          exact ⟨(HET.out.oS.cellAt _ (by omega)).trans (hva 1 (by omega)), (HET.out.oS.cellAt _ (by omega)).trans (hva 2 (by omega))⟩
        have fI : ∀ k, T.frozen? ⟨gI, k, none⟩ = false := fun k => HET.out.oI.frozenAt _
        have fi2 := fI (j * 10 + 2)
        have fi3 := fI (j * 10 + 3)
        have fi4 := fI (j * 10 + 4)
        have fk0 := fI 0
        have fkl := fI (lm * 10)
        have lgIT := (own_base HET.out.oI).2
        have lgST := (own_base HET.out.oS).2
        have hsI : (0 : Int) < (c.seqs.length : Int) := by omega
        have hiI : (0 : Int) < (c.items.length : Int) := by omega
        have HX := Lib.hid hxx
        have HQQ := Lib.hid hqq
        have HV3 := Lib.hid hV3
        have HV4 := Lib.hid hV4
        have HE0 := Lib.hid e0
        have HEL := Lib.hid el
        have f3 : T.frozen? ⟨gb, 3, none⟩ = false := HET.out.blk.frozen 3
        have f4 : T.frozen? ⟨gb, 4, none⟩ = false := HET.out.blk.frozen 4
        clear hvs hva hvl hxx hV3 hV4 hV7 fI hkid e0 el hqq z2
        go_upto_region 15 with fail
        go_upto_region 19 with fail
        rw [HQ.out]
        have hqs := HQ12.out
        clear HQ HQ12
        rcases hqs with rfl | rfl | rfl | rfl
        · obtain ⟨aS, bS_, fS, hTS, _⟩ := HR.out.at_ hj H3.out
          rw [← HX.out] at hTS
        
          obtain ⟨AQ, cQ, rfl⟩ := rd_form HV3.out
          obtain ⟨_, _, hvQ, _, _, hat⟩ := rd_at strC_len HV3.out
          injection hvQ with e1 e2 e3
          clear e2
          subst e1
          subst e3
          have hQ0 : 0 < xx.parts.length := by rw [hTS.parts]; simp
          have hQI : (0 : Int) < (xx.parts.length : Int) := by omega
          obtain ⟨bQ, vs, rfl, hbQ, _, hvs, hcell⟩ := hat 0 hQ0
          obtain ⟨p0, hp0⟩ : ∃ p, p = part0 xx := ⟨_, rfl⟩
          have hp1 : xx.parts[0] = p0 := by rw [hp0]; unfold part0; simp [List.getD_eq_getElem?_getD, List.getElem?_eq_getElem hQ0]
          rw [hp1] at hvs
          obtain rfl := rd_strC hvs
          have eQ : T.cell? ⟨bQ, 0, none⟩ = some (.string p0) := hcell 0 (by omega)
          have HP0 := Lib.hid hp0
          clear hp0 hat hcell hvs hp1 hTS
          go_upto_region 43 with fail
          have HY_w8 := Lib.hid (fun (U : World) (hSw : (fun U => Below T.heap.size T U) U) => And.intro (show U.cell? ⟨gI, j * 10 + 3, none⟩ = some (.slice (some ⟨bQ, 0, none⟩) xx.parts.length cQ) from (hSw.cell (p := ⟨gI, j * 10 + 3, none⟩) lgIT).trans i3) ((show U.cell? ⟨bQ, 0, none⟩ = some (.string p0) from (hSw.cell (p := ⟨bQ, 0, none⟩) hbQ).trans eQ)))
          refine wp_region_HT 16 (fun U => Below T.heap.size T U) (by kernel_rfl) (by decide) ((Below.refl _ _).drew) (fun hHeld => ?_)
          refine ht_take 0 (v := ?vw8_1) rfl (by kernel_rfl) (fun _ _ _ h => h) (Or.inl ⟨by rfl, ?hw8_1⟩) hHeld ?rw8_1
          case hw8_1 => ((intro U hSw; obtain ⟨z1, z5⟩ := HY_w8.out U hSw; go_simp); (try (with_reducible rfl)))
          try simp only [Act.put, List.setIfInBounds_toArray, List.set_cons_zero, List.set_cons_succ]
          refine ht_take 1 (v := ?vw8_2) rfl (by kernel_rfl) (fun _ _ _ h => h) (Or.inl ⟨by rfl, ?hw8_2⟩) hHeld ?rw8_2
          case hw8_2 => ((intro U hSw; obtain ⟨z1, z5⟩ := HY_w8.out U hSw; go_simp); (try (with_reducible rfl)))
          try simp only [Act.put, List.setIfInBounds_toArray, List.set_cons_zero, List.set_cons_succ]
          refine ht_take 2 (v := ?vw8_3) rfl (by kernel_rfl) (fun _ _ _ h => h) (Or.inl ⟨by rfl, ?hw8_3⟩) hHeld ?rw8_3
          case hw8_3 => ((intro U hSw; obtain ⟨z1, z5⟩ := HY_w8.out U hSw; go_simp); (try (with_reducible rfl)))
          try simp only [Act.put, List.setIfInBounds_toArray, List.set_cons_zero, List.set_cons_succ]
          refine ht_take 3 (v := ?vw8_4) rfl (by kernel_rfl) (fun _ _ _ h => h) (Or.inl ⟨by rfl, ?hw8_4⟩) hHeld ?rw8_4
          case hw8_4 => ((intro U hSw; obtain ⟨z1, z5⟩ := HY_w8.out U hSw; go_simp); (try (with_reducible rfl)))
          try simp only [Act.put, List.setIfInBounds_toArray, List.set_cons_zero, List.set_cons_succ]
          refine ht_take 4 (v := ?vw8_5) rfl (by kernel_rfl) (fun _ _ _ h => h) (Or.inl ⟨by rfl, ?hw8_5⟩) hHeld ?rw8_5
          case hw8_5 => ((intro U hSw; obtain ⟨z1, z5⟩ := HY_w8.out U hSw; go_simp); (try (with_reducible rfl)))
          try simp only [Act.put, List.setIfInBounds_toArray, List.set_cons_zero, List.set_cons_succ]
          refine ht_take 5 (v := ?vw8_6) rfl (by kernel_rfl) (fun _ _ _ h => h) (Or.inl ⟨by rfl, ?hw8_6⟩) hHeld ?rw8_6
          case hw8_6 => ((intro U hSw; obtain ⟨z1, z5⟩ := HY_w8.out U hSw; go_simp); (try (with_reducible rfl)))
          try simp only [Act.put, List.setIfInBounds_toArray, List.set_cons_zero, List.set_cons_succ]
          refine ht_take 6 (v := ?vw8_7) rfl (by kernel_rfl) (fun _ _ _ h => h) (Or.inl ⟨by rfl, ?hw8_7⟩) hHeld ?rw8_7
          case hw8_7 => ((intro U hSw; obtain ⟨z1, z5⟩ := HY_w8.out U hSw; go_simp); (try (with_reducible rfl)))
          try simp only [Act.put, List.setIfInBounds_toArray, List.set_cons_zero, List.set_cons_succ]
          refine ht_take 7 (v := ?vw8_8) rfl (by kernel_rfl) (fun _ _ _ h => h) (Or.inl ⟨by rfl, ?hw8_8⟩) hHeld ?rw8_8
          case hw8_8 => ((intro U hSw; obtain ⟨z1, z5⟩ := HY_w8.out U hSw; go_simp); (try (with_reducible rfl)))
          try simp only [Act.put, List.setIfInBounds_toArray, List.set_cons_zero, List.set_cons_succ]
          refine ht_take 8 (v := ?vw8_9) rfl (by kernel_rfl) (fun _ _ _ h => h) (Or.inl ⟨by rfl, ?hw8_9⟩) hHeld ?rw8_9
          case hw8_9 => ((intro U hSw; obtain ⟨z1, z5⟩ := HY_w8.out U hSw; go_simp); (try (with_reducible rfl)))
          try simp only [Act.put, List.setIfInBounds_toArray, List.set_cons_zero, List.set_cons_succ]
          refine ht_take 9 (v := ?vw8_10) rfl (by kernel_rfl) (fun _ _ _ h => h) (Or.inl ⟨by rfl, ?hw8_10⟩) hHeld ?rw8_10
          case hw8_10 => ((intro U hSw; obtain ⟨z1, z5⟩ := HY_w8.out U hSw; go_simp); (try (with_reducible rfl)))
          try simp only [Act.put, List.setIfInBounds_toArray, List.set_cons_zero, List.set_cons_succ]
          refine ht_take 10 (v := ?vw8_11) rfl (by kernel_rfl) (fun _ _ _ h => h) (Or.inl ⟨by rfl, ?hw8_11⟩) hHeld ?rw8_11
          case hw8_11 => ((intro U hSw; obtain ⟨z1, z5⟩ := HY_w8.out U hSw; go_simp); (try (with_reducible rfl)))
          try simp only [Act.put, List.setIfInBounds_toArray, List.set_cons_zero, List.set_cons_succ]
          refine ht_take 11 (v := ?vw8_12) rfl (by kernel_rfl) (fun _ _ _ h => h) (Or.inl ⟨by rfl, ?hw8_12⟩) hHeld ?rw8_12
          case hw8_12 => ((intro U hSw; obtain ⟨z1, z5⟩ := HY_w8.out U hSw; go_simp); (try (with_reducible rfl)))
          try simp only [Act.put, List.setIfInBounds_toArray, List.set_cons_zero, List.set_cons_succ]
          refine ht_take 12 (v := ?vw8_13) rfl (by kernel_rfl) (fun _ _ _ h => h) (Or.inl ⟨by rfl, ?hw8_13⟩) hHeld ?rw8_13
          case hw8_13 => ((intro U hSw; obtain ⟨z1, z5⟩ := HY_w8.out U hSw; go_simp); (try (with_reducible rfl)))
          try simp only [Act.put, List.setIfInBounds_toArray, List.set_cons_zero, List.set_cons_succ]
          refine ht_one 13 rfl (by kernel_rfl) (fun K hK => ?_)
          go_simp
          refine hK.out _ _ (hHeld.alloc hHeld.size _) (fun hHeld => ?_)
          clear hK K
          try simp only [Act.put, List.setIfInBounds_toArray, List.set_cons_zero, List.set_cons_succ]
          refine ht_take 14 (v := ?vw8_14) rfl (by kernel_rfl) (fun _ _ _ h => h) (Or.inl ⟨by rfl, ?hw8_14⟩) hHeld ?rw8_14
          case hw8_14 => ((intro U hSw; obtain ⟨z1, z5⟩ := HY_w8.out U hSw; go_simp); (try (with_reducible rfl)))
          try simp only [Act.put, List.setIfInBounds_toArray, List.set_cons_zero, List.set_cons_succ]
          refine ht_take 15 (v := ?vw8_15) rfl (by kernel_rfl) (fun _ _ _ h => h) (Or.inl ⟨by rfl, ?hw8_15⟩) hHeld ?rw8_15
          case hw8_15 => ((intro U hSw; obtain ⟨z1, z5⟩ := HY_w8.out U hSw; go_simp); (try (with_reducible rfl)))
          try simp only [Act.put, List.setIfInBounds_toArray, List.set_cons_zero, List.set_cons_succ]
          refine ht_done (by kernel_rfl) rfl ?_
          clear hHeld
          obtain ⟨T1, hT1⟩ : ∃ T', T' = ((T.setCell ⟨gI, j * 10 + 3, none⟩ (.slice (some ⟨T.heap.size, 0, none⟩) 2 2)).alloc (.cells #[.string p0, .string p0] 9)).drew := ⟨_, rfl⟩
          have hE1 := ((HET.out.putI (j * 10 + 3) (.slice (some ⟨T.heap.size, 0, none⟩) 2 2)).alloc (.cells #[.string p0, .string p0] 9)).drew
          rw [← hT1] at hE1
          have i1b : T1.cell? ⟨gI, j * 10 + 1, none⟩ = some (.string xx.id) := by
            rw [hE1.oI.cellAt _ (by omega), List.getElem?_set_ne (by omega), ← HET.out.oI.cellAt _ (by omega)]; exact i1
          have lgI1 := (own_base hE1.oI).2
          have hn1 : Rd T1 (strsD [p0, p0]) (.slice (some ⟨T.heap.size, 0, none⟩) 2 2) := by
            have hr : Rd ((T.setCell ⟨gI, j * 10 + 3, none⟩ (.slice (some ⟨T.heap.size, 0, none⟩) 2 2)).alloc (.cells #[.string p0, .string p0] 9)) (strsD [p0, p0]) _ := rd_litC (rdl_cons.2 ⟨_, _, rfl, rd_str.2 rfl, rdl_cons.2 ⟨_, _, rfl, rd_str.2 rfl, rdl_nil.2 rfl⟩⟩) (show 2 ≤ maxLen by decide) rfl
            rw [show ((T.setCell ⟨gI, j * 10 + 3, none⟩ (.slice (some ⟨T.heap.size, 0, none⟩) 2 2))).heap.size = T.heap.size by simp] at hr
            rw [hT1]
            exact Rd.below (Below.refl _ _).drew _ _ hr
          have HN1 := Lib.hid hn1
          clear hn1
          have HE1 := Lib.hid hE1
          have HT1 := Lib.hid hT1.symm
          clear hE1 hT1
          go_upto_region 44 with fail
          rw [HT1.out]
          clear HT1
          refine wp_region_HT 5 (fun U => Below T1.heap.size T1 U) (by kernel_rfl) (by decide) ((Below.refl _ _).drew) (fun hHeld => ?_)
          refine ht_take 0 (v := ?vw8y_1) rfl (by kernel_rfl) (fun _ _ _ h => h) (Or.inl ⟨by rfl, ?hw8y_1⟩) hHeld ?rw8y_1
          case hw8y_1 => ((intro U hSw; have z1 : U.cell? ⟨gI, j * 10 + 1, none⟩ = some (.string xx.id) := (hSw.cell (p := ⟨gI, j * 10 + 1, none⟩) lgI1).trans i1b; go_simp); (try (with_reducible rfl)))
          try simp only [Act.put, List.setIfInBounds_toArray, List.set_cons_zero, List.set_cons_succ]
          refine ht_take 1 (v := ?vw8y_2) rfl (by kernel_rfl) (fun _ _ _ h => h) (Or.inl ⟨by rfl, ?hw8y_2⟩) hHeld ?rw8y_2
          case hw8y_2 => ((intro U hSw; have z1 : U.cell? ⟨gI, j * 10 + 1, none⟩ = some (.string xx.id) := (hSw.cell (p := ⟨gI, j * 10 + 1, none⟩) lgI1).trans i1b; go_simp); (try (with_reducible rfl)))
          try simp only [Act.put, List.setIfInBounds_toArray, List.set_cons_zero, List.set_cons_succ]
          refine ht_take 2 (v := ?vw8y_3) rfl (by kernel_rfl) (fun _ _ _ h => h) (Or.inl ⟨by rfl, ?hw8y_3⟩) hHeld ?rw8y_3
          case hw8y_3 => ((intro U hSw; have z1 : U.cell? ⟨gI, j * 10 + 1, none⟩ = some (.string xx.id) := (hSw.cell (p := ⟨gI, j * 10 + 1, none⟩) lgI1).trans i1b; go_simp); (try (with_reducible rfl)))
          try simp only [Act.put, List.setIfInBounds_toArray, List.set_cons_zero, List.set_cons_succ]
          refine ht_take 3 (v := ?vw8y_4) rfl (by kernel_rfl) (fun _ _ _ h => h) (Or.inl ⟨by rfl, ?hw8y_4⟩) hHeld ?rw8y_4
          case hw8y_4 => ((intro U hSw; have z1 : U.cell? ⟨gI, j * 10 + 1, none⟩ = some (.string xx.id) := (hSw.cell (p := ⟨gI, j * 10 + 1, none⟩) lgI1).trans i1b; go_simp); (try (with_reducible rfl)))
          try simp only [Act.put, List.setIfInBounds_toArray, List.set_cons_zero, List.set_cons_succ]
          refine ht_take 4 (v := ?vw8y_5) rfl (by kernel_rfl) (fun _ _ _ h => h) (Or.inl ⟨by rfl, ?hw8y_5⟩) hHeld ?rw8y_5
          case hw8y_5 => ((intro U hSw; have z1 : U.cell? ⟨gI, j * 10 + 1, none⟩ = some (.string xx.id) := (hSw.cell (p := ⟨gI, j * 10 + 1, none⟩) lgI1).trans i1b; go_simp); (try (with_reducible rfl)))
          try simp only [Act.put, List.setIfInBounds_toArray, List.set_cons_zero, List.set_cons_succ]
          refine ht_done (by kernel_rfl) rfl ?_
          clear hHeld
          obtain ⟨T2, hT2⟩ : ∃ T', T' = T1.drew := ⟨_, rfl⟩
          have hE2 := HE1.out.drew
          rw [← hT2] at hE2
          have hBad := bad8 HR.out hj H3.out
          rw [← HX.out, ← HP0.out] at hBad
          have HRC := Lib.hid (bad_end (Is := c.items.set j (setParts xx [p0, p0])) (Ss := c.seqs) HO.out hE2 (elem_set (y := setParts xx [p0, p0]) itemC_len (show 3 < 10 by decide) c.items j hj xsI (fun vs hv => by
            rw [← HX.out] at hv
            obtain ⟨v3, v4, v7, v8, v9, rfl, hV⟩ := rd_itemC.1 hv
            have hn2 : Rd T2 (strsD [p0, p0]) (.slice (some ⟨T.heap.size, 0, none⟩) 2 2) := by rw [hT2]; exact Rd.below (Below.refl _ _).drew _ _ HN1.out
            exact rd_itemC.2 ⟨_, v4, v7, v8, v9, rfl, hn2, hV.2.1, hV.2.2.1, hV.2.2.2.1, hV.2.2.2.2⟩) (HO.out.itemL hE2.gr)) (HO.out.seqL hE2.gr) (by simp) (by simp) hBad)
          have HB9 := Lib.hid (gr_end HO.out.bel hE2.gr HO.out.ge HO.out.bel.size)
          have HT2 := Lib.hid hT2.symm
          clear hBad hE2 hT2
          go_upto_region 51 with fail
          rw [HT2.out]
          exact bad_tail HRC HB9 (by rfl) (by rfl) (by assumption)
        · obtain ⟨aS, bS_, fS, hTS, _⟩ := HR.out.at_ hj H3.out
          rw [← HX.out] at hTS
        
          obtain ⟨AQ, cQ, rfl⟩ := rd_form HV4.out
          obtain ⟨_, _, hvQ, _, _, hat⟩ := rd_at strC_len HV4.out
          injection hvQ with e1 e2 e3
          clear e2
          subst e1
          subst e3
          have hQ0 : 0 < xx.flows.length := by rcases hTS.flows with ee | ⟨g, ee, _⟩ <;> rw [ee] <;> simp
          have hQI : (0 : Int) < (xx.flows.length : Int) := by omega
          obtain ⟨bQ, vs, rfl, hbQ, _, hvs, hcell⟩ := hat 0 hQ0
          obtain ⟨p0, hp0⟩ : ∃ p, p = flow0 xx := ⟨_, rfl⟩
          have hp1 : xx.flows[0] = p0 := by rw [hp0]; unfold flow0; simp [List.getD_eq_getElem?_getD, List.getElem?_eq_getElem hQ0]
          rw [hp1] at hvs
          obtain rfl := rd_strC hvs
          have eQ : T.cell? ⟨bQ, 0, none⟩ = some (.string p0) := hcell 0 (by omega)
          have HP0 := Lib.hid hp0
          clear hp0 hat hcell hvs hp1 hTS
          go_upto_region 46 with fail
          have HY_w9 := Lib.hid (fun (U : World) (hSw : (fun U => Below T.heap.size T U) U) => And.intro (show U.cell? ⟨gI, j * 10 + 4, none⟩ = some (.slice (some ⟨bQ, 0, none⟩) xx.flows.length cQ) from (hSw.cell (p := ⟨gI, j * 10 + 4, none⟩) lgIT).trans i4) ((show U.cell? ⟨bQ, 0, none⟩ = some (.string p0) from (hSw.cell (p := ⟨bQ, 0, none⟩) hbQ).trans eQ)))
          refine wp_region_HT 16 (fun U => Below T.heap.size T U) (by kernel_rfl) (by decide) ((Below.refl _ _).drew) (fun hHeld => ?_)
          refine ht_take 0 (v := ?vw9_1) rfl (by kernel_rfl) (fun _ _ _ h => h) (Or.inl ⟨by rfl, ?hw9_1⟩) hHeld ?rw9_1
          case hw9_1 => ((intro U hSw; obtain ⟨z1, z5⟩ := HY_w9.out U hSw; go_simp); (try (with_reducible rfl)))
          try simp only [Act.put, List.setIfInBounds_toArray, List.set_cons_zero, List.set_cons_succ]
          refine ht_take 1 (v := ?vw9_2) rfl (by kernel_rfl) (fun _ _ _ h => h) (Or.inl ⟨by rfl, ?hw9_2⟩) hHeld ?rw9_2
          case hw9_2 => ((intro U hSw; obtain ⟨z1, z5⟩ := HY_w9.out U hSw; go_simp); (try (with_reducible rfl)))
          try simp only [Act.put, List.setIfInBounds_toArray, List.set_cons_zero, List.set_cons_succ]
          refine ht_take 2 (v := ?vw9_3) rfl (by kernel_rfl) (fun _ _ _ h => h) (Or.inl ⟨by rfl, ?hw9_3⟩) hHeld ?rw9_3
          case hw9_3 => ((intro U hSw; obtain ⟨z1, z5⟩ := HY_w9.out U hSw; go_simp); (try (with_reducible rfl)))
          try simp only [Act.put, List.setIfInBounds_toArray, List.set_cons_zero, List.set_cons_succ]
          refine ht_take 3 (v := ?vw9_4) rfl (by kernel_rfl) (fun _ _ _ h => h) (Or.inl ⟨by rfl, ?hw9_4⟩) hHeld ?rw9_4
          case hw9_4 => ((intro U hSw; obtain ⟨z1, z5⟩ := HY_w9.out U hSw; go_simp); (try (with_reducible rfl)))
          try simp only [Act.put, List.setIfInBounds_toArray, List.set_cons_zero, List.set_cons_succ]
          refine ht_take 4 (v := ?vw9_5) rfl (by kernel_rfl) (fun _ _ _ h => h) (Or.inl ⟨by rfl, ?hw9_5⟩) hHeld ?rw9_5
          case hw9_5 => ((intro U hSw; obtain ⟨z1, z5⟩ := HY_w9.out U hSw; go_simp); (try (with_reducible rfl)))
          try simp only [Act.put, List.setIfInBounds_toArray, List.set_cons_zero, List.set_cons_succ]
          refine ht_take 5 (v := ?vw9_6) rfl (by kernel_rfl) (fun _ _ _ h => h) (Or.inl ⟨by rfl, ?hw9_6⟩) hHeld ?rw9_6
          case hw9_6 => ((intro U hSw; obtain ⟨z1, z5⟩ := HY_w9.out U hSw; go_simp); (try (with_reducible rfl)))
          try simp only [Act.put, List.setIfInBounds_toArray, List.set_cons_zero, List.set_cons_succ]
          refine ht_take 6 (v := ?vw9_7) rfl (by kernel_rfl) (fun _ _ _ h => h) (Or.inl ⟨by rfl, ?hw9_7⟩) hHeld ?rw9_7
          case hw9_7 => ((intro U hSw; obtain ⟨z1, z5⟩ := HY_w9.out U hSw; go_simp); (try (with_reducible rfl)))
          try simp only [Act.put, List.setIfInBounds_toArray, List.set_cons_zero, List.set_cons_succ]
          refine ht_take 7 (v := ?vw9_8) rfl (by kernel_rfl) (fun _ _ _ h => h) (Or.inl ⟨by rfl, ?hw9_8⟩) hHeld ?rw9_8
          case hw9_8 => ((intro U hSw; obtain ⟨z1, z5⟩ := HY_w9.out U hSw; go_simp); (try (with_reducible rfl)))
          try simp only [Act.put, List.setIfInBounds_toArray, List.set_cons_zero, List.set_cons_succ]
          refine ht_take 8 (v := ?vw9_9) rfl (by kernel_rfl) (fun _ _ _ h => h) (Or.inl ⟨by rfl, ?hw9_9⟩) hHeld ?rw9_9
          case hw9_9 => ((intro U hSw; obtain ⟨z1, z5⟩ := HY_w9.out U hSw; go_simp); (try (with_reducible rfl)))
          try simp only [Act.put, List.setIfInBounds_toArray, List.set_cons_zero, List.set_cons_succ]
          refine ht_take 9 (v := ?vw9_10) rfl (by kernel_rfl) (fun _ _ _ h => h) (Or.inl ⟨by rfl, ?hw9_10⟩) hHeld ?rw9_10
          case hw9_10 => ((intro U hSw; obtain ⟨z1, z5⟩ := HY_w9.out U hSw; go_simp); (try (with_reducible rfl)))
          try simp only [Act.put, List.setIfInBounds_toArray, List.set_cons_zero, List.set_cons_succ]
          refine ht_take 10 (v := ?vw9_11) rfl (by kernel_rfl) (fun _ _ _ h => h) (Or.inl ⟨by rfl, ?hw9_11⟩) hHeld ?rw9_11
          case hw9_11 => ((intro U hSw; obtain ⟨z1, z5⟩ := HY_w9.out U hSw; go_simp); (try (with_reducible rfl)))
          try simp only [Act.put, List.setIfInBounds_toArray, List.set_cons_zero, List.set_cons_succ]
          refine ht_take 11 (v := ?vw9_12) rfl (by kernel_rfl) (fun _ _ _ h => h) (Or.inl ⟨by rfl, ?hw9_12⟩) hHeld ?rw9_12
          case hw9_12 => ((intro U hSw; obtain ⟨z1, z5⟩ := HY_w9.out U hSw; go_simp); (try (with_reducible rfl)))
          try simp only [Act.put, List.setIfInBounds_toArray, List.set_cons_zero, List.set_cons_succ]
          refine ht_take 12 (v := ?vw9_13) rfl (by kernel_rfl) (fun _ _ _ h => h) (Or.inl ⟨by rfl, ?hw9_13⟩) hHeld ?rw9_13
          case hw9_13 => ((intro U hSw; obtain ⟨z1, z5⟩ := HY_w9.out U hSw; go_simp); (try (with_reducible rfl)))
          try simp only [Act.put, List.setIfInBounds_toArray, List.set_cons_zero, List.set_cons_succ]
          refine ht_one 13 rfl (by kernel_rfl) (fun K hK => ?_)
          go_simp
          refine hK.out _ _ (hHeld.alloc hHeld.size _) (fun hHeld => ?_)
          clear hK K
          try simp only [Act.put, List.setIfInBounds_toArray, List.set_cons_zero, List.set_cons_succ]
          refine ht_take 14 (v := ?vw9_14) rfl (by kernel_rfl) (fun _ _ _ h => h) (Or.inl ⟨by rfl, ?hw9_14⟩) hHeld ?rw9_14
          case hw9_14 => ((intro U hSw; obtain ⟨z1, z5⟩ := HY_w9.out U hSw; go_simp); (try (with_reducible rfl)))
          try simp only [Act.put, List.setIfInBounds_toArray, List.set_cons_zero, List.set_cons_succ]
          refine ht_take 15 (v := ?vw9_15) rfl (by kernel_rfl) (fun _ _ _ h => h) (Or.inl ⟨by rfl, ?hw9_15⟩) hHeld ?rw9_15
          case hw9_15 => ((intro U hSw; obtain ⟨z1, z5⟩ := HY_w9.out U hSw; go_simp); (try (with_reducible rfl)))
          try simp only [Act.put, List.setIfInBounds_toArray, List.set_cons_zero, List.set_cons_succ]
          refine ht_done (by kernel_rfl) rfl ?_
          clear hHeld
          obtain ⟨T1, hT1⟩ : ∃ T', T' = ((T.setCell ⟨gI, j * 10 + 4, none⟩ (.slice (some ⟨T.heap.size, 0, none⟩) 2 2)).alloc (.cells #[.string p0, .string p0] 9)).drew := ⟨_, rfl⟩
          have hE1 := ((HET.out.putI (j * 10 + 4) (.slice (some ⟨T.heap.size, 0, none⟩) 2 2)).alloc (.cells #[.string p0, .string p0] 9)).drew
          rw [← hT1] at hE1
          have i1b : T1.cell? ⟨gI, j * 10 + 1, none⟩ = some (.string xx.id) := by
            rw [hE1.oI.cellAt _ (by omega), List.getElem?_set_ne (by omega), ← HET.out.oI.cellAt _ (by omega)]; exact i1
          have lgI1 := (own_base hE1.oI).2
          have hn1 : Rd T1 (strsD [p0, p0]) (.slice (some ⟨T.heap.size, 0, none⟩) 2 2) := by
            have hr : Rd ((T.setCell ⟨gI, j * 10 + 4, none⟩ (.slice (some ⟨T.heap.size, 0, none⟩) 2 2)).alloc (.cells #[.string p0, .string p0] 9)) (strsD [p0, p0]) _ := rd_litC (rdl_cons.2 ⟨_, _, rfl, rd_str.2 rfl, rdl_cons.2 ⟨_, _, rfl, rd_str.2 rfl, rdl_nil.2 rfl⟩⟩) (show 2 ≤ maxLen by decide) rfl
            rw [show ((T.setCell ⟨gI, j * 10 + 4, none⟩ (.slice (some ⟨T.heap.size, 0, none⟩) 2 2))).heap.size = T.heap.size by simp] at hr
            rw [hT1]
            exact Rd.below (Below.refl _ _).drew _ _ hr
          have HN1 := Lib.hid hn1
          clear hn1
          have HE1 := Lib.hid hE1
          have HT1 := Lib.hid hT1.symm
          clear hE1 hT1
          go_upto_region 47 with fail
          rw [HT1.out]
          clear HT1
          refine wp_region_HT 5 (fun U => Below T1.heap.size T1 U) (by kernel_rfl) (by decide) ((Below.refl _ _).drew) (fun hHeld => ?_)
          refine ht_take 0 (v := ?vw9y_1) rfl (by kernel_rfl) (fun _ _ _ h => h) (Or.inl ⟨by rfl, ?hw9y_1⟩) hHeld ?rw9y_1
          case hw9y_1 => ((intro U hSw; have z1 : U.cell? ⟨gI, j * 10 + 1, none⟩ = some (.string xx.id) := (hSw.cell (p := ⟨gI, j * 10 + 1, none⟩) lgI1).trans i1b; go_simp); (try (with_reducible rfl)))
          try simp only [Act.put, List.setIfInBounds_toArray, List.set_cons_zero, List.set_cons_succ]
          refine ht_take 1 (v := ?vw9y_2) rfl (by kernel_rfl) (fun _ _ _ h => h) (Or.inl ⟨by rfl, ?hw9y_2⟩) hHeld ?rw9y_2
          case hw9y_2 => ((intro U hSw; have z1 : U.cell? ⟨gI, j * 10 + 1, none⟩ = some (.string xx.id) := (hSw.cell (p := ⟨gI, j * 10 + 1, none⟩) lgI1).trans i1b; go_simp); (try (with_reducible rfl)))
          try simp only [Act.put, List.setIfInBounds_toArray, List.set_cons_zero, List.set_cons_succ]
          refine ht_take 2 (v := ?vw9y_3) rfl (by kernel_rfl) (fun _ _ _ h => h) (Or.inl ⟨by rfl, ?hw9y_3⟩) hHeld ?rw9y_3
          case hw9y_3 => ((intro U hSw; have z1 : U.cell? ⟨gI, j * 10 + 1, none⟩ = some (.string xx.id) := (hSw.cell (p := ⟨gI, j * 10 + 1, none⟩) lgI1).trans i1b; go_simp); (try (with_reducible rfl)))
          try simp only [Act.put, List.setIfInBounds_toArray, List.set_cons_zero, List.set_cons_succ]
          refine ht_take 3 (v := ?vw9y_4) rfl (by kernel_rfl) (fun _ _ _ h => h) (Or.inl ⟨by rfl, ?hw9y_4⟩) hHeld ?rw9y_4
          case hw9y_4 => ((intro U hSw; have z1 : U.cell? ⟨gI, j * 10 + 1, none⟩ = some (.string xx.id) := (hSw.cell (p := ⟨gI, j * 10 + 1, none⟩) lgI1).trans i1b; go_simp); (try (with_reducible rfl)))
          try simp only [Act.put, List.setIfInBounds_toArray, List.set_cons_zero, List.set_cons_succ]
          refine ht_take 4 (v := ?vw9y_5) rfl (by kernel_rfl) (fun _ _ _ h => h) (Or.inl ⟨by rfl, ?hw9y_5⟩) hHeld ?rw9y_5
          case hw9y_5 => ((intro U hSw; have z1 : U.cell? ⟨gI, j * 10 + 1, none⟩ = some (.string xx.id) := (hSw.cell (p := ⟨gI, j * 10 + 1, none⟩) lgI1).trans i1b; go_simp); (try (with_reducible rfl)))
          try simp only [Act.put, List.setIfInBounds_toArray, List.set_cons_zero, List.set_cons_succ]
          refine ht_done (by kernel_rfl) rfl ?_
          clear hHeld
          obtain ⟨T2, hT2⟩ : ∃ T', T' = T1.drew := ⟨_, rfl⟩
          have hE2 := HE1.out.drew
          rw [← hT2] at hE2
          have hBad := bad9 HR.out hj H3.out
          rw [← HX.out, ← HP0.out] at hBad
          have HRC := Lib.hid (bad_end (Is := c.items.set j (setFlows xx [p0, p0])) (Ss := c.seqs) HO.out hE2 (elem_set (y := setFlows xx [p0, p0]) itemC_len (show 4 < 10 by decide) c.items j hj xsI (fun vs hv => by
            rw [← HX.out] at hv
            obtain ⟨v3, v4, v7, v8, v9, rfl, hV⟩ := rd_itemC.1 hv
            have hn2 : Rd T2 (strsD [p0, p0]) (.slice (some ⟨T.heap.size, 0, none⟩) 2 2) := by rw [hT2]; exact Rd.below (Below.refl _ _).drew _ _ HN1.out
            exact rd_itemC.2 ⟨v3, _, v7, v8, v9, rfl, hV.1, hn2, hV.2.2.1, hV.2.2.2.1, hV.2.2.2.2⟩) (HO.out.itemL hE2.gr)) (HO.out.seqL hE2.gr) (by simp) (by simp) hBad)
          have HB9 := Lib.hid (gr_end HO.out.bel hE2.gr HO.out.ge HO.out.bel.size)
          have HT2 := Lib.hid hT2.symm
          clear hBad hE2 hT2
          go_upto_region 51 with fail
          rw [HT2.out]
          exact bad_tail HRC HB9 (by rfl) (by rfl) (by assumption)
        · have HYS : ∀ U, (fun U => Blk U gb 54 (chCs c.id (.slice AP c.parts.length cP) (.slice (some ⟨gF, 0, none⟩) c.flows.length kF) (.slice (some ⟨gI, 0, none⟩) c.items.length kI) (.slice (some ⟨gS, 0, none⟩) c.seqs.length kS) xs) ∧ U.ownsRow w1.heap.size 30 10 (.slice (some ⟨gI, 0, none⟩) c.items.length kI) c.items.length xsI) U → U.cell? ⟨gb, 4, none⟩ = some (.slice (some ⟨gS, 0, none⟩) c.seqs.length kS) ∧ U.cell? ⟨gb, 3, none⟩ = some (.slice (some ⟨gI, 0, none⟩) c.items.length kI) ∧ U.cell? ⟨gI, j * 10 + 1, none⟩ = some (.string xx.id) ∧ U.cell? ⟨gI, 1, none⟩ = some (.string y0.id) := fun U hSw => ⟨hSw.1.cell 4, hSw.1.cell 3, (hSw.2.cellAt _ (by omega)).trans ((HET.out.oI.cellAt _ (by omega)).symm.trans i1), (hSw.2.cellAt _ (by omega)).trans ((HET.out.oI.cellAt _ (by omega)).symm.trans k1)⟩
          have HYS := Lib.hid HYS
          go_upto_region 32 with fail
          refine wp_region_HT 21 (fun U => Blk U gb 54 (chCs c.id (.slice AP c.parts.length cP) (.slice (some ⟨gF, 0, none⟩) c.flows.length kF) (.slice (some ⟨gI, 0, none⟩) c.items.length kI) (.slice (some ⟨gS, 0, none⟩) c.seqs.length kS) xs) ∧ U.ownsRow w1.heap.size 30 10 (.slice (some ⟨gI, 0, none⟩) c.items.length kI) c.items.length xsI) (by kernel_rfl) (by decide) (⟨HET.out.blk, HET.out.oI⟩) (fun hHeld => ?_)
          refine ht_take 0 (v := ?vw5_1) rfl (by kernel_rfl) (fun _ _ _ h => h) (Or.inl ⟨by rfl, ?hw5_1⟩) hHeld ?rw5_1
          case hw5_1 => ((intro U hS; obtain ⟨z4, z3, zx, z0⟩ := HYS.out U hS; go_simp); (try (with_reducible rfl)))
          try simp only [Act.put, List.setIfInBounds_toArray, List.set_cons_zero, List.set_cons_succ]
          refine ht_take 1 (v := ?vw5_2) rfl (by kernel_rfl) (fun _ _ _ h => h) (Or.inl ⟨by rfl, ?hw5_2⟩) hHeld ?rw5_2
          case hw5_2 => ((intro U hS; obtain ⟨z4, z3, zx, z0⟩ := HYS.out U hS; go_simp); (try (with_reducible rfl)))
          try simp only [Act.put, List.setIfInBounds_toArray, List.set_cons_zero, List.set_cons_succ]
          refine ht_take 2 (v := ?vw5_3) rfl (by kernel_rfl) (fun _ _ _ h => h) (Or.inl ⟨by rfl, ?hw5_3⟩) hHeld ?rw5_3
          case hw5_3 => ((intro U hS; obtain ⟨z4, z3, zx, z0⟩ := HYS.out U hS; go_simp); (try (with_reducible rfl)))
          try simp only [Act.put, List.setIfInBounds_toArray, List.set_cons_zero, List.set_cons_succ]
          refine ht_take 3 (v := ?vw5_4) rfl (by kernel_rfl) (fun _ _ _ h => h) (Or.inl ⟨by rfl, ?hw5_4⟩) hHeld ?rw5_4
          case hw5_4 => ((intro U hS; obtain ⟨z4, z3, zx, z0⟩ := HYS.out U hS; go_simp); (try (with_reducible rfl)))
          try simp only [Act.put, List.setIfInBounds_toArray, List.set_cons_zero, List.set_cons_succ]
          refine ht_take 4 (v := ?vw5_5) rfl (by kernel_rfl) (fun _ _ _ h => h) (Or.inl ⟨by rfl, ?hw5_5⟩) hHeld ?rw5_5
          case hw5_5 => ((intro U hS; obtain ⟨z4, z3, zx, z0⟩ := HYS.out U hS; go_simp); (try (with_reducible rfl)))
          try simp only [Act.put, List.setIfInBounds_toArray, List.set_cons_zero, List.set_cons_succ]
          refine ht_take 5 (v := ?vw5_6) rfl (by kernel_rfl) (fun _ _ _ h => h) (Or.inl ⟨by rfl, ?hw5_6⟩) hHeld ?rw5_6
          case hw5_6 => ((intro U hS; obtain ⟨z4, z3, zx, z0⟩ := HYS.out U hS; go_simp); (try (with_reducible rfl)))
          try simp only [Act.put, List.setIfInBounds_toArray, List.set_cons_zero, List.set_cons_succ]
          refine ht_take 6 (v := ?vw5_7) rfl (by kernel_rfl) (fun _ _ _ h => h) (Or.inl ⟨by rfl, ?hw5_7⟩) hHeld ?rw5_7
          case hw5_7 => ((intro U hS; obtain ⟨z4, z3, zx, z0⟩ := HYS.out U hS; go_simp); (try (with_reducible rfl)))
          try simp only [Act.put, List.setIfInBounds_toArray, List.set_cons_zero, List.set_cons_succ]
          refine ht_take 7 (v := ?vw5_8) rfl (by kernel_rfl) (fun _ _ _ h => h) (Or.inl ⟨by rfl, ?hw5_8⟩) hHeld ?rw5_8
          case hw5_8 => ((intro U hS; obtain ⟨z4, z3, zx, z0⟩ := HYS.out U hS; go_simp); (try (with_reducible rfl)))
          try simp only [Act.put, List.setIfInBounds_toArray, List.set_cons_zero, List.set_cons_succ]
          refine ht_take 8 (v := ?vw5_9) rfl (by kernel_rfl) (fun _ _ _ h => h) (Or.inl ⟨by rfl, ?hw5_9⟩) hHeld ?rw5_9
          case hw5_9 => ((intro U hS; obtain ⟨z4, z3, zx, z0⟩ := HYS.out U hS; go_simp); (try (with_reducible rfl)))
          try simp only [Act.put, List.setIfInBounds_toArray, List.set_cons_zero, List.set_cons_succ]
          refine ht_take 9 (v := ?vw5_10) rfl (by kernel_rfl) (fun _ _ _ h => h) (Or.inl ⟨by rfl, ?hw5_10⟩) hHeld ?rw5_10
          case hw5_10 => ((intro U hS; obtain ⟨z4, z3, zx, z0⟩ := HYS.out U hS; go_simp); (try (with_reducible rfl)))
          try simp only [Act.put, List.setIfInBounds_toArray, List.set_cons_zero, List.set_cons_succ]
          refine ht_take 10 (v := ?vw5_11) rfl (by kernel_rfl) (fun _ _ _ h => h) (Or.inl ⟨by rfl, ?hw5_11⟩) hHeld ?rw5_11
          case hw5_11 => ((intro U hS; obtain ⟨z4, z3, zx, z0⟩ := HYS.out U hS; go_simp); (try (with_reducible rfl)))
          try simp only [Act.put, List.setIfInBounds_toArray, List.set_cons_zero, List.set_cons_succ]
          refine ht_take 11 (v := ?vw5_12) rfl (by kernel_rfl) (fun _ _ _ h => h) (Or.inl ⟨by rfl, ?hw5_12⟩) hHeld ?rw5_12
          case hw5_12 => ((intro U hS; obtain ⟨z4, z3, zx, z0⟩ := HYS.out U hS; go_simp); (try (with_reducible rfl)))
          try simp only [Act.put, List.setIfInBounds_toArray, List.set_cons_zero, List.set_cons_succ]
          refine ht_take 12 (v := ?vw5_13) rfl (by kernel_rfl) (fun _ _ _ h => h) (Or.inl ⟨by rfl, ?hw5_13⟩) hHeld ?rw5_13
          case hw5_13 => ((intro U hS; obtain ⟨z4, z3, zx, z0⟩ := HYS.out U hS; go_simp); (try (with_reducible rfl)))
          try simp only [Act.put, List.setIfInBounds_toArray, List.set_cons_zero, List.set_cons_succ]
          refine ht_take 13 (v := ?vw5_14) rfl (by kernel_rfl) (fun _ _ _ h => h) (Or.inl ⟨by rfl, ?hw5_14⟩) hHeld ?rw5_14
          case hw5_14 => ((intro U hS; obtain ⟨z4, z3, zx, z0⟩ := HYS.out U hS; go_simp); (try (with_reducible rfl)))
          try simp only [Act.put, List.setIfInBounds_toArray, List.set_cons_zero, List.set_cons_succ]
          refine ht_take 14 (v := ?vw5_15) rfl (by kernel_rfl) (fun _ _ _ h => h) (Or.inl ⟨by rfl, ?hw5_15⟩) hHeld ?rw5_15
          case hw5_15 => ((intro U hS; obtain ⟨z4, z3, zx, z0⟩ := HYS.out U hS; go_simp); (try (with_reducible rfl)))
          try simp only [Act.put, List.setIfInBounds_toArray, List.set_cons_zero, List.set_cons_succ]
          refine ht_take 15 (v := ?vw5_16) rfl (by kernel_rfl) (fun _ _ _ h => h) (Or.inl ⟨by rfl, ?hw5_16⟩) hHeld ?rw5_16
          case hw5_16 => ((intro U hS; obtain ⟨z4, z3, zx, z0⟩ := HYS.out U hS; go_simp); (try (with_reducible rfl)))
          try simp only [Act.put, List.setIfInBounds_toArray, List.set_cons_zero, List.set_cons_succ]
          refine ht_take 16 (v := ?vw5_17) rfl (by kernel_rfl) (fun _ _ _ h => h) (Or.inl ⟨by rfl, ?hw5_17⟩) hHeld ?rw5_17
          case hw5_17 => ((intro U hS; obtain ⟨z4, z3, zx, z0⟩ := HYS.out U hS; go_simp); (try (with_reducible rfl)))
          try simp only [Act.put, List.setIfInBounds_toArray, List.set_cons_zero, List.set_cons_succ]
          refine ht_one 17 rfl (by kernel_rfl) (fun K hK => ?_)
          go_simp
          refine hK.out _ _ (⟨hHeld.1.alloc _, hHeld.2.alloc _⟩) (fun hHeld => ?_)
          clear hK K
          try simp only [Act.put, List.setIfInBounds_toArray, List.set_cons_zero, List.set_cons_succ]
          refine ht_one 18 rfl (by kernel_rfl) (fun K hK => ?_)
          refine step_append_lies _ (by rfl) (.tmp 217) (.tmp 230) _ (by rfl) w1.heap.size 33 si0 _ 3 48 Try.underlying25 hsi0 hsz0 hsz1 hsz2 rfl (by omega) (.slice (some ⟨gS, 0, none⟩) c.seqs.length kS) c.seqs.length xsS (by rfl) ((HET.out.drew.alloc _).oS) ⟨T.drew.heap.size, 0, none⟩ 1 1 [.string ⟨#[122, 122]⟩, .string xx.id, .string y0.id] (by rfl) (by rfl) (World.news_of_block (cs := #[.string ⟨#[122, 122]⟩, .string xx.id, .string y0.id]) (t := 33) (fr := (0, 0)) (heap_alloc_new T.drew _)) (by simp [Value.oneCell']) (by omega) (by unfold maxLen; omega) (by omega) (by have := HET.out.gr.size; simp at this ⊢; omega) (T.drew.heap.size + 1) (by simp) ?_
          intro gA capA w2 hownS hgrow _ _
          refine hK.out _ _ (⟨hHeld.1.grown hgrow (Ne.symm (blk_own_ne HET.out.oS HET.out.blk (by decide))), hHeld.2.kept hgrow (own_own_ne hHeld.2 (HET.out.drew.alloc (.cells #[.string ⟨#[122, 122]⟩, .string xx.id, .string y0.id] 33)).oS (by decide))⟩) (fun hHeld => ?_)
          clear hK K
          try simp only [Act.put, List.setIfInBounds_toArray, List.set_cons_zero, List.set_cons_succ]
          refine ht_take 19 (v := ?vw5_18) rfl (by kernel_rfl) (fun _ _ _ h => h) (Or.inl ⟨by rfl, ?hw5_18⟩) hHeld ?rw5_18
          case hw5_18 => ((intro U hS; obtain ⟨z4, z3, zx, z0⟩ := HYS.out U hS; go_simp); (try (with_reducible rfl)))
          try simp only [Act.put, List.setIfInBounds_toArray, List.set_cons_zero, List.set_cons_succ]
          refine ht_take 20 (v := ?vw5_19) rfl (by kernel_rfl) (fun _ _ _ h => h) (Or.inl ⟨by rfl, ?hw5_19⟩) hHeld ?rw5_19
          case hw5_19 => ((intro U hS; obtain ⟨z4, z3, zx, z0⟩ := HYS.out U hS; go_simp); (try (with_reducible rfl)))
          try simp only [Act.put, List.setIfInBounds_toArray, List.set_cons_zero, List.set_cons_succ]
          refine ht_done (by kernel_rfl) rfl ?_
          have hEA := (HET.out.drew.alloc (.cells #[.string ⟨#[122, 122]⟩, .string xx.id, .string y0.id] 33)).appS hgrow hownS
          have HEA := Lib.hid hEA
          clear hEA hHeld hgrow hownS
          have y4 : w2.cell? ⟨gb, 4, none⟩ = some (.slice (some ⟨gS, 0, none⟩) c.seqs.length kS) := HEA.out.blk.cell 4
          have y4f : w2.frozen? ⟨gb, 4, none⟩ = false := HEA.out.blk.frozen 4
          have y4l := HEA.out.blk.lt
          obtain ⟨T1, hT1⟩ : ∃ T', T' = w2.setCell ⟨gb, 4, none⟩ (.slice (some ⟨gA, 0, none⟩) (c.seqs.length + 1) capA) := ⟨_, rfl⟩
          have hE1 := HEA.out.putB4 (.slice (some ⟨gA, 0, none⟩) (c.seqs.length + 1) capA)
          rw [← hT1] at hE1
          have z3b : T1.cell? ⟨gb, 3, none⟩ = some (.slice (some ⟨gI, 0, none⟩) c.items.length kI) := hE1.blk.cell 3
          have z0b : T1.cell? ⟨gI, 1, none⟩ = some (.string y0.id) := (hE1.oI.cellAt _ (by omega)).trans ((HET.out.oI.cellAt _ (by omega)).symm.trans k1)
          have lgb1 := hE1.blk.lt
          have lgI1 := (own_base hE1.oI).2
          have HE1 := Lib.hid hE1
          have HT1 := Lib.hid hT1.symm
          clear hE1 hT1
          go_upto_region 33 with fail
          rw [HT1.out]
          clear HT1
          have HY_w5y := Lib.hid (fun (U : World) (hSw : (fun U => Below T1.heap.size T1 U) U) => And.intro (show U.cell? ⟨gb, 3, none⟩ = some (.slice (some ⟨gI, 0, none⟩) c.items.length kI) from (hSw.cell (p := ⟨gb, 3, none⟩) lgb1).trans z3b) ((show U.cell? ⟨gI, 1, none⟩ = some (.string y0.id) from (hSw.cell (p := ⟨gI, 1, none⟩) lgI1).trans z0b)))
          refine wp_region_HT 8 (fun U => Below T1.heap.size T1 U) (by kernel_rfl) (by decide) ((Below.refl _ _).drew) (fun hHeld => ?_)
          refine ht_take 0 (v := ?vw5y_1) rfl (by kernel_rfl) (fun _ _ _ h => h) (Or.inl ⟨by rfl, ?hw5y_1⟩) hHeld ?rw5y_1
          case hw5y_1 => ((intro U hSw; obtain ⟨z3, z1⟩ := HY_w5y.out U hSw; go_simp); (try (with_reducible rfl)))
          try simp only [Act.put, List.setIfInBounds_toArray, List.set_cons_zero, List.set_cons_succ]
          refine ht_take 1 (v := ?vw5y_2) rfl (by kernel_rfl) (fun _ _ _ h => h) (Or.inl ⟨by rfl, ?hw5y_2⟩) hHeld ?rw5y_2
          case hw5y_2 => ((intro U hSw; obtain ⟨z3, z1⟩ := HY_w5y.out U hSw; go_simp); (try (with_reducible rfl)))
          try simp only [Act.put, List.setIfInBounds_toArray, List.set_cons_zero, List.set_cons_succ]
          refine ht_take 2 (v := ?vw5y_3) rfl (by kernel_rfl) (fun _ _ _ h => h) (Or.inl ⟨by rfl, ?hw5y_3⟩) hHeld ?rw5y_3
          case hw5y_3 => ((intro U hSw; obtain ⟨z3, z1⟩ := HY_w5y.out U hSw; go_simp); (try (with_reducible rfl)))
          try simp only [Act.put, List.setIfInBounds_toArray, List.set_cons_zero, List.set_cons_succ]
          refine ht_take 3 (v := ?vw5y_4) rfl (by kernel_rfl) (fun _ _ _ h => h) (Or.inl ⟨by rfl, ?hw5y_4⟩) hHeld ?rw5y_4
          case hw5y_4 => ((intro U hSw; obtain ⟨z3, z1⟩ := HY_w5y.out U hSw; go_simp); (try (with_reducible rfl)))
          try simp only [Act.put, List.setIfInBounds_toArray, List.set_cons_zero, List.set_cons_succ]
          refine ht_take 4 (v := ?vw5y_5) rfl (by kernel_rfl) (fun _ _ _ h => h) (Or.inl ⟨by rfl, ?hw5y_5⟩) hHeld ?rw5y_5
          case hw5y_5 => ((intro U hSw; obtain ⟨z3, z1⟩ := HY_w5y.out U hSw; go_simp); (try (with_reducible rfl)))
          try simp only [Act.put, List.setIfInBounds_toArray, List.set_cons_zero, List.set_cons_succ]
          refine ht_take 5 (v := ?vw5y_6) rfl (by kernel_rfl) (fun _ _ _ h => h) (Or.inl ⟨by rfl, ?hw5y_6⟩) hHeld ?rw5y_6
          case hw5y_6 => ((intro U hSw; obtain ⟨z3, z1⟩ := HY_w5y.out U hSw; go_simp); (try (with_reducible rfl)))
          try simp only [Act.put, List.setIfInBounds_toArray, List.set_cons_zero, List.set_cons_succ]
          refine ht_take 6 (v := ?vw5y_7) rfl (by kernel_rfl) (fun _ _ _ h => h) (Or.inl ⟨by rfl, ?hw5y_7⟩) hHeld ?rw5y_7
          case hw5y_7 => ((intro U hSw; obtain ⟨z3, z1⟩ := HY_w5y.out U hSw; go_simp); (try (with_reducible rfl)))
          try simp only [Act.put, List.setIfInBounds_toArray, List.set_cons_zero, List.set_cons_succ]
          refine ht_take 7 (v := ?vw5y_8) rfl (by kernel_rfl) (fun _ _ _ h => h) (Or.inl ⟨by rfl, ?hw5y_8⟩) hHeld ?rw5y_8
          case hw5y_8 => ((intro U hSw; obtain ⟨z3, z1⟩ := HY_w5y.out U hSw; go_simp); (try (with_reducible rfl)))
          try simp only [Act.put, List.setIfInBounds_toArray, List.set_cons_zero, List.set_cons_succ]
          refine ht_done (by kernel_rfl) rfl ?_
          clear hHeld
          obtain ⟨T2, hT2⟩ : ∃ T', T' = T1.drew := ⟨_, rfl⟩
          have hE2 := HE1.out.drew
          rw [← hT2] at hE2
          have hBad := bad5 HR.out (show xx ∈ c.items by rw [HX.out]; exact List.getElem_mem hj) (by rw [HX.out]; exact H3.out)
          have HRC := Lib.hid (bad_end (Is := c.items) (Ss := c.seqs ++ [newQ 122 xx.id y0.id]) HO.out hE2 (HO.out.itemL hE2.gr) (by rw [List.flatMap_append]; exact RdL.append (HO.out.seqL hE2.gr) (rdl_cons.2 ⟨_, _, rfl, rd_str.2 rfl, rdl_cons.2 ⟨_, _, rfl, rd_str.2 rfl, rdl_cons.2 ⟨_, _, rfl, rd_str.2 rfl, rdl_nil.2 rfl⟩⟩⟩)) (by simp) (by simp) hBad)
          have HB9 := Lib.hid (gr_end HO.out.bel hE2.gr HO.out.ge HO.out.bel.size)
          have HT2 := Lib.hid hT2.symm
          clear hBad hE2 hT2
          go_upto_region 51 with fail
          rw [HT2.out]
          exact bad_tail HRC HB9 (by rfl) (by rfl) (by assumption)
        · go_upto_region 35 with fail
          go_cut [] (fun wx => ∃ gA capA, Ed3 w1 gb gd gA gF gS (c.items.length + 1) capA c.flows.length kF c.seqs.length kS (chCs c.id (.slice AP c.parts.length cP) (.slice (some ⟨gF, 0, none⟩) c.flows.length kF) (.slice (some ⟨gA, 0, none⟩) (c.items.length + 1) capA) (.slice (some ⟨gS, 0, none⟩) c.seqs.length kS) xs) #[.slice A3 4 c3, .slice (some ⟨gb, 0, none⟩) 1 1] (xsI ++ itV 4 122) xsF xsS wx)
          case first =>
            refine hs_region 13 7 (fun U => Blk U gb 54 (chCs c.id (.slice AP c.parts.length cP) (.slice (some ⟨gF, 0, none⟩) c.flows.length kF) (.slice (some ⟨gI, 0, none⟩) c.items.length kI) (.slice (some ⟨gS, 0, none⟩) c.seqs.length kS) xs)) (by kernel_rfl) rfl (HET.out.blk) (fun hHeld => ?_)
            refine hs_take 0 (v := ?vw6_1) rfl (by kernel_rfl) (fun _ _ _ h => h) (Or.inl ⟨by rfl, ?hw6_1⟩) hHeld ?rw6_1
            case hw6_1 => ((intro U hSw; have z3 : U.cell? ⟨gb, 3, none⟩ = some (.slice (some ⟨gI, 0, none⟩) c.items.length kI) := hSw.cell 3; go_simp); (try (with_reducible rfl)))
            try simp only [Act.put, List.setIfInBounds_toArray, List.set_cons_zero, List.set_cons_succ]
            refine hs_take 1 (v := ?vw6_2) rfl (by kernel_rfl) (fun _ _ _ h => h) (Or.inl ⟨by rfl, ?hw6_2⟩) hHeld ?rw6_2
            case hw6_2 => ((intro U hSw; have z3 : U.cell? ⟨gb, 3, none⟩ = some (.slice (some ⟨gI, 0, none⟩) c.items.length kI) := hSw.cell 3; go_simp); (try (with_reducible rfl)))
            try simp only [Act.put, List.setIfInBounds_toArray, List.set_cons_zero, List.set_cons_succ]
            refine hs_take 2 (v := ?vw6_3) rfl (by kernel_rfl) (fun _ _ _ h => h) (Or.inl ⟨by rfl, ?hw6_3⟩) hHeld ?rw6_3
            case hw6_3 => ((intro U hSw; have z3 : U.cell? ⟨gb, 3, none⟩ = some (.slice (some ⟨gI, 0, none⟩) c.items.length kI) := hSw.cell 3; go_simp); (try (with_reducible rfl)))
            try simp only [Act.put, List.setIfInBounds_toArray, List.set_cons_zero, List.set_cons_succ]
            refine hs_take 3 (v := ?vw6_4) rfl (by kernel_rfl) (fun _ _ _ h => h) (Or.inl ⟨by rfl, ?hw6_4⟩) hHeld ?rw6_4
            case hw6_4 => ((intro U hSw; have z3 : U.cell? ⟨gb, 3, none⟩ = some (.slice (some ⟨gI, 0, none⟩) c.items.length kI) := hSw.cell 3; go_simp); (try (with_reducible rfl)))
            try simp only [Act.put, List.setIfInBounds_toArray, List.set_cons_zero, List.set_cons_succ]
            refine hs_take 4 (v := ?vw6_5) rfl (by kernel_rfl) (fun _ _ _ h => h) (Or.inl ⟨by rfl, ?hw6_5⟩) hHeld ?rw6_5
            case hw6_5 => ((intro U hSw; have z3 : U.cell? ⟨gb, 3, none⟩ = some (.slice (some ⟨gI, 0, none⟩) c.items.length kI) := hSw.cell 3; go_simp); (try (with_reducible rfl)))
            try simp only [Act.put, List.setIfInBounds_toArray, List.set_cons_zero, List.set_cons_succ]
            refine hs_take 5 (v := ?vw6_6) rfl (by kernel_rfl) (fun _ _ _ h => h) (Or.inl ⟨by rfl, ?hw6_6⟩) hHeld ?rw6_6
            case hw6_6 => ((intro U hSw; have z3 : U.cell? ⟨gb, 3, none⟩ = some (.slice (some ⟨gI, 0, none⟩) c.items.length kI) := hSw.cell 3; go_simp); (try (with_reducible rfl)))
            try simp only [Act.put, List.setIfInBounds_toArray, List.set_cons_zero, List.set_cons_succ]
            refine hs_one 6 rfl (by kernel_rfl) (fun K hK => ?_)
            go_simp
            refine hK.out _ _ (hHeld.alloc _) (fun hHeld => ?_)
            clear hK K
            try simp only [Act.put, List.setIfInBounds_toArray, List.set_cons_zero, List.set_cons_succ]
            refine hs_end rfl (by kernel_rfl) (fun K hK => ?_)
            refine step_append_lies _ (by rfl) (.tmp 246) (.tmp 249) _ (by rfl) w1.heap.size 30 ii0 _ 10 184 Try.underlying24 hii0 hiz0 hiz1 hiz2 rfl (by omega) (.slice (some ⟨gI, 0, none⟩) c.items.length kI) c.items.length xsI (by rfl) ((HET.out.drew.alloc _).oI) ⟨T.drew.heap.size, 0, none⟩ 1 1 [.int .i64 0, .string ⟨#[]⟩, .string ⟨#[]⟩, .slice none 0 0, .slice none 0 0, .bool false, .string ⟨#[]⟩, .slice none 0 0, .slice none 0 0, .slice none 0 0] (by rfl) (by rfl) (World.news_of_block (cs := #[.int .i64 0, .string ⟨#[]⟩, .string ⟨#[]⟩, .slice none 0 0, .slice none 0 0, .bool false, .string ⟨#[]⟩, .slice none 0 0, .slice none 0 0, .slice none 0 0]) (t := 30) (fr := (0, 0)) (heap_alloc_new T.drew _)) (by simp [Value.oneCell']) (by omega) (by unfold maxLen; omega) (by omega) (by have := HET.out.gr.size; simp at this ⊢; omega) (T.drew.heap.size + 1) (by simp) ?_
            intro gA capA W0 hownI hgrow _ _
            have hxl : xsI.length = c.items.length * 10 := HET.out.oI.1
            have HXL := Lib.hid hxl
            have hEA := (HET.out.drew.alloc (.cells #[.int .i64 0, .string ⟨#[]⟩, .string ⟨#[]⟩, .slice none 0 0, .slice none 0 0, .bool false, .string ⟨#[]⟩, .slice none 0 0, .slice none 0 0, .slice none 0 0] 30)).appI hgrow hownI
            have HE0 := Lib.hid hEA
            have hin0 : (c.items.length : Int) < (c.items.length : Int) + 1 := by omega
            clear hEA hgrow hownI hxl
            refine hK.out _ _ ?_
            clear hK K
            try simp only [Act.put, List.setIfInBounds_toArray, List.set_cons_zero, List.set_cons_succ]
            refine hd_take 8 (v := ?vw6_7) rfl (by kernel_rfl) (fun _ _ _ h => h) (Or.inl ⟨by rfl, ?hw6_7⟩) ?rw6_7
            case hw6_7 => (intro U _; go_simp; (try (with_reducible rfl)))
            try simp only [Act.put, List.setIfInBounds_toArray, List.set_cons_zero, List.set_cons_succ]
            refine hd_take 10 (v := ?vw6_8) rfl (by kernel_rfl) (fun _ _ _ h => h) (Or.inl ⟨by rfl, ?hw6_8⟩) ?rw6_8
            case hw6_8 => (intro U _; go_simp; (try (with_reducible rfl)))
            try simp only [Act.put, List.setIfInBounds_toArray, List.set_cons_zero, List.set_cons_succ]
            refine hd_take 11 (v := ?vw6_9) rfl (by kernel_rfl) (fun _ _ _ h => h) (Or.inl ⟨by rfl, ?hw6_9⟩) ?rw6_9
            case hw6_9 => (intro U _; go_simp; (try (with_reducible rfl)))
            try simp only [Act.put, List.setIfInBounds_toArray, List.set_cons_zero, List.set_cons_succ]
            refine hd_all [9, 12] (by kernel_rfl) ?_
            refine hd_cons (i := 9) rfl (fun K hK => ?_) (hd_cons (i := 12) rfl (fun K hK => ?_) (allHd.nil))
            · as_aux_lemma =>
              rw [if_pos (wantedB _ rfl _)]
              have hth := there_row HE0.out.oI (o := c.items.length * 10) (m := 10) (by omega)
              have hE := Ed3.writeI (o := c.items.length * 10) (xs := xsI) (a := []) (z := zIt) (t := []) (vs := itV 4 122) HE0.out (by have := HXL.out; show c.items.length * 10 = xsI.length + 0; omega) rfl
              obtain ⟨W1, hW⟩ : ∃ W', W' = W0.setCells gA (c.items.length * 10) (itV 4 122) := ⟨_, rfl⟩
              rw [← hW] at hE
              have HE1 := Lib.hid hE
              clear hE
              refine wp_store_mid 30 (.tmp 251) (.tmp 247) (by rfl) gA (c.items.length * 10) #[.int .i64 4, .string ⟨#[122, 122]⟩, .string ⟨#[]⟩, .slice none 0 0, .slice none 0 0, .bool false, .string ⟨#[]⟩, .slice none 0 0, .slice none 0 0, .slice none 0 0] (by rfl) (by rfl) hth (by rw [hii0]; simp [hiz1]) (by simp [Value.oneCell']) ?_
              clear hth
              change K _ (W0.setCells gA (c.items.length * 10) (itV 4 122))
              rw [← hW]
              clear hW
              refine hK.out _ _ ?_
              clear hK K
              try simp only [Act.put]
              refine hd_all [12] (by kernel_rfl) ?_
              refine hd_cons (i := 12) rfl (fun K hK => ?_) (allHd.nil)
              · as_aux_lemma =>
                have y3 : W1.cell? ⟨gb, 3, none⟩ = some (.slice (some ⟨gI, 0, none⟩) c.items.length kI) := HE1.out.blk.cell 3
                have y3f : W1.frozen? ⟨gb, 3, none⟩ = false := HE1.out.blk.frozen 3
                have y3l := HE1.out.blk.lt
                go_simp
                obtain ⟨W2, hW⟩ : ∃ W', W' = W1.setCell ⟨gb, 3, none⟩ (.slice (some ⟨gA, 0, none⟩) (c.items.length + 1) capA) := ⟨_, rfl⟩
                have hE := HE1.out.putB3 (.slice (some ⟨gA, 0, none⟩) (c.items.length + 1) capA)
                rw [← hW] at hE ⊢
                have HE2 := Lib.hid hE
                clear hE hW y3 y3f y3l
                refine hK.out _ _ ?_
                clear hK K
                try simp only [Act.put]
                refine hd_done (by kernel_rfl) ?_
                go_wp2_with fail
                go_meet
                case rel => exact ⟨gA, capA, by simpa only [List.append_assoc, List.append_nil, List.nil_append] using HE2.out⟩
            · as_aux_lemma =>
              have y3 : W0.cell? ⟨gb, 3, none⟩ = some (.slice (some ⟨gI, 0, none⟩) c.items.length kI) := HE0.out.blk.cell 3
              have y3f : W0.frozen? ⟨gb, 3, none⟩ = false := HE0.out.blk.frozen 3
              have y3l := HE0.out.blk.lt
              go_simp
              obtain ⟨W1, hW⟩ : ∃ W', W' = W0.setCell ⟨gb, 3, none⟩ (.slice (some ⟨gA, 0, none⟩) (c.items.length + 1) capA) := ⟨_, rfl⟩
              have hE := HE0.out.putB3 (.slice (some ⟨gA, 0, none⟩) (c.items.length + 1) capA)
              rw [← hW] at hE ⊢
              have HE1 := Lib.hid hE
              clear hE hW y3 y3f y3l
              refine hK.out _ _ ?_
              clear hK K
              try simp only [Act.put]
              refine hd_all [9] (by kernel_rfl) ?_
              refine hd_cons (i := 9) rfl (fun K hK => ?_) (allHd.nil)
              · as_aux_lemma =>
                rw [if_pos (wantedB _ rfl _)]
                have hth := there_row HE1.out.oI (o := c.items.length * 10) (m := 10) (by omega)
                have hE := Ed3.writeI (o := c.items.length * 10) (xs := xsI) (a := []) (z := zIt) (t := []) (vs := itV 4 122) HE1.out (by have := HXL.out; show c.items.length * 10 = xsI.length + 0; omega) rfl
                obtain ⟨W2, hW⟩ : ∃ W', W' = W1.setCells gA (c.items.length * 10) (itV 4 122) := ⟨_, rfl⟩
                rw [← hW] at hE
                have HE2 := Lib.hid hE
                clear hE
                refine wp_store_mid 30 (.tmp 251) (.tmp 247) (by rfl) gA (c.items.length * 10) #[.int .i64 4, .string ⟨#[122, 122]⟩, .string ⟨#[]⟩, .slice none 0 0, .slice none 0 0, .bool false, .string ⟨#[]⟩, .slice none 0 0, .slice none 0 0, .slice none 0 0] (by rfl) (by rfl) hth (by rw [hii0]; simp [hiz1]) (by simp [Value.oneCell']) ?_
                clear hth
                change K _ (W1.setCells gA (c.items.length * 10) (itV 4 122))
                rw [← hW]
                clear hW
                refine hK.out _ _ ?_
                clear hK K
                try simp only [Act.put]
                refine hd_done (by kernel_rfl) ?_
                go_wp2_with fail
                go_meet
                case rel => exact ⟨gA, capA, by simpa only [List.append_assoc, List.append_nil, List.nil_append] using HE2.out⟩
          case rest =>
            obtain ⟨gA, capA, hE⟩ := hcut
            obtain ⟨V, rfl⟩ : ∃ V, V = wc := ⟨_, rfl⟩
            have HEV := Lib.hid hE
            clear hE
            have x4 : V.cell? ⟨gb, 4, none⟩ = some (.slice (some ⟨gS, 0, none⟩) c.seqs.length kS) := HEV.out.blk.cell 4
            have lgbW := HEV.out.blk.lt
            go_upto_region 36 with fail
            go_wp2_with (at_builtin; refine wpList_append_lies _ rfl (.tmp 258) (.tmp 261) _ rfl w1.heap.size 33 si0 _ 3 48 Try.underlying25 hsi0 hsz0 hsz1 hsz2 rfl (by omega) (.slice (some ⟨gS, 0, none⟩) c.seqs.length kS) c.seqs.length xsS rfl ((HEV.out.alloc _).oS) ⟨V.heap.size, 0, none⟩ 1 1 [.string ⟨#[122, 121]⟩, .string ye.id, .string ⟨#[122, 122]⟩] rfl rfl (World.news_of_block (cs := #[.string ⟨#[122, 121]⟩, .string ye.id, .string ⟨#[122, 122]⟩]) (t := 33) (fr := (0, 0)) (heap_alloc_new V _)) (by simp [Value.oneCell']) (by omega) (by unfold maxLen; omega) (by omega) (by have := HEV.out.gr.size; simp at this ⊢; omega) (V.heap.size + 1) (by simp) ?_)
            intro gB capB w2 hownS hgrow _ _
            have hEA := (HEV.out.alloc (.cells #[.string ⟨#[122, 121]⟩, .string ye.id, .string ⟨#[122, 122]⟩] 33)).appS hgrow hownS
            have HEA := Lib.hid hEA
            clear hEA hgrow hownS
            have y4 : w2.cell? ⟨gb, 4, none⟩ = some (.slice (some ⟨gS, 0, none⟩) c.seqs.length kS) := HEA.out.blk.cell 4
            have y4f : w2.frozen? ⟨gb, 4, none⟩ = false := HEA.out.blk.frozen 4
            have y4l := HEA.out.blk.lt
            obtain ⟨T2, hT2⟩ : ∃ T', T' = w2.setCell ⟨gb, 4, none⟩ (.slice (some ⟨gB, 0, none⟩) (c.seqs.length + 1) capB) := ⟨_, rfl⟩
            have hE2 := HEA.out.putB4 (.slice (some ⟨gB, 0, none⟩) (c.seqs.length + 1) capB)
            rw [← hT2] at hE2
            have hBad := bad6 HR.out
            have HRC := Lib.hid (bad_end (Is := c.items ++ [newI 4 122]) (Ss := c.seqs ++ [newQ 121 ye.id (zB 122)]) HO.out hE2 (by rw [List.flatMap_append]; refine RdL.append (HO.out.itemL hE2.gr) ?_; rw [List.flatMap_cons, List.flatMap_nil, List.append_nil]; exact rd_itemC.2 ⟨_, _, _, _, _, rfl, rd_nilC, rd_nilC, rd_nilC, rd_nilC, rd_nilC⟩) (by rw [List.flatMap_append]; exact RdL.append (HO.out.seqL hE2.gr) (rdl_cons.2 ⟨_, _, rfl, rd_str.2 rfl, rdl_cons.2 ⟨_, _, rfl, rd_str.2 rfl, rdl_cons.2 ⟨_, _, rfl, rd_str.2 rfl, rdl_nil.2 rfl⟩⟩⟩)) (by simp) (by simp) hBad)
            have HB9 := Lib.hid (gr_end HO.out.bel hE2.gr HO.out.ge HO.out.bel.size)
            have HT2 := Lib.hid hT2.symm
            clear hBad hE2 hT2
            go_upto_region 51 with fail
            rw [HT2.out]
            exact bad_tail HRC HB9 (by rfl) (by rfl) (by assumption)
        
end Go.Proofs.Ytljmghaplnkohaa
