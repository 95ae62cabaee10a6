/- The walk of the law InlineCalls. -/
import Derived.Test.YteoioboiniealaaInlU
import Derived.Deep.CutBlock
namespace Go.Proofs.Yteoioboiniealaa
open Go.RowKit
attribute [local go_sem ↓] Go.wp_at_zero Go.wp_at_succ

theorem wantFl_len (x : ChorD) (hx : x.flows.length ≤ 108) : ∀ l : List ItemD, (l.flatMap (wantFl x)).length ≤ 108 * l.length
  | [] => by simp
  | y :: l => by
    have ih := wantFl_len x hx l
    have h1 : (wantFl x y).length ≤ 108 := by unfold wantFl; split <;> simp <;> omega
    rw [List.flatMap_cons, List.length_append, List.length_cons]
    omega
theorem YV.called {g gy : Nat} {vF vI : Value} {x : ChorD} {ms : List MapD} {T : World} {AM AQ : Option Addr} {cM cQ : Nat} (n m : Nat) (hn : (x.items.map (movedF sPath ms)).length = n) (hm : (x.seqs.map (seqF sPath)).length = m)
    (hk : Blk T gy 33 #[.int .i64 7, .string ⟨#[99, 97, 108, 108]⟩, .string ⟨#[]⟩, .slice none 0 0, .slice none 0 0, .bool false, .string ⟨#[]⟩, .slice none 0 0, .slice AM n cM, .slice AQ m cQ])
    (h8 : RdP (fun b => vI.ownBlock ≠ some b ∧ vF.ownBlock ≠ some b ∧ b ≠ g ∧ b ≠ gy) T (itemsD (x.items.map (movedF sPath ms))) (.slice AM n cM))
    (h9 : RdP (fun b => vI.ownBlock ≠ some b ∧ vF.ownBlock ≠ some b ∧ b ≠ g ∧ b ≠ gy) T (seqsD (x.seqs.map (seqF sPath))) (.slice AQ m cQ)) : YV g gy vF vI (calledF x ms) T := by
  subst hn
  subst hm
  exact ⟨none, 0, none, 0, none, 0, AM, cM, AQ, cQ, hk, rdpl_item (x := calledF x ms) rdp_nil_strs rdp_nil_strs rdp_nil_maps h8 h9⟩
set_option maxRecDepth 100000 in
set_option maxHeartbeats 16000000 in
theorem inlineCalls_walk (A0 : Option Addr) (c0 : Nat) (x0 : List Int) (A1 : Option Addr) (c1 : Nat) (x1 : List Int) (w : World) (m0 : x0.length ≤ maxLen) (h0 : IntsAt w A0 x0) (m1 : x1.length ≤ maxLen) (h1 : IntsAt w A1 x1) :
    Calls Try.prog 5 #[.slice A0 x0.length c0, .slice A1 x1.length c1] w fun e w' => e = .returned (.bool true) ∧ Below w.heap.size w w' := by
  have hgen := nested_gen (cap := c0) (capq := c1) h0 m0 h1 m1
  obtain ⟨c, x, hN⟩ := nest_ok x0 x1 m0 m1
  obtain ⟨d, hd⟩ : ∃ d, d = gnestedF x0 x1 := ⟨_, rfl⟩
  rw [← hd] at hN hgen
  have HN := Lib.hid hN
  have HGEN := Lib.hid hgen
  have hxF := hN.nxF
  have hcF := hN.ncF
  have hcI := hN.ncI
  have hxI := hN.nxI
  have hxS := hN.nxS
  obtain ⟨fi0, hfi0, hfz0, hfz1, hfz2⟩ := info_parts Try.infoFlowG
  obtain ⟨ii0, hii0, hiz0, hiz1, hiz2⟩ := info_parts Try.infoItem
  clear h0 h1 m0 m1 hN hgen hd
  go_enter Try.func5, Try.ntmps5
  go_wp2_with fail
  refine HGEN.out.mono ?_
  clear HGEN
  rintro e w1 hE1
  obtain ⟨A1, c1, B1, k1, rfl, hms, hch, hb1⟩ := hE1
  have hdl : d.chors.length = 2 := by rw [HN.out.eq]; rfl
  have hdc : d.chors = [c, x] := by rw [HN.out.eq]
  obtain ⟨nm, hnm⟩ : ∃ n, n = d.msgs.length := ⟨_, rfl⟩
  rw [hdl]
  rw [hdl] at hch
  rw [← hnm]
  rw [← hnm] at hms
  have HMS := Lib.hid hms
  have HCH := Lib.hid hch
  rw [hdc] at hch
  obtain ⟨A2, c2, hv2, _, _, hat⟩ := rd_at chorC_len (l := [c, x]) hch
  injection hv2 with e1 _ e3
  subst e1
  subst e3
  obtain ⟨bc, vs, rfl, hbc, _, hvs, hcell⟩ := hat 0 (by simp)
  obtain ⟨vP, vF, vI, vS, rfl, hV⟩ := rd_chorC.1 hvs
  obtain ⟨bx, vs, hbx, _, _, hvs2, hcell2⟩ := hat 1 (by simp)
  injection hbx with hbx
  injection hbx with hbx _ _
  subst hbx
  obtain ⟨wP, wF, wI, wS, rfl, hV2⟩ := rd_chorC.1 hvs2
  simp only [List.getElem_cons_zero, List.getElem_cons_succ] at hV hcell hV2 hcell2
  obtain ⟨AP, cP, rfl⟩ := rd_form hV.1
  obtain ⟨AF, cF, rfl⟩ := rd_form hV.2.1
  obtain ⟨AI, cI, rfl⟩ := rd_form hV.2.2.1
  obtain ⟨AS, cS, rfl⟩ := rd_form hV.2.2.2
  obtain ⟨BP, kP, rfl⟩ := rd_form hV2.1
  obtain ⟨BF, kF, rfl⟩ := rd_form hV2.2.1
  obtain ⟨BI, kI, rfl⟩ := rd_form hV2.2.2.1
  obtain ⟨BS, kS, rfl⟩ := rd_form hV2.2.2.2
  have hcc : Comp w1 c.parts c.flows c.items c.seqs AP cP AF cF AI cI AS cS := ⟨hV.1, hV.2.1, hV.2.2.1, hV.2.2.2⟩
  have hcx : Comp w1 x.parts x.flows x.items x.seqs BP kP BF kF BI kI BS kS := ⟨hV2.1, hV2.2.1, hV2.2.2.1, hV2.2.2.2⟩
  rw [HN.out.cid, show sC = ⟨#[99]⟩ from rfl] at hcell
  rw [HN.out.xid, show sD = ⟨#[100]⟩ from rfl] at hcell2
  have xc0 : w1.cell? ⟨bc, 0, none⟩ = some (.string ⟨#[99]⟩) := hcell 0 (by omega)
  have xc1 : w1.cell? ⟨bc, 1, none⟩ = some (.slice AP c.parts.length cP) := hcell 1 (by omega)
  have xc2 : w1.cell? ⟨bc, 2, none⟩ = some (.slice AF c.flows.length cF) := hcell 2 (by omega)
  have xc3 : w1.cell? ⟨bc, 3, none⟩ = some (.slice AI c.items.length cI) := hcell 3 (by omega)
  have xc4 : w1.cell? ⟨bc, 4, none⟩ = some (.slice AS c.seqs.length cS) := hcell 4 (by omega)
  have xd0 : w1.cell? ⟨bc, 5, none⟩ = some (.string ⟨#[100]⟩) := hcell2 0 (by omega)
  have xd1 : w1.cell? ⟨bc, 6, none⟩ = some (.slice BP x.parts.length kP) := hcell2 1 (by omega)
  have xd2 : w1.cell? ⟨bc, 7, none⟩ = some (.slice BF x.flows.length kF) := hcell2 2 (by omega)
  have xd3 : w1.cell? ⟨bc, 8, none⟩ = some (.slice BI x.items.length kI) := hcell2 3 (by omega)
  have xd4 : w1.cell? ⟨bc, 9, none⟩ = some (.slice BS x.seqs.length kS) := hcell2 4 (by omega)
  have XC0 := Lib.hid xc0
  have XD0 := Lib.hid xd0
  have XC1 := Lib.hid xc1
  have XD1 := Lib.hid xd1
  have XC2 := Lib.hid xc2
  have XD2 := Lib.hid xd2
  have XC3 := Lib.hid xc3
  have XD3 := Lib.hid xd3
  have XC4 := Lib.hid xc4
  have XD4 := Lib.hid xd4
  clear xc0 xd0 xc1 xd1 xc2 xd2 xc3 xd3 xc4 xd4
  have HB1 := Lib.hid hb1
  have HCC := Lib.hid hcc
  have HCX := Lib.hid hcx
  have HNM := Lib.hid hnm
  obtain ⟨g5, hg5⟩ : ∃ g, g = w1.heap.size := ⟨_, rfl⟩
  obtain ⟨V1, hV1⟩ : ∃ V, V = w1.alloc (.cells #[.slice A1 nm c1, .slice (some ⟨bc, 0, none⟩) 2 k1] 61) := ⟨_, rfl⟩
  have b11 : Below w1.heap.size w1 V1 := by rw [hV1]; exact (Below.refl _ _).alloc (Nat.le_refl _) _
  have k5 : Blk V1 g5 61 #[.slice A1 nm c1, .slice (some ⟨bc, 0, none⟩) 2 k1] := by rw [hV1, hg5]; exact Blk.new _ _ _
  have hbc1 : bc < V1.heap.size := by have := b11.size; omega
  have HB11 := Lib.hid b11
  have HK5 := Lib.hid k5
  have HV1 := Lib.hid hV1.symm
  have HG5 := Lib.hid hg5.symm
  have d0 : Below V1.heap.size V1 V1.drew := (Below.refl V1.heap.size V1).drew
  have h5l := k5.lt
  clear hms hch hat hvs hvs2 hcell hcell2 hV hV2 hcc hcx hV1 hg5 b11 k5 hb1 hnm hdl hdc
  go_upto_region 2 with fail
  rw [HV1.out, HG5.out]
  go_cut [6, 7] (fun v6 v7 wx => ∃ g6 g7, v6 = .pointer (some ⟨g6, 0, none⟩) ∧ v7 = .pointer (some ⟨g7, 0, none⟩) ∧ Blk wx g6 28 #[.string ⟨#[99]⟩, .slice AP c.parts.length cP, .slice AF c.flows.length cF, .slice AI c.items.length cI, .slice AS c.seqs.length cS] ∧ Blk wx g7 28 #[.string ⟨#[100]⟩, .slice BP x.parts.length kP, .slice BF x.flows.length kF, .slice BI x.items.length kI, .slice BS x.seqs.length kS] ∧ Below V1.heap.size V1 wx)
  case first =>
    refine wp_region_HT 11 (fun U => Below V1.heap.size V1 U) (by kernel_rfl) (by decide) (d0) (fun hHeld => ?_)
    refine ht_take 0 (v := ?va_1) rfl (by kernel_rfl) (fun _ _ _ h => h) (Or.inl ⟨by rfl, ?ha_1⟩) hHeld ?ra_1
    case ha_1 => ((intro U hSw; have y5 : U.cell? ⟨g5, 1, none⟩ = some (.slice (some ⟨bc, 0, none⟩) 2 k1) := (hSw.cell (p := ⟨g5, 1, none⟩) h5l).trans (HK5.out.cell 1); have u0 := (hSw.cell (p := ⟨bc, 0, none⟩) hbc1).trans ((HB11.out.cell (p := ⟨bc, 0, none⟩) hbc).trans XC0.out); have t0 := (hSw.cell (p := ⟨bc, 5, none⟩) hbc1).trans ((HB11.out.cell (p := ⟨bc, 5, none⟩) hbc).trans XD0.out); have u1 := (hSw.cell (p := ⟨bc, 1, none⟩) hbc1).trans ((HB11.out.cell (p := ⟨bc, 1, none⟩) hbc).trans XC1.out); have t1 := (hSw.cell (p := ⟨bc, 6, none⟩) hbc1).trans ((HB11.out.cell (p := ⟨bc, 6, none⟩) hbc).trans XD1.out); have u2 := (hSw.cell (p := ⟨bc, 2, none⟩) hbc1).trans ((HB11.out.cell (p := ⟨bc, 2, none⟩) hbc).trans XC2.out); have t2 := (hSw.cell (p := ⟨bc, 7, none⟩) hbc1).trans ((HB11.out.cell (p := ⟨bc, 7, none⟩) hbc).trans XD2.out); have u3 := (hSw.cell (p := ⟨bc, 3, none⟩) hbc1).trans ((HB11.out.cell (p := ⟨bc, 3, none⟩) hbc).trans XC3.out); have t3 := (hSw.cell (p := ⟨bc, 8, none⟩) hbc1).trans ((HB11.out.cell (p := ⟨bc, 8, none⟩) hbc).trans XD3.out); have u4 := (hSw.cell (p := ⟨bc, 4, none⟩) hbc1).trans ((HB11.out.cell (p := ⟨bc, 4, none⟩) hbc).trans XC4.out); have t4 := (hSw.cell (p := ⟨bc, 9, none⟩) hbc1).trans ((HB11.out.cell (p := ⟨bc, 9, none⟩) hbc).trans XD4.out); go_simp); (try (with_reducible rfl)))
    try simp only [Act.put, List.setIfInBounds_toArray, List.set_cons_zero, List.set_cons_succ]
    refine ht_take 1 (v := ?va_2) rfl (by kernel_rfl) (fun _ _ _ h => h) (Or.inl ⟨by rfl, ?ha_2⟩) hHeld ?ra_2
    case ha_2 => ((intro U hSw; have y5 : U.cell? ⟨g5, 1, none⟩ = some (.slice (some ⟨bc, 0, none⟩) 2 k1) := (hSw.cell (p := ⟨g5, 1, none⟩) h5l).trans (HK5.out.cell 1); have u0 := (hSw.cell (p := ⟨bc, 0, none⟩) hbc1).trans ((HB11.out.cell (p := ⟨bc, 0, none⟩) hbc).trans XC0.out); have t0 := (hSw.cell (p := ⟨bc, 5, none⟩) hbc1).trans ((HB11.out.cell (p := ⟨bc, 5, none⟩) hbc).trans XD0.out); have u1 := (hSw.cell (p := ⟨bc, 1, none⟩) hbc1).trans ((HB11.out.cell (p := ⟨bc, 1, none⟩) hbc).trans XC1.out); have t1 := (hSw.cell (p := ⟨bc, 6, none⟩) hbc1).trans ((HB11.out.cell (p := ⟨bc, 6, none⟩) hbc).trans XD1.out); have u2 := (hSw.cell (p := ⟨bc, 2, none⟩) hbc1).trans ((HB11.out.cell (p := ⟨bc, 2, none⟩) hbc).trans XC2.out); have t2 := (hSw.cell (p := ⟨bc, 7, none⟩) hbc1).trans ((HB11.out.cell (p := ⟨bc, 7, none⟩) hbc).trans XD2.out); have u3 := (hSw.cell (p := ⟨bc, 3, none⟩) hbc1).trans ((HB11.out.cell (p := ⟨bc, 3, none⟩) hbc).trans XC3.out); have t3 := (hSw.cell (p := ⟨bc, 8, none⟩) hbc1).trans ((HB11.out.cell (p := ⟨bc, 8, none⟩) hbc).trans XD3.out); have u4 := (hSw.cell (p := ⟨bc, 4, none⟩) hbc1).trans ((HB11.out.cell (p := ⟨bc, 4, none⟩) hbc).trans XC4.out); have t4 := (hSw.cell (p := ⟨bc, 9, none⟩) hbc1).trans ((HB11.out.cell (p := ⟨bc, 9, none⟩) hbc).trans XD4.out); go_simp); (try (with_reducible rfl)))
    try simp only [Act.put, List.setIfInBounds_toArray, List.set_cons_zero, List.set_cons_succ]
    refine ht_take 2 (v := ?va_3) rfl (by kernel_rfl) (fun _ _ _ h => h) (Or.inl ⟨by rfl, ?ha_3⟩) hHeld ?ra_3
    case ha_3 => ((intro U hSw; have y5 : U.cell? ⟨g5, 1, none⟩ = some (.slice (some ⟨bc, 0, none⟩) 2 k1) := (hSw.cell (p := ⟨g5, 1, none⟩) h5l).trans (HK5.out.cell 1); have u0 := (hSw.cell (p := ⟨bc, 0, none⟩) hbc1).trans ((HB11.out.cell (p := ⟨bc, 0, none⟩) hbc).trans XC0.out); have t0 := (hSw.cell (p := ⟨bc, 5, none⟩) hbc1).trans ((HB11.out.cell (p := ⟨bc, 5, none⟩) hbc).trans XD0.out); have u1 := (hSw.cell (p := ⟨bc, 1, none⟩) hbc1).trans ((HB11.out.cell (p := ⟨bc, 1, none⟩) hbc).trans XC1.out); have t1 := (hSw.cell (p := ⟨bc, 6, none⟩) hbc1).trans ((HB11.out.cell (p := ⟨bc, 6, none⟩) hbc).trans XD1.out); have u2 := (hSw.cell (p := ⟨bc, 2, none⟩) hbc1).trans ((HB11.out.cell (p := ⟨bc, 2, none⟩) hbc).trans XC2.out); have t2 := (hSw.cell (p := ⟨bc, 7, none⟩) hbc1).trans ((HB11.out.cell (p := ⟨bc, 7, none⟩) hbc).trans XD2.out); have u3 := (hSw.cell (p := ⟨bc, 3, none⟩) hbc1).trans ((HB11.out.cell (p := ⟨bc, 3, none⟩) hbc).trans XC3.out); have t3 := (hSw.cell (p := ⟨bc, 8, none⟩) hbc1).trans ((HB11.out.cell (p := ⟨bc, 8, none⟩) hbc).trans XD3.out); have u4 := (hSw.cell (p := ⟨bc, 4, none⟩) hbc1).trans ((HB11.out.cell (p := ⟨bc, 4, none⟩) hbc).trans XC4.out); have t4 := (hSw.cell (p := ⟨bc, 9, none⟩) hbc1).trans ((HB11.out.cell (p := ⟨bc, 9, none⟩) hbc).trans XD4.out); go_simp); (try (with_reducible rfl)))
    try simp only [Act.put, List.setIfInBounds_toArray, List.set_cons_zero, List.set_cons_succ]
    refine ht_take 3 (v := ?va_4) rfl (by kernel_rfl) (fun _ _ _ h => h) (Or.inl ⟨by rfl, ?ha_4⟩) hHeld ?ra_4
    case ha_4 => ((intro U hSw; have y5 : U.cell? ⟨g5, 1, none⟩ = some (.slice (some ⟨bc, 0, none⟩) 2 k1) := (hSw.cell (p := ⟨g5, 1, none⟩) h5l).trans (HK5.out.cell 1); have u0 := (hSw.cell (p := ⟨bc, 0, none⟩) hbc1).trans ((HB11.out.cell (p := ⟨bc, 0, none⟩) hbc).trans XC0.out); have t0 := (hSw.cell (p := ⟨bc, 5, none⟩) hbc1).trans ((HB11.out.cell (p := ⟨bc, 5, none⟩) hbc).trans XD0.out); have u1 := (hSw.cell (p := ⟨bc, 1, none⟩) hbc1).trans ((HB11.out.cell (p := ⟨bc, 1, none⟩) hbc).trans XC1.out); have t1 := (hSw.cell (p := ⟨bc, 6, none⟩) hbc1).trans ((HB11.out.cell (p := ⟨bc, 6, none⟩) hbc).trans XD1.out); have u2 := (hSw.cell (p := ⟨bc, 2, none⟩) hbc1).trans ((HB11.out.cell (p := ⟨bc, 2, none⟩) hbc).trans XC2.out); have t2 := (hSw.cell (p := ⟨bc, 7, none⟩) hbc1).trans ((HB11.out.cell (p := ⟨bc, 7, none⟩) hbc).trans XD2.out); have u3 := (hSw.cell (p := ⟨bc, 3, none⟩) hbc1).trans ((HB11.out.cell (p := ⟨bc, 3, none⟩) hbc).trans XC3.out); have t3 := (hSw.cell (p := ⟨bc, 8, none⟩) hbc1).trans ((HB11.out.cell (p := ⟨bc, 8, none⟩) hbc).trans XD3.out); have u4 := (hSw.cell (p := ⟨bc, 4, none⟩) hbc1).trans ((HB11.out.cell (p := ⟨bc, 4, none⟩) hbc).trans XC4.out); have t4 := (hSw.cell (p := ⟨bc, 9, none⟩) hbc1).trans ((HB11.out.cell (p := ⟨bc, 9, none⟩) hbc).trans XD4.out); go_simp); (try (with_reducible rfl)))
    try simp only [Act.put, List.setIfInBounds_toArray, List.set_cons_zero, List.set_cons_succ]
    refine ht_take 4 (v := ?va_5) rfl (by kernel_rfl) (fun _ _ _ h => h) (Or.inl ⟨by rfl, ?ha_5⟩) hHeld ?ra_5
    case ha_5 => ((intro U hSw; have y5 : U.cell? ⟨g5, 1, none⟩ = some (.slice (some ⟨bc, 0, none⟩) 2 k1) := (hSw.cell (p := ⟨g5, 1, none⟩) h5l).trans (HK5.out.cell 1); have u0 := (hSw.cell (p := ⟨bc, 0, none⟩) hbc1).trans ((HB11.out.cell (p := ⟨bc, 0, none⟩) hbc).trans XC0.out); have t0 := (hSw.cell (p := ⟨bc, 5, none⟩) hbc1).trans ((HB11.out.cell (p := ⟨bc, 5, none⟩) hbc).trans XD0.out); have u1 := (hSw.cell (p := ⟨bc, 1, none⟩) hbc1).trans ((HB11.out.cell (p := ⟨bc, 1, none⟩) hbc).trans XC1.out); have t1 := (hSw.cell (p := ⟨bc, 6, none⟩) hbc1).trans ((HB11.out.cell (p := ⟨bc, 6, none⟩) hbc).trans XD1.out); have u2 := (hSw.cell (p := ⟨bc, 2, none⟩) hbc1).trans ((HB11.out.cell (p := ⟨bc, 2, none⟩) hbc).trans XC2.out); have t2 := (hSw.cell (p := ⟨bc, 7, none⟩) hbc1).trans ((HB11.out.cell (p := ⟨bc, 7, none⟩) hbc).trans XD2.out); have u3 := (hSw.cell (p := ⟨bc, 3, none⟩) hbc1).trans ((HB11.out.cell (p := ⟨bc, 3, none⟩) hbc).trans XC3.out); have t3 := (hSw.cell (p := ⟨bc, 8, none⟩) hbc1).trans ((HB11.out.cell (p := ⟨bc, 8, none⟩) hbc).trans XD3.out); have u4 := (hSw.cell (p := ⟨bc, 4, none⟩) hbc1).trans ((HB11.out.cell (p := ⟨bc, 4, none⟩) hbc).trans XC4.out); have t4 := (hSw.cell (p := ⟨bc, 9, none⟩) hbc1).trans ((HB11.out.cell (p := ⟨bc, 9, none⟩) hbc).trans XD4.out); go_simp); (try (with_reducible rfl)))
    try simp only [Act.put, List.setIfInBounds_toArray, List.set_cons_zero, List.set_cons_succ]
    refine ht_take 5 (v := ?va_6) rfl (by kernel_rfl) (fun _ _ _ h => h) (Or.inl ⟨by rfl, ?ha_6⟩) hHeld ?ra_6
    case ha_6 => ((intro U hSw; have y5 : U.cell? ⟨g5, 1, none⟩ = some (.slice (some ⟨bc, 0, none⟩) 2 k1) := (hSw.cell (p := ⟨g5, 1, none⟩) h5l).trans (HK5.out.cell 1); have u0 := (hSw.cell (p := ⟨bc, 0, none⟩) hbc1).trans ((HB11.out.cell (p := ⟨bc, 0, none⟩) hbc).trans XC0.out); have t0 := (hSw.cell (p := ⟨bc, 5, none⟩) hbc1).trans ((HB11.out.cell (p := ⟨bc, 5, none⟩) hbc).trans XD0.out); have u1 := (hSw.cell (p := ⟨bc, 1, none⟩) hbc1).trans ((HB11.out.cell (p := ⟨bc, 1, none⟩) hbc).trans XC1.out); have t1 := (hSw.cell (p := ⟨bc, 6, none⟩) hbc1).trans ((HB11.out.cell (p := ⟨bc, 6, none⟩) hbc).trans XD1.out); have u2 := (hSw.cell (p := ⟨bc, 2, none⟩) hbc1).trans ((HB11.out.cell (p := ⟨bc, 2, none⟩) hbc).trans XC2.out); have t2 := (hSw.cell (p := ⟨bc, 7, none⟩) hbc1).trans ((HB11.out.cell (p := ⟨bc, 7, none⟩) hbc).trans XD2.out); have u3 := (hSw.cell (p := ⟨bc, 3, none⟩) hbc1).trans ((HB11.out.cell (p := ⟨bc, 3, none⟩) hbc).trans XC3.out); have t3 := (hSw.cell (p := ⟨bc, 8, none⟩) hbc1).trans ((HB11.out.cell (p := ⟨bc, 8, none⟩) hbc).trans XD3.out); have u4 := (hSw.cell (p := ⟨bc, 4, none⟩) hbc1).trans ((HB11.out.cell (p := ⟨bc, 4, none⟩) hbc).trans XC4.out); have t4 := (hSw.cell (p := ⟨bc, 9, none⟩) hbc1).trans ((HB11.out.cell (p := ⟨bc, 9, none⟩) hbc).trans XD4.out); go_simp); (try (with_reducible rfl)))
    try simp only [Act.put, List.setIfInBounds_toArray, List.set_cons_zero, List.set_cons_succ]
    refine ht_take 6 (v := ?va_7) rfl (by kernel_rfl) (fun _ _ _ h => h) (Or.inl ⟨by rfl, ?ha_7⟩) hHeld ?ra_7
    case ha_7 => ((intro U hSw; have y5 : U.cell? ⟨g5, 1, none⟩ = some (.slice (some ⟨bc, 0, none⟩) 2 k1) := (hSw.cell (p := ⟨g5, 1, none⟩) h5l).trans (HK5.out.cell 1); have u0 := (hSw.cell (p := ⟨bc, 0, none⟩) hbc1).trans ((HB11.out.cell (p := ⟨bc, 0, none⟩) hbc).trans XC0.out); have t0 := (hSw.cell (p := ⟨bc, 5, none⟩) hbc1).trans ((HB11.out.cell (p := ⟨bc, 5, none⟩) hbc).trans XD0.out); have u1 := (hSw.cell (p := ⟨bc, 1, none⟩) hbc1).trans ((HB11.out.cell (p := ⟨bc, 1, none⟩) hbc).trans XC1.out); have t1 := (hSw.cell (p := ⟨bc, 6, none⟩) hbc1).trans ((HB11.out.cell (p := ⟨bc, 6, none⟩) hbc).trans XD1.out); have u2 := (hSw.cell (p := ⟨bc, 2, none⟩) hbc1).trans ((HB11.out.cell (p := ⟨bc, 2, none⟩) hbc).trans XC2.out); have t2 := (hSw.cell (p := ⟨bc, 7, none⟩) hbc1).trans ((HB11.out.cell (p := ⟨bc, 7, none⟩) hbc).trans XD2.out); have u3 := (hSw.cell (p := ⟨bc, 3, none⟩) hbc1).trans ((HB11.out.cell (p := ⟨bc, 3, none⟩) hbc).trans XC3.out); have t3 := (hSw.cell (p := ⟨bc, 8, none⟩) hbc1).trans ((HB11.out.cell (p := ⟨bc, 8, none⟩) hbc).trans XD3.out); have u4 := (hSw.cell (p := ⟨bc, 4, none⟩) hbc1).trans ((HB11.out.cell (p := ⟨bc, 4, none⟩) hbc).trans XC4.out); have t4 := (hSw.cell (p := ⟨bc, 9, none⟩) hbc1).trans ((HB11.out.cell (p := ⟨bc, 9, none⟩) hbc).trans XD4.out); go_simp); (try (with_reducible rfl)))
    try simp only [Act.put, List.setIfInBounds_toArray, List.set_cons_zero, List.set_cons_succ]
    refine ht_take 7 (v := ?va_8) rfl (by kernel_rfl) (fun _ _ _ h => h) (Or.inl ⟨by rfl, ?ha_8⟩) hHeld ?ra_8
    case ha_8 => ((intro U hSw; have y5 : U.cell? ⟨g5, 1, none⟩ = some (.slice (some ⟨bc, 0, none⟩) 2 k1) := (hSw.cell (p := ⟨g5, 1, none⟩) h5l).trans (HK5.out.cell 1); have u0 := (hSw.cell (p := ⟨bc, 0, none⟩) hbc1).trans ((HB11.out.cell (p := ⟨bc, 0, none⟩) hbc).trans XC0.out); have t0 := (hSw.cell (p := ⟨bc, 5, none⟩) hbc1).trans ((HB11.out.cell (p := ⟨bc, 5, none⟩) hbc).trans XD0.out); have u1 := (hSw.cell (p := ⟨bc, 1, none⟩) hbc1).trans ((HB11.out.cell (p := ⟨bc, 1, none⟩) hbc).trans XC1.out); have t1 := (hSw.cell (p := ⟨bc, 6, none⟩) hbc1).trans ((HB11.out.cell (p := ⟨bc, 6, none⟩) hbc).trans XD1.out); have u2 := (hSw.cell (p := ⟨bc, 2, none⟩) hbc1).trans ((HB11.out.cell (p := ⟨bc, 2, none⟩) hbc).trans XC2.out); have t2 := (hSw.cell (p := ⟨bc, 7, none⟩) hbc1).trans ((HB11.out.cell (p := ⟨bc, 7, none⟩) hbc).trans XD2.out); have u3 := (hSw.cell (p := ⟨bc, 3, none⟩) hbc1).trans ((HB11.out.cell (p := ⟨bc, 3, none⟩) hbc).trans XC3.out); have t3 := (hSw.cell (p := ⟨bc, 8, none⟩) hbc1).trans ((HB11.out.cell (p := ⟨bc, 8, none⟩) hbc).trans XD3.out); have u4 := (hSw.cell (p := ⟨bc, 4, none⟩) hbc1).trans ((HB11.out.cell (p := ⟨bc, 4, none⟩) hbc).trans XC4.out); have t4 := (hSw.cell (p := ⟨bc, 9, none⟩) hbc1).trans ((HB11.out.cell (p := ⟨bc, 9, none⟩) hbc).trans XD4.out); go_simp); (try (with_reducible rfl)))
    try simp only [Act.put, List.setIfInBounds_toArray, List.set_cons_zero, List.set_cons_succ]
    refine wpHT_all [8, 9] (by kernel_rfl) ?_
    refine ht_cons (i := 8) rfl (fun K hK => ?_) (ht_cons (i := 9) rfl (fun K hK => ?_) (allHT.nil))
    · go_simp
      obtain ⟨gx, hgx⟩ : ∃ g, g = V1.heap.size := ⟨_, rfl⟩
      obtain ⟨T1, hT⟩ : ∃ T, T = (V1.drew).alloc (.cells #[.string ⟨#[]⟩, .slice none 0 0, .slice none 0 0, .slice none 0 0, .slice none 0 0] 28) := ⟨_, rfl⟩
      have d1 : Below V1.heap.size V1 T1 := by rw [hT]; exact d0.alloc d0.size _
      have kgx1 : Blk T1 gx 28 #[.string ⟨#[]⟩, .slice none 0 0, .slice none 0 0, .slice none 0 0, .slice none 0 0] := by rw [hT, hgx]; exact Blk.new _ _ _
      have ngx : V1.heap.size ≤ gx := by rw [hgx]; exact d0.size
      show K _ ((V1.drew).alloc (.cells #[.string ⟨#[]⟩, .slice none 0 0, .slice none 0 0, .slice none 0 0, .slice none 0 0] 28))
      rw [← hT, ← hgx]
      clear hT hgx
      refine hK.out _ _ (d1) (fun hHeld => ?_)
      clear hK K
      try simp only [Act.put, List.setIfInBounds_toArray, List.set_cons_zero, List.set_cons_succ]
      refine ht_one 9 rfl (by kernel_rfl) (fun K hK => ?_)
      go_simp
      obtain ⟨gz, hgz⟩ : ∃ g, g = T1.heap.size := ⟨_, rfl⟩
      obtain ⟨T2, hT⟩ : ∃ T, T = (T1).alloc (.cells #[.string ⟨#[]⟩, .slice none 0 0, .slice none 0 0, .slice none 0 0, .slice none 0 0] 28) := ⟨_, rfl⟩
      have d2 : Below V1.heap.size V1 T2 := by rw [hT]; exact d1.alloc d1.size _
      have kgz2 : Blk T2 gz 28 #[.string ⟨#[]⟩, .slice none 0 0, .slice none 0 0, .slice none 0 0, .slice none 0 0] := by rw [hT, hgz]; exact Blk.new _ _ _
      have kgx2 : Blk T2 gx 28 #[.string ⟨#[]⟩, .slice none 0 0, .slice none 0 0, .slice none 0 0, .slice none 0 0] := by rw [hT]; exact kgx1.alloc _
      have hxy : gx < gz := by rw [hgz]; exact kgx1.lt
      have ngz : V1.heap.size ≤ gz := by rw [hgz]; exact d1.size
      show K _ ((T1).alloc (.cells #[.string ⟨#[]⟩, .slice none 0 0, .slice none 0 0, .slice none 0 0, .slice none 0 0] 28))
      rw [← hT, ← hgz]
      clear hT hgz
      refine hK.out _ _ (d2) (fun hHeld => ?_)
      clear hK K
      try simp only [Act.put, List.setIfInBounds_toArray, List.set_cons_zero, List.set_cons_succ]
      refine ht_one 10 rfl (by kernel_rfl) (fun K hK => ?_)
      have hne1 : gx ≠ gz := by omega
      have hne2 : gz ≠ gx := by omega
      have ra0 : T2.cell? ⟨gx, 0, none⟩ = some (.string ⟨#[]⟩) := kgx2.cell 0
      have ra1 : T2.cell? ⟨gx, 1, none⟩ = some (.slice none 0 0) := kgx2.cell 1
      have ra2 : T2.cell? ⟨gx, 2, none⟩ = some (.slice none 0 0) := kgx2.cell 2
      have ra3 : T2.cell? ⟨gx, 3, none⟩ = some (.slice none 0 0) := kgx2.cell 3
      have ra4 : T2.cell? ⟨gx, 4, none⟩ = some (.slice none 0 0) := kgx2.cell 4
      have qa0 : T2.frozen? ⟨gx, 0, none⟩ = false := kgx2.frozen 0
      have qa1 : T2.frozen? ⟨gx, 1, none⟩ = false := kgx2.frozen 1
      have qa2 : T2.frozen? ⟨gx, 2, none⟩ = false := kgx2.frozen 2
      have qa3 : T2.frozen? ⟨gx, 3, none⟩ = false := kgx2.frozen 3
      have qa4 : T2.frozen? ⟨gx, 4, none⟩ = false := kgx2.frozen 4
      have hlx := kgx2.lt
      go_simp
      obtain ⟨T3, hT⟩ : ∃ T, T = putAll T2 gx 0 [.string ⟨#[99]⟩, .slice AP c.parts.length cP, .slice AF c.flows.length cF, .slice AI c.items.length cI, .slice AS c.seqs.length cS] := ⟨_, rfl⟩
      have d3 : Below V1.heap.size V1 T3 := by rw [hT]; exact putAll_below ngx _ 0 _ d2
      have kgx3 : Blk T3 gx 28 #[.string ⟨#[99]⟩, .slice AP c.parts.length cP, .slice AF c.flows.length cF, .slice AI c.items.length cI, .slice AS c.seqs.length cS] := by rw [hT]; exact putAll_blk [.string ⟨#[99]⟩, .slice AP c.parts.length cP, .slice AF c.flows.length cF, .slice AI c.items.length cI, .slice AS c.seqs.length cS] 0 T2 _ kgx2 rfl
      have kgz3 : Blk T3 gz 28 #[.string ⟨#[]⟩, .slice none 0 0, .slice none 0 0, .slice none 0 0, .slice none 0 0] := by rw [hT]; exact (putAll_heap [.string ⟨#[99]⟩, .slice AP c.parts.length cP, .slice AF c.flows.length cF, .slice AI c.items.length cI, .slice AS c.seqs.length cS] 0 T2 gz hne2).trans kgz2
      show K _ (putAll T2 gx 0 [.string ⟨#[99]⟩, .slice AP c.parts.length cP, .slice AF c.flows.length cF, .slice AI c.items.length cI, .slice AS c.seqs.length cS])
      rw [← hT]
      clear hT ra0 qa0 ra1 qa1 ra2 qa2 ra3 qa3 ra4 qa4
      refine hK.out _ _ (d3) (fun hHeld => ?_)
      clear hK K
      try simp only [Act.put, List.setIfInBounds_toArray, List.set_cons_zero, List.set_cons_succ]
      refine ht_done (by kernel_rfl) rfl ?_
      have rb0 : T3.cell? ⟨gz, 0, none⟩ = some (.string ⟨#[]⟩) := kgz3.cell 0
      have rb1 : T3.cell? ⟨gz, 1, none⟩ = some (.slice none 0 0) := kgz3.cell 1
      have rb2 : T3.cell? ⟨gz, 2, none⟩ = some (.slice none 0 0) := kgz3.cell 2
      have rb3 : T3.cell? ⟨gz, 3, none⟩ = some (.slice none 0 0) := kgz3.cell 3
      have rb4 : T3.cell? ⟨gz, 4, none⟩ = some (.slice none 0 0) := kgz3.cell 4
      have qb0 : T3.frozen? ⟨gz, 0, none⟩ = false := kgz3.frozen 0
      have qb1 : T3.frozen? ⟨gz, 1, none⟩ = false := kgz3.frozen 1
      have qb2 : T3.frozen? ⟨gz, 2, none⟩ = false := kgz3.frozen 2
      have qb3 : T3.frozen? ⟨gz, 3, none⟩ = false := kgz3.frozen 3
      have qb4 : T3.frozen? ⟨gz, 4, none⟩ = false := kgz3.frozen 4
      have hly := kgz3.lt
      have hX2 : Blk (putAll T3 gz 0 [.string ⟨#[100]⟩, .slice BP x.parts.length kP, .slice BF x.flows.length kF, .slice BI x.items.length kI, .slice BS x.seqs.length kS]) gx 28 #[.string ⟨#[99]⟩, .slice AP c.parts.length cP, .slice AF c.flows.length cF, .slice AI c.items.length cI, .slice AS c.seqs.length cS] := (putAll_heap _ 0 _ _ hne1).trans kgx3
      have hY2 := putAll_blk [.string ⟨#[100]⟩, .slice BP x.parts.length kP, .slice BF x.flows.length kF, .slice BI x.items.length kI, .slice BS x.seqs.length kS] 0 T3 _ kgz3 rfl
      have hBB : Below V1.heap.size V1 (putAll T3 gz 0 [.string ⟨#[100]⟩, .slice BP x.parts.length kP, .slice BF x.flows.length kF, .slice BI x.items.length kI, .slice BS x.seqs.length kS]) := putAll_below (by omega) _ 0 _ d3
      have HX2 := Lib.hid hX2
      have HY2 := Lib.hid hY2
      have HBB := Lib.hid hBB
      clear kgx3 kgz3 hX2 hY2 hBB d3
      go_wp2_with fail
      go_meet
      case rel => exact ⟨gx, gz, rfl, rfl, HX2.out, HY2.out, HBB.out⟩
    · go_simp
      obtain ⟨gz, hgz⟩ : ∃ g, g = V1.heap.size := ⟨_, rfl⟩
      obtain ⟨T1, hT⟩ : ∃ T, T = (V1.drew).alloc (.cells #[.string ⟨#[]⟩, .slice none 0 0, .slice none 0 0, .slice none 0 0, .slice none 0 0] 28) := ⟨_, rfl⟩
      have d1 : Below V1.heap.size V1 T1 := by rw [hT]; exact d0.alloc d0.size _
      have kgz1 : Blk T1 gz 28 #[.string ⟨#[]⟩, .slice none 0 0, .slice none 0 0, .slice none 0 0, .slice none 0 0] := by rw [hT, hgz]; exact Blk.new _ _ _
      have ngz : V1.heap.size ≤ gz := by rw [hgz]; exact d0.size
      show K _ ((V1.drew).alloc (.cells #[.string ⟨#[]⟩, .slice none 0 0, .slice none 0 0, .slice none 0 0, .slice none 0 0] 28))
      rw [← hT, ← hgz]
      clear hT hgz
      refine hK.out _ _ (d1) (fun hHeld => ?_)
      clear hK K
      try simp only [Act.put, List.setIfInBounds_toArray, List.set_cons_zero, List.set_cons_succ]
      refine ht_one 8 rfl (by kernel_rfl) (fun K hK => ?_)
      go_simp
      obtain ⟨gx, hgx⟩ : ∃ g, g = T1.heap.size := ⟨_, rfl⟩
      obtain ⟨T2, hT⟩ : ∃ T, T = (T1).alloc (.cells #[.string ⟨#[]⟩, .slice none 0 0, .slice none 0 0, .slice none 0 0, .slice none 0 0] 28) := ⟨_, rfl⟩
      have d2 : Below V1.heap.size V1 T2 := by rw [hT]; exact d1.alloc d1.size _
      have kgx2 : Blk T2 gx 28 #[.string ⟨#[]⟩, .slice none 0 0, .slice none 0 0, .slice none 0 0, .slice none 0 0] := by rw [hT, hgx]; exact Blk.new _ _ _
      have kgz2 : Blk T2 gz 28 #[.string ⟨#[]⟩, .slice none 0 0, .slice none 0 0, .slice none 0 0, .slice none 0 0] := by rw [hT]; exact kgz1.alloc _
      have hxy : gz < gx := by rw [hgx]; exact kgz1.lt
      have ngx : V1.heap.size ≤ gx := by rw [hgx]; exact d1.size
      show K _ ((T1).alloc (.cells #[.string ⟨#[]⟩, .slice none 0 0, .slice none 0 0, .slice none 0 0, .slice none 0 0] 28))
      rw [← hT, ← hgx]
      clear hT hgx
      refine hK.out _ _ (d2) (fun hHeld => ?_)
      clear hK K
      try simp only [Act.put, List.setIfInBounds_toArray, List.set_cons_zero, List.set_cons_succ]
      refine ht_one 10 rfl (by kernel_rfl) (fun K hK => ?_)
      have hne1 : gx ≠ gz := by omega
      have hne2 : gz ≠ gx := by omega
      have ra0 : T2.cell? ⟨gx, 0, none⟩ = some (.string ⟨#[]⟩) := kgx2.cell 0
      have ra1 : T2.cell? ⟨gx, 1, none⟩ = some (.slice none 0 0) := kgx2.cell 1
      have ra2 : T2.cell? ⟨gx, 2, none⟩ = some (.slice none 0 0) := kgx2.cell 2
      have ra3 : T2.cell? ⟨gx, 3, none⟩ = some (.slice none 0 0) := kgx2.cell 3
      have ra4 : T2.cell? ⟨gx, 4, none⟩ = some (.slice none 0 0) := kgx2.cell 4
      have qa0 : T2.frozen? ⟨gx, 0, none⟩ = false := kgx2.frozen 0
      have qa1 : T2.frozen? ⟨gx, 1, none⟩ = false := kgx2.frozen 1
      have qa2 : T2.frozen? ⟨gx, 2, none⟩ = false := kgx2.frozen 2
      have qa3 : T2.frozen? ⟨gx, 3, none⟩ = false := kgx2.frozen 3
      have qa4 : T2.frozen? ⟨gx, 4, none⟩ = false := kgx2.frozen 4
      have hlx := kgx2.lt
      go_simp
      obtain ⟨T3, hT⟩ : ∃ T, T = putAll T2 gx 0 [.string ⟨#[99]⟩, .slice AP c.parts.length cP, .slice AF c.flows.length cF, .slice AI c.items.length cI, .slice AS c.seqs.length cS] := ⟨_, rfl⟩
      have d3 : Below V1.heap.size V1 T3 := by rw [hT]; exact putAll_below ngx _ 0 _ d2
      have kgx3 : Blk T3 gx 28 #[.string ⟨#[99]⟩, .slice AP c.parts.length cP, .slice AF c.flows.length cF, .slice AI c.items.length cI, .slice AS c.seqs.length cS] := by rw [hT]; exact putAll_blk [.string ⟨#[99]⟩, .slice AP c.parts.length cP, .slice AF c.flows.length cF, .slice AI c.items.length cI, .slice AS c.seqs.length cS] 0 T2 _ kgx2 rfl
      have kgz3 : Blk T3 gz 28 #[.string ⟨#[]⟩, .slice none 0 0, .slice none 0 0, .slice none 0 0, .slice none 0 0] := by rw [hT]; exact (putAll_heap [.string ⟨#[99]⟩, .slice AP c.parts.length cP, .slice AF c.flows.length cF, .slice AI c.items.length cI, .slice AS c.seqs.length cS] 0 T2 gz hne2).trans kgz2
      show K _ (putAll T2 gx 0 [.string ⟨#[99]⟩, .slice AP c.parts.length cP, .slice AF c.flows.length cF, .slice AI c.items.length cI, .slice AS c.seqs.length cS])
      rw [← hT]
      clear hT ra0 qa0 ra1 qa1 ra2 qa2 ra3 qa3 ra4 qa4
      refine hK.out _ _ (d3) (fun hHeld => ?_)
      clear hK K
      try simp only [Act.put, List.setIfInBounds_toArray, List.set_cons_zero, List.set_cons_succ]
      refine ht_done (by kernel_rfl) rfl ?_
      have rb0 : T3.cell? ⟨gz, 0, none⟩ = some (.string ⟨#[]⟩) := kgz3.cell 0
      have rb1 : T3.cell? ⟨gz, 1, none⟩ = some (.slice none 0 0) := kgz3.cell 1
      have rb2 : T3.cell? ⟨gz, 2, none⟩ = some (.slice none 0 0) := kgz3.cell 2
      have rb3 : T3.cell? ⟨gz, 3, none⟩ = some (.slice none 0 0) := kgz3.cell 3
      have rb4 : T3.cell? ⟨gz, 4, none⟩ = some (.slice none 0 0) := kgz3.cell 4
      have qb0 : T3.frozen? ⟨gz, 0, none⟩ = false := kgz3.frozen 0
      have qb1 : T3.frozen? ⟨gz, 1, none⟩ = false := kgz3.frozen 1
      have qb2 : T3.frozen? ⟨gz, 2, none⟩ = false := kgz3.frozen 2
      have qb3 : T3.frozen? ⟨gz, 3, none⟩ = false := kgz3.frozen 3
      have qb4 : T3.frozen? ⟨gz, 4, none⟩ = false := kgz3.frozen 4
      have hly := kgz3.lt
      have hX2 : Blk (putAll T3 gz 0 [.string ⟨#[100]⟩, .slice BP x.parts.length kP, .slice BF x.flows.length kF, .slice BI x.items.length kI, .slice BS x.seqs.length kS]) gx 28 #[.string ⟨#[99]⟩, .slice AP c.parts.length cP, .slice AF c.flows.length cF, .slice AI c.items.length cI, .slice AS c.seqs.length cS] := (putAll_heap _ 0 _ _ hne1).trans kgx3
      have hY2 := putAll_blk [.string ⟨#[100]⟩, .slice BP x.parts.length kP, .slice BF x.flows.length kF, .slice BI x.items.length kI, .slice BS x.seqs.length kS] 0 T3 _ kgz3 rfl
      have hBB : Below V1.heap.size V1 (putAll T3 gz 0 [.string ⟨#[100]⟩, .slice BP x.parts.length kP, .slice BF x.flows.length kF, .slice BI x.items.length kI, .slice BS x.seqs.length kS]) := putAll_below (by omega) _ 0 _ d3
      have HX2 := Lib.hid hX2
      have HY2 := Lib.hid hY2
      have HBB := Lib.hid hBB
      clear kgx3 kgz3 hX2 hY2 hBB d3
      go_wp2_with fail
      go_meet
      case rel => exact ⟨gx, gz, rfl, rfl, HX2.out, HY2.out, HBB.out⟩
  case rest =>
    obtain ⟨g6, g7, rfl, rfl, k6, k7, b12⟩ := hcut
    obtain ⟨V2, rfl⟩ : ∃ V, V = wc := ⟨_, rfl⟩
    have k52 := HK5.out.below b12 HK5.out.lt
    have b02 := HB11.out.trans (b12.mono HB11.out.size)
    have hMS2 : Rd V2 (msgsD d.msgs) (.slice A1 nm c1) := Rd.below b02 _ _ HMS.out
    have hCH2 : Rd V2 (chorsD d.chors) (.slice (some ⟨bc, 0, none⟩) 2 k1) := Rd.below b02 _ _ HCH.out
    have x50 : V2.cell? ⟨g5, 0, none⟩ = some (.slice A1 nm c1) := k52.cell 0
    have x51 : V2.cell? ⟨g5, 1, none⟩ = some (.slice (some ⟨bc, 0, none⟩) 2 k1) := k52.cell 1
    have hcall := chor_walk d 3 (items_all d HN.out.small 3) sC hMS2 hCH2 (wantC c x) 0 HN.out.got HN.out.small HN.out.parts (by decide) (HN.out.count sC (.inl rfl))
    have HCALL := Lib.hid hcall
    have HK52 := Lib.hid k52
    have HK6 := Lib.hid k6
    have HK7 := Lib.hid k7
    have HB02 := Lib.hid b02
    have hbw2 := HB1.out.trans (b02.mono HB1.out.size)
    have HBW2 := Lib.hid hbw2
    clear hcall hMS2 hCH2 k52 k6 k7 b02 b12 hbw2
    clear XC0 XD0 XC1 XD1 XC2 XD2 XC3 XD3 XC4 XD4
    go_wp2_with fail
    refine HCALL.out.mono ?_
    clear HCALL
    rintro e w3 ⟨vP, vF, vI, vS, rfl, hV, hb3⟩
    obtain ⟨z, hz⟩ : ∃ z, z = wantC c x := ⟨_, rfl⟩
    rw [← hz] at hV
    obtain ⟨GP, jP, rfl⟩ := rd_form hV.1
    obtain ⟨GF, jF, rfl⟩ := rd_form hV.2.1
    obtain ⟨GI, jI, rfl⟩ := rd_form hV.2.2.1
    obtain ⟨GS, jS, rfl⟩ := rd_form hV.2.2.2
    rw [show (wantC c x).id = ⟨#[99]⟩ from rfl]
    obtain ⟨g8, hg8⟩ : ∃ g, g = w3.heap.size := ⟨_, rfl⟩
    obtain ⟨W0, hW0⟩ : ∃ V, V = w3.alloc (.cells #[.string ⟨#[99]⟩, .slice GP z.parts.length jP, .slice GF z.flows.length jF, .slice GI z.items.length jI, .slice GS z.seqs.length jS] 28) := ⟨_, rfl⟩
    have b30 : Below w3.heap.size w3 W0 := by rw [hW0]; exact (Below.refl _ _).alloc (Nat.le_refl _) _
    have k8 : Blk W0 g8 28 #[.string ⟨#[99]⟩, .slice GP z.parts.length jP, .slice GF z.flows.length jF, .slice GI z.items.length jI, .slice GS z.seqs.length jS] := by rw [hW0, hg8]; exact Blk.new _ _ _
    have b20 : Below V2.heap.size V2 W0 := hb3.trans (b30.mono hb3.size)
    have b10 := HB02.out.trans (b20.mono HB02.out.size)
    have hcz : Comp W0 z.parts z.flows z.items z.seqs GP jP GF jF GI jI GS jS := ⟨Rd.below b30 _ _ hV.1, Rd.below b30 _ _ hV.2.1, Rd.below b30 _ _ hV.2.2.1, Rd.below b30 _ _ hV.2.2.2⟩
    have HC0 := Lib.hid (HCC.out.below b10)
    have HX0 := Lib.hid (HCX.out.below b10)
    have HZ0 := Lib.hid hcz
    have HM0 := Lib.hid (Rd.below b10 _ _ HMS.out)
    have HCH0 := Lib.hid (Rd.below b10 _ _ HCH.out)
    have hk5 := HK52.out.below b20 HK52.out.lt
    have hk6 := HK6.out.below b20 HK6.out.lt
    have hk7 := HK7.out.below b20 HK7.out.lt
    have HG : Hid (∀ U, Below W0.heap.size W0 U → Blk U g5 61 #[.slice A1 nm c1, .slice (some ⟨bc, 0, none⟩) 2 k1] ∧ Blk U g6 28 #[.string ⟨#[99]⟩, .slice AP c.parts.length cP, .slice AF c.flows.length cF, .slice AI c.items.length cI, .slice AS c.seqs.length cS] ∧ Blk U g7 28 #[.string ⟨#[100]⟩, .slice BP x.parts.length kP, .slice BF x.flows.length kF, .slice BI x.items.length kI, .slice BS x.seqs.length kS] ∧ Blk U g8 28 #[.string ⟨#[99]⟩, .slice GP z.parts.length jP, .slice GF z.flows.length jF, .slice GI z.items.length jI, .slice GS z.seqs.length jS]) := fun U hU =>
      ⟨hk5.below hU hk5.lt, hk6.below hU hk6.lt, hk7.below hU hk7.lt, k8.below hU k8.lt⟩
    have HBW0 := Lib.hid (HBW2.out.trans (b20.mono HBW2.out.size))
    have HW0 := Lib.hid hW0.symm
    have HG8 := Lib.hid hg8.symm
    have HZ := Lib.hid hz
    have h6l := hk6.lt
    have h7l := hk7.lt
    clear hV hb3 hg8 hW0 b30 k8 b20 b10 hcz hk5 hk6 hk7 hz x50 x51 HMS HCH HCC HCX HK52 HK6 HK7 HB02 HBW2 HB11 HK5 HV1 HG5 HB1
    go_upto_region 4 with fail
    rw [HW0.out, HG8.out]
    obtain ⟨xs1, hr1, hxl1, h11⟩ := rd_reads HC0.out.flows
    have hxv := flowV_of hxl1
    rw [hxv] at hr1 h11
    have HXR1 := Lib.hid hr1
    have HX11 := Lib.hid h11
    have d0 : Below W0.heap.size W0 W0.drew := (Below.refl W0.heap.size W0).drew
    clear hr1 hxl1 h11 hxv xs1
    go_cut [10] (fun v10 wx => ∃ g vF, v10 = .pointer (some ⟨g, 0, none⟩) ∧ LW W0 g g (.slice AP c.parts.length cP) (.slice AS c.seqs.length cS) c.flows [] [] vF (.slice none 0 0) wx)
    case first =>
      refine wp_region_HT 10 (fun U => Below W0.heap.size W0 U) (by kernel_rfl) (by decide) (d0) (fun hHeld => ?_)
      refine ht_take 0 (v := ?vb_1) rfl (by kernel_rfl) (fun _ _ _ h => h) (Or.inl ⟨by rfl, ?hb_1⟩) hHeld ?rb_1
      case hb_1 => ((intro U hSw; have hgu := (HG.out U hSw).2.1; have y1 : U.cell? ⟨g6, 1, none⟩ = some (.slice AP c.parts.length cP) := hgu.cell 1; have y2 : U.cell? ⟨g6, 2, none⟩ = some (.slice AF c.flows.length cF) := hgu.cell 2; have y4 : U.cell? ⟨g6, 4, none⟩ = some (.slice AS c.seqs.length cS) := hgu.cell 4; clear hgu; go_simp); (try (with_reducible rfl)))
      try simp only [Act.put, List.setIfInBounds_toArray, List.set_cons_zero, List.set_cons_succ]
      refine ht_take 1 (v := ?vb_2) rfl (by kernel_rfl) (fun _ _ _ h => h) (Or.inl ⟨by rfl, ?hb_2⟩) hHeld ?rb_2
      case hb_2 => ((intro U hSw; have hgu := (HG.out U hSw).2.1; have y1 : U.cell? ⟨g6, 1, none⟩ = some (.slice AP c.parts.length cP) := hgu.cell 1; have y2 : U.cell? ⟨g6, 2, none⟩ = some (.slice AF c.flows.length cF) := hgu.cell 2; have y4 : U.cell? ⟨g6, 4, none⟩ = some (.slice AS c.seqs.length cS) := hgu.cell 4; clear hgu; go_simp); (try (with_reducible rfl)))
      try simp only [Act.put, List.setIfInBounds_toArray, List.set_cons_zero, List.set_cons_succ]
      refine ht_take 3 (v := ?vb_3) rfl (by kernel_rfl) (fun _ _ _ h => h) (Or.inl ⟨by rfl, ?hb_3⟩) hHeld ?rb_3
      case hb_3 => ((intro U hSw; have hgu := (HG.out U hSw).2.1; have y1 : U.cell? ⟨g6, 1, none⟩ = some (.slice AP c.parts.length cP) := hgu.cell 1; have y2 : U.cell? ⟨g6, 2, none⟩ = some (.slice AF c.flows.length cF) := hgu.cell 2; have y4 : U.cell? ⟨g6, 4, none⟩ = some (.slice AS c.seqs.length cS) := hgu.cell 4; clear hgu; go_simp); (try (with_reducible rfl)))
      try simp only [Act.put, List.setIfInBounds_toArray, List.set_cons_zero, List.set_cons_succ]
      refine ht_take 4 (v := ?vb_4) rfl (by kernel_rfl) (fun _ _ _ h => h) (Or.inl ⟨by rfl, ?hb_4⟩) hHeld ?rb_4
      case hb_4 => ((intro U hSw; have hgu := (HG.out U hSw).2.1; have y1 : U.cell? ⟨g6, 1, none⟩ = some (.slice AP c.parts.length cP) := hgu.cell 1; have y2 : U.cell? ⟨g6, 2, none⟩ = some (.slice AF c.flows.length cF) := hgu.cell 2; have y4 : U.cell? ⟨g6, 4, none⟩ = some (.slice AS c.seqs.length cS) := hgu.cell 4; clear hgu; go_simp); (try (with_reducible rfl)))
      try simp only [Act.put, List.setIfInBounds_toArray, List.set_cons_zero, List.set_cons_succ]
      refine ht_take 6 (v := ?vb_5) rfl (by kernel_rfl) (fun _ _ _ h => h) (Or.inl ⟨by rfl, ?hb_5⟩) hHeld ?rb_5
      case hb_5 => ((intro U hSw; have hgu := (HG.out U hSw).2.1; have y1 : U.cell? ⟨g6, 1, none⟩ = some (.slice AP c.parts.length cP) := hgu.cell 1; have y2 : U.cell? ⟨g6, 2, none⟩ = some (.slice AF c.flows.length cF) := hgu.cell 2; have y4 : U.cell? ⟨g6, 4, none⟩ = some (.slice AS c.seqs.length cS) := hgu.cell 4; clear hgu; go_simp); (try (with_reducible rfl)))
      try simp only [Act.put, List.setIfInBounds_toArray, List.set_cons_zero, List.set_cons_succ]
      refine ht_take 7 (v := ?vb_6) rfl (by kernel_rfl) (fun _ _ _ h => h) (Or.inl ⟨by rfl, ?hb_6⟩) hHeld ?rb_6
      case hb_6 => ((intro U hSw; have hgu := (HG.out U hSw).2.1; have y1 : U.cell? ⟨g6, 1, none⟩ = some (.slice AP c.parts.length cP) := hgu.cell 1; have y2 : U.cell? ⟨g6, 2, none⟩ = some (.slice AF c.flows.length cF) := hgu.cell 2; have y4 : U.cell? ⟨g6, 4, none⟩ = some (.slice AS c.seqs.length cS) := hgu.cell 4; clear hgu; go_simp); (try (with_reducible rfl)))
      try simp only [Act.put, List.setIfInBounds_toArray, List.set_cons_zero, List.set_cons_succ]
      refine wpHT_all [2, 9] (by kernel_rfl) ?_
      refine ht_cons (i := 2) rfl (fun K hK => ?_) (ht_cons (i := 9) rfl (fun K hK => ?_) (allHT.nil))
      · go_simp
        obtain ⟨gE, hgE⟩ : ∃ g, g = W0.heap.size := ⟨_, rfl⟩
        obtain ⟨T1, hT⟩ : ∃ T, T = (W0.drew).alloc (.cells #[] 40) := ⟨_, rfl⟩
        have d1 : Below W0.heap.size W0 T1 := by rw [hT]; exact d0.alloc d0.size (.cells #[] 40)
        have hE1 : T1.ownsRow W0.heap.size 40 4 (.slice (some ⟨gE, 0, none⟩) 0 0) 0 [] := by rw [hT, hgE]; exact World.ownsRow_lit (base := W0.heap.size) _ #[] 0 d0.size (by decide) rfl
        have nE0 : W0.heap.size ≤ gE := by rw [hgE]; exact d0.size
        show K _ ((W0.drew).alloc (.cells #[] 40))
        rw [← hT, ← hgE]
        clear hT hgE
        refine hK.out _ _ (d1) (fun hHeld => ?_)
        clear hK K
        try simp only [Act.put, List.setIfInBounds_toArray, List.set_cons_zero, List.set_cons_succ]
        refine wpHT_all [5, 9] (by kernel_rfl) ?_
        refine ht_cons (i := 5) rfl (fun K hK => ?_) (ht_cons (i := 9) rfl (fun K hK => ?_) (allHT.nil))
        · refine step_append_any _ (by rfl) (.tmp 35) (.tmp 37) _ (by rfl) W0.heap.size 40 fi0 _ 4 64 Try.underlying24 hfi0 hfz0 hfz1 hfz2 rfl (by omega) (.slice (some ⟨gE, 0, none⟩) 0 0) 0 [] (by rfl) hE1 _ AF c.flows.length cF _ (by rfl) (HXR1.out.below d1) HX11.out (by unfold maxLen; omega) (by omega) d1.size ?_
          intro v3 T2 hA2 hgrow _
          simp only [Nat.zero_add, List.nil_append] at hA2
          obtain ⟨A3, c3, rfl, _, _⟩ := own_slice hA2
          have d2 : Below W0.heap.size W0 T2 := d1.grown hgrow d1.size (fun j hj => by simp [Value.ownBlock] at hj; omega)
          clear hgrow
          refine hK.out _ _ (d2) (fun hHeld => ?_)
          clear hK K
          try simp only [Act.put, List.setIfInBounds_toArray, List.set_cons_zero, List.set_cons_succ]
          refine ht_take 8 (v := ?vb_7) rfl (by kernel_rfl) (fun _ _ _ h => h) (Or.inl ⟨by rfl, ?hb_7⟩) hHeld ?rb_7
          case hb_7 => ((intro U hSw; have hgu := (HG.out U hSw).2.1; have y1 : U.cell? ⟨g6, 1, none⟩ = some (.slice AP c.parts.length cP) := hgu.cell 1; have y2 : U.cell? ⟨g6, 2, none⟩ = some (.slice AF c.flows.length cF) := hgu.cell 2; have y4 : U.cell? ⟨g6, 4, none⟩ = some (.slice AS c.seqs.length cS) := hgu.cell 4; clear hgu; go_simp); (try (with_reducible rfl)))
          try simp only [Act.put, List.setIfInBounds_toArray, List.set_cons_zero, List.set_cons_succ]
          refine ht_one 9 rfl (by kernel_rfl) (fun K hK => ?_)
          go_simp
          obtain ⟨gG, hgG⟩ : ∃ g, g = T2.heap.size := ⟨_, rfl⟩
          obtain ⟨T3, hT⟩ : ∃ T, T = (T2).alloc (.cells #[.string ⟨#[]⟩, .slice none 0 0, .slice none 0 0, .slice none 0 0, .slice none 0 0] 28) := ⟨_, rfl⟩
          have d3 : Below W0.heap.size W0 T3 := by rw [hT]; exact d2.alloc d2.size (.cells #[.string ⟨#[]⟩, .slice none 0 0, .slice none 0 0, .slice none 0 0, .slice none 0 0] 28)
          have kG3 : Blk T3 gG 28 #[.string ⟨#[]⟩, .slice none 0 0, .slice none 0 0, .slice none 0 0, .slice none 0 0] := by rw [hT, hgG]; exact Blk.new _ _ _
          have hA3 : T3.ownsRow W0.heap.size 40 4 (.slice A3 c.flows.length c3) c.flows.length (c.flows.flatMap flowV) := by rw [hT]; exact hA2.alloc _
          have nG0 : W0.heap.size ≤ gG := by rw [hgG]; exact d2.size
          show K _ ((T2).alloc (.cells #[.string ⟨#[]⟩, .slice none 0 0, .slice none 0 0, .slice none 0 0, .slice none 0 0] 28))
          rw [← hT, ← hgG]
          clear hT hgG
          refine hK.out _ _ (d3) (fun hHeld => ?_)
          clear hK K
          try simp only [Act.put, List.setIfInBounds_toArray, List.set_cons_zero, List.set_cons_succ]
          refine ht_done (by kernel_rfl) rfl ?_
          have rb0 : T3.cell? ⟨gG, 0, none⟩ = some (.string ⟨#[]⟩) := kG3.cell 0
          have rb1 : T3.cell? ⟨gG, 1, none⟩ = some (.slice none 0 0) := kG3.cell 1
          have rb2 : T3.cell? ⟨gG, 2, none⟩ = some (.slice none 0 0) := kG3.cell 2
          have rb3 : T3.cell? ⟨gG, 3, none⟩ = some (.slice none 0 0) := kG3.cell 3
          have rb4 : T3.cell? ⟨gG, 4, none⟩ = some (.slice none 0 0) := kG3.cell 4
          have qb0 : T3.frozen? ⟨gG, 0, none⟩ = false := kG3.frozen 0
          have qb1 : T3.frozen? ⟨gG, 1, none⟩ = false := kG3.frozen 1
          have qb2 : T3.frozen? ⟨gG, 2, none⟩ = false := kG3.frozen 2
          have qb3 : T3.frozen? ⟨gG, 3, none⟩ = false := kG3.frozen 3
          have qb4 : T3.frozen? ⟨gG, 4, none⟩ = false := kG3.frozen 4
          have hly := kG3.lt
          have hLL : LW W0 gG gG (.slice AP c.parts.length cP) (.slice AS c.seqs.length cS) c.flows [] [] (.slice A3 c.flows.length c3) (.slice none 0 0) (putAll T3 gG 0 [.string ⟨#[99]⟩, .slice AP c.parts.length cP, .slice A3 c.flows.length c3, .slice none 0 0, .slice AS c.seqs.length cS]) :=
            ⟨putAll_below nG0 _ 0 _ d3, nG0, putAll_blk [.string ⟨#[99]⟩, .slice AP c.parts.length cP, .slice A3 c.flows.length c3, .slice none 0 0, .slice AS c.seqs.length cS] 0 T3 _ kG3 rfl, own_putAll hA3 (blk_own_ne hA3 kG3 (by decide)) _ 0, World.ownsRow_nil _ _ _ _, rdpl_nil.2 rfl, by simp [Value.ownBlock]⟩
          have HLL := Lib.hid hLL
          clear hLL hA3 kG3
          go_wp2_with fail
          go_meet
          case rel => exact ⟨gG, _, rfl, HLL.out⟩
        · go_simp
          obtain ⟨gG, hgG⟩ : ∃ g, g = T1.heap.size := ⟨_, rfl⟩
          obtain ⟨T2, hT⟩ : ∃ T, T = (T1).alloc (.cells #[.string ⟨#[]⟩, .slice none 0 0, .slice none 0 0, .slice none 0 0, .slice none 0 0] 28) := ⟨_, rfl⟩
          have d2 : Below W0.heap.size W0 T2 := by rw [hT]; exact d1.alloc d1.size (.cells #[.string ⟨#[]⟩, .slice none 0 0, .slice none 0 0, .slice none 0 0, .slice none 0 0] 28)
          have kG2 : Blk T2 gG 28 #[.string ⟨#[]⟩, .slice none 0 0, .slice none 0 0, .slice none 0 0, .slice none 0 0] := by rw [hT, hgG]; exact Blk.new _ _ _
          have hE2 : T2.ownsRow W0.heap.size 40 4 (.slice (some ⟨gE, 0, none⟩) 0 0) 0 [] := by rw [hT]; exact hE1.alloc _
          have nG0 : W0.heap.size ≤ gG := by rw [hgG]; exact d1.size
          have nEG : gE < gG := by rw [hgG]; exact (hE1.lt gE rfl).2
          show K _ ((T1).alloc (.cells #[.string ⟨#[]⟩, .slice none 0 0, .slice none 0 0, .slice none 0 0, .slice none 0 0] 28))
          rw [← hT, ← hgG]
          clear hT hgG
          refine hK.out _ _ (d2) (fun hHeld => ?_)
          clear hK K
          try simp only [Act.put, List.setIfInBounds_toArray, List.set_cons_zero, List.set_cons_succ]
          refine ht_one 5 rfl (by kernel_rfl) (fun K hK => ?_)
          refine step_append_any _ (by rfl) (.tmp 35) (.tmp 37) _ (by rfl) W0.heap.size 40 fi0 _ 4 64 Try.underlying24 hfi0 hfz0 hfz1 hfz2 rfl (by omega) (.slice (some ⟨gE, 0, none⟩) 0 0) 0 [] (by rfl) hE2 _ AF c.flows.length cF _ (by rfl) (HXR1.out.below d2) HX11.out (by unfold maxLen; omega) (by omega) d2.size ?_
          intro v3 T3 hA3 hgrow _
          simp only [Nat.zero_add, List.nil_append] at hA3
          obtain ⟨A3, c3, rfl, _, _⟩ := own_slice hA3
          have d3 : Below W0.heap.size W0 T3 := d2.grown hgrow d2.size (fun j hj => by simp [Value.ownBlock] at hj; omega)
          have kG3 : Blk T3 gG 28 #[.string ⟨#[]⟩, .slice none 0 0, .slice none 0 0, .slice none 0 0, .slice none 0 0] := kG2.grown hgrow (Ne.symm (blk_own_ne hE2 kG2 (by decide)))
          clear hgrow
          refine hK.out _ _ (d3) (fun hHeld => ?_)
          clear hK K
          try simp only [Act.put, List.setIfInBounds_toArray, List.set_cons_zero, List.set_cons_succ]
          refine ht_take 8 (v := ?vb_8) rfl (by kernel_rfl) (fun _ _ _ h => h) (Or.inl ⟨by rfl, ?hb_8⟩) hHeld ?rb_8
          case hb_8 => ((intro U hSw; have hgu := (HG.out U hSw).2.1; have y1 : U.cell? ⟨g6, 1, none⟩ = some (.slice AP c.parts.length cP) := hgu.cell 1; have y2 : U.cell? ⟨g6, 2, none⟩ = some (.slice AF c.flows.length cF) := hgu.cell 2; have y4 : U.cell? ⟨g6, 4, none⟩ = some (.slice AS c.seqs.length cS) := hgu.cell 4; clear hgu; go_simp); (try (with_reducible rfl)))
          try simp only [Act.put, List.setIfInBounds_toArray, List.set_cons_zero, List.set_cons_succ]
          refine ht_done (by kernel_rfl) rfl ?_
          have rb0 : T3.cell? ⟨gG, 0, none⟩ = some (.string ⟨#[]⟩) := kG3.cell 0
          have rb1 : T3.cell? ⟨gG, 1, none⟩ = some (.slice none 0 0) := kG3.cell 1
          have rb2 : T3.cell? ⟨gG, 2, none⟩ = some (.slice none 0 0) := kG3.cell 2
          have rb3 : T3.cell? ⟨gG, 3, none⟩ = some (.slice none 0 0) := kG3.cell 3
          have rb4 : T3.cell? ⟨gG, 4, none⟩ = some (.slice none 0 0) := kG3.cell 4
          have qb0 : T3.frozen? ⟨gG, 0, none⟩ = false := kG3.frozen 0
          have qb1 : T3.frozen? ⟨gG, 1, none⟩ = false := kG3.frozen 1
          have qb2 : T3.frozen? ⟨gG, 2, none⟩ = false := kG3.frozen 2
          have qb3 : T3.frozen? ⟨gG, 3, none⟩ = false := kG3.frozen 3
          have qb4 : T3.frozen? ⟨gG, 4, none⟩ = false := kG3.frozen 4
          have hly := kG3.lt
          have hLL : LW W0 gG gG (.slice AP c.parts.length cP) (.slice AS c.seqs.length cS) c.flows [] [] (.slice A3 c.flows.length c3) (.slice none 0 0) (putAll T3 gG 0 [.string ⟨#[99]⟩, .slice AP c.parts.length cP, .slice A3 c.flows.length c3, .slice none 0 0, .slice AS c.seqs.length cS]) :=
            ⟨putAll_below nG0 _ 0 _ d3, nG0, putAll_blk [.string ⟨#[99]⟩, .slice AP c.parts.length cP, .slice A3 c.flows.length c3, .slice none 0 0, .slice AS c.seqs.length cS] 0 T3 _ kG3 rfl, own_putAll hA3 (blk_own_ne hA3 kG3 (by decide)) _ 0, World.ownsRow_nil _ _ _ _, rdpl_nil.2 rfl, by simp [Value.ownBlock]⟩
          have HLL := Lib.hid hLL
          clear hLL hA3 kG3
          go_wp2_with fail
          go_meet
          case rel => exact ⟨gG, _, rfl, HLL.out⟩
      · go_simp
        obtain ⟨gG, hgG⟩ : ∃ g, g = W0.heap.size := ⟨_, rfl⟩
        obtain ⟨T1, hT⟩ : ∃ T, T = (W0.drew).alloc (.cells #[.string ⟨#[]⟩, .slice none 0 0, .slice none 0 0, .slice none 0 0, .slice none 0 0] 28) := ⟨_, rfl⟩
        have d1 : Below W0.heap.size W0 T1 := by rw [hT]; exact d0.alloc d0.size (.cells #[.string ⟨#[]⟩, .slice none 0 0, .slice none 0 0, .slice none 0 0, .slice none 0 0] 28)
        have kG1 : Blk T1 gG 28 #[.string ⟨#[]⟩, .slice none 0 0, .slice none 0 0, .slice none 0 0, .slice none 0 0] := by rw [hT, hgG]; exact Blk.new _ _ _
        have nG0 : W0.heap.size ≤ gG := by rw [hgG]; exact d0.size
        show K _ ((W0.drew).alloc (.cells #[.string ⟨#[]⟩, .slice none 0 0, .slice none 0 0, .slice none 0 0, .slice none 0 0] 28))
        rw [← hT, ← hgG]
        clear hT hgG
        refine hK.out _ _ (d1) (fun hHeld => ?_)
        clear hK K
        try simp only [Act.put, List.setIfInBounds_toArray, List.set_cons_zero, List.set_cons_succ]
        refine ht_one 2 rfl (by kernel_rfl) (fun K hK => ?_)
        go_simp
        obtain ⟨gE, hgE⟩ : ∃ g, g = T1.heap.size := ⟨_, rfl⟩
        obtain ⟨T2, hT⟩ : ∃ T, T = (T1).alloc (.cells #[] 40) := ⟨_, rfl⟩
        have d2 : Below W0.heap.size W0 T2 := by rw [hT]; exact d1.alloc d1.size (.cells #[] 40)
        have hE2 : T2.ownsRow W0.heap.size 40 4 (.slice (some ⟨gE, 0, none⟩) 0 0) 0 [] := by rw [hT, hgE]; exact World.ownsRow_lit (base := W0.heap.size) _ #[] 0 d1.size (by decide) rfl
        have kG2 : Blk T2 gG 28 #[.string ⟨#[]⟩, .slice none 0 0, .slice none 0 0, .slice none 0 0, .slice none 0 0] := by rw [hT]; exact kG1.alloc _
        have nE0 : W0.heap.size ≤ gE := by rw [hgE]; exact d1.size
        have nGE : gG < gE := by rw [hgE]; exact kG1.lt
        show K _ ((T1).alloc (.cells #[] 40))
        rw [← hT, ← hgE]
        clear hT hgE
        refine hK.out _ _ (d2) (fun hHeld => ?_)
        clear hK K
        try simp only [Act.put, List.setIfInBounds_toArray, List.set_cons_zero, List.set_cons_succ]
        refine ht_one 5 rfl (by kernel_rfl) (fun K hK => ?_)
        refine step_append_any _ (by rfl) (.tmp 35) (.tmp 37) _ (by rfl) W0.heap.size 40 fi0 _ 4 64 Try.underlying24 hfi0 hfz0 hfz1 hfz2 rfl (by omega) (.slice (some ⟨gE, 0, none⟩) 0 0) 0 [] (by rfl) hE2 _ AF c.flows.length cF _ (by rfl) (HXR1.out.below d2) HX11.out (by unfold maxLen; omega) (by omega) d2.size ?_
        intro v3 T3 hA3 hgrow _
        simp only [Nat.zero_add, List.nil_append] at hA3
        obtain ⟨A3, c3, rfl, _, _⟩ := own_slice hA3
        have d3 : Below W0.heap.size W0 T3 := d2.grown hgrow d2.size (fun j hj => by simp [Value.ownBlock] at hj; omega)
        have kG3 : Blk T3 gG 28 #[.string ⟨#[]⟩, .slice none 0 0, .slice none 0 0, .slice none 0 0, .slice none 0 0] := kG2.grown hgrow (Ne.symm (blk_own_ne hE2 kG2 (by decide)))
        clear hgrow
        refine hK.out _ _ (d3) (fun hHeld => ?_)
        clear hK K
        try simp only [Act.put, List.setIfInBounds_toArray, List.set_cons_zero, List.set_cons_succ]
        refine ht_take 8 (v := ?vb_9) rfl (by kernel_rfl) (fun _ _ _ h => h) (Or.inl ⟨by rfl, ?hb_9⟩) hHeld ?rb_9
        case hb_9 => ((intro U hSw; have hgu := (HG.out U hSw).2.1; have y1 : U.cell? ⟨g6, 1, none⟩ = some (.slice AP c.parts.length cP) := hgu.cell 1; have y2 : U.cell? ⟨g6, 2, none⟩ = some (.slice AF c.flows.length cF) := hgu.cell 2; have y4 : U.cell? ⟨g6, 4, none⟩ = some (.slice AS c.seqs.length cS) := hgu.cell 4; clear hgu; go_simp); (try (with_reducible rfl)))
        try simp only [Act.put, List.setIfInBounds_toArray, List.set_cons_zero, List.set_cons_succ]
        refine ht_done (by kernel_rfl) rfl ?_
        have rb0 : T3.cell? ⟨gG, 0, none⟩ = some (.string ⟨#[]⟩) := kG3.cell 0
        have rb1 : T3.cell? ⟨gG, 1, none⟩ = some (.slice none 0 0) := kG3.cell 1
        have rb2 : T3.cell? ⟨gG, 2, none⟩ = some (.slice none 0 0) := kG3.cell 2
        have rb3 : T3.cell? ⟨gG, 3, none⟩ = some (.slice none 0 0) := kG3.cell 3
        have rb4 : T3.cell? ⟨gG, 4, none⟩ = some (.slice none 0 0) := kG3.cell 4
        have qb0 : T3.frozen? ⟨gG, 0, none⟩ = false := kG3.frozen 0
        have qb1 : T3.frozen? ⟨gG, 1, none⟩ = false := kG3.frozen 1
        have qb2 : T3.frozen? ⟨gG, 2, none⟩ = false := kG3.frozen 2
        have qb3 : T3.frozen? ⟨gG, 3, none⟩ = false := kG3.frozen 3
        have qb4 : T3.frozen? ⟨gG, 4, none⟩ = false := kG3.frozen 4
        have hly := kG3.lt
        have hLL : LW W0 gG gG (.slice AP c.parts.length cP) (.slice AS c.seqs.length cS) c.flows [] [] (.slice A3 c.flows.length c3) (.slice none 0 0) (putAll T3 gG 0 [.string ⟨#[99]⟩, .slice AP c.parts.length cP, .slice A3 c.flows.length c3, .slice none 0 0, .slice AS c.seqs.length cS]) :=
          ⟨putAll_below nG0 _ 0 _ d3, nG0, putAll_blk [.string ⟨#[99]⟩, .slice AP c.parts.length cP, .slice A3 c.flows.length c3, .slice none 0 0, .slice AS c.seqs.length cS] 0 T3 _ kG3 rfl, own_putAll hA3 (blk_own_ne hA3 kG3 (by decide)) _ 0, World.ownsRow_nil _ _ _ _, rdpl_nil.2 rfl, by simp [Value.ownBlock]⟩
        have HLL := Lib.hid hLL
        clear hLL hA3 kG3
        go_wp2_with fail
        go_meet
        case rel => exact ⟨gG, _, rfl, HLL.out⟩
    case rest =>
      obtain ⟨g, vF1, rfl, hL1⟩ := hcut
      obtain ⟨V4, rfl⟩ : ∃ V, V = wc := ⟨_, rfl⟩
      have HL1 := Lib.hid hL1
      clear hL1 d0 HXR1 HX11
      go_wp2_with fail
      go_loopw [11] (fun iv wr => ∃ (k : Nat) (cells : List Value) (vF vI : Value), k ≤ c.items.length ∧ iv = .int .i64 k ∧ LW W0 g g (.slice AP c.parts.length cP) (.slice AS c.seqs.length cS) (c.flows ++ (c.items.take k).flatMap (wantFl x)) ((c.items.take k).map (wantI x)) cells vF vI wr) (fun iv _ => c.items.length - (intOf iv).toNat)
      case atStart => exact ⟨0, [], vF1, .slice none 0 0, Nat.zero_le _, rfl, by
        have e : c.flows ++ (c.items.take 0).flatMap (wantFl x) = c.flows := by simp
        rw [e]
        exact HL1.out⟩
      case round =>
        clear HL1
        obtain ⟨k, cells, vF, vI, hk, rfl, hL⟩ := hrel
        obtain ⟨V, rfl⟩ : ∃ V, V = wr := ⟨_, rfl⟩
        have HL := Lib.hid hL
        have hbV := hL.bel
        have hszV := hbV.size
        have HBV := Lib.hid hbV
        obtain ⟨_, hc6, _, _⟩ := HG.out V hbV
        have y63 : V.cell? ⟨g6, 3, none⟩ = some (.slice AI c.items.length cI) := hc6.cell 3
        clear hL hbV hc6
        by_cases hlt : k < c.items.length
        · obtain ⟨AIx, cIx, hvI, _, _, hatI⟩ := rd_at itemC_len HC0.out.items
          injection hvI with e1 _ e3
          subst e1
          subst e3
          obtain ⟨bI, vs, rfl, hbI, _, hvs, hcell⟩ := hatI k hlt
          obtain ⟨y, hy⟩ : ∃ y, y = c.items[k] := ⟨_, rfl⟩
          rw [← hy] at hvs
          have hrdl := hvs
          obtain ⟨v3, v4, v7, v8, v9, rfl, h3, h4, h7, h8, h9⟩ := rd_itemC.1 hvs
          obtain ⟨A3, c3, rfl⟩ := rd_form h3
          obtain ⟨A4, c4, rfl⟩ := rd_form h4
          obtain ⟨A7, c7, rfl⟩ := rd_form h7
          obtain ⟨A8, c8, rfl⟩ := rd_form h8
          obtain ⟨A9, c9, rfl⟩ := rd_form h9
          have hst1 : (c.items.take (k + 1)).map (wantI x) = (c.items.take k).map (wantI x) ++ [wantI x y] := by
            rw [List.take_succ_eq_append_getElem hlt, List.map_append, hy]
            rfl
          have hst2 : c.flows ++ (c.items.take (k + 1)).flatMap (wantFl x) = (c.flows ++ (c.items.take k).flatMap (wantFl x)) ++ wantFl x y := by
            rw [List.take_succ_eq_append_getElem hlt, List.flatMap_append, hy, List.append_assoc]
            simp
          obtain ⟨its, hits⟩ : ∃ l, l = (c.items.take k).map (wantI x) := ⟨_, rfl⟩
          obtain ⟨fl, hfl⟩ : ∃ l, l = c.flows ++ (c.items.take k).flatMap (wantFl x) := ⟨_, rfl⟩
          have hitl : its.length ≤ k := by rw [hits]; simp; omega
          have hfll : fl.length ≤ 20000 := by
            have := wantFl_len x hxF (c.items.take k)
            rw [hfl, List.length_append]
            have h2 : (c.items.take k).length ≤ 110 := by simp; omega
            omega
          rw [← hits] at hst1 HL
          rw [← hfl] at hst2 HL
          have HST1 := Lib.hid hst1
          have HST2 := Lib.hid hst2
          obtain ⟨T, hT⟩ : ∃ T, T = V.alloc (.cells #[.int .i64 y.kind, .string y.id, .string y.first, .slice A3 y.parts.length c3, .slice A4 y.flows.length c4, .bool y.loop, .string y.called, .slice A7 y.maps.length c7, .slice A8 y.items.length c8, .slice A9 y.seqs.length c9] 33) := ⟨_, rfl⟩
          obtain ⟨gy, hgy⟩ : ∃ q, q = V.heap.size := ⟨_, rfl⟩
          have kyT : Blk T gy 33 #[.int .i64 y.kind, .string y.id, .string y.first, .slice A3 y.parts.length c3, .slice A4 y.flows.length c4, .bool y.loop, .string y.called, .slice A7 y.maps.length c7, .slice A8 y.items.length c8, .slice A9 y.seqs.length c9] := by rw [hT, hgy]; exact Blk.new _ _ _
          have hLT : LW W0 g gy (.slice AP c.parts.length cP) (.slice AS c.seqs.length cS) fl its cells vF vI T := by rw [hT, hgy]; exact HL.out.open_ _
          have hgyN : W0.heap.size ≤ gy := by rw [hgy]; exact hszV
          have hap : ∀ b, b < W0.heap.size → vI.ownBlock ≠ some b ∧ vF.ownBlock ≠ some b ∧ b ≠ g ∧ b ≠ gy := fun b hb =>
            ⟨fun e => by have := (HL.out.oI.lt b e).1; omega, fun e => by have := (HL.out.oF.lt b e).1; omega, by have := HL.out.hg; omega, by omega⟩
          have hyT : RdPL (fun b => vI.ownBlock ≠ some b ∧ vF.ownBlock ≠ some b ∧ b ≠ g ∧ b ≠ gy) T (itemC y) [.int .i64 y.kind, .string y.id, .string y.first, .slice A3 y.parts.length c3, .slice A4 y.flows.length c4, .bool y.loop, .string y.called, .slice A7 y.maps.length c7, .slice A8 y.items.length c8, .slice A9 y.seqs.length c9] :=
            RdPL.keep (fun b hb hl => ⟨hLT.bel.block b hl, hap b hb⟩) _ _ (RdL.rdpAll _ _ hrdl)
          have hYV : YV g gy vF vI y T := ⟨A3, c3, A4, c4, A7, c7, A8, c8, A9, c9, kyT, hyT⟩
          have hapI : ∀ b, b < W0.heap.size → vI.ownBlock ≠ some b := fun b hb => (hap b hb).1
          have hx0 := HBV.out
          have e0 := (hx0.cell (p := ⟨bI, k * 10, none⟩) hbI).trans (show W0.cell? ⟨bI, k * 10, none⟩ = some (.int .i64 y.kind) from hcell 0 (by omega))
          have e1 := (hx0.cell (p := ⟨bI, k * 10 + 1, none⟩) hbI).trans (show W0.cell? ⟨bI, k * 10 + 1, none⟩ = some (.string y.id) from hcell 1 (by omega))
          have e2 := (hx0.cell (p := ⟨bI, k * 10 + 2, none⟩) hbI).trans (show W0.cell? ⟨bI, k * 10 + 2, none⟩ = some (.string y.first) from hcell 2 (by omega))
          have e3 := (hx0.cell (p := ⟨bI, k * 10 + 3, none⟩) hbI).trans (show W0.cell? ⟨bI, k * 10 + 3, none⟩ = some (.slice A3 y.parts.length c3) from hcell 3 (by omega))
          have e4 := (hx0.cell (p := ⟨bI, k * 10 + 4, none⟩) hbI).trans (show W0.cell? ⟨bI, k * 10 + 4, none⟩ = some (.slice A4 y.flows.length c4) from hcell 4 (by omega))
          have e5 := (hx0.cell (p := ⟨bI, k * 10 + 5, none⟩) hbI).trans (show W0.cell? ⟨bI, k * 10 + 5, none⟩ = some (.bool y.loop) from hcell 5 (by omega))
          have e6 := (hx0.cell (p := ⟨bI, k * 10 + 6, none⟩) hbI).trans (show W0.cell? ⟨bI, k * 10 + 6, none⟩ = some (.string y.called) from hcell 6 (by omega))
          have e7 := (hx0.cell (p := ⟨bI, k * 10 + 7, none⟩) hbI).trans (show W0.cell? ⟨bI, k * 10 + 7, none⟩ = some (.slice A7 y.maps.length c7) from hcell 7 (by omega))
          have e8 := (hx0.cell (p := ⟨bI, k * 10 + 8, none⟩) hbI).trans (show W0.cell? ⟨bI, k * 10 + 8, none⟩ = some (.slice A8 y.items.length c8) from hcell 8 (by omega))
          have e9 := (hx0.cell (p := ⟨bI, k * 10 + 9, none⟩) hbI).trans (show W0.cell? ⟨bI, k * 10 + 9, none⟩ = some (.slice A9 y.seqs.length c9) from hcell 9 (by omega))
          have HLT := Lib.hid hLT
          have HKT := Lib.hid kyT
          have HYV := Lib.hid hYV
          have HMAP := Lib.hid h7
          have HT := Lib.hid hT.symm
          have HGY := Lib.hid hgy.symm
          have HRDL := Lib.hid hrdl
          have hkI : (k : Int) < (c.items.length : Int) := by omega
          have t0 : T.cell? ⟨gy, 0, none⟩ = some (.int .i64 y.kind) := kyT.cell 0
          clear hatI hy hvs hrdl h3 h4 h7 h8 h9 hcell hst1 hst2 hits hfl hT hgy kyT hLT hap hapI hyT hYV hx0
          go_upto_region 9 with fail
          rw [HT.out, HGY.out]
          clear e0 e1 e2 e3 e4 e5 e6 e7 e8 e9 y63
          go_upto_if 56 with fail
          go_cut [] (fun wx => ∃ vF2, LW W0 g gy (.slice AP c.parts.length cP) (.slice AS c.seqs.length cS) (fl ++ wantFl x y) its cells vF2 vI wx ∧ YV g gy vF2 vI (wantI x y) wx)
          case first =>
            by_cases hk8 : y.kind = 8
            · have hkb : (y.kind == 8) = true := by simp [hk8]
              have hw1 : wantFl x y = x.flows.map (flowF sPath y.maps) := by unfold wantFl; rw [if_pos hk8]
              have hw2 : wantI x y = calledF x y.maps := by unfold wantI; rw [if_pos hk8]
              have HW1 := Lib.hid hw1
              have HW2 := Lib.hid hw2
              clear hw1 hw2 HT HGY HRDL HYV hk8
              go_wp2_with fail
              clear t0
              go_loopw [13] (fun iv wq => ∃ (j : Nat) (vF2 : Value), j ≤ x.flows.length ∧ iv = .int .i64 j ∧ LW W0 g gy (.slice AP c.parts.length cP) (.slice AS c.seqs.length cS) (fl ++ (x.flows.take j).map (flowF sPath y.maps)) its cells vF2 vI wq ∧ Blk wq gy 33 #[.int .i64 y.kind, .string y.id, .string y.first, .slice A3 y.parts.length c3, .slice A4 y.flows.length c4, .bool y.loop, .string y.called, .slice A7 y.maps.length c7, .slice A8 y.items.length c8, .slice A9 y.seqs.length c9]) (fun iv _ => x.flows.length - (intOf iv).toNat)
              case atStart => exact ⟨0, vF, Nat.zero_le _, rfl, by
                have e : fl ++ (x.flows.take 0).map (flowF sPath y.maps) = fl := by simp
                rw [e]
                exact HLT.out, HKT.out⟩
              case round =>
                clear HLT HKT
                obtain ⟨j, vF2, hj, rfl, hLj, hKj⟩ := hrel
                obtain ⟨V2, rfl⟩ : ∃ V, V = wr := ⟨_, rfl⟩
                have hbj := hLj.bel
                obtain ⟨_, _, hc7, _⟩ := HG.out V2 hbj
                have y72 : V2.cell? ⟨g7, 2, none⟩ = some (.slice BF x.flows.length kF) := hc7.cell 2
                have HLJ := Lib.hid hLj
                have HKJ := Lib.hid hKj
                have HC7 := Lib.hid hc7
                have HBJ := Lib.hid hbj
                have hszj := hbj.size
                clear hLj hKj hc7 hbj
                by_cases hlj : j < x.flows.length
                · obtain ⟨AFx, cFx, hvF, _, _, hatF⟩ := rd_at flowC_len HX0.out.flows
                  injection hvF with e1 _ e3
                  subst e1
                  subst e3
                  obtain ⟨bF, vs, rfl, hbF, _, hvs, hcell⟩ := hatF j hlj
                  obtain ⟨f, hf⟩ : ∃ f, f = x.flows[j] := ⟨_, rfl⟩
                  have hfz : f.id.size ≤ 20 := by rw [hf]; exact HN.out.xf _ (List.getElem_mem hlj)
                  have hst3 : fl ++ (x.flows.take (j + 1)).map (flowF sPath y.maps) = (fl ++ (x.flows.take j).map (flowF sPath y.maps)) ++ [flowF sPath y.maps f] := by
                    rw [List.take_succ_eq_append_getElem hlj, List.map_append, hf, List.append_assoc]
                    rfl
                  rw [← hf] at hvs
                  obtain rfl := rd_flowC hvs
                  obtain ⟨fm, hfm⟩ : ∃ l, l = fl ++ (x.flows.take j).map (flowF sPath y.maps) := ⟨_, rfl⟩
                  have hfml : fm.length ≤ 21000 := by rw [hfm]; simp; omega
                  rw [← hfm] at hst3 HLJ
                  have HST3 := Lib.hid hst3
                  have hx0 := HBJ.out
                  have e0 := (hx0.cell (p := ⟨bF, j * 4, none⟩) hbF).trans (show W0.cell? ⟨bF, j * 4, none⟩ = some (.string f.id) from hcell 0 (by omega))
                  have e1 := (hx0.cell (p := ⟨bF, j * 4 + 1, none⟩) hbF).trans (show W0.cell? ⟨bF, j * 4 + 1, none⟩ = some (.string f.src) from hcell 1 (by omega))
                  have e2 := (hx0.cell (p := ⟨bF, j * 4 + 2, none⟩) hbF).trans (show W0.cell? ⟨bF, j * 4 + 2, none⟩ = some (.string f.dst) from hcell 2 (by omega))
                  have e3 := (hx0.cell (p := ⟨bF, j * 4 + 3, none⟩) hbF).trans (show W0.cell? ⟨bF, j * 4 + 3, none⟩ = some (.string f.msg) from hcell 3 (by omega))
                  obtain ⟨T3, hT3⟩ : ∃ T, T = V2.alloc (.cells #[.string f.id, .string f.src, .string f.dst, .string f.msg] 40) := ⟨_, rfl⟩
                  obtain ⟨g14, hg14⟩ : ∃ q, q = V2.heap.size := ⟨_, rfl⟩
                  have bT3 : Below V2.heap.size V2 T3 := by rw [hT3]; exact (Below.refl _ _).alloc (Nat.le_refl _) _
                  have k14 : Blk T3 g14 40 #[.string f.id, .string f.src, .string f.dst, .string f.msg] := by rw [hT3, hg14]; exact Blk.new _ _ _
                  have hL3 := HLJ.out.below bT3
                  have hK3 := HKJ.out.below bT3 HKJ.out.lt
                  have hne14 : vF2.ownBlock ≠ some g14 := fun e => by have := (HLJ.out.oF.lt _ e).2; omega
                  have HL3 := Lib.hid hL3
                  have HK3 := Lib.hid hK3
                  have HK14 := Lib.hid k14
                  have HT3 := Lib.hid hT3.symm
                  have HG14 := Lib.hid hg14.symm
                  have HNE14 := Lib.hid hne14
                  have hjI : (j : Int) < (x.flows.length : Int) := by omega
                  have hcat : ¬ 9223372036854775807 < (⟨#[99, 97, 108, 108, 46]⟩ : ByteArray).size + f.id.size := by
                    rw [show (⟨#[99, 97, 108, 108, 46]⟩ : ByteArray).size = 5 from rfl]; omega
                  have hcat2 : ¬ 9223372036854775807 < 5 + f.id.size := by omega
                  clear hatF hf hvs hcell hst3 hfm hT3 hg14 bT3 k14 hL3 hK3 hne14 hx0
                  go_upto_region 14 with fail
                  rw [HT3.out, HG14.out]
                  clear e0 e1 e2 e3 y72
                  refine wp_region_HT 21 (fun U => Blk U g 28 #[.string ⟨#[99]⟩, .slice AP c.parts.length cP, vF2, vI, .slice AS c.seqs.length cS] ∧ Blk U g14 40 #[.string f.id, .string f.src, .string f.dst, .string f.msg] ∧ Blk U gy 33 #[.int .i64 y.kind, .string y.id, .string y.first, .slice A3 y.parts.length c3, .slice A4 y.flows.length c4, .bool y.loop, .string y.called, .slice A7 y.maps.length c7, .slice A8 y.items.length c8, .slice A9 y.seqs.length c9] ∧ Below W0.heap.size W0 U) (by kernel_rfl) (by decide) (⟨HL3.out.b, HK14.out, HK3.out, HL3.out.bel.drew⟩) (fun hHeld => ?_)
                  refine ht_take 0 (v := ?vc_1) rfl (by kernel_rfl) (fun _ _ _ h => h) (Or.inl ⟨by rfl, ?hc_1⟩) hHeld ?rc_1
                  case hc_1 => ((intro U hSw; have y2 : U.cell? ⟨g, 2, none⟩ = some vF2 := hSw.1.cell 2; have r0 : U.cell? ⟨g14, 0, none⟩ = some (.string f.id) := hSw.2.1.cell 0; have r1 : U.cell? ⟨g14, 1, none⟩ = some (.string f.src) := hSw.2.1.cell 1; have r2 : U.cell? ⟨g14, 2, none⟩ = some (.string f.dst) := hSw.2.1.cell 2; have r3 : U.cell? ⟨g14, 3, none⟩ = some (.string f.msg) := hSw.2.1.cell 3; have y7 : U.cell? ⟨gy, 7, none⟩ = some (.slice A7 y.maps.length c7) := hSw.2.2.1.cell 7; go_simp; (try simp only [if_neg hcat, if_neg hcat2])); (try (with_reducible rfl)))
                  try simp only [Act.put, List.setIfInBounds_toArray, List.set_cons_zero, List.set_cons_succ]
                  refine ht_take 1 (v := ?vc_2) rfl (by kernel_rfl) (fun _ _ _ h => h) (Or.inl ⟨by rfl, ?hc_2⟩) hHeld ?rc_2
                  case hc_2 => ((intro U hSw; have y2 : U.cell? ⟨g, 2, none⟩ = some vF2 := hSw.1.cell 2; have r0 : U.cell? ⟨g14, 0, none⟩ = some (.string f.id) := hSw.2.1.cell 0; have r1 : U.cell? ⟨g14, 1, none⟩ = some (.string f.src) := hSw.2.1.cell 1; have r2 : U.cell? ⟨g14, 2, none⟩ = some (.string f.dst) := hSw.2.1.cell 2; have r3 : U.cell? ⟨g14, 3, none⟩ = some (.string f.msg) := hSw.2.1.cell 3; have y7 : U.cell? ⟨gy, 7, none⟩ = some (.slice A7 y.maps.length c7) := hSw.2.2.1.cell 7; go_simp; (try simp only [if_neg hcat, if_neg hcat2])); (try (with_reducible rfl)))
                  try simp only [Act.put, List.setIfInBounds_toArray, List.set_cons_zero, List.set_cons_succ]
                  refine ht_take 2 (v := ?vc_3) rfl (by kernel_rfl) (fun _ _ _ h => h) (Or.inl ⟨by rfl, ?hc_3⟩) hHeld ?rc_3
                  case hc_3 => ((intro U hSw; have y2 : U.cell? ⟨g, 2, none⟩ = some vF2 := hSw.1.cell 2; have r0 : U.cell? ⟨g14, 0, none⟩ = some (.string f.id) := hSw.2.1.cell 0; have r1 : U.cell? ⟨g14, 1, none⟩ = some (.string f.src) := hSw.2.1.cell 1; have r2 : U.cell? ⟨g14, 2, none⟩ = some (.string f.dst) := hSw.2.1.cell 2; have r3 : U.cell? ⟨g14, 3, none⟩ = some (.string f.msg) := hSw.2.1.cell 3; have y7 : U.cell? ⟨gy, 7, none⟩ = some (.slice A7 y.maps.length c7) := hSw.2.2.1.cell 7; go_simp; (try simp only [if_neg hcat, if_neg hcat2])); (try (with_reducible rfl)))
                  try simp only [Act.put, List.setIfInBounds_toArray, List.set_cons_zero, List.set_cons_succ]
                  refine ht_take 3 (v := ?vc_4) rfl (by kernel_rfl) (fun _ _ _ h => h) (Or.inl ⟨by rfl, ?hc_4⟩) hHeld ?rc_4
                  case hc_4 => ((intro U hSw; have y2 : U.cell? ⟨g, 2, none⟩ = some vF2 := hSw.1.cell 2; have r0 : U.cell? ⟨g14, 0, none⟩ = some (.string f.id) := hSw.2.1.cell 0; have r1 : U.cell? ⟨g14, 1, none⟩ = some (.string f.src) := hSw.2.1.cell 1; have r2 : U.cell? ⟨g14, 2, none⟩ = some (.string f.dst) := hSw.2.1.cell 2; have r3 : U.cell? ⟨g14, 3, none⟩ = some (.string f.msg) := hSw.2.1.cell 3; have y7 : U.cell? ⟨gy, 7, none⟩ = some (.slice A7 y.maps.length c7) := hSw.2.2.1.cell 7; go_simp; (try simp only [if_neg hcat, if_neg hcat2])); (try (with_reducible rfl)))
                  try simp only [Act.put, List.setIfInBounds_toArray, List.set_cons_zero, List.set_cons_succ]
                  refine ht_take 4 (v := ?vc_5) rfl (by kernel_rfl) (fun _ _ _ h => h) (Or.inl ⟨by rfl, ?hc_5⟩) hHeld ?rc_5
                  case hc_5 => ((intro U hSw; have y2 : U.cell? ⟨g, 2, none⟩ = some vF2 := hSw.1.cell 2; have r0 : U.cell? ⟨g14, 0, none⟩ = some (.string f.id) := hSw.2.1.cell 0; have r1 : U.cell? ⟨g14, 1, none⟩ = some (.string f.src) := hSw.2.1.cell 1; have r2 : U.cell? ⟨g14, 2, none⟩ = some (.string f.dst) := hSw.2.1.cell 2; have r3 : U.cell? ⟨g14, 3, none⟩ = some (.string f.msg) := hSw.2.1.cell 3; have y7 : U.cell? ⟨gy, 7, none⟩ = some (.slice A7 y.maps.length c7) := hSw.2.2.1.cell 7; go_simp; (try simp only [if_neg hcat, if_neg hcat2])); (try (with_reducible rfl)))
                  try simp only [Act.put, List.setIfInBounds_toArray, List.set_cons_zero, List.set_cons_succ]
                  refine ht_take 5 (v := ?vc_6) rfl (by kernel_rfl) (fun _ _ _ h => h) (Or.inl ⟨by rfl, ?hc_6⟩) hHeld ?rc_6
                  case hc_6 => ((intro U hSw; have y2 : U.cell? ⟨g, 2, none⟩ = some vF2 := hSw.1.cell 2; have r0 : U.cell? ⟨g14, 0, none⟩ = some (.string f.id) := hSw.2.1.cell 0; have r1 : U.cell? ⟨g14, 1, none⟩ = some (.string f.src) := hSw.2.1.cell 1; have r2 : U.cell? ⟨g14, 2, none⟩ = some (.string f.dst) := hSw.2.1.cell 2; have r3 : U.cell? ⟨g14, 3, none⟩ = some (.string f.msg) := hSw.2.1.cell 3; have y7 : U.cell? ⟨gy, 7, none⟩ = some (.slice A7 y.maps.length c7) := hSw.2.2.1.cell 7; go_simp; (try simp only [if_neg hcat, if_neg hcat2])); (try (with_reducible rfl)))
                  try simp only [Act.put, List.setIfInBounds_toArray, List.set_cons_zero, List.set_cons_succ]
                  refine ht_take 6 (v := ?vc_7) rfl (by kernel_rfl) (fun _ _ _ h => h) (Or.inl ⟨by rfl, ?hc_7⟩) hHeld ?rc_7
                  case hc_7 => ((intro U hSw; have y2 : U.cell? ⟨g, 2, none⟩ = some vF2 := hSw.1.cell 2; have r0 : U.cell? ⟨g14, 0, none⟩ = some (.string f.id) := hSw.2.1.cell 0; have r1 : U.cell? ⟨g14, 1, none⟩ = some (.string f.src) := hSw.2.1.cell 1; have r2 : U.cell? ⟨g14, 2, none⟩ = some (.string f.dst) := hSw.2.1.cell 2; have r3 : U.cell? ⟨g14, 3, none⟩ = some (.string f.msg) := hSw.2.1.cell 3; have y7 : U.cell? ⟨gy, 7, none⟩ = some (.slice A7 y.maps.length c7) := hSw.2.2.1.cell 7; go_simp; (try simp only [if_neg hcat, if_neg hcat2])); (try (with_reducible rfl)))
                  try simp only [Act.put, List.setIfInBounds_toArray, List.set_cons_zero, List.set_cons_succ]
                  refine ht_take 7 (v := ?vc_8) rfl (by kernel_rfl) (fun _ _ _ h => h) (Or.inl ⟨by rfl, ?hc_8⟩) hHeld ?rc_8
                  case hc_8 => ((intro U hSw; have y2 : U.cell? ⟨g, 2, none⟩ = some vF2 := hSw.1.cell 2; have r0 : U.cell? ⟨g14, 0, none⟩ = some (.string f.id) := hSw.2.1.cell 0; have r1 : U.cell? ⟨g14, 1, none⟩ = some (.string f.src) := hSw.2.1.cell 1; have r2 : U.cell? ⟨g14, 2, none⟩ = some (.string f.dst) := hSw.2.1.cell 2; have r3 : U.cell? ⟨g14, 3, none⟩ = some (.string f.msg) := hSw.2.1.cell 3; have y7 : U.cell? ⟨gy, 7, none⟩ = some (.slice A7 y.maps.length c7) := hSw.2.2.1.cell 7; go_simp; (try simp only [if_neg hcat, if_neg hcat2])); (try (with_reducible rfl)))
                  try simp only [Act.put, List.setIfInBounds_toArray, List.set_cons_zero, List.set_cons_succ]
                  refine ht_take 8 (v := ?vc_9) rfl (by kernel_rfl) (fun _ _ _ h => h) (Or.inl ⟨by rfl, ?hc_9⟩) hHeld ?rc_9
                  case hc_9 => ((intro U hSw; have y2 : U.cell? ⟨g, 2, none⟩ = some vF2 := hSw.1.cell 2; have r0 : U.cell? ⟨g14, 0, none⟩ = some (.string f.id) := hSw.2.1.cell 0; have r1 : U.cell? ⟨g14, 1, none⟩ = some (.string f.src) := hSw.2.1.cell 1; have r2 : U.cell? ⟨g14, 2, none⟩ = some (.string f.dst) := hSw.2.1.cell 2; have r3 : U.cell? ⟨g14, 3, none⟩ = some (.string f.msg) := hSw.2.1.cell 3; have y7 : U.cell? ⟨gy, 7, none⟩ = some (.slice A7 y.maps.length c7) := hSw.2.2.1.cell 7; go_simp; (try simp only [if_neg hcat, if_neg hcat2])); (try (with_reducible rfl)))
                  try simp only [Act.put, List.setIfInBounds_toArray, List.set_cons_zero, List.set_cons_succ]
                  refine ht_take 10 (v := ?vc_10) rfl (by kernel_rfl) (fun _ _ _ h => h) (Or.inl ⟨by rfl, ?hc_10⟩) hHeld ?rc_10
                  case hc_10 => ((intro U hSw; have y2 : U.cell? ⟨g, 2, none⟩ = some vF2 := hSw.1.cell 2; have r0 : U.cell? ⟨g14, 0, none⟩ = some (.string f.id) := hSw.2.1.cell 0; have r1 : U.cell? ⟨g14, 1, none⟩ = some (.string f.src) := hSw.2.1.cell 1; have r2 : U.cell? ⟨g14, 2, none⟩ = some (.string f.dst) := hSw.2.1.cell 2; have r3 : U.cell? ⟨g14, 3, none⟩ = some (.string f.msg) := hSw.2.1.cell 3; have y7 : U.cell? ⟨gy, 7, none⟩ = some (.slice A7 y.maps.length c7) := hSw.2.2.1.cell 7; go_simp; (try simp only [if_neg hcat, if_neg hcat2])); (try (with_reducible rfl)))
                  try simp only [Act.put, List.setIfInBounds_toArray, List.set_cons_zero, List.set_cons_succ]
                  refine ht_take 11 (v := ?vc_11) rfl (by kernel_rfl) (fun _ _ _ h => h) (Or.inl ⟨by rfl, ?hc_11⟩) hHeld ?rc_11
                  case hc_11 => ((intro U hSw; have y2 : U.cell? ⟨g, 2, none⟩ = some vF2 := hSw.1.cell 2; have r0 : U.cell? ⟨g14, 0, none⟩ = some (.string f.id) := hSw.2.1.cell 0; have r1 : U.cell? ⟨g14, 1, none⟩ = some (.string f.src) := hSw.2.1.cell 1; have r2 : U.cell? ⟨g14, 2, none⟩ = some (.string f.dst) := hSw.2.1.cell 2; have r3 : U.cell? ⟨g14, 3, none⟩ = some (.string f.msg) := hSw.2.1.cell 3; have y7 : U.cell? ⟨gy, 7, none⟩ = some (.slice A7 y.maps.length c7) := hSw.2.2.1.cell 7; go_simp; (try simp only [if_neg hcat, if_neg hcat2])); (try (with_reducible rfl)))
                  try simp only [Act.put, List.setIfInBounds_toArray, List.set_cons_zero, List.set_cons_succ]
                  refine ht_take 12 (v := ?vc_12) rfl (by kernel_rfl) (fun _ _ _ h => h) (Or.inl ⟨by rfl, ?hc_12⟩) hHeld ?rc_12
                  case hc_12 => ((intro U hSw; have y2 : U.cell? ⟨g, 2, none⟩ = some vF2 := hSw.1.cell 2; have r0 : U.cell? ⟨g14, 0, none⟩ = some (.string f.id) := hSw.2.1.cell 0; have r1 : U.cell? ⟨g14, 1, none⟩ = some (.string f.src) := hSw.2.1.cell 1; have r2 : U.cell? ⟨g14, 2, none⟩ = some (.string f.dst) := hSw.2.1.cell 2; have r3 : U.cell? ⟨g14, 3, none⟩ = some (.string f.msg) := hSw.2.1.cell 3; have y7 : U.cell? ⟨gy, 7, none⟩ = some (.slice A7 y.maps.length c7) := hSw.2.2.1.cell 7; go_simp; (try simp only [if_neg hcat, if_neg hcat2])); (try (with_reducible rfl)))
                  try simp only [Act.put, List.setIfInBounds_toArray, List.set_cons_zero, List.set_cons_succ]
                  refine ht_take 13 (v := ?vc_13) rfl (by kernel_rfl) (fun _ _ _ h => h) (Or.inl ⟨by rfl, ?hc_13⟩) hHeld ?rc_13
                  case hc_13 => ((intro U hSw; have y2 : U.cell? ⟨g, 2, none⟩ = some vF2 := hSw.1.cell 2; have r0 : U.cell? ⟨g14, 0, none⟩ = some (.string f.id) := hSw.2.1.cell 0; have r1 : U.cell? ⟨g14, 1, none⟩ = some (.string f.src) := hSw.2.1.cell 1; have r2 : U.cell? ⟨g14, 2, none⟩ = some (.string f.dst) := hSw.2.1.cell 2; have r3 : U.cell? ⟨g14, 3, none⟩ = some (.string f.msg) := hSw.2.1.cell 3; have y7 : U.cell? ⟨gy, 7, none⟩ = some (.slice A7 y.maps.length c7) := hSw.2.2.1.cell 7; go_simp; (try simp only [if_neg hcat, if_neg hcat2])); (try (with_reducible rfl)))
                  try simp only [Act.put, List.setIfInBounds_toArray, List.set_cons_zero, List.set_cons_succ]
                  refine ht_take 15 (v := ?vc_14) rfl (by kernel_rfl) (fun _ _ _ h => h) (Or.inl ⟨by rfl, ?hc_14⟩) hHeld ?rc_14
                  case hc_14 => ((intro U hSw; have y2 : U.cell? ⟨g, 2, none⟩ = some vF2 := hSw.1.cell 2; have r0 : U.cell? ⟨g14, 0, none⟩ = some (.string f.id) := hSw.2.1.cell 0; have r1 : U.cell? ⟨g14, 1, none⟩ = some (.string f.src) := hSw.2.1.cell 1; have r2 : U.cell? ⟨g14, 2, none⟩ = some (.string f.dst) := hSw.2.1.cell 2; have r3 : U.cell? ⟨g14, 3, none⟩ = some (.string f.msg) := hSw.2.1.cell 3; have y7 : U.cell? ⟨gy, 7, none⟩ = some (.slice A7 y.maps.length c7) := hSw.2.2.1.cell 7; go_simp; (try simp only [if_neg hcat, if_neg hcat2])); (try (with_reducible rfl)))
                  try simp only [Act.put, List.setIfInBounds_toArray, List.set_cons_zero, List.set_cons_succ]
                  refine ht_take 16 (v := ?vc_15) rfl (by kernel_rfl) (fun _ _ _ h => h) (Or.inl ⟨by rfl, ?hc_15⟩) hHeld ?rc_15
                  case hc_15 => ((intro U hSw; have y2 : U.cell? ⟨g, 2, none⟩ = some vF2 := hSw.1.cell 2; have r0 : U.cell? ⟨g14, 0, none⟩ = some (.string f.id) := hSw.2.1.cell 0; have r1 : U.cell? ⟨g14, 1, none⟩ = some (.string f.src) := hSw.2.1.cell 1; have r2 : U.cell? ⟨g14, 2, none⟩ = some (.string f.dst) := hSw.2.1.cell 2; have r3 : U.cell? ⟨g14, 3, none⟩ = some (.string f.msg) := hSw.2.1.cell 3; have y7 : U.cell? ⟨gy, 7, none⟩ = some (.slice A7 y.maps.length c7) := hSw.2.2.1.cell 7; go_simp; (try simp only [if_neg hcat, if_neg hcat2])); (try (with_reducible rfl)))
                  try simp only [Act.put, List.setIfInBounds_toArray, List.set_cons_zero, List.set_cons_succ]
                  refine ht_one 9 rfl (by kernel_rfl) (fun K hK => ?_)
                  go_simp
                  refine (lwho_any f.src (Rd.below (w := W0) hHeld.2.2.2 _ _ HMAP.out)).mono ?_
                  rintro e w4 ⟨rfl, hb4⟩
                  have HL4 := Lib.hid (HL3.out.below (((Below.refl _ _).drew).trans hb4))
                  go_wp2_with fail
                  refine hK.out _ _ (⟨hHeld.1.below hb4 hHeld.1.lt, hHeld.2.1.below hb4 hHeld.2.1.lt, hHeld.2.2.1.below hb4 hHeld.2.2.1.lt, hHeld.2.2.2.trans (hb4.mono hHeld.2.2.2.size)⟩) (fun hHeld => ?_)
                  clear hK K
                  try simp only [Act.put, List.setIfInBounds_toArray, List.set_cons_zero, List.set_cons_succ]
                  refine ht_one 14 rfl (by kernel_rfl) (fun K hK => ?_)
                  go_simp
                  refine (lwho_any f.dst (Rd.below (w := W0) hHeld.2.2.2 _ _ HMAP.out)).mono ?_
                  rintro e w5 ⟨rfl, hb5⟩
                  have HL5 := Lib.hid (HL4.out.below (hb5))
                  go_wp2_with fail
                  have HKY5 := Lib.hid (hHeld.2.2.1.below hb5 hHeld.2.2.1.lt)
                  refine hK.out _ _ (⟨hHeld.1.below hb5 hHeld.1.lt, hHeld.2.1.below hb5 hHeld.2.1.lt, hHeld.2.2.1.below hb5 hHeld.2.2.1.lt, hHeld.2.2.2.trans (hb5.mono hHeld.2.2.2.size)⟩) (fun hHeld => ?_)
                  clear hK K
                  try simp only [Act.put, List.setIfInBounds_toArray, List.set_cons_zero, List.set_cons_succ]
                  refine ht_take 17 (v := ?vc_16) rfl (by kernel_rfl) (fun _ _ _ h => h) (Or.inl ⟨by rfl, ?hc_16⟩) hHeld ?rc_16
                  case hc_16 => ((intro U hSw; have y2 : U.cell? ⟨g, 2, none⟩ = some vF2 := hSw.1.cell 2; have r0 : U.cell? ⟨g14, 0, none⟩ = some (.string f.id) := hSw.2.1.cell 0; have r1 : U.cell? ⟨g14, 1, none⟩ = some (.string f.src) := hSw.2.1.cell 1; have r2 : U.cell? ⟨g14, 2, none⟩ = some (.string f.dst) := hSw.2.1.cell 2; have r3 : U.cell? ⟨g14, 3, none⟩ = some (.string f.msg) := hSw.2.1.cell 3; have y7 : U.cell? ⟨gy, 7, none⟩ = some (.slice A7 y.maps.length c7) := hSw.2.2.1.cell 7; go_simp; (try simp only [if_neg hcat, if_neg hcat2])); (try (with_reducible rfl)))
                  try simp only [Act.put, List.setIfInBounds_toArray, List.set_cons_zero, List.set_cons_succ]
                  refine ht_one 18 rfl (by kernel_rfl) (fun K hK => ?_)
                  go_simp
                  refine hK.out _ _ (⟨hHeld.1.alloc _, hHeld.2.1.alloc _, hHeld.2.2.1.alloc _, hHeld.2.2.2.alloc hHeld.2.2.2.size _⟩) (fun hHeld => ?_)
                  clear hK K
                  try simp only [Act.put, List.setIfInBounds_toArray, List.set_cons_zero, List.set_cons_succ]
                  refine ht_one 19 rfl (by kernel_rfl) (fun K hK => ?_)
                  refine step_append_lies _ (by rfl) (.tmp 70) (.tmp 87) _ (by rfl) W0.heap.size 40 fi0 _ 4 64 Try.underlying24 hfi0 hfz0 hfz1 hfz2 rfl (by omega) vF2 fm.length (fm.flatMap flowV) (by rfl) (HL5.out.oF.alloc _) ⟨w5.heap.size, 0, none⟩ 1 1 [.string (sPath ++ f.id), .string (whoF y.maps f.src), .string (whoF y.maps f.dst), .string f.msg] (by rfl) (by rfl) (World.news_of_block (cs := #[.string (sPath ++ f.id), .string (whoF y.maps f.src), .string (whoF y.maps f.dst), .string f.msg]) (t := 40) (fr := (0, 0)) (heap_alloc_new w5 _)) (by simp [Value.oneCell']) (by omega) (by unfold maxLen; omega) (by omega) (by have := HL5.out.bel.size; simp; omega) (w5.heap.size + 1) (by simp) ?_
                  intro gA capA w7 hown7 hgrow7 hat7 hlt7
                  refine hK.out _ _ (⟨hHeld.1.grown hgrow7 (Ne.symm (blk_own_ne (HL5.out.oF.alloc _) hHeld.1 (by decide))), hHeld.2.1.grown hgrow7 (Ne.symm HNE14.out), hHeld.2.2.1.grown hgrow7 (Ne.symm (blk_own_ne (HL5.out.oF.alloc _) hHeld.2.2.1 (by decide))), hHeld.2.2.2.grown hgrow7 hHeld.2.2.2.size (fun q hq => (HL5.out.oF.lt q hq).1)⟩) (fun hHeld => ?_)
                  clear hK K
                  try simp only [Act.put, List.setIfInBounds_toArray, List.set_cons_zero, List.set_cons_succ]
                  refine ht_take 20 (v := ?vc_17) rfl (by kernel_rfl) (fun _ _ _ h => h) (Or.inl ⟨by rfl, ?hc_17⟩) hHeld ?rc_17
                  case hc_17 => ((intro U hSw; have y2 : U.cell? ⟨g, 2, none⟩ = some vF2 := hSw.1.cell 2; have r0 : U.cell? ⟨g14, 0, none⟩ = some (.string f.id) := hSw.2.1.cell 0; have r1 : U.cell? ⟨g14, 1, none⟩ = some (.string f.src) := hSw.2.1.cell 1; have r2 : U.cell? ⟨g14, 2, none⟩ = some (.string f.dst) := hSw.2.1.cell 2; have r3 : U.cell? ⟨g14, 3, none⟩ = some (.string f.msg) := hSw.2.1.cell 3; have y7 : U.cell? ⟨gy, 7, none⟩ = some (.slice A7 y.maps.length c7) := hSw.2.2.1.cell 7; go_simp; (try simp only [if_neg hcat, if_neg hcat2])); (try (with_reducible rfl)))
                  try simp only [Act.put, List.setIfInBounds_toArray, List.set_cons_zero, List.set_cons_succ]
                  refine ht_done (by kernel_rfl) rfl ?_
                  have z0 : w7.cell? ⟨g, 2, none⟩ = some vF2 := hHeld.1.cell 2
                  have z1 := hHeld.1.frozen 2
                  have hlg := hHeld.1.lt
                  have hX7 := HL5.out.flow (f := flowF sPath y.maps f) hown7 hgrow7 hat7 HKY5.out
                  have HX7 := Lib.hid hX7
                  clear hX7 hown7 hgrow7 hat7
                  go_wp2_with fail
                  go_roundw
                  case rel => exact ⟨j + 1, _, by omega, by go_num, by rw [HST3.out]; exact HX7.out.1, HX7.out.2⟩
                  case measure => simp [intOf]; omega
                · have hall : fl ++ (x.flows.take j).map (flowF sPath y.maps) = fl ++ wantFl x y := by rw [HW1.out, List.take_of_length_le (by omega)]
                  have hLj := HLJ.out
                  rw [hall] at hLj
                  have HLK := Lib.hid hLj
                  have hjI : ¬ (j : Int) < (x.flows.length : Int) := by omega
                  clear hall hLj HLJ
                  go_upto_region 15 with fail
                  clear y72
                  refine wp_region_HT 9 (fun U => Below V2.heap.size V2 U) (by kernel_rfl) (by decide) ((Below.refl _ _).drew) (fun hHeld => ?_)
                  refine ht_take 0 (v := ?ve_1) rfl (by kernel_rfl) (fun _ _ _ h => h) (Or.inl ⟨by rfl, ?he_1⟩) hHeld ?re_1
                  case he_1 => ((intro U hSw; have hb0 := HBJ.out.trans (hSw.mono hszj); have hgu := (HG.out U hb0).2.2.1; have y3 : U.cell? ⟨g7, 3, none⟩ = some (.slice BI x.items.length kI) := hgu.cell 3; have y4 : U.cell? ⟨g7, 4, none⟩ = some (.slice BS x.seqs.length kS) := hgu.cell 4; have hgk := HKJ.out.below hSw HKJ.out.lt; have y7 : U.cell? ⟨gy, 7, none⟩ = some (.slice A7 y.maps.length c7) := hgk.cell 7; clear hgu hgk hb0; go_simp); (try (with_reducible rfl)))
                  try simp only [Act.put, List.setIfInBounds_toArray, List.set_cons_zero, List.set_cons_succ]
                  refine ht_take 1 (v := ?ve_2) rfl (by kernel_rfl) (fun _ _ _ h => h) (Or.inl ⟨by rfl, ?he_2⟩) hHeld ?re_2
                  case he_2 => ((intro U hSw; have hb0 := HBJ.out.trans (hSw.mono hszj); have hgu := (HG.out U hb0).2.2.1; have y3 : U.cell? ⟨g7, 3, none⟩ = some (.slice BI x.items.length kI) := hgu.cell 3; have y4 : U.cell? ⟨g7, 4, none⟩ = some (.slice BS x.seqs.length kS) := hgu.cell 4; have hgk := HKJ.out.below hSw HKJ.out.lt; have y7 : U.cell? ⟨gy, 7, none⟩ = some (.slice A7 y.maps.length c7) := hgk.cell 7; clear hgu hgk hb0; go_simp); (try (with_reducible rfl)))
                  try simp only [Act.put, List.setIfInBounds_toArray, List.set_cons_zero, List.set_cons_succ]
                  refine ht_take 2 (v := ?ve_3) rfl (by kernel_rfl) (fun _ _ _ h => h) (Or.inl ⟨by rfl, ?he_3⟩) hHeld ?re_3
                  case he_3 => ((intro U hSw; have hb0 := HBJ.out.trans (hSw.mono hszj); have hgu := (HG.out U hb0).2.2.1; have y3 : U.cell? ⟨g7, 3, none⟩ = some (.slice BI x.items.length kI) := hgu.cell 3; have y4 : U.cell? ⟨g7, 4, none⟩ = some (.slice BS x.seqs.length kS) := hgu.cell 4; have hgk := HKJ.out.below hSw HKJ.out.lt; have y7 : U.cell? ⟨gy, 7, none⟩ = some (.slice A7 y.maps.length c7) := hgk.cell 7; clear hgu hgk hb0; go_simp); (try (with_reducible rfl)))
                  try simp only [Act.put, List.setIfInBounds_toArray, List.set_cons_zero, List.set_cons_succ]
                  refine ht_take 3 (v := ?ve_4) rfl (by kernel_rfl) (fun _ _ _ h => h) (Or.inl ⟨by rfl, ?he_4⟩) hHeld ?re_4
                  case he_4 => ((intro U hSw; have hb0 := HBJ.out.trans (hSw.mono hszj); have hgu := (HG.out U hb0).2.2.1; have y3 : U.cell? ⟨g7, 3, none⟩ = some (.slice BI x.items.length kI) := hgu.cell 3; have y4 : U.cell? ⟨g7, 4, none⟩ = some (.slice BS x.seqs.length kS) := hgu.cell 4; have hgk := HKJ.out.below hSw HKJ.out.lt; have y7 : U.cell? ⟨gy, 7, none⟩ = some (.slice A7 y.maps.length c7) := hgk.cell 7; clear hgu hgk hb0; go_simp); (try (with_reducible rfl)))
                  try simp only [Act.put, List.setIfInBounds_toArray, List.set_cons_zero, List.set_cons_succ]
                  refine ht_take 5 (v := ?ve_5) rfl (by kernel_rfl) (fun _ _ _ h => h) (Or.inl ⟨by rfl, ?he_5⟩) hHeld ?re_5
                  case he_5 => ((intro U hSw; have hb0 := HBJ.out.trans (hSw.mono hszj); have hgu := (HG.out U hb0).2.2.1; have y3 : U.cell? ⟨g7, 3, none⟩ = some (.slice BI x.items.length kI) := hgu.cell 3; have y4 : U.cell? ⟨g7, 4, none⟩ = some (.slice BS x.seqs.length kS) := hgu.cell 4; have hgk := HKJ.out.below hSw HKJ.out.lt; have y7 : U.cell? ⟨gy, 7, none⟩ = some (.slice A7 y.maps.length c7) := hgk.cell 7; clear hgu hgk hb0; go_simp); (try (with_reducible rfl)))
                  try simp only [Act.put, List.setIfInBounds_toArray, List.set_cons_zero, List.set_cons_succ]
                  refine ht_take 6 (v := ?ve_6) rfl (by kernel_rfl) (fun _ _ _ h => h) (Or.inl ⟨by rfl, ?he_6⟩) hHeld ?re_6
                  case he_6 => ((intro U hSw; have hb0 := HBJ.out.trans (hSw.mono hszj); have hgu := (HG.out U hb0).2.2.1; have y3 : U.cell? ⟨g7, 3, none⟩ = some (.slice BI x.items.length kI) := hgu.cell 3; have y4 : U.cell? ⟨g7, 4, none⟩ = some (.slice BS x.seqs.length kS) := hgu.cell 4; have hgk := HKJ.out.below hSw HKJ.out.lt; have y7 : U.cell? ⟨gy, 7, none⟩ = some (.slice A7 y.maps.length c7) := hgk.cell 7; clear hgu hgk hb0; go_simp); (try (with_reducible rfl)))
                  try simp only [Act.put, List.setIfInBounds_toArray, List.set_cons_zero, List.set_cons_succ]
                  refine ht_one 4 rfl (by kernel_rfl) (fun K hK => ?_)
                  go_simp
                  refine (moved_any (l := x.items) (ms := y.maps) sPath (by decide) (Rd.below (w := W0) (HBJ.out.trans (hHeld.mono hszj)) _ _ HX0.out.items) (Rd.below (w := W0) (HBJ.out.trans (hHeld.mono hszj)) _ _ HMAP.out) (by omega) (fun i hi => by have h := HN.out.xi i hi; exact ⟨by have := h.id; omega, by have := h.parts; omega, by have := h.flows; omega, fun q hq => by have := h.flowIds q hq; omega⟩)).mono ?_
                  rintro e w4 ⟨AM, cM, rfl, hrM, hb4⟩
                  go_wp2_with fail
                  refine hK.out _ _ (hHeld.trans (hb4.mono hHeld.size)) (fun hHeld => ?_)
                  clear hK K
                  try simp only [Act.put, List.setIfInBounds_toArray, List.set_cons_zero, List.set_cons_succ]
                  refine ht_one 7 rfl (by kernel_rfl) (fun K hK => ?_)
                  go_simp
                  refine (flowed_any (l := x.seqs) sPath (by decide) (Rd.below (w := W0) (HBJ.out.trans (hHeld.mono hszj)) _ _ HX0.out.seqs) (by omega) (fun i hi => by have h := HN.out.xs i hi; omega)).mono ?_
                  rintro e w5 ⟨AQ, cQ, rfl, hrQ, hb5⟩
                  go_wp2_with fail
                  refine hK.out _ _ (hHeld.trans (hb5.mono hHeld.size)) (fun hHeld => ?_)
                  clear hK K
                  try simp only [Act.put, List.setIfInBounds_toArray, List.set_cons_zero, List.set_cons_succ]
                  refine ht_take 8 (v := ?ve_7) rfl (by kernel_rfl) (fun _ _ _ h => h) (Or.inl ⟨by rfl, ?he_7⟩) hHeld ?re_7
                  case he_7 => ((intro U hSw; have hb0 := HBJ.out.trans (hSw.mono hszj); have hgu := (HG.out U hb0).2.2.1; have y3 : U.cell? ⟨g7, 3, none⟩ = some (.slice BI x.items.length kI) := hgu.cell 3; have y4 : U.cell? ⟨g7, 4, none⟩ = some (.slice BS x.seqs.length kS) := hgu.cell 4; have hgk := HKJ.out.below hSw HKJ.out.lt; have y7 : U.cell? ⟨gy, 7, none⟩ = some (.slice A7 y.maps.length c7) := hgk.cell 7; clear hgu hgk hb0; go_simp); (try (with_reducible rfl)))
                  try simp only [Act.put, List.setIfInBounds_toArray, List.set_cons_zero, List.set_cons_succ]
                  refine ht_done (by kernel_rfl) rfl ?_
                  have hd5 := hHeld
                  have hb24 : Below V2.heap.size V2 w4 := ((Below.refl _ _).drew).trans hb4
                  have hL5 := HLK.out.below hd5
                  have hK5 := HKJ.out.below hd5 HKJ.out.lt
                  have rb0 : w5.cell? ⟨gy, 0, none⟩ = some (.int .i64 y.kind) := hK5.cell 0
                  have rb1 : w5.cell? ⟨gy, 1, none⟩ = some (.string y.id) := hK5.cell 1
                  have rb2 : w5.cell? ⟨gy, 2, none⟩ = some (.string y.first) := hK5.cell 2
                  have rb3 : w5.cell? ⟨gy, 3, none⟩ = some (.slice A3 y.parts.length c3) := hK5.cell 3
                  have rb4 : w5.cell? ⟨gy, 4, none⟩ = some (.slice A4 y.flows.length c4) := hK5.cell 4
                  have rb5 : w5.cell? ⟨gy, 5, none⟩ = some (.bool y.loop) := hK5.cell 5
                  have rb6 : w5.cell? ⟨gy, 6, none⟩ = some (.string y.called) := hK5.cell 6
                  have rb7 : w5.cell? ⟨gy, 7, none⟩ = some (.slice A7 y.maps.length c7) := hK5.cell 7
                  have rb8 : w5.cell? ⟨gy, 8, none⟩ = some (.slice A8 y.items.length c8) := hK5.cell 8
                  have rb9 : w5.cell? ⟨gy, 9, none⟩ = some (.slice A9 y.seqs.length c9) := hK5.cell 9
                  have qb0 : w5.frozen? ⟨gy, 0, none⟩ = false := hK5.frozen 0
                  have qb1 : w5.frozen? ⟨gy, 1, none⟩ = false := hK5.frozen 1
                  have qb2 : w5.frozen? ⟨gy, 2, none⟩ = false := hK5.frozen 2
                  have qb3 : w5.frozen? ⟨gy, 3, none⟩ = false := hK5.frozen 3
                  have qb4 : w5.frozen? ⟨gy, 4, none⟩ = false := hK5.frozen 4
                  have qb5 : w5.frozen? ⟨gy, 5, none⟩ = false := hK5.frozen 5
                  have qb6 : w5.frozen? ⟨gy, 6, none⟩ = false := hK5.frozen 6
                  have qb7 : w5.frozen? ⟨gy, 7, none⟩ = false := hK5.frozen 7
                  have qb8 : w5.frozen? ⟨gy, 8, none⟩ = false := hK5.frozen 8
                  have qb9 : w5.frozen? ⟨gy, 9, none⟩ = false := hK5.frozen 9
                  have hly := hK5.lt
                  have hgyl := HKJ.out.lt
                  have hlP := hL5.put hK5 hgyN [.int .i64 7, .string ⟨#[99, 97, 108, 108]⟩, .string ⟨#[]⟩, .slice none 0 0, .slice none 0 0, .bool false, .string ⟨#[]⟩, .slice none 0 0, .slice AM x.items.length cM, .slice AQ x.seqs.length cQ]
                  have hkP := putAll_blk [.int .i64 7, .string ⟨#[99, 97, 108, 108]⟩, .string ⟨#[]⟩, .slice none 0 0, .slice none 0 0, .bool false, .string ⟨#[]⟩, .slice none 0 0, .slice AM x.items.length cM, .slice AQ x.seqs.length cQ] 0 w5 _ hK5 rfl
                  have hfar : ∀ b, V2.heap.size ≤ b → vI.ownBlock ≠ some b ∧ vF2.ownBlock ≠ some b ∧ b ≠ g ∧ b ≠ gy := fun b hb =>
                    ⟨fun e => by have := (HLK.out.oI.lt b e).2; omega, fun e => by have := (HLK.out.oF.lt b e).2; omega, by have := HLK.out.b.lt; omega, by omega⟩
                  have hrM2 := RdP.keep (S' := fun b => vI.ownBlock ≠ some b ∧ vF2.ownBlock ≠ some b ∧ b ≠ g ∧ b ≠ gy) (w1 := putAll w5 gy 0 [.int .i64 7, .string ⟨#[99, 97, 108, 108]⟩, .string ⟨#[]⟩, .slice none 0 0, .slice none 0 0, .bool false, .string ⟨#[]⟩, .slice none 0 0, .slice AM x.items.length cM, .slice AQ x.seqs.length cQ]) (fun b hb hl => ⟨(putAll_heap _ 0 w5 b (hfar b hb).2.2.2).trans (hb5.block b hl), hfar b hb⟩) _ _ hrM
                  have hrQ2 := RdP.keep (S' := fun b => vI.ownBlock ≠ some b ∧ vF2.ownBlock ≠ some b ∧ b ≠ g ∧ b ≠ gy) (w1 := putAll w5 gy 0 [.int .i64 7, .string ⟨#[99, 97, 108, 108]⟩, .string ⟨#[]⟩, .slice none 0 0, .slice none 0 0, .bool false, .string ⟨#[]⟩, .slice none 0 0, .slice AM x.items.length cM, .slice AQ x.seqs.length cQ]) (fun b hb hl => ⟨putAll_heap _ 0 w5 b (hfar b (Nat.le_trans hb24.size hb)).2.2.2, hfar b (Nat.le_trans hb24.size hb)⟩) _ _ hrQ
                  have hYV := YV.called (g := g) (vF := vF2) (vI := vI) (x := x) (ms := y.maps) x.items.length x.seqs.length (by simp) (by simp) hkP hrM2 hrQ2
                  have HLP := Lib.hid hlP
                  have HYP := Lib.hid hYV
                  clear hd5 hL5 hK5 hlP hkP hfar hrM2 hrQ2 hYV hrM hrQ
                  go_wp2_with fail
                  go_meet
                  case rel => exact ⟨vF2, HLP.out, by rw [HW2.out]; exact HYP.out⟩
            · have hkb : (y.kind == 8) = false := by simp [hk8]
              have hw1 : wantFl x y = [] := by unfold wantFl; rw [if_neg hk8]
              have hw2 : wantI x y = y := by unfold wantI; rw [if_neg hk8]
              have HW1 := Lib.hid hw1
              have HW2 := Lib.hid hw2
              clear hw1 hw2 hk8
              go_wp2_with fail
              go_meet
              case rel => exact ⟨vF, by rw [HW1.out, List.append_nil]; exact HLT.out, by rw [HW2.out]; exact HYV.out⟩
          case rest =>
            obtain ⟨vF2, hL2, hY2⟩ := hcut
            obtain ⟨V3, rfl⟩ : ∃ V, V = wc := ⟨_, rfl⟩
            clear HLT HKT HYV HT HGY HRDL t0
            obtain ⟨u, hu⟩ : ∃ u, u = wantI x y := ⟨_, rfl⟩
            rw [← hu] at hY2
            obtain ⟨A3, c3, A4, c4, A7, c7, A8, c8, A9, c9, hKu, hRu⟩ := hY2
            have uu0 : V3.cell? ⟨gy, 0, none⟩ = some (.int .i64 u.kind) := hKu.cell 0
            have uu1 : V3.cell? ⟨gy, 1, none⟩ = some (.string u.id) := hKu.cell 1
            have uu2 : V3.cell? ⟨gy, 2, none⟩ = some (.string u.first) := hKu.cell 2
            have uu3 : V3.cell? ⟨gy, 3, none⟩ = some (.slice A3 u.parts.length c3) := hKu.cell 3
            have uu4 : V3.cell? ⟨gy, 4, none⟩ = some (.slice A4 u.flows.length c4) := hKu.cell 4
            have uu5 : V3.cell? ⟨gy, 5, none⟩ = some (.bool u.loop) := hKu.cell 5
            have uu6 : V3.cell? ⟨gy, 6, none⟩ = some (.string u.called) := hKu.cell 6
            have uu7 : V3.cell? ⟨gy, 7, none⟩ = some (.slice A7 u.maps.length c7) := hKu.cell 7
            have uu8 : V3.cell? ⟨gy, 8, none⟩ = some (.slice A8 u.items.length c8) := hKu.cell 8
            have uu9 : V3.cell? ⟨gy, 9, none⟩ = some (.slice A9 u.seqs.length c9) := hKu.cell 9
            have w3 : V3.cell? ⟨g, 3, none⟩ = some vI := hL2.b.cell 3
            have HL2 := Lib.hid hL2
            have HRU := Lib.hid hRu
            have HU := Lib.hid hu
            have hszN := hL2.bel.size
            have HBU := Lib.hid hL2.b
            clear hL2 hRu hu hKu
            go_wp2_with (at_builtin; refine wpList_append_lies _ rfl (.tmp 100) (.tmp 102) _ rfl W0.heap.size 33 ii0 _ 10 184 Try.underlying25 hii0 hiz0 hiz1 hiz2 rfl (by omega) vI its.length cells rfl (HL2.out.oI.alloc _) ⟨V3.heap.size, 0, none⟩ 1 1 [.int .i64 u.kind, .string u.id, .string u.first, .slice A3 u.parts.length c3, .slice A4 u.flows.length c4, .bool u.loop, .string u.called, .slice A7 u.maps.length c7, .slice A8 u.items.length c8, .slice A9 u.seqs.length c9] rfl rfl (World.news_of_block (cs := #[.int .i64 u.kind, .string u.id, .string u.first, .slice A3 u.parts.length c3, .slice A4 u.flows.length c4, .bool u.loop, .string u.called, .slice A7 u.maps.length c7, .slice A8 u.items.length c8, .slice A9 u.seqs.length c9]) (t := 33) (fr := (0, 0)) (heap_alloc_new V3 _)) (by simp [Value.oneCell']) (by omega) (by unfold maxLen; omega) (by omega) (by simp; omega) (V3.heap.size + 1) (by simp) ?_)
            intro gO capO w7 hown7 hgrow7 hat7 hlt7
            have hgb := (HBU.out.alloc (.cells #[.int .i64 u.kind, .string u.id, .string u.first, .slice A3 u.parts.length c3, .slice A4 u.flows.length c4, .bool u.loop, .string u.called, .slice A7 u.maps.length c7, .slice A8 u.items.length c8, .slice A9 u.seqs.length c9] 33)).grown hgrow7 (Ne.symm (blk_own_ne (HL2.out.oI.alloc (.cells #[.int .i64 u.kind, .string u.id, .string u.first, .slice A3 u.parts.length c3, .slice A4 u.flows.length c4, .bool u.loop, .string u.called, .slice A7 u.maps.length c7, .slice A8 u.items.length c8, .slice A9 u.seqs.length c9] 33)) (HBU.out.alloc _) (by decide)))
            have r3 : w7.cell? ⟨g, 3, none⟩ = some vI := hgb.cell 3
            have rf3 : w7.frozen? ⟨g, 3, none⟩ = false := hgb.frozen 3
            have hX7 := HL2.out.item HRU.out hown7 hgrow7 hat7
            have HX7 := Lib.hid hX7
            clear hX7 hown7 hgrow7 hat7 hgb
            go_wp2_with fail
            go_roundw
            case rel => exact ⟨k + 1, _, _, _, by omega, by go_num, by rw [HST1.out, HST2.out, ← HU.out]; exact HX7.out⟩
            case measure => simp [intOf]; omega
        · have hkI : ¬ (k : Int) < (c.items.length : Int) := by omega
          have hall : (c.items.take k) = c.items := List.take_of_length_le (by omega)
          have hL := HL.out
          rw [hall] at hL
          have hz : wantC c x = ⟨sC, c.parts, c.flows ++ c.items.flatMap (wantFl x), c.items.map (wantI x), c.seqs⟩ := rfl
          rw [← HZ.out] at hz
          have zP : z.parts = c.parts := by rw [hz]
          have zF : z.flows = c.flows ++ c.items.flatMap (wantFl x) := by rw [hz]
          have zI : z.items = c.items.map (wantI x) := by rw [hz]
          have zS : z.seqs = c.seqs := by rw [hz]
          rw [← zF, ← zI] at hL
          obtain ⟨aF, nF, rfl, _, _⟩ := own_slice hL.oF
          obtain ⟨aI, nI, rfl, _, _⟩ := own_slice hL.oI
          have hwant : Comp V z.parts z.flows z.items z.seqs AP cP aF nF aI nI AS cS := by
            have hc := HC0.out.below HBV.out
            refine ⟨by rw [zP]; exact hc.parts, ?_, ?_, by rw [zS]; exact hc.seqs⟩
            · exact rd_sl.2 ⟨aF, nF, _, rfl, own_mono hL.oF (by omega), rdl_flowV _⟩
            · exact rd_sl.2 ⟨aI, nI, cells, rfl, own_mono hL.oI (by omega), RdPL.rd _ _ hL.rd⟩
          have kG : Blk V g 28 #[.string ⟨#[99]⟩, .slice AP z.parts.length cP, .slice aF z.flows.length nF, .slice aI z.items.length nI, .slice AS z.seqs.length cS] := by rw [zP, zS]; exact hL.b
          have HWANT := Lib.hid hwant
          have HKG := Lib.hid kG
          have hcn : callsF z.items = false := by rw [HZ.out]; exact HN.out.none_
          have HCN := Lib.hid hcn
          obtain ⟨hc5, _, _, _⟩ := HG.out V HBV.out
          have x50 : V.cell? ⟨g5, 0, none⟩ = some (.slice A1 nm c1) := hc5.cell 0
          have x51 : V.cell? ⟨g5, 1, none⟩ = some (.slice (some ⟨bc, 0, none⟩) 2 k1) := hc5.cell 1
          have hcall := chor_walk d 3 (items_all d HN.out.small 3) sD (Rd.below HBV.out _ _ HM0.out) (Rd.below HBV.out _ _ HCH0.out) x 0 HN.out.alone HN.out.small HN.out.parts (by decide) (HN.out.count sD (.inr rfl))
          have HCALL := Lib.hid hcall
          have HZI := Lib.hid zI
          have HXID := Lib.hid (show x.id = ⟨#[100]⟩ from HN.out.xid)
          clear hcall hall hL hz zP zF zI zS hwant kG hc5 HL hcn
          go_wp2_with fail
          refine HCALL.out.mono ?_
          clear HCALL x50 x51
          rintro e w8 ⟨vP, vF, vI, vS, rfl, hV, hb8⟩
          obtain ⟨QP, qP, rfl⟩ := rd_form hV.1
          obtain ⟨QF, qF, rfl⟩ := rd_form hV.2.1
          obtain ⟨QI, qI, rfl⟩ := rd_form hV.2.2.1
          obtain ⟨QS, qS, rfl⟩ := rd_form hV.2.2.2
          rw [HXID.out]
          obtain ⟨g15, hg15⟩ : ∃ q, q = w8.heap.size := ⟨_, rfl⟩
          obtain ⟨W9, hW9⟩ : ∃ T, T = w8.alloc (.cells #[.string ⟨#[100]⟩, .slice QP x.parts.length qP, .slice QF x.flows.length qF, .slice QI x.items.length qI, .slice QS x.seqs.length qS] 28) := ⟨_, rfl⟩
          have b89 : Below w8.heap.size w8 W9 := by rw [hW9]; exact (Below.refl _ _).alloc (Nat.le_refl _) _
          have k15 : Blk W9 g15 28 #[.string ⟨#[100]⟩, .slice QP x.parts.length qP, .slice QF x.flows.length qF, .slice QI x.items.length qI, .slice QS x.seqs.length qS] := by rw [hW9, hg15]; exact Blk.new _ _ _
          have hcq : Comp W9 x.parts x.flows x.items x.seqs QP qP QF qF QI qI QS qS := ⟨Rd.below b89 _ _ hV.1, Rd.below b89 _ _ hV.2.1, Rd.below b89 _ _ hV.2.2.1, Rd.below b89 _ _ hV.2.2.2⟩
          have bV9 : Below V.heap.size V W9 := hb8.trans (b89.mono hb8.size)
          have b09 := HBV.out.trans (bV9.mono HBV.out.size)
          have hkg9 := HKG.out.below bV9 HKG.out.lt
          have hw9 := HWANT.out.below bV9
          have hx9 := HX0.out.below b09
          have hz9 := HZ0.out.below b09
          have hc9 := HC0.out.below b09
          have HA : Hid (∀ U, Below W9.heap.size W9 U → Blk U g6 28 #[.string ⟨#[99]⟩, .slice AP c.parts.length cP, .slice AF c.flows.length cF, .slice AI c.items.length cI, .slice AS c.seqs.length cS] ∧ Blk U g7 28 #[.string ⟨#[100]⟩, .slice BP x.parts.length kP, .slice BF x.flows.length kF, .slice BI x.items.length kI, .slice BS x.seqs.length kS] ∧ Blk U g8 28 #[.string ⟨#[99]⟩, .slice GP z.parts.length jP, .slice GF z.flows.length jF, .slice GI z.items.length jI, .slice GS z.seqs.length jS] ∧ Blk U g 28 #[.string ⟨#[99]⟩, .slice AP z.parts.length cP, .slice aF z.flows.length nF, .slice aI z.items.length nI, .slice AS z.seqs.length cS] ∧ Blk U g15 28 #[.string ⟨#[100]⟩, .slice QP x.parts.length qP, .slice QF x.flows.length qF, .slice QI x.items.length qI, .slice QS x.seqs.length qS]) := fun U hU => by
            obtain ⟨_, h6, h7, h8⟩ := HG.out U (b09.trans (hU.mono b09.size))
            exact ⟨h6, h7, h8, hkg9.below hU hkg9.lt, k15.below hU k15.lt⟩
          have HB09 := Lib.hid (HBW0.out.trans (b09.mono HBW0.out.size))
          have HW9 := Lib.hid hW9.symm
          have HG15 := Lib.hid hg15.symm
          have HCQ := Lib.hid hcq
          have HWA := Lib.hid hw9
          have HX9 := Lib.hid hx9
          have HZ9 := Lib.hid hz9
          have HC9 := Lib.hid hc9
          have HZID := Lib.hid (show z.id = ⟨#[99]⟩ by rw [HZ.out]; rfl)
          clear hV hb8 hg15 hW9 b89 k15 hcq bV9 b09 hkg9 hw9 hx9 hz9 hc9 y63
          go_upto_region 18 with fail
          rw [HW9.out, HG15.out]
          go_wp2_with fail
          refine (inl_awake _).mono ?_
          rintro e u1 ⟨rfl, hu1⟩
          have HU1 := Lib.hid hu1
          obtain ⟨_, _, h8, hg, _⟩ := HA.out u1 hu1
          have p0 : u1.cell? ⟨g8, 0, none⟩ = some (.string ⟨#[99]⟩) := h8.cell 0
          have p1 : u1.cell? ⟨g8, 1, none⟩ = some (.slice GP z.parts.length jP) := h8.cell 1
          have p2 : u1.cell? ⟨g8, 2, none⟩ = some (.slice GF z.flows.length jF) := h8.cell 2
          have p3 : u1.cell? ⟨g8, 3, none⟩ = some (.slice GI z.items.length jI) := h8.cell 3
          have p4 : u1.cell? ⟨g8, 4, none⟩ = some (.slice GS z.seqs.length jS) := h8.cell 4
          have q0 : u1.cell? ⟨g, 0, none⟩ = some (.string ⟨#[99]⟩) := hg.cell 0
          have q1 : u1.cell? ⟨g, 1, none⟩ = some (.slice AP z.parts.length cP) := hg.cell 1
          have q2 : u1.cell? ⟨g, 2, none⟩ = some (.slice aF z.flows.length nF) := hg.cell 2
          have q3 : u1.cell? ⟨g, 3, none⟩ = some (.slice aI z.items.length nI) := hg.cell 3
          have q4 : u1.cell? ⟨g, 4, none⟩ = some (.slice AS z.seqs.length cS) := hg.cell 4
          have hs1 := same_chor (x := z) (Comp.below HZ9.out hu1) (Comp.below HWA.out hu1)
          rw [HZID.out] at hs1
          have HS1 := Lib.hid hs1
          clear h8 hg hu1 hs1
          go_wp2_with fail
          refine HS1.out.mono ?_
          rintro e u2 ⟨rfl, hu2⟩
          have hv2 := HU1.out.trans (hu2.mono HU1.out.size)
          have HU2 := Lib.hid hv2
          obtain ⟨_, _, h8, _, _⟩ := HA.out u2 hv2
          clear p0 p1 p2 p3 p4 q0 q1 q2 q3 q4
          have a3 : u2.cell? ⟨g8, 3, none⟩ = some (.slice GI z.items.length jI) := h8.cell 3
          have hs2 := calls_any (Comp.below HZ9.out hv2).items
          rw [HCN.out] at hs2
          have HS2 := Lib.hid hs2
          clear h8 hu2 hv2 hs2 HS1
          go_wp2_with fail
          refine HS2.out.mono ?_
          rintro e u3 ⟨rfl, hu3⟩
          have hv3 := HU2.out.trans (hu3.mono HU2.out.size)
          have HU3 := Lib.hid hv3
          obtain ⟨h6, _, _, _, _⟩ := HA.out u3 hv3
          clear a3
          have a3 : u3.cell? ⟨g6, 3, none⟩ = some (.slice AI c.items.length cI) := h6.cell 3
          have hs3 := calls_any (Comp.below HC9.out hv3).items
          rw [HN.out.calls] at hs3
          have HS3 := Lib.hid hs3
          clear h6 hu3 hv3 hs3 HS2
          go_wp2_with fail
          refine HS3.out.mono ?_
          rintro e u4 ⟨rfl, hu4⟩
          have hv4 := HU3.out.trans (hu4.mono HU3.out.size)
          have HU4 := Lib.hid hv4
          obtain ⟨_, h7, _, _, h15⟩ := HA.out u4 hv4
          clear a3
          have p0 : u4.cell? ⟨g15, 0, none⟩ = some (.string ⟨#[100]⟩) := h15.cell 0
          have p1 : u4.cell? ⟨g15, 1, none⟩ = some (.slice QP x.parts.length qP) := h15.cell 1
          have p2 : u4.cell? ⟨g15, 2, none⟩ = some (.slice QF x.flows.length qF) := h15.cell 2
          have p3 : u4.cell? ⟨g15, 3, none⟩ = some (.slice QI x.items.length qI) := h15.cell 3
          have p4 : u4.cell? ⟨g15, 4, none⟩ = some (.slice QS x.seqs.length qS) := h15.cell 4
          have q0 : u4.cell? ⟨g7, 0, none⟩ = some (.string ⟨#[100]⟩) := h7.cell 0
          have q1 : u4.cell? ⟨g7, 1, none⟩ = some (.slice BP x.parts.length kP) := h7.cell 1
          have q2 : u4.cell? ⟨g7, 2, none⟩ = some (.slice BF x.flows.length kF) := h7.cell 2
          have q3 : u4.cell? ⟨g7, 3, none⟩ = some (.slice BI x.items.length kI) := h7.cell 3
          have q4 : u4.cell? ⟨g7, 4, none⟩ = some (.slice BS x.seqs.length kS) := h7.cell 4
          have hs4 := same_chor (x := x) (Comp.below HCQ.out hv4) (Comp.below HX9.out hv4)
          rw [HXID.out] at hs4
          have HS4 := Lib.hid hs4
          clear h7 h15 hu4 hv4 hs4 HS3
          go_wp2_with fail
          refine HS4.out.mono ?_
          rintro e u5 ⟨rfl, hu5⟩
          have HU5 := Lib.hid (HU4.out.trans (hu5.mono HU4.out.size))
          clear hu5 p0 p1 p2 p3 p4 q0 q1 q2 q3 q4
          go_wp2_with fail
          go_ret
          exact ⟨rfl, HB09.out.trans (HU5.out.mono HB09.out.size)⟩
end Go.Proofs.Yteoioboiniealaa
